/- What the functions that the statement reaches compute: part 23. -/
import Derived.Test.YtbdjfccgkdgbfaaFxW22
namespace Go.Fx.YtbdjfccgkdgbfaaFx
open Go Go.Fx
attribute [local irreducible] aC runI au aH

set_option maxRecDepth 100000
set_option maxHeartbeats 4000000

/-! The checks at the end. -/
theorem sub_cons_ne {A:Type} {x y:A} {l m:List A} (h:(x::l).Sublist (y::m)) (hne:y≠x):(x::l).Sublist m:=by
  cases h with
  | cons _ h=>exact h
  | cons_cons _ h=>exact absurd rfl hne
theorem sub_cons_eq {A:Type} {x:A} {l m:List A} (h:(x::l).Sublist (x::m)):l.Sublist m:=by
  cases h with
  | cons _ h=>exact (List.sublist_cons_self x l).trans h
  | cons_cons _ h=>exact h

theorem pubA_len (P:Ms) (st:St):lenI .sl st (pubA P).dis = .ok (.lit (.int .i64 (P.length:Nat))):=by
  unfold pubA; rw [row_len,List.length_map]
theorem ny (P:Ms):(pubA P).dis.dis = (pubA P).dis∧(∀ s,kill s (pubA P) = pubA P):=by
  unfold pubA rowA; split <;> exact ⟨rfl,fun _=>rfl⟩
theorem pubA_at {P:Ms} {i:Nat} (h:i < P.length):pubA P = .sl true 1 (P.map dV):=by
  unfold pubA rowA
  rw [if_neg]
  intro e
  rw [List.map_eq_nil_iff] at e
  rw [e] at h; simp at h
theorem oP {P:Ms} {i:Nat} (h:i < P.length):(P.map dV).getD i .any = .sl false 1 (BB P[i]):=by
  rw [List.getD_eq_getElem?_getD,List.getElem?_map,List.getElem?_eq_getElem h]; rfl

section
variable {st:St} {h wid n:Nat} {R:HR} {F:List Nat}
theorem hold_sub (hh:HubR st h wid n R F) (hn:n≤100000) {P r:Ms} {S:Sb} {vs:List AV} {z z0 z1:AV} {tl:List AV} {G:List Nat} (s:Nat) (hs:s < 2) (hd:[z0,z1].drop s = z::tl) (hat:atR (s:Int) R.subs = some S) (hg:Got P r S) (hz:MB z st vs) (hv:RvL vs st r G)
    (hpl:P.length≤10000) {K:Exit→Sf→St→Prop}
    (hK:K .normal ⟨[(9,.ptr h 0),(14,pubA P),(16,.lptr 16 0),(23,.lit (.int .i64 ((s + 1:Nat))))],[(16,[z0,z1])]⟩ st) :
    aC Go.Proofs.Try.prog id false f4_119 ⟨[(9,.ptr h 0),(14,pubA P),(16,.lptr 16 0),(23,.lit (.int .i64 (s:Nat))),(215,.lit (.bool true))],[(16,[z0,z1])]⟩ st K:=by
  obtain ⟨z1',z2',z3',z4',z5',z6',z7',z8'⟩:=hz.facts
  obtain ⟨pd,pk⟩:=ny P
  obtain ⟨g1,g2⟩:=hg
  have hle:=len_pure hh (s:Int)
  have hlo:=kR hh (s:Int)
  have e1:lenR (s:Int) R = S.msgs.length:=by unfold lenR; rw [hat]
  have e2:g9 (s:Int) R = S.lost:=by unfold g9; rw [hat]
  rw [e1] at hle
  rw [e2] at hlo
  have hvr:=hv.1
  have hpL:=pubA_len P
  have hms:S.msgs.length≤10000:=by omega
  simp (config:=KF) (disch:=omega) only [bZ,bQ,dc,pC,bL,gZ,jT,aQ,addA,aa,bd,id,↓reduceIte,Nat.reduceEqDiff,f4_119e,hd,z1',z8']
  refine nh rfl e_f15 hle rfl ?_
  simp (config:=KF) (disch:=omega) only [bZ,bQ,dc,fD,jT,fV,aQ,id,↓reduceIte,Nat.reduceEqDiff,gj]
  refine nh rfl e_f14 hlo rfl ?_
  simp (config:=KF) (disch:=omega) only [bZ,d7,bQ,dc,fD,gZ,fV,aQ,bt,dN,↓reduceIte,Nat.reduceEqDiff,gj,hpL]
  -- the messages that were read
  simp (config:=KF) (disch:=omega) only [bZ,↓reduceIte,Nat.reduceEqDiff,f4_127e]
  rw [f4_132w]
  refine cX (A:=Nat×Nat) (fun a=>r.length - a.1) (fun a=>⟨[(9,.ptr h 0),(14,pubA P),(16,.lptr 16 0),(23,.lit (.int .i64 (s:Nat))),(24,.lit (.int .i64 (a.2:Nat))),(25,.lit (.int .i64 (a.1:Nat)))],[(16,[z0,z1])]⟩) (fun _=>st)
    (fun a=>a.1≤r.length∧(r.drop a.1).Sublist (P.drop a.2)) (0,0) ⟨Nat.zero_le _,by simpa using (List.sublist_append_left r S.msgs).trans g1⟩ (Sf.le_refl _) rfl ?_
  rintro ⟨i,at'⟩ ⟨i1,i2⟩ K2 hK2 hKe2 hKr2
  simp only at i1 i2
  dsimp only
  by_cases hi:i < r.length
  · rw [List.drop_eq_getElem_cons hi] at i2
    have hiv:i < vs.length:=by omega
    obtain ⟨hdv,_⟩:=hv.2 i vs[i] r[i] (List.getElem?_eq_getElem hiv) (List.getElem?_eq_getElem hi)
    have hnx:=fun a sf h1 h2=>hK2 (i + 1,a) sf ⟨hi,h1⟩ (by simp only; omega) h2
    simp only at hnx
    have hxd:=hdv.facts
    have hzz:∃ bi cap q,z = .bs bi 1 0 vs.length cap∧st.get bi = some (vs++q):=by
      rcases hz with ⟨_,e⟩ | ⟨bi,cap,q,e,hg',_,_⟩
      · rw [e] at hiv; simp at hiv
      · exact ⟨bi,cap,q,e,hg'⟩
    obtain ⟨bi,cap,q,rfl,hgb⟩:=hzz
    have hvd:(vs++q).drop i = vs[i]::(vs.drop (i + 1)++q):=by
      rw [List.drop_append_of_le_length (by omega),List.drop_eq_getElem_cons hiv]; rfl
    generalize vs[i] = x at hdv hvd hxd
    generalize r[i] = m at i2 hdv
    obtain ⟨x1,x2,x3,x4,x5,x6,x7,x8⟩:=hxd
    simp (config:=KF) (disch:=omega) only [bZ,gv,lenI,addA,aa,↓reduceIte,Nat.reduceEqDiff,aP,hd]
    rw [f4_141w]
    refine cX (A:=Nat) (fun a=>P.length - a) (fun a=>⟨[(9,.ptr h 0),(14,pubA P),(16,.lptr 16 0),(23,.lit (.int .i64 (s:Nat))),(24,.lit (.int .i64 (a:Nat))),(25,.lit (.int .i64 (i:Nat)))],[(16,[z0,z1])]⟩) (fun _=>st)
      (fun a=>(m::r.drop (i + 1)).Sublist (P.drop a)) at' i2 (Sf.le_refl _) rfl ?_
    intro a ia K3 hK3 hKe3 hKr3
    have haP:a < P.length:=by
      refine Nat.lt_of_not_le fun hle=>?_
      rw [List.drop_eq_nil_of_le hle] at ia
      cases ia
    rw [List.drop_eq_getElem_cons haP] at ia
    have hpa:=pubA_at haP
    have hge:=oP haP
    have hpl2:(P.map dV).length = P.length:=List.length_map ..
    by_cases hm:P[a] = m
    · have hsm:=hZ (DV.sl st P[a]) hdv
      rw [decide_eq_true hm] at hsm
      rw [hm] at ia
      have hfin:=hnx (a + 1) ⟨[(9,.ptr h 0),(14,pubA P),(16,.lptr 16 0),(23,.lit (.int .i64 (s:Nat))),(24,.lit (.int .i64 ((a + 1:Nat)))),(25,.lit (.int .i64 ((i + 1:Nat))))],[(16,[z0,z1])]⟩ (sub_cons_eq ia) (Sf.le_refl _)
      rw [hpa] at hfin ⊢
      generalize P[a] = p at hge hsm
      simp (config:=KF) (disch:=omega) only [bZ,d7,bQ,h_some,dc,fD,pB,pC,bL,gZ,kJ,aQ,bt,AI.dst,ixSV,lenI,addA,aa,bd,id,bN,↓reduceIte,Nat.reduceEqDiff,nj,hd,hge,hpl2,hgb,hvd,x1]
      refine am (vs:=[.sl false 1 (BB p),x]) (by simp [x1,pq]) e_f16 hsm (by simp [x5,mY]) ?_
      simp (config:=KF) (disch:=omega) only [bZ,aU,bK,AI.dst,ba,unA,↓reduceIte,Nat.reduceEqDiff]
      refine hKe3 _ _ _ ?_
      simp (config:=KF) (disch:=omega) only [bZ,aA,lenI,m5,↓reduceIte,Nat.reduceEqDiff,a9,hpl2]
      exact hfin
    · have hsm:=hZ (DV.sl st P[a]) hdv
      rw [decide_eq_false hm] at hsm
      have hfin:=hK3 (a + 1)
      have ia2:=sub_cons_ne ia hm
      rw [hpa] at hfin ⊢
      generalize P[a] = p at hge hsm
      simp (config:=KF) (disch:=omega) only [bZ,d7,bQ,h_some,dc,fD,pB,pC,bL,gZ,kJ,aQ,bt,AI.dst,ixSV,lenI,addA,aa,bd,id,bN,↓reduceIte,Nat.reduceEqDiff,nj,hd,hge,hpl2,hgb,hvd,x1]
      refine am (vs:=[.sl false 1 (BB p),x]) (by simp [x1,pq]) e_f16 hsm (by simp [x5,mY]) ?_
      simp (config:=KF) (disch:=omega) only [bZ,AI.dst,ba,unA,↓reduceIte,Nat.reduceEqDiff,a9]
      exact hfin _ ia2 (by omega) (Sf.le_refl _)
  · obtain rfl:i = r.length:=by omega
    simp (config:=KF) (disch:=omega) only [bZ,aU,bK,gv,addA,aa,↓reduceIte,Nat.reduceEqDiff,hd,z1',z8']
    refine hKe2 _ _ _ ?_
    simp (config:=KF) (disch:=omega) only [bZ,aA,↓reduceIte,Nat.reduceEqDiff,a9]
    exact hK

theorem large_take {other:Nat} {P:Ms} {i:Nat} (h:i < P.length):gy other (P.take (i + 1)) = gy other (P.take i) + if other < P[i].length + 2 then 1 else 0:=by
  rw [List.take_succ_eq_append_getElem h,nx]
theorem large_le (other:Nat) (P:Ms):gy other P≤P.length:=by
  unfold gy; exact List.length_filter_le _ _
theorem hold_end (hh:HubR st h wid n R F) (hn:n≤100000) {P r0 r1:Ms} {other:Nat} {wt:WT} (hw:HW R P r0 r1 other wt) {z0 z1:AV} {vs0 vs1:List AV} {wb:Nat} (hr:Rws z0 z1 vs0 vs1 r0 r1 wb F st) (hpl:P.length≤10000) (hpb:∀ p ∈ P,p.length≤1030) (ho:other≤4096) {Q:AV→St→Prop} (hQ:∀ s,Q (.lit (.bool true)) s) :
    aC Go.Proofs.Try.prog id false f4_86 ⟨[(2,.lit (.int .i64 (other:Nat))),(9,.ptr h 0),(14,pubA P),(16,.lptr 16 0)],[(16,[z0,z1])]⟩ st (retQ [RI.tmp 8] Q):=by
  obtain ⟨S0,S1,h1,h2,h3,h4,h5,h6,h7,h8,h9,h10⟩:=hw.g.ex
  obtain ⟨pd,pk⟩:=ny P
  have hpL:=pubA_len P
  simp (config:=KF) (disch:=omega) only [bZ,↓reduceIte,Nat.reduceEqDiff,f4_86e]
  rw [f4_92w]
  refine cX (A:=Nat) (fun i=>P.length - i) (fun i=>⟨[(2,.lit (.int .i64 (other:Nat))),(9,.ptr h 0),(14,pubA P),(16,.lptr 16 0),(21,.lit (.int .i64 (gy other (P.take i):Nat))),(22,.lit (.int .i64 (i:Nat)))],[(16,[z0,z1])]⟩) (fun _=>st)
    (fun i=>i≤P.length) 0 (Nat.zero_le _) (Sf.le_refl _) rfl ?_
  intro i hi K hK hKe hKr
  by_cases hip:i < P.length
  · have hlt:=large_take (other:=other) hip
    have hll:=large_le other (P.take i)
    rw [List.length_take] at hll
    have hpi:=hpb P[i] (List.getElem_mem hip)
    have hpa:=pubA_at hip
    have hge:=oP hip
    have hpl2:(P.map dV).length = P.length:=List.length_map ..
    have hfin:=hK (i + 1)
    simp only [hlt] at hfin
    generalize gy other (P.take i) = lg at hfin hll
    rw [hpa] at hfin ⊢
    generalize P[i] = p at hge hfin hpi
    by_cases hc:other < p.length + 2
    · rw [if_pos hc] at hfin
      simp (config:=KF) (disch:=omega) only [bZ,gu,ixSV,lenI,aa,dk,bN,↓reduceIte,Nat.reduceEqDiff,aK,aP,a9,hge,hpl2]
      exact hfin _ (by omega) (by omega) (Sf.le_refl _)
    · rw [if_neg hc] at hfin
      simp (config:=KF) (disch:=omega) only [bZ,gu,ixSV,lenI,aa,dk,bN,↓reduceIte,Nat.reduceEqDiff,aK,aP,a9,hge,hpl2]
      exact hfin _ (by omega) (by omega) (Sf.le_refl _)
  · obtain rfl:i = P.length:=by omega
    rw [List.take_length]
    have hlo:=kR hh 1
    have e2:g9 1 R = gy other P:=by
      unfold g9
      rw [h1]
      simp only [atR,h2,h3]
      simp [h10]
    rw [e2] at hlo
    generalize gy other P = lg at hlo
    simp (config:=KF) (disch:=omega) only [bZ,aU,bK,↓reduceIte,Nat.reduceEqDiff,hpL]
    refine hKe _ _ _ ?_
    simp (config:=KF) (disch:=omega) only [bZ,aA,id,↓reduceIte,Nat.reduceEqDiff]
    refine am rfl e_f14 hlo rfl ?_
    simp (config:=KF) (disch:=omega) only [bZ,dN,↓reduceIte,Nat.reduceEqDiff,not_true_eq_false]
    rw [f4_114w]
    have ha0:atR ((0:Nat):Int) R.subs = some S0:=by rw [h1]; simp [atR,h2]
    have ha1:atR ((1:Nat):Int) R.subs = some S1:=by rw [h1]; simp [atR,h2,h3]
    refine cX (A:=Nat) (fun s=>2 - s) (fun s=>⟨[(9,.ptr h 0),(14,pubA P),(16,.lptr 16 0),(23,.lit (.int .i64 (s:Nat)))],[(16,[z0,z1])]⟩) (fun _=>st)
      (fun s=>s≤2) 0 (Nat.zero_le _) (Sf.le_refl _) rfl ?_
    intro s hs K hK hKe hKr
    obtain rfl | rfl | rfl:s = 0∨s = 1∨s = 2:=by omega
    · simp (config:=KF) (disch:=omega) only [bZ,↓reduceIte,Nat.reduceEqDiff,Int.reduceLT]
      exact hold_sub hh hn 0 (by omega) (z:=z0) rfl ha0 h8 hr.b0 hr.v0 hpl (hK 1 _ (by omega) (by omega) (Sf.le_refl _))
    · simp (config:=KF) (disch:=omega) only [bZ,↓reduceIte,Nat.reduceEqDiff,Int.reduceLT]
      exact hold_sub hh hn 1 (by omega) (z:=z1) rfl ha1 h9 hr.b1 hr.v1 hpl (hK 2 _ (by omega) (by omega) (Sf.le_refl _))
    · simp (config:=KF) (disch:=omega) only [bZ,aU,bK,↓reduceIte,Nat.reduceEqDiff,Int.reduceLT]
      refine hKe _ _ _ ?_
      simp (config:=KF) (disch:=omega) only [bZ,aA,id,↓reduceIte]
      refine ap rfl e_f10 (lu _) rfl fun v s2 hr2=>?_
      obtain ⟨rfl,_⟩:=hr2
      simp (config:=KF) (disch:=omega) only [bZ,retI,↓reduceIte,Nat.reduceEqDiff]
      exact hQ _
end
end Go.Fx.YtbdjfccgkdgbfaaFx

