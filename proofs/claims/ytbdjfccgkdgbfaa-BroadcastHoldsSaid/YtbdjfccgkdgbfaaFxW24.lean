/- What the functions that the statement reaches compute: part 24. -/
import Derived.Test.YtbdjfccgkdgbfaaFxW23
namespace Go.Fx.YtbdjfccgkdgbfaaFx
open Go Go.Fx
attribute [local irreducible] aC runI au aH

set_option maxRecDepth 100000
set_option maxHeartbeats 4000000

theorem pN (P:Ms):(P.map dV).map AV.dis = P.map dV:=by rw [List.map_map]; exact List.map_congr_left fun _ _=>rfl

theorem rDo_items (w t p n o:Int) (d:List UInt8) (R:HR):(rDo w t p n o d R).2.items.length≤R.ws.length∧(w = 2→(rDo w t p n o d R).2.items = []):=by
  unfold rDo
  by_cases h0:w = 0
  · rw [if_pos h0]; exact ⟨Nat.zero_le _,fun q=>by omega⟩
  rw [if_neg h0]
  by_cases h1:w = 1
  · rw [if_pos h1]; exact ⟨Nat.zero_le _,fun q=>by omega⟩
  rw [if_neg h1]
  by_cases h2:w = 2
  · rw [if_pos h2]; exact ⟨Nat.zero_le _,fun q=>rfl⟩
  rw [if_neg h2]
  by_cases h3:w = 3
  · rw [if_pos h3]; exact ⟨oN n R,fun q=>by omega⟩
  rw [if_neg h3]
  by_cases h4:w = 4
  · rw [if_pos h4]
    refine ⟨?_,fun q=>by omega⟩
    simp only
    unfold eB
    split
    · exact Nat.zero_le _
    · exact lO _ _ _
  rw [if_neg h4]
  refine ⟨?_,fun q=>absurd q h2⟩
  simp only
  unfold cY
  split
  · exact Nat.zero_le _
  · cases hd:delT t R.ws with
    | none=>exact Nat.zero_le _
    | some z =>
      obtain ⟨x,r⟩:=z
      have hl:∀ {l:List WW} {x:WW} {r:List WW},delT t l = some (x,r)→r.length≤l.length:=by
        intro l
        induction l with
        | nil=>intro x r q; cases q
        | cons y s ih =>
          intro x r q
          simp only [delT] at q
          split at q
          · simp only [Option.some.injEq,Prod.mk.injEq] at q
            rw [← q.2,List.length_cons]; omega
          · cases hp:delT t s with
            | none=>rw [hp] at q; cases q
            | some z =>
              obtain ⟨y',u⟩:=z
              rw [hp] at q
              simp only [Option.some.injEq,Prod.mk.injEq] at q
              have:=ih hp
              rw [← q.2,List.length_cons,List.length_cons]; omega
      exact Nat.le_trans (lO _ _ _) (hl hd)
def frM (other:Nat) (l:List Act) (h wb:Nat) (a:HL):Sf:=⟨[(2,.lit (.int .i64 (other:Nat))),(3,.sl false 6 (l.map actV)),(9,.ptr h 0),(14,pubA a.P),(15,.bs wb 1 0 64 64),(16,.lptr 16 0),(17,.lit (.int .i64 (a.i:Nat)))],[(16,[a.z0,a.z1])]⟩
theorem hold_main (other:Nat) (ho:other≤4096) (l:List Act) (hl:l.length≤60) (hf:fewB l = true) {h wid:Nat} {R:HR} {F:List Nat} {st:St} (hh:HubR st h wid 0 R F) (hF:∀ x ∈ F,x < st.boxes.length) (hw:HW R [] [] [] other (fun _=>none)) {Q:AV→St→Prop} (hQ:∀ s,Q (.lit (.bool true)) s) :
    aC Go.Proofs.Try.prog id false f4_29 ⟨[(2,.lit (.int .i64 (other:Nat))),(3,.sl false 6 (l.map actV)),(9,.ptr h 0),(14,.lit (.slice none 0 0))],[]⟩ st (retQ [RI.tmp 8] Q):=by
  have hcl:(List.replicate 64 (AV.lit (.slice none 0 0))).flatMap AV.cells = wtC (fun _=>none):=rfl
  obtain ⟨wb,hwb⟩:∃ wb,wb = st.boxes.length:=⟨_,rfl⟩
  simp (config:=KF) (disch:=omega) only [bZ,o_x,aD,f4_29e]
  refine ⟨rfl,by decide,by decide,by decide,by decide,?_⟩
  rw [show (64:Int).toNat = 64 from rfl,hcl,← hwb]
  simp (config:=KF) (disch:=omega) only [bZ,bu,eh,da,bO,bJ,lH,lI,↓reduceIte,Nat.reduceEqDiff]
  rw [f4_37w]
  have hlen0:(st.push (.cells (wtC fun _=>none))).boxes.length = wb + 1:=by rw [aE,hwb]
  have hk0:Kp st (st.push (.cells (wtC fun _=>none))) []:=⟨by rw [hlen0]; omega,fun b hb _=>bR hb⟩
  refine cX (A:=HL) (fun a=>l.length - a.i) (fun a=>frM other l h wb a) (fun a=>a.s) (fun a=>HI l.length other h wid wb a)
    ⟨0,0,R,[],[],[],fun _=>none,[],[],.lit (.slice none 0 0),.lit (.slice none 0 0),F,st.push (.cells (wtC fun _=>none))⟩
    ⟨Nat.zero_le _,Nat.zero_le _,hh.kp hk0 fun _ _ q=>(by cases q),fun x hx=>by have:=hF x hx; simp only [hlen0]; omega,hw,by simp only [hwb]; exact bA _ _,fun q=>by have:=hF wb q; omega,⟨.inl ⟨rfl,rfl⟩,.inl ⟨rfl,rfl⟩,⟨fun b hb=>(by simp [ah] at hb),fun b hb=>(by simp [ah] at hb)⟩,RvL.nil _ _,RvL.nil _ _⟩,Nat.zero_le _,⟨Nat.le_refl _,Nat.le_refl _⟩,fun _ q=>(by cases q),fun _ _ q=>(by cases q)⟩ (Sf.le_refl _) rfl ?_
  rintro ⟨i,k,R1,P,r0,r1,wt,vs0,vs1,z0,z1,F1,s1⟩ hI K hK hKe hKr
  obtain ⟨i1,i2,i3,i4,i5,i6,i7,i8,i9,i10,i11,i12⟩:=hI
  simp only at i1 i2 i3 i4 i5 i6 i7 i8 i9 i10 i11 i12
  obtain ⟨a1,a2,a3,a4,a5,a6,a7,a8⟩:=i8.b0.facts
  obtain ⟨b1,b2,b3,b4,b5,b6,b7,b8⟩:=i8.b1.facts
  unfold frM at hK ⊢
  dsimp only
  by_cases hi:i < l.length
  · have hg:=act_getD hi
    have hdl:l[i].d.length≤1030:=by
      unfold fewB at hf
      exact of_decide_eq_true (List.all_eq_true.1 hf l[i] (List.getElem_mem hi))
    generalize l[i] = x at hg hdl
    obtain ⟨w,t,p,n,o,d⟩:=x
    simp only at hg hdl
    have hd0:=pN P
    have hkeep:∀ sf',Sf.le (sf'.mask [2,3,9,14,15,16,17] [16]) ⟨[(2,.lit (.int .i64 (other:Nat))),(3,.sl false 6 (l.map actV)),(9,.ptr h 0),(14,pubA P),(15,.bs wb 1 0 64 64),(16,.lptr 16 0),(17,.lit (.int .i64 ((i + 1:Nat))))],[(16,[z0,z1])]⟩→K .normal sf' s1:=fun sf' hs =>
      hK ⟨i + 1,k,R1,P,r0,r1,wt,vs0,vs1,z0,z1,F1,s1⟩ sf' ⟨hi,by simp only; omega,i3,i4,i5,i6,i7,i8,by simp only; omega,by simp only; omega,i11,i12⟩ (by simp only; omega) hs
    have rk0:∀ vs s,kill s (rowA vs) = rowA vs:=fun vs s=>by unfold rowA; split <;> rfl
    have pk:∀ s,kill s (pubA P) = pubA P:=rk0 _
    by_cases hskip:w < 1∨w = 4∨(w = 3∧(n < 0∨1 < n))
    · (repeat' (first | omega | (simp (config:=KF) (disch:=omega) only [bZ,iu,aU,aA,bK,bf,AI.dst,gu,eh,ba,ixSV,az,lenI,addA,aa,aJ,dk,jQ,jR,da,jN,bO,bJ,ei,oH,lH,cF,lI,↓reduceIte,Nat.reduceEqDiff,Nat.reduceAdd,Nat.reduceLeDiff,aP,ej,a9,f4_85e,f4_85l,hg,pk]) | refine br (fun h=>?_) (fun h=>?_) | refine dO (fun h=>?_) (fun h=>?_) | refine gk (fun h=>?_) (fun h=>?_) | exact hkeep _ (Sf.le_refl _)))
    have hw14:1≤w∧w≠4:=by omega
    have hn01:w = 3→n = 0∨n = 1:=by omega
    suffices hgo:aC Go.Proofs.Try.prog id false f4_52 ⟨[(2,.lit (.int .i64 (other:Nat))),(3,.sl false 6 (l.map actV)),(9,.ptr h 0),(14,pubA P),(15,.bs wb 1 0 64 64),(16,.lptr 16 0),(17,.lit (.int .i64 (i:Nat))),(18,.lptr 18 0),(123,.lit (.bool false))],[(16,[z0,z1]),(18,[.lit (.int .i64 w),.lit (.int .i64 t),.lit (.int .i64 3),.lit (.int .i64 n),.lit (.int .i64 o),.sl false 1 (BB d)])]⟩ s1 (e7 1 (seqQ (aC Go.Proofs.Try.prog id false f4_85) K)) by
      simp (config:=KF) (disch:=omega) only [bZ,AI.dst,gu,eh,ixSV,az,lenI,addA,aa,aJ,jQ,jR,da,jN,bO,bJ,ei,oH,lH,cF,lI,↓reduceIte,Nat.reduceEqDiff,Nat.reduceAdd,Nat.reduceLeDiff,aP,cG,hg,pk]
      refine dO (fun h3=>?_) (fun h3=>?_)
      · rcases hn01 h3 with rfl | rfl
        · simp (config:=KF) (disch:=omega) only [bZ,AI.dst,ba,addA,aa,dk,↓reduceIte,Nat.reduceEqDiff,Int.reduceLT]
          exact hgo
        · simp (config:=KF) (disch:=omega) only [bZ,AI.dst,ba,addA,aa,dk,↓reduceIte,Nat.reduceEqDiff,Int.reduceLT]
          exact hgo
      · simp (config:=KF) (disch:=omega) only [bZ,iu,bf,AI.dst,↓reduceIte,Nat.reduceEqDiff]
        exact hgo
    simp (config:=KF) (disch:=omega) only [bZ,aa,aJ,id,jN,↓reduceIte,Nat.reduceEqDiff,Nat.reduceAdd,Nat.reduceLeDiff,f4_52e]
    have hdo:=do_calls i3 i4 w t 3 n o (v:=dV d) (d:=d) (DV.sl s1 d) (by omega) (fun _ q=>by cases q) (by omega)
    refine ap (vs:=[.ptr h 0,actA w t 3 n o (dV d)]) rfl e_f13 hdo rfl fun v s2 hr=>?_
    obtain ⟨dv,F2,rfl,hmb,hdb,hdn,hh2,hk2,hF2⟩:=hr
    obtain ⟨st1,st2⟩:=i5.step w t n o d hw14 hn01
    obtain ⟨hil,hi2⟩:=rDo_items w t 3 n o d R1
    have hil:=Nat.le_trans hil i3.ws
    generalize rDo w t 3 n o d R1 = O at st1 st2 hmb hh2 hil hi2
    obtain ⟨R2,⟨xn,done,data,items,err⟩⟩:=O
    simp only at st1 st2 hmb hh2 hil hi2
    obtain ⟨w1,w2,w3,w4,w5,w6,w7,w8⟩:=hmb.facts
    obtain ⟨t1,t2,t3,t4⟩:=cR items
    obtain ⟨t5,t6,t7⟩:=iF items
    unfold resA
    simp (config:=KF) (disch:=omega) only [bZ,eh,az,addA,aa,dN,da,bO,bJ,ei,lH,cF,lI,↓reduceIte,Nat.reduceEqDiff,Nat.reduceAdd,Nat.reduceLeDiff,w2,w4,t3,t5,pk]
    have hwb2:s2.get wb = some (wtC wt):=(bY (hk2.2 wb (aS i6) i7)).trans i6
    have hwn2:wb ∉ F2:=fun q=>by
      rcases (hF2 wb q).1 with c | c
      · exact i7 c
      · have:=aS i6; omega
    have hrw2:Rws z0 z1 vs0 vs1 r0 r1 wb F2 s2:=i8.step hk2 (fun b hb=>.inr hb) fun b hb=>(hF2 b hb).1
    have hl0:=i8.b0.lt
    have hl1:=i8.b1.lt
    have hdw:∀ b ∈ ah dv,b ∉ Gx z0 z1 wb F2:=fun b hb q=>by
      have:=hdb b hb
      unfold Gx at q
      simp only [List.mem_cons,List.mem_append] at q
      rcases q with q | q | q | q
      · have:=aS i6; omega
      · have:=hl0 b q; omega
      · have:=hl1 b q; omega
      · exact hdn b hb q
    refine br (fun he=>?_) (fun he=>?_)
    · have hRR:=st1 he
      subst hRR
      simp (config:=KF) (disch:=omega) only [bZ,aU,aA,bK,↓reduceIte,Nat.reduceEqDiff,a9,f4_85e,f4_85l]
      exact hK ⟨i + 1,k + 100,R2,P,r0,r1,wt,vs0,vs1,z0,z1,F2,s2⟩ _ ⟨hi,by simp only; omega,hh2,fun x hx=>(hF2 x hx).2,i5,hwb2,hwn2,hrw2,by simp only; omega,by simp only; omega,i11,i12⟩ (by simp only; omega) (Sf.le_refl _)
    have he:err = 0:=Classical.not_not.1 he
    subst he
    obtain ⟨st3,st4,st5⟩:=st2 rfl
    have hitems:∀ (P1:Ms) (wt1:WT) (y0 y1:AV) (u0 u1:List AV) (q0 q1:Ms) (s3:St) (sf:Sf),HubR s3 h wid (k + 100) R2 F2→s2.boxes.length≤s3.boxes.length→HW R2 (P1++items.map (gt wt1)) q0 q1 other wt1→s3.get wb = some (wtC wt1)→(∀ i ∈ items,i < 64∧(wt1 i).isSome = true)→Rws y0 y1 u0 u1 q0 q1 wb F2 s3→P1.length≤100 * i + 1→q0.length≤i + 1∧q1.length≤i + 1→(∀ p ∈ P1,p.length≤1030)→(∀ i d,wt1 i = some d→d.length≤1030) →
        Sf.le (sf.mask [2,3,9,14,15,16,17,19,20] [16,19]) ⟨[(2,.lit (.int .i64 (other:Nat))),(3,.sl false 6 (l.map actV)),(9,.ptr h 0),(14,pubA P1),(15,.bs wb 1 0 64 64),(16,.lptr 16 0),(17,.lit (.int .i64 (i:Nat))),(19,.lptr 19 0),(20,.lit (.int .i64 0))],[(16,[y0,y1]),(19,[.lit (.int .i64 xn),.lit (.bool done),dv,itsV items,.lit (.int .i64 0)])]⟩ →
        aH (aC Go.Proofs.Try.prog id false f4_77) [2,3,9,14,15,16,17,19,20] [16,19] sf s3 (e7 2 (e7 1 (seqQ (aC Go.Proofs.Try.prog id false f4_85) K))):=by
      intro P1 wt1 y0 y1 u0 u1 q0 q1 s3 sf x1 x2 x3 x4 x5 x6 x8 x9 x10 x11 hsf
      obtain ⟨a1,a2,a3,a4,a5,a6,a7,a8⟩:=x6.b0.facts
      obtain ⟨b1,b2,b3,b4,b5,b6,b7,b8⟩:=x6.b1.facts
      refine cX (A:=Nat) (fun j=>items.length - j) (fun j=>⟨[(2,.lit (.int .i64 (other:Nat))),(3,.sl false 6 (l.map actV)),(9,.ptr h 0),(14,pubA (P1++(items.take j).map (gt wt1))),(15,.bs wb 1 0 64 64),(16,.lptr 16 0),(17,.lit (.int .i64 (i:Nat))),(19,.lptr 19 0),(20,.lit (.int .i64 (j:Nat)))],[(16,[y0,y1]),(19,[.lit (.int .i64 xn),.lit (.bool done),dv,itsV items,.lit (.int .i64 0)])]⟩) (fun _=>s3)
        (fun j=>j≤items.length) 0 (Nat.zero_le _) (by simpa using hsf) rfl ?_
      intro j hj K' hK' hKe' hKr'
      have pk':∀ s,kill s (pubA (P1++(items.take j).map (gt wt1))) = pubA (P1++(items.take j).map (gt wt1)):=rk0 _
      by_cases hjl:j < items.length
      · have hia:itsV items = .sl false 4 (items.map itA):=by unfold itsV; rw [if_neg (fun e=>by rw [e] at hjl; simp at hjl)]
        have hga:(items.map itA).getD j .any = .agg [.lit (.int .i64 (items[j]:Nat)),.lit (.int .i64 0),.lit (.int .i64 0),.lit (.int .i64 0)]:=by
          rw [List.getD_eq_getElem?_getD,List.getElem?_map,List.getElem?_eq_getElem hjl]; rfl
        obtain ⟨m1,m2⟩:=x5 items[j] (List.getElem_mem hjl)
        have hst:P1++(items.take (j + 1)).map (gt wt1) = P1++(items.take j).map (gt wt1)++[gt wt1 items[j]]:=by
          rw [List.take_succ_eq_append_getElem hjl,List.map_append,List.append_assoc]; rfl
        have hK2:=hK' (j + 1)
        simp only [hst] at hK2
        generalize items[j] = tk at hga m1 m2 hK2
        obtain ⟨rr,hrr⟩:=wtC_get wt1 m1 m2
        have hwl:=wtC_len wt1
        have hpl:(P1++(items.take j).map (gt wt1)).length≤100 * i + 65:=by
          rw [List.length_append,List.length_map,List.length_take]; omega
        generalize P1++(items.take j).map (gt wt1) = P2 at hK2 hpl pk'
        generalize gt wt1 tk = dd at hrr hK2
        have hpd:=pN P2
        have hps:pubA (P2++[dd]) = .sl true 1 (P2.map dV++[dV dd]):=by
          unfold pubA
          rw [List.map_append]
          exact row_snoc _ _
        rw [hps] at hK2
        rw [hia] at hK2 ⊢
        by_cases hP2:P2 = []
        · have hp2:pubA P2 = .lit (.slice none 0 0):=by unfold pubA rowA; rw [if_pos (by rw [hP2]; rfl)]
          rw [hp2] at pk' ⊢
          rw [hP2] at hK2
          unfold dV at hrr hK2
          simp (config:=KF) (disch:=omega) only [bZ,gu,d4,eg,ixSV,bslV,e9,List.isEmpty_cons,List.reduceReplicate,lenI,addA,aa,dw,srcA,cb,iv,bN,↓reduceIte,Nat.reduceEqDiff,Nat.reduceLT,cz,aP,a9,f4_77e,hga,x4,hrr]
          exact hK2 _ (by omega) (by omega) (Sf.le_refl _)
        · have hp2:pubA P2 = .sl true 1 (P2.map dV):=by unfold pubA rowA; rw [if_neg (by simpa using hP2)]
          rw [hp2] at pk' ⊢
          have hrr2:(wtC wt1).drop tk = .sl false 1 (BB dd)::rr:=hrr
          have hdv2:dV dd = .sl false 1 (BB dd):=rfl
          rw [hdv2] at hK2
          simp (config:=KF) (disch:=omega) only [bZ,gu,d4,eg,ixSV,bslV,e9,List.reduceReplicate,lenI,addA,aa,cU,srcA,cb,iv,bN,↓reduceIte,Nat.reduceEqDiff,Nat.reduceLT,cz,aP,a9,f4_77e,hga,x4,hrr2]
          exact hK2 _ (by omega) (by omega) (Sf.le_refl _)
      · obtain rfl:j = items.length:=by omega
        have hli:=j7 items
        simp (config:=KF) (disch:=omega) only [bZ,aU,bK,addA,aa,↓reduceIte,Nat.reduceEqDiff,List.take_length,f4_77e,t1,hli]
        refine hKe' _ _ _ ?_
        simp (config:=KF) (disch:=omega) only [bZ,aA,↓reduceIte,Nat.reduceEqDiff,a9,f4_85e,f4_85l]
        refine hK ⟨i + 1,k + 100,R2,P1++items.map (gt wt1),q0,q1,wt1,u0,u1,y0,y1,F2,s3⟩ _ ⟨hi,by simp only; omega,x1,fun x hx=>Nat.lt_of_lt_of_le (hF2 x hx).2 x2,x3,x4,hwn2,x6,by simp only [List.length_append,List.length_map]; omega,x9,fun p hp=>?_,x11⟩ (by simp only; omega) (Sf.le_refl _)
        rcases List.mem_append.1 hp with hp | hp
        · exact x10 p hp
        · obtain ⟨it,_,rfl⟩:=List.mem_map.1 hp
          unfold gt
          cases hw:wt1 it with
          | none=>exact Nat.zero_le _
          | some d=>exact x11 it d hw
    have hpl:P.length≤10000:=by omega
    have hPd:∀ p ∈ P++[d],p.length≤1030:=fun p hp=>by
      rcases List.mem_append.1 hp with hp | hp
      · exact i11 p hp
      · simp only [List.mem_singleton] at hp; subst hp; exact hdl
    have hpd:=pN P
    have hps:pubA (P++[d]) = .sl true 1 (P.map dV++[dV d]):=by
      unfold pubA
      rw [List.map_append]
      exact row_snoc _ _
    by_cases c1:w = 1
    · subst c1
      unfold rd1 at st5
      rw [if_pos (.inl rfl),if_neg (by omega),if_neg (by omega),if_neg (by omega)] at st5
      by_cases hP:P = []
      · have hp2:pubA P = .lit (.slice none 0 0):=by unfold pubA rowA; rw [if_pos (by rw [hP]; rfl)]
        rw [hp2] at pk ⊢
        rw [hP] at hps
        simp (config:=KF) (disch:=omega) only [bZ,iu,bf,AI.dst,d4,eg,ba,bslV,e9,List.isEmpty_cons,List.reduceReplicate,addA,aa,dw,srcA,cb,iv,bN,↓reduceIte,Nat.reduceEqDiff,Nat.reduceLT,Int.reduceEq,not_true_eq_false,cz]
        rw [f4_76w]
        refine hitems (P++[d]) wt z0 z1 vs0 vs1 r0 r1 s2 _ hh2 (Nat.le_refl _) st5 hwb2 st4 hrw2 (by simp only [List.length_append,List.length_cons,List.length_nil]; omega) (by omega) hPd i12 ?_
        rw [hP,hps]
        exact Sf.le_refl _
      · have hp2:pubA P = .sl true 1 (P.map dV):=by unfold pubA rowA; rw [if_neg (by simpa using hP)]
        rw [hp2] at pk ⊢
        simp (config:=KF) (disch:=omega) only [bZ,iu,bf,AI.dst,d4,eg,ba,bslV,e9,List.reduceReplicate,addA,aa,cU,srcA,cb,iv,bN,↓reduceIte,Nat.reduceEqDiff,Nat.reduceLT,Int.reduceEq,not_true_eq_false,cz]
        rw [f4_76w]
        refine hitems (P++[d]) wt z0 z1 vs0 vs1 r0 r1 s2 _ hh2 (Nat.le_refl _) st5 hwb2 st4 hrw2 (by simp only [List.length_append,List.length_cons,List.length_nil]; omega) (by omega) hPd i12 ?_
        rw [hps]
        exact Sf.le_refl _
    by_cases c2:w = 2
    · subst c2
      have hit0:items = []:=hi2 rfl
      unfold rd1 at st5
      cases done with
      | true =>
        rw [if_pos (.inr ⟨rfl,rfl⟩),if_neg (by omega),if_neg (by omega),if_neg (by simp)] at st5
        by_cases hP:P = []
        · have hp2:pubA P = .lit (.slice none 0 0):=by unfold pubA rowA; rw [if_pos (by rw [hP]; rfl)]
          rw [hp2] at pk ⊢
          rw [hP] at hps
          simp (config:=KF) (disch:=omega) only [bZ,AI.dst,d4,eg,ba,bslV,e9,List.isEmpty_cons,List.reduceReplicate,addA,aa,dw,srcA,cb,unA,iv,bN,↓reduceIte,Nat.reduceEqDiff,Nat.reduceLT,Int.reduceEq,not_true_eq_false,cz]
          rw [f4_76w]
          refine hitems (P++[d]) wt z0 z1 vs0 vs1 r0 r1 s2 _ hh2 (Nat.le_refl _) st5 hwb2 st4 hrw2 (by simp only [List.length_append,List.length_cons,List.length_nil]; omega) (by omega) hPd i12 ?_
          rw [hP,hps]
          exact Sf.le_refl _
        · have hp2:pubA P = .sl true 1 (P.map dV):=by unfold pubA rowA; rw [if_neg (by simpa using hP)]
          rw [hp2] at pk ⊢
          simp (config:=KF) (disch:=omega) only [bZ,AI.dst,d4,eg,ba,bslV,e9,List.reduceReplicate,addA,aa,cU,srcA,cb,unA,iv,bN,↓reduceIte,Nat.reduceEqDiff,Nat.reduceLT,Int.reduceEq,not_true_eq_false,cz]
          rw [f4_76w]
          refine hitems (P++[d]) wt z0 z1 vs0 vs1 r0 r1 s2 _ hh2 (Nat.le_refl _) st5 hwb2 st4 hrw2 (by simp only [List.length_append,List.length_cons,List.length_nil]; omega) (by omega) hPd i12 ?_
          rw [hps]
          exact Sf.le_refl _
      | false =>
        obtain ⟨tl,th⟩:=st3 ⟨rfl,rfl⟩
        obtain ⟨tk,rfl⟩:∃ tk:Nat,t = (tk:Int):=⟨t.toNat,by omega⟩
        rw [if_neg (by simp),if_neg (by omega),if_neg (by omega),if_pos ⟨rfl,rfl⟩,List.append_nil,Int.toNat_natCast] at st5
        have htk:tk < 64:=by omega
        have hwl:=wtC_len wt
        have hws:=wtC_set wt htk d
        have hdv2:dV d = .sl false 1 (BB d):=rfl
        rw [hdv2] at hws
        simp (config:=KF) (disch:=omega) only [bZ,AI.dst,gu,ba,ixSV,az,addA,aa,unA,bN,↓reduceIte,Nat.reduceEqDiff,Nat.reduceLeDiff,Int.reduceEq,not_true_eq_false,hwb2,hwl,hws]
        rw [f4_76w]
        have hwlt:wb < s2.boxes.length:=aS hwb2
        have hks:Kp s2 (s2.set wb (wtC (upd wt tk d))) [wb]:=(Oth.set s2 wb _ (S:=[wb]) (by simp)).kp fun _ q=>q
        refine hitems P (upd wt tk d) z0 z1 vs0 vs1 r0 r1 _ _ (hh2.kp hks fun b hb q=>?_) (Nat.le_of_eq (eI ..).symm) ?_ (aw hwlt) ?_ (hrw2.step hks (fun b hb=>.inl (by simpa using hb)) fun b hb=>.inl hb) (by omega) (by omega) i11 (fun i e he=>?_) (Sf.le_refl _)
        · simp only [List.mem_singleton] at q
          subst q
          exact hwn2 hb
        · rw [hit0] at st5 ⊢
          exact st5
        · rw [hit0]
          intro b hb; cases hb
        · unfold upd at he
          split at he
          · cases he; exact hdl
          · exact i12 i e he
    rw [if_neg (by omega),List.append_nil,if_neg (fun q=>c2 q.1)] at st5
    have hms:mkSl 1 [dv] = .sl true 1 [dv]:=by rcases hmb with ⟨rfl,_⟩ | ⟨_,_,_,rfl,_⟩ <;> rfl
    by_cases c3:w = 3
    · subst c3
      unfold rd1 at st5
      rcases hn01 rfl with rfl | rfl
      · rw [if_pos ⟨rfl,rfl⟩,if_neg (by omega)] at st5
        have hvo:=hrw2.v0.own
        have hvl:vs0.length≤1000:=by have:=hrw2.v0.1; omega
        have hcd:cellsD [dv] = [dv]:=by unfold cellsD; simp [w1,w6]
        simp (config:=KF) (disch:=omega) only [bZ,bf,AI.dst,addA,aa,↓reduceIte,Nat.reduceEqDiff,Int.reduceEq,not_true_eq_false,f4_72e,f4_72h,f4_72p,f4_72l]
        refine draw_a ⟨[]⟩ (St.sub_nil _) ?_
        simp (config:=KF) (disch:=omega) only [bZ,lq,kK,oJ,jV,mm_ixA,pE,mm_bsl,atA_eq,fv,og,oh,kA,bslV,List.reduceReplicate,addA,aa,cb,bd,List.nil_append,List.cons_append,↓reduceIte,Nat.reduceEqDiff,Nat.reduceLT,Int.reduceLT,Int.reduceLE,w1,w4,w6,a1,hms]
        refine app_m (fun v s=>MB v s (vs0++[dv])∧Kp s2 s (ah z0)∧∀ b ∈ ah v,b ∈ ah z0∨s2.boxes.length≤b) a5 rfl ?_ ?_
        · rw [a1]
          exact MB.growV hrw2.b0 hvo hcd (cz (by simp only [List.length_cons,List.length_nil]; omega)) fun v s g1 g2 g3=>⟨g1,g2,g3⟩
        simp (config:=KF) (disch:=omega) only [bZ,ksB,aO,bH,cd,aZ,nstB,ce,pF,jX,↓reduceIte,Nat.reduceEqDiff]
        rintro y s3 ⟨g1,g2,g3⟩
        refine ⟨St.sub_nil _,?_⟩
        obtain ⟨c1,c2,c3,c4,c5,c6,c7,c8⟩:=g1.facts
        simp (config:=KF) (disch:=omega) only [bZ,ksB,aO,bH,cd,aZ,dj,cr,nstB,ce,lq,jW,iB,jY,lM,gv,az,addA,↓reduceIte,Nat.reduceEqDiff,Nat.reduceAdd,Nat.reduceLeDiff,Int.reduceLT,Int.reduceLE,c1,c4,c6]
        rw [f4_76w]
        have hdv3:=DV.of_mb hmb
        refine hitems P wt y z1 (vs0++[dv]) vs1 (r0++[data]) r1 s3 _ (hh2.kp g2 fun b hb q=>?_) g2.1 st5 ?_ st4 (hrw2.push (fun b hb=>(hF2 b hb).2) (aS hwb2) hdv3 hdw g1 g2 g3) (by omega) (by simp only [List.length_append,List.length_cons,List.length_nil]; omega) i11 i12 (Sf.le_refl _)
        · exact (hrw2.sp.a b q).2.1 hb
        · exact (bY (g2.2 wb (aS hwb2) fun q=>(hrw2.sp.a wb q).1 rfl)).trans hwb2
      · rw [if_neg (by omega),if_pos ⟨rfl,rfl⟩] at st5
        have hvo:=hrw2.v1.own
        have hvl:vs1.length≤1000:=by have:=hrw2.v1.1; omega
        have hcd:cellsD [dv] = [dv]:=by unfold cellsD; simp [w1,w6]
        simp (config:=KF) (disch:=omega) only [bZ,bf,AI.dst,addA,aa,↓reduceIte,Nat.reduceEqDiff,Int.reduceEq,not_true_eq_false,f4_72e,f4_72h,f4_72p,f4_72l]
        refine draw_a ⟨[]⟩ (St.sub_nil _) ?_
        simp (config:=KF) (disch:=omega) only [bZ,lq,kK,oJ,jV,mm_ixA,pE,mm_bsl,atA_eq,fv,og,oh,kA,bslV,List.reduceReplicate,addA,aa,cb,bd,List.nil_append,List.cons_append,↓reduceIte,Nat.reduceEqDiff,Nat.reduceLT,Int.reduceLT,Int.reduceLE,w1,w4,w6,b1,hms]
        refine app_m (fun v s=>MB v s (vs1++[dv])∧Kp s2 s (ah z1)∧∀ b ∈ ah v,b ∈ ah z1∨s2.boxes.length≤b) b5 rfl ?_ ?_
        · rw [b1]
          exact MB.growV hrw2.b1 hvo hcd (cz (by simp only [List.length_cons,List.length_nil]; omega)) fun v s g1 g2 g3=>⟨g1,g2,g3⟩
        simp (config:=KF) (disch:=omega) only [bZ,ksB,aO,bH,cd,aZ,nstB,ce,pF,jX,↓reduceIte,Nat.reduceEqDiff]
        rintro y s3 ⟨g1,g2,g3⟩
        refine ⟨St.sub_nil _,?_⟩
        obtain ⟨c1,c2,c3,c4,c5,c6,c7,c8⟩:=g1.facts
        simp (config:=KF) (disch:=omega) only [bZ,ksB,aO,bH,cd,aZ,dj,cr,nstB,ce,lq,jW,iB,jY,lM,gv,az,addA,↓reduceIte,Nat.reduceEqDiff,Nat.reduceAdd,Nat.reduceLeDiff,Int.reduceLT,Int.reduceLE,c1,c4,c6]
        rw [f4_76w]
        have hdv3:=DV.of_mb hmb
        have hdw':∀ b ∈ ah dv,b ∉ Gx z1 z0 wb F2:=fun b hb q=>hdw b hb (by
          unfold Gx at q ⊢
          simp only [List.mem_cons,List.mem_append] at q ⊢
          rcases q with q | q | q | q
          · exact .inl q
          · exact .inr (.inr (.inl q))
          · exact .inr (.inl q)
          · exact .inr (.inr (.inr q)))
        refine hitems P wt z0 y vs0 (vs1++[dv]) r0 (r1++[data]) s3 _ (hh2.kp g2 fun b hb q=>?_) g2.1 st5 ?_ st4 (hrw2.sym.push (fun b hb=>(hF2 b hb).2) (aS hwb2) hdv3 hdw' g1 g2 g3).sym (by omega) (by simp only [List.length_append,List.length_cons,List.length_nil]; omega) i11 i12 (Sf.le_refl _)
        · exact (hrw2.sp.b b q).2.1 hb
        · exact (bY (g2.2 wb (aS hwb2) fun q=>(hrw2.sp.b wb q).1 rfl)).trans hwb2
    · unfold rd1 at st5
      rw [if_neg (fun q=>c3 q.1),if_neg (fun q=>c3 q.1)] at st5
      simp (config:=KF) (disch:=omega) only [bZ,bf,AI.dst,addA,aa,↓reduceIte,Nat.reduceEqDiff,not_true_eq_false,cG]
      rw [f4_76w]
      exact hitems P wt z0 z1 vs0 vs1 r0 r1 s2 _ hh2 (Nat.le_refl _) st5 hwb2 st4 hrw2 (by omega) (by omega) i11 i12 (Sf.le_refl _)
  · obtain rfl:i = l.length:=by omega
    have rk0:∀ vs s,kill s (rowA vs) = rowA vs:=fun vs s=>by unfold rowA; split <;> rfl
    have pk:∀ s,kill s (pubA P) = pubA P:=rk0 _
    simp (config:=KF) (disch:=omega) only [bZ,aU,bK,lenI,↓reduceIte,Nat.reduceEqDiff]
    refine hKe _ _ _ ?_
    simp (config:=KF) (disch:=omega) only [bZ,aA,↓reduceIte]
    exact hold_end i3 (by omega) i5 i8 (by omega) i11 ho hQ
end Go.Fx.YtbdjfccgkdgbfaaFx

