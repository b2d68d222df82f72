/- What the functions that the statement reaches compute: part 32. -/
import Derived.Test.YtbdjfccgkdgbfaaFxW31
namespace Go.Fx.YtbdjfccgkdgbfaaFx
open Go Go.Fx
attribute [local irreducible] aC runI az ar

set_option maxRecDepth 100000
set_option maxHeartbeats 4000000

section
variable {st:St} {h wid:Nat} {L:List (Option SL)} {Qs:List QL} {M:List (Int×WE)}
theorem oc (L:List (Option SL)):(L.map ptrO).map AV.own1 = L.map ptrO:=by
 rw [List.map_map]
 refine List.map_congr_left fun x _=>?_
 exact (eQ x).2.1
theorem ptrQ_own (Q:List QL):(Q.map ptrQ).map AV.own1 = Q.map ptrQ:=by
 rw [List.map_map]
 exact List.map_congr_left fun x _=>rfl
theorem qO {c cw b i:Nat} {L':List (Option SL)} {Q0:List QL} {y:SL} (hb:b ∈ ba c cw (L'.set i (some y)) Q0):b ∈ ba c cw L' Q0∨b ∈ y.ids:=by
 rcases ai.1 hb with e | e | ⟨j,z,hj,hbz⟩ | e
 ·exact .inl (ai.2 (.inl e))
 ·exact .inl (ai.2 (.inr (.inl e)))
 ·rw [List.getElem?_set] at hj
  split at hj
  ·split at hj
   ·cases hj; exact .inr hbz
   ·cases hj
  ·exact .inl (ai.2 (.inr (.inr (.inl ⟨j,z,hj,hbz⟩))))
 ·exact .inl (ai.2 (.inr (.inr (.inr e))))
theorem oJ {c cw b i:Nat} {L':List (Option SL)} {Q0:List QL} {y:QL} (hb:b ∈ ba c cw L' (Q0.set i y)):b ∈ ba c cw L' Q0∨b ∈ y.ids:=by
 rcases ai.1 hb with e | e | e | ⟨j,z,hj,hbz⟩
 ·exact .inl (ai.2 (.inl e))
 ·exact .inl (ai.2 (.inr (.inl e)))
 ·exact .inl (ai.2 (.inr (.inr (.inl e))))
 ·rw [List.getElem?_set] at hj
  split at hj
  ·split at hj
   ·cases hj; exact .inr hbz
   ·cases hj
  ·exact .inl (ai.2 (.inr (.inr (.inr ⟨j,z,hj,hbz⟩))))

theorem hcopy_subs (hh:HubIs st h wid L Qs M) {c cw:Nat} {s0:St} {L0:List (Option SL)} {Q0:List QL} (hk0:Kp st s0 []) (hc0:HubIs s0 c cw L0 Q0 []) (h0:L0.map sbO = List.replicate 64 none) (hf0:∀ b ∈ ba c cw L0 Q0,st.boxes.length≤b) {K:Exit→Sf→St→Prop}
  (hK:∀ s' L',HubIs s' c cw L' Q0 []→L'.map sbO = L.map sbO→Kp st s' []→(∀ b ∈ ba c cw L' Q0,st.boxes.length≤b)→K (.exit 0) ⟨[(0,.ptr h 0),(3,.ptr c 0)],[]⟩ s') :
  aC Go.Proofs.Try.prog id false f19_15 ⟨[(0,.ptr h 0),(3,.ptr c 0),(17,.agg (L.map ptrO)),(18,.lit (.int .i64 0))],[]⟩ s0 K:=by
 have hl:=hh.l64
 rw [f19_15w]
 refine a8 (A:=Nat×List (Option SL)×St) (fun a=>64 - a.1) (fun a=>⟨[(0,.ptr h 0),(3,.ptr c 0),(17,.agg (L.map ptrO)),(18,.lit (.int .i64 (a.1:Nat)))],[]⟩) (fun a=>a.2.2)
  (fun a=>a.1≤64∧HubIs a.2.2 c cw a.2.1 Q0 []∧a.2.1.map sbO = (L.take a.1).map sbO++List.replicate (64 - a.1) none∧Kp st a.2.2 []∧∀ b ∈ ba c cw a.2.1 Q0,st.boxes.length≤b) (0,L0,s0) ⟨Nat.zero_le _,hc0,by simpa using h0,hk0,hf0⟩ (Sf.le_refl _) rfl ?_
 rintro ⟨i,L',s⟩ ⟨h1,h2,h3,h4,h5⟩ K2 hK2 hKe hKr
 simp only at h1 h2 h3 h4 h5
 dsimp only
 by_cases hi:i < 64
 ·have hx:L[i]? = some (L[i]'(by omega)):=List.getElem?_eq_getElem (by omega)
  have hdr:(L.map ptrO).drop i = ptrO (L[i]'(by omega))::(L.map ptrO).drop (i + 1):=by
   rw [List.drop_eq_getElem_cons (by rw [List.length_map]; omega),List.getElem_map]
  have htk:(L.take (i + 1)).map sbO = (L.take i).map sbO++[sbO (L[i]'(by omega))]:=by
   rw [List.take_succ_eq_append_getElem (by omega),List.map_append]; rfl
  have hrep:List.replicate (64 - i) (none:Option Sb) = none::List.replicate (64 - (i + 1)) none:=by
   rw [show 64 - i = (64 - (i + 1)) + 1 by omega]; rfl
  have hpf:=eQ (L[i]'(by omega))
  cases ho:(L[i]'(by omega)) with
  | none =>
    rw [ho] at hx hdr htk
    have hdr':(L.map ptrO).drop i = .lit (.pointer none)::(L.map ptrO).drop (i + 1):=hdr
    have hpo:=oc L
    simp (config:=KF) (disch:=omega) only [bZ,cP,dy,eU,bp,aY,↓reduceIte,Nat.reduceEqDiff,reduceCtorEq,hdr']
    refine hK2 (i + 1,L',s) _ ⟨by simp only; omega,h2,?_,h4,h5⟩ (by simp only; omega) (Sf.le_refl _)
    simp only
    rw [h3,htk,hrep,List.append_assoc]; rfl
  | some x =>
    rw [ho] at hx hdr htk
    have hdr':(L.map ptrO).drop i = .ptr x.s 0::(L.map ptrO).drop (i + 1):=hdr
    have hpo:=oc L
    have hho:=hh.kp h4 fun _ _ q=>by cases q
    have hxi:x.is s:=hho.sub i x hx
    have hxg:=SbIs.get hxi
    have hxl:=SbIs.lts hxi
    have l1:=hxl x.s (by simp)
    have l2:=hxl x.r (by simp)
    have l3:=hxl x.b (by simp)
    obtain ⟨n,hn⟩:∃ n,n = s.boxes.length:=⟨_,rfl⟩
    simp (config:=KF) (disch:=omega) only [bZ,cP,o_newB,dy,al,ah,eU,bp,aY,addA,ae,id,own1_ptr,↓reduceIte,Nat.reduceEqDiff,Nat.reduceAdd,Nat.reduceLeDiff,reduceCtorEq,bq,kG,bU,af,aa,hdr',hxg]
    obtain ⟨p,hp⟩:∃ p,p = s.push (.cells [.lit (.int .i64 x.S.topic),.lit (.int .i64 x.S.pol),.ptr x.r 0,.lit (.int .i64 (x.S.msgs.length:Nat)),.lit (.int .i64 (x.S.lost:Nat))]):=⟨_,rfl⟩
    rw [← hp]
    have hpl:p.boxes.length = n + 1:=by rw [hp,aE,hn]
    have hpat:∀ b,b < n→p.boxes[b]? = s.boxes[b]?:=fun b hb=>by rw [hp]; exact bG (by omega)
    have hpn:p.get n = some [.lit (.int .i64 x.S.topic),.lit (.int .i64 x.S.pol),.ptr x.r 0,.lit (.int .i64 (x.S.msgs.length:Nat)),.lit (.int .i64 (x.S.lost:Nat))]:=by rw [hp,hn]; exact bq _ _
    have hrg:RgIs p x.r x.b x.S.room x.fr (enc x.S.msgs):=hxi.rg.at (hpat _ (by omega)) (hpat _ (by omega))
    rw [← hn]
    refine aq rfl e_f40 (rcopy_calls hrg) rfl fun v s2 hr=>?_
    obtain ⟨rfl,hr2,hk2,hl2⟩:=hr
    rw [hpl] at hr2 hl2
    have h2n:s2.get n = _:=(ck (hk2.2 n (by omega) (by simp))).trans hpn
    have hlt:=h2.lts
    have hcl:c < n:=by have:=hlt c (ai.2 (.inl rfl)); omega
    have hcg:s2.get c = _:=(ck ((hk2.2 c (by omega) (by simp)).trans (hpat c hcl))).trans h2.get
    have hlen:=jf (L:=L') (Qs:=Q0) cw h2.l64 h2.q16
    have hcg':∀ d,(s2.set n d).get c = some (L'.map ptrO++(Q0.map ptrQ++[AV.map cw])):=fun d=>(cu (by omega)).trans hcg
    obtain ⟨y,hy⟩:∃ y:SL,y = ⟨n,n + 2,n + 1,x.fr,x.S⟩:=⟨_,rfl⟩
    have hcells:(L'.map ptrO++(Q0.map ptrQ++[AV.map cw])).set i (AV.ptr n 0) = (L'.set i (some y)).map ptrO++(Q0.map ptrQ++[.map cw]):=by
     have:=h2.l64
     rw [List.set_append,if_pos (by rw [List.length_map]; omega),List.map_set,hy]; rfl
    have e12:n + 1 + 1 = n + 2:=rfl
    rw [hpl]
    simp (config:=KF) (disch:=omega) only [bZ,iv,al,ah,addA,eJ,↓reduceIte,Nat.reduceEqDiff,Nat.reduceAdd,Nat.reduceLeDiff,reduceCtorEq,af,aa,h2n,hcg',hlen,hcells,e12]
    obtain ⟨E,hE⟩:∃ E,E = (s2.set n [.lit (.int .i64 x.S.topic),.lit (.int .i64 x.S.pol),.ptr (n + 2) 0,.lit (.int .i64 (x.S.msgs.length:Nat)),.lit (.int .i64 (x.S.lost:Nat))]).set c ((L'.set i (some y)).map ptrO++(Q0.map ptrQ++[.map cw])):=⟨_,rfl⟩
    rw [← hE]
    have hEl:E.boxes.length = n + 3:=by rw [hE,du,du,hl2]
    have hEat:∀ b,b≠c→b≠n→E.boxes[b]? = s2.boxes[b]?:=fun b b1 b2=>by rw [hE,bP b1,bP b2]
    have hEg:E.get c = some ((L'.set i (some y)).map ptrO++(Q0.map ptrQ++[.map cw])):=by rw [hE]; exact aG (by rw [du]; omega)
    have hEn:E.get n = some [.lit (.int .i64 x.S.topic),.lit (.int .i64 x.S.pol),.ptr (n + 2) 0,.lit (.int .i64 (x.S.msgs.length:Nat)),.lit (.int .i64 (x.S.lost:Nat))]:=by
     rw [hE,cu (by omega)]; exact aG (by omega)
    have hkE:Kp s E (c::y.ids):=⟨by omega,fun b b1 b2=>by
     have:b≠c:=fun e=>b2 (by simp [e])
     rw [hEat b this (by omega),hk2.2 b (by omega) (by simp),hpat b (by omega)]⟩
    have hyi:∀ b ∈ y.ids,n≤b:=fun b hb=>by
     rw [hy] at hb
     simp only [SL.ids,List.mem_cons,List.not_mem_nil,or_false] at hb
     omega
    have hslot:=h2.slot (y:=some y) hi hkE (fun b hb=>by have:=hyi b hb; omega) hEg fun z hz=>by
     cases hz
     refine ⟨?_,fun b hb=>by have:=hyi b hb; omega⟩
     rw [hy]
     exact ⟨hEn,hr2.at (hEat _ (by omega) (by omega)) (hEat _ (by omega) (by omega)),hxi.ml,(by constructor <;> exact fun e=>by simp only at e; omega)⟩
    refine hK2 (i + 1,L'.set i (some y),E) _ ⟨by simp only; omega,hslot,?_,⟨by have:=h4.1; simp only; omega,fun b b1 _=>?_⟩,fun b hb=>?_⟩ (by simp only; omega) (Sf.le_refl _)
    ·simp only
     rw [List.map_set,h3,htk,hrep,List.append_assoc]
     have e:((L.take i).map sbO).length = i:=by rw [List.length_map,List.length_take]; omega
     rw [List.set_append,if_neg (by omega),e,Nat.sub_self,List.set_cons_zero,hy]
     rfl
    ·have hcb:=h5 c (ai.2 (.inl rfl))
     have:=h4.1
     simp only
     rw [hEat b (by omega) (by omega),hk2.2 b (by omega) (by simp),hpat b (by omega)]
     exact h4.2 b b1 (by simp)
    ·rcases qO hb with hb | hb
     ·exact h5 b hb
     ·have:=hyi b hb
      have:=h4.1
      omega
 ·obtain rfl:i = 64:=by omega
  clear hK2
  simp (config:=KF) (disch:=omega) only [bZ,↓reduceIte,Nat.reduceEqDiff,Int.reduceLT,reduceCtorEq]
  refine hKe _ _ _ ?_
  refine hK s L' h2 ?_ h4 h5
  rw [h3,List.take_of_length_le (by omega),Nat.sub_self,List.replicate_zero,List.append_nil]
end
end Go.Fx.YtbdjfccgkdgbfaaFx

namespace Go.Fx.YtbdjfccgkdgbfaaFx
open Go Go.Fx
attribute [local irreducible] aC runI az ar

set_option maxRecDepth 100000
set_option maxHeartbeats 4000000

section
variable {st:St} {h wid:Nat} {L:List (Option SL)} {Qs:List QL} {M:List (Int×WE)}
theorem hcopy_ques (hh:HubIs st h wid L Qs M) {c cw:Nat} {s0:St} {L1:List (Option SL)} {Q0:List QL} (hk0:Kp st s0 []) (hc0:HubIs s0 c cw L1 Q0 []) (hf0:∀ b ∈ ba c cw L1 Q0,st.boxes.length≤b) {K:Exit→Sf→St→Prop}
  (hK:∀ s' Q',HubIs s' c cw L1 Q' []→(∀ (i:Nat) x y,Qs[i]? = some x→Q'[i]? = some y→y.L = x.L∧y.g = x.g)→Kp st s' []→(∀ b ∈ ba c cw L1 Q',st.boxes.length≤b)→K (.exit 2) ⟨[(0,.ptr h 0),(3,.ptr c 0)],[]⟩ s') :
  aC Go.Proofs.Try.prog id false f19_37 ⟨[(0,.ptr h 0),(3,.ptr c 0),(42,.agg (Qs.map ptrQ)),(43,.lit (.int .i64 0))],[]⟩ s0 K:=by
 have hq:=hh.q16
 rw [f19_37w]
 refine a8 (A:=Nat×List QL×St) (fun a=>16 - a.1) (fun a=>⟨[(0,.ptr h 0),(3,.ptr c 0),(42,.agg (Qs.map ptrQ)),(43,.lit (.int .i64 (a.1:Nat)))],[]⟩) (fun a=>a.2.2)
  (fun a=>a.1≤16∧HubIs a.2.2 c cw L1 a.2.1 []∧(∀ (i:Nat) x y,i < a.1→Qs[i]? = some x→a.2.1[i]? = some y→y.L = x.L∧y.g = x.g)∧Kp st a.2.2 []∧∀ b ∈ ba c cw L1 a.2.1,st.boxes.length≤b) (0,Q0,s0) ⟨Nat.zero_le _,hc0,fun i x y q=>(by cases q),hk0,hf0⟩ (Sf.le_refl _) rfl ?_
 rintro ⟨i,Q',s⟩ ⟨h1,h2,h3,h4,h5⟩ K2 hK2 hKe hKr
 simp only at h1 h2 h3 h4 h5
 dsimp only
 by_cases hi:i < 16
 ·have hx:Qs[i]? = some (Qs[i]'(by omega)):=List.getElem?_eq_getElem (by omega)
  have hdr:(Qs.map ptrQ).drop i = .ptr (Qs[i]'(by omega)).q 0::(Qs.map ptrQ).drop (i + 1):=by
   rw [List.drop_eq_getElem_cons (by rw [List.length_map]; omega),List.getElem_map]; rfl
  have hpo:=ptrQ_own Qs
  have hho:=hh.kp h4 fun _ _ q=>by cases q
  have hxi:=hho.que i _ hx
  generalize hxe:(Qs[i]'(by omega)) = x at hx hdr hxi
  obtain ⟨n,hn⟩:∃ n,n = s.boxes.length:=⟨_,rfl⟩
  simp (config:=KF) (disch:=omega) only [bZ,cP,dy,↓reduceIte,Nat.reduceEqDiff,reduceCtorEq,hdr]
  refine qs ⟨[]⟩ (St.sub_nil _) ?_
  simp (config:=KF) (disch:=omega) only [bZ,g7,fI,iD,jy,nU,eD,lW,lX,io,id,List.nil_append,List.cons_append,↓reduceIte,Nat.reduceEqDiff,reduceCtorEq]
  refine nV rfl e_f41 (qcopy_calls hxi) rfl ?_
  simp (config:=KF) (disch:=omega) only [bZ,ksB,aJ,bg,bD,aK,nstB,bE,ff,ez,ln,mw,hm_val,gz,al,addA,List.nil_append,List.cons_append,↓reduceIte,Nat.reduceEqDiff,reduceCtorEq]
  rintro v s2 ⟨rfl,hq2,hl2,hk2⟩
  refine ⟨St.sub_nil _,?_⟩
  rw [← hn] at hq2 hl2 hk2 ⊢
  have hlt:=h2.lts
  have hcl:c < n:=by have:=hlt c (ai.2 (.inl rfl)); omega
  have hcg:s2.get c = _:=(ck (hk2 c hcl)).trans h2.get
  have hlen:=jf (L:=L1) (Qs:=Q') cw h2.l64 h2.q16
  obtain ⟨y,hy⟩:∃ y:QL,y = ⟨n + 1,n,x.g,x.L⟩:=⟨_,rfl⟩
  have hcells:(L1.map ptrO++(Q'.map ptrQ++[AV.map cw])).set (64 + i) (AV.ptr (n + 1) 0) = L1.map ptrO++((Q'.set i y).map ptrQ++[.map cw]):=by
   have a1:=h2.l64
   have a2:=h2.q16
   rw [List.set_append,if_neg (by rw [List.length_map]; omega),List.length_map,a1,Nat.add_sub_cancel_left,List.set_append,if_pos (by rw [List.length_map]; omega),List.map_set,hy]; rfl
  simp (config:=KF) (disch:=omega) only [bZ,ksB,aJ,bg,bD,aK,cB,bS,nstB,bE,g7,fI,iD,ff,ez,gy,fq,my,gA,ja,iv,al,ah,addA,eJ,List.nil_append,List.cons_append,↓reduceIte,Nat.reduceEqDiff,Nat.reduceLeDiff,reduceCtorEq,af,aa,hcg,hlen,hcells]
  obtain ⟨E,hE⟩:∃ E,E = s2.set c (L1.map ptrO++((Q'.set i y).map ptrQ++[.map cw])):=⟨_,rfl⟩
  rw [← hE]
  have hEl:E.boxes.length = n + 2:=by rw [hE,du,hl2]
  have hEat:∀ b,b≠c→E.boxes[b]? = s2.boxes[b]?:=fun b b1=>by rw [hE,bP b1]
  have hEg:E.get c = some (L1.map ptrO++((Q'.set i y).map ptrQ++[.map cw])):=by rw [hE]; exact aG (by omega)
  have hkE:Kp s E (c::y.ids):=⟨by omega,fun b b1 b2=>by
   have:b≠c:=fun e=>b2 (by simp [e])
   rw [hEat b this,hk2 b (by omega)]⟩
  have hyi:∀ b ∈ y.ids,n≤b:=fun b hb=>by
   rw [hy] at hb
   simp only [QL.ids,List.mem_cons,List.not_mem_nil,or_false] at hb
   omega
  have hyq:y.is E:=by
   rw [hy]
   exact QL.at (x:=⟨n + 1,n,x.g,x.L⟩) hq2 fun b hb=>hEat b (by
    simp only [QL.ids,List.mem_cons,List.not_mem_nil,or_false] at hb
    omega)
  have hslot:=h2.qslot (y:=y) hi hkE (fun b hb=>by have:=hyi b hb; omega) hEg hyq fun b hb=>by have:=hyi b hb; omega
  refine hK2 (i + 1,Q'.set i y,E) _ ⟨by simp only; omega,hslot,fun j x' y' hj hx' hy'=>?_,⟨by have:=h4.1; simp only; omega,fun b b1 _=>?_⟩,fun b hb=>?_⟩ (by simp only; omega) (Sf.le_refl _)
  ·simp only at hj hy'
   rw [List.getElem?_set] at hy'
   by_cases e:i = j
   ·subst e
    rw [if_pos rfl,if_pos (by have:=h2.q16; omega)] at hy'
    cases hy'
    rw [hx] at hx'
    cases hx'
    rw [hy]
    exact ⟨rfl,rfl⟩
   ·rw [if_neg e] at hy'
    exact h3 j x' y' (by omega) hx' hy'
  ·have hcb:=h5 c (ai.2 (.inl rfl))
   have:=h4.1
   simp only
   rw [hEat b (by omega),hk2 b (by omega)]
   exact h4.2 b b1 (by simp)
  ·rcases oJ hb with hb | hb
   ·exact h5 b hb
   ·have:=hyi b hb
    have:=h4.1
    omega
 ·obtain rfl:i = 16:=by omega
  clear hK2
  simp (config:=KF) (disch:=omega) only [bZ,↓reduceIte,Nat.reduceEqDiff,Int.reduceLT,reduceCtorEq]
  refine hKe _ _ _ ?_
  exact hK s Q' h2 (fun i x y hx hy=>h3 i x y (by have:=(List.getElem?_eq_some_iff.1 hx).1; omega) hx hy) h4 h5

theorem hcopy_map (hh:HubIs st h wid L Qs M) (hM:∀ e ∈ M,e.2.data.length≤100000∧(e.2.nl = true→e.2.data = [])) {c cw:Nat} {s0:St} {L1:List (Option SL)} {Q1:List QL} (hk0:Kp st s0 []) (hc0:HubIs s0 c cw L1 Q1 []) (hf0:∀ b ∈ ba c cw L1 Q1,st.boxes.length≤b) {K:Exit→Sf→St→Prop}
  (hK:∀ s' M',HubIs s' c cw L1 Q1 M'→(∀ t,aR t M' = aR t (cpM M))→Kp st s' []→(∀ b ∈ ba c cw L1 Q1,st.boxes.length≤b)→K (.exit 4) ⟨[(3,.ptr c 0)],[]⟩ s') :
  aC Go.Proofs.Try.prog id false f19_52 ⟨[(3,.ptr c 0),(59,.mit (some wid) (st.getB wid).2 [] (st.getB wid).2)],[]⟩ s0 K:=by
 have hms:=hh.mp
 have hlw:=hms.lt
 have hB0:s0.getB wid = st.getB wid:=mz (hk0.2 wid hlw (by simp))
 rw [f19_52w]
 refine a8 (A:=List Nat×Nat×List (Int×WE)×St) (fun a=>left (st.getB wid).1 a.1) (fun a=>⟨[(3,.ptr c 0),(59,.mit (some wid) (st.getB wid).2 a.1 a.2.1)],[]⟩) (fun a=>a.2.2.2)
  (fun a=>Cpd (cpM M) a.2.2.1 (st.getB wid).1 a.1∧HubIs a.2.2.2 c cw L1 Q1 a.2.2.1∧Kp st a.2.2.2 []) ([],(st.getB wid).2,[],s0) ⟨.nil _ _,hc0,hk0⟩ (Sf.le_refl _) rfl ?_
 rintro ⟨seen,stp,M',s⟩ ⟨h1,h2,h3⟩ K2 hK2 hKe hKr
 simp only at h1 h2 h3
 dsimp only
 have hB:s.getB wid = st.getB wid:=mz (h3.2 wid hlw (by simp))
 have hms':MapIs s wid .i64 weAV M:=hms.at (h3.2 wid hlw (by simp))
 have hcg:=h2.get
 have hcw:=jA (L:=L1) (Qs:=Q1) cw h2.l64 h2.q16
 rw [← hB]
 simp (config:=KF) (disch:=omega) only [bZ,aW,↓reduceIte,Nat.reduceEqDiff]
 refine nxt_step hms' (fun i hi k hk hn=>?_) fun hd=>?_
 ·have hMi:=hM M[i] (List.getElem_mem hi)
  have hdv:=dt_dv s hMi.2
  have hcl:=n0 s hdv hMi.1
  have hwd:=kN M[i].2
  obtain ⟨v1,v2,v3,v4,v5,v6,v7,v8⟩:=hdv.facts
  simp (config:=KF) (disch:=omega) only [bZ,aW,↓reduceIte,Nat.reduceEqDiff]
  refine ent_step hms' hi hk ?_
  rw [bt]
  have hsn:=h1.snoc (m:=cpM M) (by rw [cpM_keys]; exact hms.nd) hms.bn (i:=i) (b:=k) (by unfold cpM; rw [List.length_map]; exact hi) (by rw [← hB]; exact hk)
  have hget:(cpM M)[i]'(by unfold cpM; rw [List.length_map]; exact hi) = (M[i].1,cpW M[i].2):=by simp [cpM]
  rw [hget] at hsn
  simp only at hsn
  unfold weAV
  generalize M[i] = e at hdv hcl hsn v1 v2 v3 v4 v5 v6 v7
  obtain ⟨t,⟨tp,tk,d,nl⟩⟩:=e
  simp only at hdv hcl hsn v1 v2 v3 v4 v5 v6 v7 ⊢
  simp (config:=KF) (disch:=omega) only [bZ,ce,dH,al,ah,addA,ae,id,bu,bA,cY,↓reduceIte,Nat.reduceEqDiff,Nat.reduceAdd,Nat.reduceLeDiff,af,aa,v1,v2,v4,hcg,hcw]
  refine eN (vs:=[dtAV d nl]) (by simp [v1]) e_f42 hcl (by simp [v5]) ?_
  simp (config:=KF) (disch:=omega) only [bZ,qr,cx,l6,bstV,aV,↓reduceIte,Nat.reduceEqDiff,Nat.reduceAdd,Nat.reduceLeDiff,af,aa]
  refine e6 h2.mp (b:=cpW ⟨tp,tk,d,nl⟩) rfl rfl fun s' hm' ho'=>?_
  simp (config:=KF) (disch:=omega) only [bZ,↓reduceIte,Nat.reduceEqDiff]
  rw [hB] at hk ⊢
  have hcwl:=hf0 cw (ai.2 (.inr (.inl rfl)))
  refine hK2 (seen++[k],_,updP t (cpW ⟨tp,tk,d,nl⟩) M',s') _ ⟨hsn,h2.setMap ho' hm',⟨by have:=h3.1; have:=ho'.1; simp only; omega,fun b b1 _=>?_⟩⟩ (left_lt (List.mem_of_getElem? hk) hn) (Sf.le_refl _)
  simp only
  rw [ho'.2 b (by simp; omega)]
  exact h3.2 b b1 (by simp)
 ·simp (config:=KF) (disch:=omega) only [bZ,↓reduceIte,Nat.reduceEqDiff]
  refine hKe _ _ _ ?_
  rw [hB] at hd
  exact hK s M' h2 (h1.all (by rw [cpM_keys]; exact hms.nd) (by unfold cpM; rw [List.length_map]; exact hms.bl) hd) h3 hf0
end
end Go.Fx.YtbdjfccgkdgbfaaFx

