/- What the functions that the statement reaches compute: part 13. -/
import Derived.Test.YtbdjfccgkdgbfaaFxW12
namespace Go.Fx.YtbdjfccgkdgbfaaFx
open Go Go.Fx
attribute [local irreducible] aC runI au aH

set_option maxRecDepth 100000
set_option maxHeartbeats 4000000

/-! Publish. -/
theorem pK {i:Int} {W:WL} {ws:List WW} (h:W.map cZ = ws):((popR i ws).isSome = true↔0 < (qOf i W).length):=by
  have hp:=jm i W
  rw [h] at hp
  cases hw:popW i W with
  | none =>
    rw [hw] at hp
    simp only at hp
    rw [hp,kT i hw]
    simp
  | some q =>
    obtain ⟨e,r⟩:=q
    rw [hw] at hp
    simp only at hp
    obtain ⟨A,B,h1,h2,h3,h4⟩:=kU i hw
    rw [hp,h1,fA,d8,if_pos h3]
    simp only [Option.isSome_some,List.length_append,List.length_cons,List.length_nil,true_iff]
    omega

theorem kQ {st:St} {h wid n:Nat} {R:HR} {F:List Nat} (hh:HubR st h wid n R F) (topic:Int) {v:AV} {p:List UInt8} (hv:DV v st p) (hp:p.length≤100000) (hvn:∀ b ∈ ah v,b ∉ F) (hn:n < 900000) :
    al Go.Proofs.Try.prog n_f28 [.ptr h 0,.lit (.int .i64 topic),v] st (fun w st'=>w = .lit (.int .i64 (rPub topic p R).2)∧HubR st' h wid (n + 1) (rPub topic p R).1 F∧Kp st st' F):=by
  obtain ⟨L,Qs,M,W,j1,j2,j3,j4,j5⟩:=hh.ex
  obtain ⟨v1,v2,v3,v4,v5,v6,v7,v8⟩:=hv.facts
  refine ao hmix k_f28 rfl rfl fun Q hQ=>?_
  unfold aFun c_f28
  have stay:∀ s b,Kp st s []→rPub topic p R = (R,b)→Q (.lit (.int .i64 b)) s:=fun s b hk hr=>by
    refine hQ _ _ ?_
    rw [hr]
    exact ⟨rfl,(hh.kp hk (fun _ _ q=>by cases q)).mono (Nat.le_succ n) (fun _ h=>h),Kp.wide hk (fun _ q=>by cases q)⟩
  simp (config:=KF) (disch:=omega) only [bZ,id,↓reduceIte,Nat.reduceEqDiff,Nat.reduceAdd,reduceCtorEq,v1]
  refine am rfl e_f24 (dF j1) rfl ?_
  simp (config:=KF) (disch:=omega) only [bZ,id,↓reduceIte,Nat.reduceEqDiff,reduceCtorEq]
  refine am rfl e_f25 (dP topic 16 st) rfl ?_
  by_cases hbad:topic < 0∨16≤topic
  · have hs:=stay st 2 (Kp.refl _ _) (by unfold rPub; rw [if_pos hbad])
    have w1:decide (0≤topic∧topic < 16) = false:=decide_eq_false (by omega)
    simp (config:=KF) (disch:=omega) only [bZ,aI,retI,unA,↓reduceIte,Nat.reduceEqDiff,reduceCtorEq,w1]
    exact hs
  obtain ⟨i,rfl⟩:∃ i:Nat,topic = (i:Int):=⟨topic.toNat,by omega⟩
  have hi:i < 16:=by omega
  have w1:decide (0≤(i:Int)∧(i:Int) < 16) = true:=decide_eq_true (by omega)
  by_cases hlong:1024 < p.length
  · have hs:=stay st 5 (Kp.refl _ _) (by unfold rPub; rw [if_neg hbad,if_pos hlong])
    simp (config:=KF) (disch:=omega) only [bZ,aI,retI,unA,dk,↓reduceIte,Nat.reduceEqDiff,reduceCtorEq,dA,aP,v1,v8]
    exact hs
  have hg:=j1.get
  have h64:=j1.l64
  obtain ⟨x,hx⟩:∃ x,Qs[i]? = some x:=⟨_,List.getElem?_eq_getElem (by have:=j1.q16; omega)⟩
  obtain ⟨hxL,hxg⟩:=j3.que i x hx
  obtain ⟨rq,hrq⟩:=hub_q (L:=L) wid h64 hx
  have hps:=pK (i:=(i:Int)) j4
  rw [← hxL] at hps
  have hql:x.L.length≤64:=by rw [hxL]; exact Nat.le_trans (pS _ _) j3.len
  simp (config:=KF) (disch:=omega) only [bZ,gv,aj,addA,aa,unA,dk,id,↓reduceIte,Nat.reduceEqDiff,reduceCtorEq,dA,v1,v8,hg,hrq]
  refine am rfl e_f44 (qlen_pure (j1.que i x hx)) rfl ?_
  by_cases hbl:0 < x.L.length
  · have hs:=stay st 16 (Kp.refl _ _) (by unfold rPub; rw [if_neg hbad,if_neg hlong,if_pos (.inl (hps.2 hbl))])
    simp (config:=KF) (disch:=omega) only [bZ,aI,retI,bf,AI.dst,ba,dk,↓reduceIte,Nat.reduceEqDiff,reduceCtorEq,ej]
    exact hs
  simp (config:=KF) (disch:=omega) only [bZ,AI.dst,dk,id,↓reduceIte,Nat.reduceEqDiff,reduceCtorEq,cG,v1]
  refine ap (vs:=[.ptr h 0,.lit (.int .i64 (i:Nat)),v]) (by simp [v1,eF,eu]) e_f45 (oS j1 i hv hp) (by simp [v5,d5,eG]) fun w s2 hr=>?_
  obtain ⟨rfl,hk2⟩:=hr
  have k1:HubIs s2 h wid L Qs M:=j1.kp hk2 fun _ _ q=>by cases q
  rw [pR,j2.eq]
  cases hc:canR (i:Int) p.length R.subs with
  | false =>
    have hs:=stay s2 16 hk2 (by unfold rPub; rw [if_neg hbad,if_neg hlong,if_pos (.inr hc)])
    simp (config:=KF) (disch:=omega) only [bZ,aI,retI,AI.dst,unA,↓reduceIte,Nat.reduceEqDiff,reduceCtorEq]
    exact hs
  | true =>
    have hrp:rPub (i:Int) p R = (⟨pubR i p R.subs,R.ws⟩,0):=by
      unfold rPub
      rw [if_neg hbad,if_neg hlong,if_neg]
      rw [hps,hc]; simp only [Bool.true_eq_false,or_false]; exact hbl
    rw [hrp] at hQ
    simp (config:=KF) (disch:=omega) only [bZ,AI.dst,unA,id,↓reduceIte,Nat.reduceEqDiff,reduceCtorEq,v1]
    have hpub:=iY k1 i (DV.kp hv hk2 fun _ _ q=>by cases q) (by omega) (fun b hb q=>hvn b hb (j5 q)) (fun j z hz=>by
      have:=(j2.ok j z.S (by rw [List.getElem?_map,hz]; rfl)).2.1
      omega)
    refine ap (vs:=[.ptr h 0,.lit (.int .i64 (i:Nat)),v]) (by simp [v1,eF,eu]) e_f46 hpub (by simp [v5,d5,eG]) fun w s4 hr=>?_
    obtain ⟨L4,m1,m2,m3,m4⟩:=hr
    simp (config:=KF) (disch:=omega) only [bZ,retI,↓reduceIte,Nat.reduceEqDiff,reduceCtorEq]
    exact hQ _ _ ⟨rfl,⟨⟨L4,Qs,M,W,m1,canL_pub m2 j2,j3.mono (Nat.le_succ n),j4,fun b hb=>j5 (m4 hb)⟩⟩,(Kp.wide hk2 fun _ q=>by cases q).trans m3 fun b hb=>.inl (j5 hb)⟩

/-! A clone. -/
theorem clone_pure (st:St) {v:AV} {p:List UInt8} (hv:DV v st p) (hp:p.length≤100000):aG Go.Proofs.Try.prog n_f42 [v] st (.sl false 1 (BB p)):=by
  obtain ⟨v1,v2,v3,v4,v5,v6,v7,v8⟩:=hv.facts
  have hsrc:∀ K:List AV→Prop,K (BB p)→(srcA st 1 v).wp K:=fun K hK=>DV.src hv hK
  have hnb:(AV.sl false 1 (BB p)).NB:=.sl _ _ _ fun c hc=>by
    obtain ⟨x,_,rfl⟩:=List.mem_map.1 hc
    exact .lit _
  rcases hv with ⟨rfl,rfl⟩ | rfl | ⟨bi,cap,r,rfl,hg,h1,h2⟩
  · refine pure_lev hmix k_f42 rfl rfl hnb (by simp [nb_lit]) (fun Q hQ=>?_) st
    unfold aFun c_f42
    simp (config:=KF) (disch:=omega) only [bZ,retI,bu,mM,o_x,aD,nilX_nil,cA,bq,aY,↓reduceIte,Nat.reduceEqDiff,reduceCtorEq]
    exact hQ _ _ (.nil _ _)
  · refine pure_lev hmix k_f42 rfl rfl hnb (by simp; exact hnb) (fun Q hQ=>?_) st
    unfold aFun c_f42
    cases p with
    | nil =>
      simp (config:=KF) (disch:=omega) only [bZ,bu,o_x,aD,nilX_empty,↓reduceIte,Nat.reduceEqDiff,reduceCtorEq,BB_nil]
      intro b
      cases b
      · simp (config:=KF) (disch:=omega) only [bZ,retI,d4,eg,bslV,e9,List.replicate_zero,cU,srcA,cb,mR,mY,List.nil_append,↓reduceIte,Nat.reduceEqDiff,reduceCtorEq,cz]
        exact hQ _ _ (.own _ _)
      · simp (config:=KF) (disch:=omega) only [bZ,retI,↓reduceIte,Nat.reduceEqDiff,reduceCtorEq]
        exact hQ _ _ (.nil _ _)
    | cons x r =>
      rw [List.length_cons] at hp
      simp (config:=KF) (disch:=omega) only [bZ,retI,bu,mM,d4,eg,o_x,bslV,e9,aD,nilX_cons,cA,bq,aY,List.isEmpty_cons,List.replicate_zero,cU,srcA,cb,mR,mY,List.nil_append,↓reduceIte,Nat.reduceEqDiff,reduceCtorEq,aK,BB_dis,pz,cz]
      exact hQ _ _ (.own _ _)
  · refine aG.weak (v:=.sl true 1 (BB p)) (aV hmix k_f42 rfl rfl fun Q hQ=>?_) (mh _) (.own _ _)
    unfold aFun c_f42
    simp (config:=KF) (disch:=omega) only [bZ,retI,bu,mM,d4,eg,o_x,bslV,e9,aD,nilX_bs,cA,bq,aY,List.replicate_zero,cU,cb,mR,List.nil_append,↓reduceIte,Nat.reduceEqDiff,reduceCtorEq]
    rw [Res.wp_bind]
    refine hsrc _ ?_
    simp (config:=KF) (disch:=omega) only [bZ,mY,aK,BB_dis,cz]
    exact hQ _
end Go.Fx.YtbdjfccgkdgbfaaFx

