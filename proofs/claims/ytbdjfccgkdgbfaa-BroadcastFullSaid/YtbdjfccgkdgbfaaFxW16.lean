/- What the functions that the statement reaches compute: part 16. -/
import Derived.Test.YtbdjfccgkdgbfaaFxW15
namespace Go.Fx.YtbdjfccgkdgbfaaFx
open Go Go.Fx
attribute [local irreducible] aC runI aD bf

set_option maxRecDepth 100000
set_option maxHeartbeats 4000000

theorem er (l:List Nat):(itsV l).dis = itsV l∧(itsV l).own2 = itsV l∧(itsV l).own1 = itsV l∧(itsV l).noL = true:=by
  unfold itsV; split <;> exact ⟨rfl,rfl,rfl,rfl⟩
theorem HubIs.sne {st:St} {h wid:Nat} {L:List (Option SL)} {Qs:List QL} {M:List (Int×WE)} (hh:HubIs st h wid L Qs M) {k:Nat} {x:SL} (hx:L[k]? = some (some x)):x.s≠h:=by
  obtain ⟨o,o1,o2,o3,o4⟩:=hh.sep
  intro e
  have:=o1 k x hx x.s (by simp [SL.ids])
  rw [e] at this; omega

theorem leave_calls {st:St} {h wid n:Nat} {R:HR} {F:List Nat} (hh:HubR st h wid n R F) (m:Int) (hn:n < 900000) :
    ak Go.Proofs.Try.prog n_f11 [.ptr h 0,.lit (.int .i64 m)] st (fun v st'=>v = .tup [itsV (dP m R).2.1,.lit (.int .i64 (dP m R).2.2)]∧HubR st' h wid (n + 64) (dP m R).1 F∧Kp st st' F):=by
  obtain ⟨L,Qs,M,W,j1,j2,j3,j4,j5⟩:=hh.ex
  refine am hmix k_f11 rfl rfl fun Q hQ=>?_
  unfold aFun c_f11
  have stay:∀ b,dP m R = (R,[],b)→Q (.tup [.lit (.slice none 0 0),.lit (.int .i64 b)]) st:=fun b hr=>by
    refine hQ _ _ ?_
    rw [hr]
    exact ⟨rfl,hh.mono (by omega) (fun _ h=>h),Kp.refl _ _⟩
  simp (config:=KF) (disch:=omega) only [bZ,id,↓reduceIte,Nat.reduceEqDiff,reduceCtorEq]
  refine ao rfl e_f24 (dR j1) rfl ?_
  simp (config:=KF) (disch:=omega) only [bZ,id,↓reduceIte,Nat.reduceEqDiff,reduceCtorEq]
  refine ao rfl e_f31 (jv j1 m) rfl ?_
  rcases oW j1.l64 j2 m with ⟨a1,a2⟩ | ⟨k,x,rfl,hk,hx,hxs,a1,a2⟩
  · rw [a1]
    have hs:=stay 9 (by unfold dP; rw [a2])
    have hp:ptrO none = .lit (.pointer none):=rfl
    simp (config:=KF) (disch:=omega) only [bZ,retI,cx,a9,aM,↓reduceIte,Nat.reduceEqDiff,reduceCtorEq,hp]
    exact hs
  · rw [a1]
    have hp:ptrO (some x) = .ptr x.s 0:=rfl
    have hxi:=j1.sub k x hx
    have hgx:=SbIs.get hxi
    have hg:=j1.get
    have hh0:h < st.boxes.length:=bj hg
    obtain ⟨o1,o2,o3,o4,o5⟩:=j2.ok k x.S hxs
    have hne:=j1.sne hx
    have hlen:=oZ (L:=L) (Qs:=Qs) wid j1.l64 j1.q16
    obtain ⟨i,hi⟩:∃ i:Nat,x.S.topic = (i:Int):=⟨x.S.topic.toNat,by omega⟩
    have hcells:(L.map ptrO++(Qs.map ptrQ++[AV.map wid])).set k (AV.lit (.pointer none)) = (L.set k none).map ptrO++(Qs.map ptrQ++[AV.map wid]):=by
      rw [List.set_append,if_pos (by rw [List.length_map]; have:=j1.l64; omega),List.map_set]; rfl
    simp (config:=KF) (disch:=omega) only [bZ,kI,aj,aQ,cx,a9,aM,ixA,addA,ag,oF,oG,↓reduceIte,Nat.reduceEqDiff,Nat.reduceLeDiff,reduceCtorEq,aW,hp,hg,hlen]
    rw [hcells]
    obtain ⟨s1,hs1⟩:∃ s1,s1 = st.set h ((L.set k none).map ptrO++(Qs.map ptrQ++[AV.map wid])):=⟨_,rfl⟩
    rw [← hs1]
    have hk1:Kp st s1 [h]:=by rw [hs1]; exact (Oth.set st h _ (S:=[h]) (by simp)).kp fun _ q=>q
    have hsl:=j1.slot (y:=none) hk (F:=[]) hk1 (fun _ q=>by cases q) (by rw [hs1]; exact ar hh0) (fun _ q=>by cases q)
    have hsub:∀ b ∈ bJ h wid (L.set k none) Qs,b ∈ F:=fun b hb=>by
      refine j5 ?_
      rcases ah.1 hb with hb | hb | ⟨j,y,hy,hb⟩ | hb
      · exact ah.2 (.inl hb)
      · exact ah.2 (.inr (.inl hb))
      · rw [List.getElem?_set] at hy
        split at hy
        · split at hy <;> cases hy
        · exact ah.2 (.inr (.inr (.inl ⟨j,y,hy,hb⟩)))
      · exact ah.2 (.inr (.inr (.inr hb)))
    have hR1:HubR s1 h wid n ⟨f9 (k:Int) R.subs,R.ws⟩ F:=⟨⟨L.set k none,Qs,M,W,hsl,by rw [List.map_set]; exact j2.drop hxs,j3,j4,hsub⟩⟩
    have hgx1:s1.get x.s = _:=(congrArg (fun z:St=>z.get x.s) hs1).trans ((cy (Ne.symm hne)).trans hgx)
    rw [hi] at hgx1
    simp (config:=KF) (disch:=omega) only [bZ,id,↓reduceIte,Nat.reduceEqDiff,reduceCtorEq,hgx1]
    refine aq rfl e_f32 (on_calls hR1 (i:=i) (by omega) hn) rfl fun v s2 hr=>?_
    obtain ⟨rfl,hh2,hk2⟩:=hr
    have hrd:dP (k:Int) R = ((onR (i:Int) R.ws.length ⟨f9 (k:Int) R.subs,R.ws⟩).1,(onR (i:Int) R.ws.length ⟨f9 (k:Int) R.subs,R.ws⟩).2,0):=by
      unfold dP
      rw [a2]
      simp only [hi]
    rw [hrd] at hQ
    simp only at hQ hh2
    generalize (onR (i:Int) R.ws.length ⟨f9 (k:Int) R.subs,R.ws⟩) = O at hQ hh2
    obtain ⟨t1,t2,t3,t4⟩:=er O.2
    simp (config:=KF) (disch:=omega) only [bZ,retI,↓reduceIte,Nat.reduceEqDiff,reduceCtorEq,t1,t4]
    exact hQ _ _ ⟨rfl,hh2,(Kp.wide hk1 (F':=F) fun b hb=>j5 (ah.2 (.inl (by simpa using hb)))).trans hk2 fun b hb=>.inl hb⟩

end Go.Fx.YtbdjfccgkdgbfaaFx

