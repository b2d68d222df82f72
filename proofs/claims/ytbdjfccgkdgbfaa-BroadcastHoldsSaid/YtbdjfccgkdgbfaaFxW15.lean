/- What the functions that the statement reaches compute: part 15. -/
import Derived.Test.YtbdjfccgkdgbfaaFxW14
namespace Go.Fx.YtbdjfccgkdgbfaaFx
open Go Go.Fx
attribute [local irreducible] aC runI au aH

set_option maxRecDepth 100000
set_option maxHeartbeats 4000000

/-! Read, Leave, Cancel. -/
theorem pL {L:List (Option SL)} {subs:List Sb} {n:Nat} (hl:L.length = 64) (h:SubR (L.map sbO) subs n) (m:Int) :
    (atH L m = none∧atR m subs = none)∨∃ (k:Nat) (x:SL),m = (k:Int)∧k < 64∧L[k]? = some (some x)∧(L.map sbO)[k]? = some (some x.S)∧atH L m = some x∧atR m subs = some x.S:=by
  unfold atH
  by_cases h1:m < 0
  · rw [if_pos h1]
    exact .inl ⟨rfl,h.at_out (.inl h1)⟩
  obtain ⟨k,rfl⟩:∃ k:Nat,m = (k:Int):=⟨m.toNat,by omega⟩
  rw [if_neg h1,Int.toNat_natCast]
  by_cases h2:k < 64
  · have hk:L[k]? = some L[k]:=List.getElem?_eq_getElem (by omega)
    rw [hk]
    have hm:(L.map sbO)[k]? = some (sbO L[k]):=by rw [List.getElem?_map,hk]; rfl
    cases hx:L[k] with
    | none =>
      rw [hx] at hm
      exact .inl ⟨rfl,h.at_none hm⟩
    | some x =>
      rw [hx] at hm hk
      exact .inr ⟨k,x,rfl,h2,hk,hm,rfl,h.at_some hm⟩
  · rw [List.getElem?_eq_none (by omega)]
    exact .inl ⟨rfl,h.at_out (.inr (by rw [List.length_map]; omega))⟩

theorem nv {st:St} {h wid n:Nat} {R:HR} {F:List Nat} (hh:HubR st h wid n R F) (hF:∀ x ∈ F,x < st.boxes.length) (m:Int) (hn:n < 900000) :
    al Go.Proofs.Try.prog n_f33 [.ptr h 0,.lit (.int .i64 m)] st (fun v st'=>∃ w,v = .tup [w,itsV (bD m R).2.2.1,.lit (.int .i64 (bD m R).2.2.2)]∧MB w st' (BB (bD m R).2.1)∧(∀ x ∈ ah w,st.boxes.length≤x)∧HubR st' h wid (n + 64) (bD m R).1 F∧Kp st st' F):=by
  obtain ⟨L,Qs,M,W,j1,j2,j3,j4,j5⟩:=hh.ex
  refine ao hmix k_f33 rfl rfl fun Q hQ=>?_
  unfold aFun c_f33
  have stay:∀ b,bD m R = (R,[],[],b)→Q (.tup [.lit (.slice none 0 0),.lit (.slice none 0 0),.lit (.int .i64 b)]) st:=fun b hr=>by
    refine hQ _ _ ⟨.lit (.slice none 0 0),?_⟩
    rw [hr]
    exact ⟨rfl,.inl ⟨rfl,rfl⟩,(fun _ q=>by cases q),hh.mono (by omega) (fun _ h=>h),Kp.refl _ _⟩
  simp (config:=KF) (disch:=omega) only [bZ,id,↓reduceIte,Nat.reduceEqDiff,reduceCtorEq]
  refine am rfl e_f24 (dF j1) rfl ?_
  simp (config:=KF) (disch:=omega) only [bZ,id,↓reduceIte,Nat.reduceEqDiff,reduceCtorEq]
  refine am rfl e_f31 (j9 j1 m) rfl ?_
  rcases pL j1.l64 j2 m with ⟨a1,a2⟩ | ⟨k,x,rfl,hk,hx,hxs,a1,a2⟩
  · rw [a1]
    have hs:=stay 9 (by unfold bD; rw [a2])
    have hp:ptrO none = .lit (.pointer none):=rfl
    simp (config:=KF) (disch:=omega) only [bZ,retI,cA,bq,aY,↓reduceIte,Nat.reduceEqDiff,reduceCtorEq,hp]
    exact hs
  · rw [a1]
    have hp:ptrO (some x) = .ptr x.s 0:=rfl
    have hxi:=j1.sub k x hx
    have hg:=SbIs.get hxi
    obtain ⟨o1,o2,o3,o4,o5⟩:=j2.ok k x.S hxs
    have hxu:=SbIs.use hxi
    have hul:=lQ x.S.msgs
    cases hm:x.S.msgs with
    | nil =>
      have hs:=stay 16 (by unfold bD; rw [a2]; simp only [hm])
      rw [hm] at hg
      simp (config:=KF) (disch:=omega) only [bZ,retI,aj,cA,bq,aY,addA,aa,↓reduceIte,Nat.reduceEqDiff,reduceCtorEq,hp,hg]
      exact hs
    | cons p ps =>
      rw [hm,List.length_cons] at hul
      have hz:¬ (((x.S.msgs.length:Nat):Int) = 0):=by rw [hm,List.length_cons]; omega
      simp (config:=KF) (disch:=omega) only [bZ,aj,cA,bq,aY,addA,aa,id,↓reduceIte,Nat.reduceEqDiff,reduceCtorEq,hp,hg,hz]
      refine ap rfl e_f50 (nA hxi hm) rfl fun w s1 hr=>?_
      obtain ⟨hmb,⟨fr',hx1⟩,hk1,hw⟩:=hr
      obtain ⟨w1,w2,w3,w4,w5,w6,w7,w8⟩:=hmb.facts
      obtain ⟨y,hy⟩:∃ y:SL,y = ⟨x.s,x.r,x.b,fr',{ x.S with msgs:=ps }⟩:=⟨_,rfl⟩
      obtain ⟨l1,l2⟩:=j1.setSub (y:=y) hx hk1 (by rw [hy]; exact hx1) (by rw [hy]; rfl) (by rw [hy])
      obtain ⟨i,hi⟩:∃ i:Nat,x.S.topic = (i:Int):=⟨x.S.topic.toNat,by omega⟩
      have hR1:HubR s1 h wid n ⟨modR (k:Int) fY R.subs,R.ws⟩ F:=⟨⟨L.set k (some y),Qs,M,W,l1,by
        rw [List.map_set,show sbO (some y) = some { x.S with msgs:=ps } by rw [hy]; rfl]
        refine j2.set hxs ?_ ⟨rfl,?_,rfl,rfl,rfl⟩
        · unfold fY; rw [hm]; rfl
        · simp only
          rw [hm,List.length_cons] at o2; omega,j3,j4,fun b hb=>j5 (l2 hb)⟩⟩
      have hg1:=hx1.get
      rw [hi] at hg1
      simp only at hg1
      simp (config:=KF) (disch:=omega) only [bZ,aj,addA,aa,id,↓reduceIte,Nat.reduceEqDiff,reduceCtorEq,hg1,w1]
      refine ap rfl e_f32 (nr hR1 (i:=i) (by omega) hn) rfl fun v s2 hr=>?_
      obtain ⟨rfl,hh2,hk2⟩:=hr
      simp only at hh2
      have hrd:bD (k:Int) R = ((onR (i:Int) R.ws.length ⟨modR (k:Int) fY R.subs,R.ws⟩).1,p,(onR (i:Int) R.ws.length ⟨modR (k:Int) fY R.subs,R.ws⟩).2,0):=by
        unfold bD
        rw [a2]
        simp only [hm,hi]
      rw [hrd] at hQ
      have hit:∀ l,(itsV l).dis = itsV l∧(itsV l).own2 = itsV l∧(itsV l).own1 = itsV l∧(itsV l).noL = true:=fun l=>by
        unfold itsV; split <;> exact ⟨rfl,rfl,rfl,rfl⟩
      simp only at hQ
      generalize (onR (i:Int) R.ws.length ⟨modR (k:Int) fY R.subs,R.ws⟩) = O at hQ hh2
      obtain ⟨t1,t2,t3,t4⟩:=hit O.2
      simp (config:=KF) (disch:=omega) only [bZ,retI,↓reduceIte,Nat.reduceEqDiff,reduceCtorEq,w1,w5,t1,t4]
      have hxid:∀ b ∈ x.ids,b ∈ F:=fun b hb=>j5 (ai.2 (.inr (.inr (.inl ⟨k,x,hx,hb⟩))))
      refine hQ _ _ ⟨w,rfl,hmb.at fun b hb=>hk2.2 b (hmb.lt b hb) fun q=>?_,hw,hh2,(Kp.wide hk1 hxid).trans hk2 fun b hb=>.inl hb⟩
      have:=hF b q
      have:=hw b hb
      omega
end Go.Fx.YtbdjfccgkdgbfaaFx

