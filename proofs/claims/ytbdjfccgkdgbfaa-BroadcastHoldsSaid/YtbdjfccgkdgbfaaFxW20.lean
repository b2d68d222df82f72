/- What the functions that the statement reaches compute: part 20. -/
import Derived.Test.YtbdjfccgkdgbfaaFxW19
namespace Go.Fx.YtbdjfccgkdgbfaaFx
open Go Go.Fx
attribute [local irreducible] aC runI au aH

set_option maxRecDepth 100000
set_option maxHeartbeats 4000000

/-! A call of the program. -/
structure RO where
  n:Int
  done:Bool
  data:List UInt8
  items:List Nat
  err:Int
def rDo (w t p n o:Int) (d:List UInt8) (R:HR):HR×RO :=
  if w = 0 then ((rSub p n o R).1,⟨(rSub p n o R).2.1,false,[],[],(rSub p n o R).2.2⟩)
  else if w = 1 then ((rPub p d R).1,⟨0,false,[],[],(rPub p d R).2⟩)
  else if w = 2 then ((dl t p d R).1,⟨0,(dl t p d R).2.1,[],[],(dl t p d R).2.2⟩)
  else if w = 3 then ((bD n R).1,⟨0,false,(bD n R).2.1,(bD n R).2.2.1,(bD n R).2.2.2⟩)
  else if w = 4 then ((eB n R).1,⟨0,false,[],(eB n R).2.1,(eB n R).2.2⟩)
  else ((cY t R).1,⟨0,false,[],(cY t R).2.1,(cY t R).2.2⟩)

/-- What iL behind a call. -/
def DoK (st st':St) (h wid n:Nat) (F:List Nat) (x:HR×RO) (v:AV):Prop :=
  ∃ dv F',v = resA x.2.n x.2.done dv (itsV x.2.items) x.2.err∧MB dv st' (BB x.2.data)∧(∀ b ∈ ah dv,st.boxes.length≤b)∧(∀ b ∈ ah dv,b ∉ F')∧HubR st' h wid (n + 100) x.1 F'∧Kp st st' F∧∀ b ∈ F',(b ∈ F∨st.boxes.length≤b)∧b < st'.boxes.length
theorem do_calls {st:St} {h wid k:Nat} {R:HR} {F:List Nat} (hh:HubR st h wid k R F) (hF:∀ x ∈ F,x < st.boxes.length) (w t p n o:Int) {v:AV} {d:List UInt8} (hv:DV v st d) (hd:d.length≤100000) (hvn:∀ b ∈ ah v,b ∉ F) (hn:k < 900000) :
    al Go.Proofs.Try.prog n_f13 [.ptr h 0,actA w t p n o v] st (fun x st'=>DoK st st' h wid k F (rDo w t p n o d R) x):=by
  obtain ⟨v1,v2,v3,v4,v5,v6,v7,v8⟩:=hv.facts
  unfold actA
  refine ao hmix k_f13 rfl rfl fun Q hQ=>?_
  unfold aFun c_f13
  unfold rDo at hQ
  have same:∀ (st':St) (x:HR×RO),x.2.data = []→HubR st' h wid (k + 100) x.1 F→Kp st st' F→DoK st st' h wid k F x (resA x.2.n x.2.done (.lit (.slice none 0 0)) (itsV x.2.items) x.2.err):=fun st' x hx h1 h2 =>
    ⟨_,F,rfl,.inl ⟨rfl,by rw [hx]; rfl⟩,fun _ q=>(by cases q),fun _ q=>(by cases q),h1,h2,fun b hb=>⟨.inl hb,Nat.lt_of_lt_of_le (hF b hb) h2.1⟩⟩
  unfold resA at same
  simp (config:=KF) (disch:=omega) only [bZ,eh,o_boxL,addA,aa,da,bJ,ei,cF,↓reduceIte,Nat.reduceEqDiff,Nat.reduceAdd,reduceCtorEq,v2,v4]
  refine br (fun c0=>?_) (fun c0=>?_)
  · rw [if_pos c0] at hQ
    simp (config:=KF) (disch:=omega) only [bZ,addA,aa,id,↓reduceIte,Nat.reduceEqDiff,reduceCtorEq]
    refine ap rfl e_f9 (iE hh p n o) rfl fun x st1 hr=>?_
    obtain ⟨rfl,F',r1,r2,r3⟩:=hr
    generalize rSub p n o R = O at hQ r1
    simp (config:=KF) (disch:=omega) only [bZ,retI,az,addA,aa,aJ,eH,↓reduceIte,Nat.reduceEqDiff,Nat.reduceAdd,Nat.reduceLeDiff,reduceCtorEq]
    refine hQ _ _ ⟨.lit (.slice none 0 0),F',rfl,.inl ⟨rfl,rfl⟩,fun _ q=>(by cases q),fun _ q=>(by cases q),r1.mono (by omega) (fun _ q=>q),r2,r3⟩
  rw [if_neg c0] at hQ
  simp (config:=KF) (disch:=omega) only [bZ,↓reduceIte,Nat.reduceEqDiff,reduceCtorEq]
  refine br (fun c1=>?_) (fun c1=>?_)
  · rw [if_pos c1] at hQ
    simp (config:=KF) (disch:=omega) only [bZ,addA,aa,id,↓reduceIte,Nat.reduceEqDiff,reduceCtorEq,v1]
    refine ap (vs:=[.ptr h 0,.lit (.int .i64 p),v]) (by simp [v1,eF,eu]) e_f28 (kQ hh p hv hd hvn hn) (by simp [v5,d5,eG]) fun x st1 hr=>?_
    obtain ⟨rfl,r1,r2⟩:=hr
    generalize rPub p d R = O at hQ r1
    simp (config:=KF) (disch:=omega) only [bZ,retI,az,addA,aa,aJ,eH,↓reduceIte,Nat.reduceEqDiff,Nat.reduceAdd,Nat.reduceLeDiff,reduceCtorEq]
    exact hQ _ _ (same st1 (O.1,⟨0,false,[],[],O.2⟩) rfl (r1.mono (by omega) (fun _ q=>q)) r2)
  rw [if_neg c1] at hQ
  simp (config:=KF) (disch:=omega) only [bZ,↓reduceIte,Nat.reduceEqDiff,reduceCtorEq]
  refine br (fun c2=>?_) (fun c2=>?_)
  · rw [if_pos c2] at hQ
    simp (config:=KF) (disch:=omega) only [bZ,addA,aa,id,↓reduceIte,Nat.reduceEqDiff,reduceCtorEq,v1]
    refine ap (vs:=[.ptr h 0,.lit (.int .i64 t),.lit (.int .i64 p),v]) (by simp [v1,eF,eu]) e_f29 (nu hh t p hv hd hvn hn) (by simp [v5,d5,eG]) fun x st1 hr=>?_
    obtain ⟨rfl,r1,r2⟩:=hr
    generalize dl t p d R = O at hQ r1
    simp (config:=KF) (disch:=omega) only [bZ,retI,az,addA,aa,aJ,eH,↓reduceIte,Nat.reduceEqDiff,Nat.reduceAdd,Nat.reduceLeDiff,reduceCtorEq]
    exact hQ _ _ (same st1 (O.1,⟨0,O.2.1,[],[],O.2.2⟩) rfl (r1.mono (by omega) (fun _ q=>q)) r2)
  rw [if_neg c2] at hQ
  simp (config:=KF) (disch:=omega) only [bZ,↓reduceIte,Nat.reduceEqDiff,reduceCtorEq]
  refine br (fun c3=>?_) (fun c3=>?_)
  · rw [if_pos c3] at hQ
    simp (config:=KF) (disch:=omega) only [bZ,addA,aa,id,↓reduceIte,Nat.reduceEqDiff,reduceCtorEq]
    refine ap rfl e_f33 (nv hh hF n hn) rfl fun x st1 hr=>?_
    obtain ⟨dv,rfl,hmb,hw,r1,r2⟩:=hr
    generalize bD n R = O at hQ r1 hmb
    obtain ⟨w1,w2,w3,w4,w5,w6,w7,w8⟩:=hmb.facts
    obtain ⟨a1,a2,a3,a4⟩:=cR O.2.2.1
    obtain ⟨a5,a6,a7⟩:=iF O.2.2.1
    simp (config:=KF) (disch:=omega) only [bZ,retI,az,addA,aa,aJ,eH,↓reduceIte,Nat.reduceEqDiff,Nat.reduceAdd,Nat.reduceLeDiff,reduceCtorEq,w1,w2,w3,w4,w6,a1,a2,a3,a5,a6]
    refine hQ _ _ ⟨dv,F,rfl,hmb,hw,fun b hb q=>?_,r1.mono (by omega) (fun _ q=>q),r2,fun b hb=>⟨.inl hb,Nat.lt_of_lt_of_le (hF b hb) r2.1⟩⟩
    have:=hF b q
    have:=hw b hb
    omega
  rw [if_neg c3] at hQ
  simp (config:=KF) (disch:=omega) only [bZ,↓reduceIte,Nat.reduceEqDiff,reduceCtorEq]
  refine br (fun c4=>?_) (fun c4=>?_)
  · rw [if_pos c4] at hQ
    simp (config:=KF) (disch:=omega) only [bZ,addA,aa,id,↓reduceIte,Nat.reduceEqDiff,reduceCtorEq]
    refine ap rfl e_f11 (leave_calls hh n hn) rfl fun x st1 hr=>?_
    obtain ⟨rfl,r1,r2⟩:=hr
    generalize eB n R = O at hQ r1
    obtain ⟨a1,a2,a3,a4⟩:=cR O.2.1
    obtain ⟨a5,a6,a7⟩:=iF O.2.1
    simp (config:=KF) (disch:=omega) only [bZ,retI,az,addA,aa,aJ,eH,↓reduceIte,Nat.reduceEqDiff,Nat.reduceAdd,Nat.reduceLeDiff,reduceCtorEq,a1,a2,a3,a5,a6]
    exact hQ _ _ (same st1 (O.1,⟨0,false,[],O.2.1,O.2.2⟩) rfl (r1.mono (by omega) (fun _ q=>q)) r2)
  rw [if_neg c4] at hQ
  simp (config:=KF) (disch:=omega) only [bZ,addA,aa,id,↓reduceIte,Nat.reduceEqDiff,reduceCtorEq]
  refine ap rfl e_f34 (pM hh t hn) rfl fun x st1 hr=>?_
  obtain ⟨rfl,r1,r2⟩:=hr
  generalize cY t R = O at hQ r1
  obtain ⟨a1,a2,a3,a4⟩:=cR O.2.1
  obtain ⟨a5,a6,a7⟩:=iF O.2.1
  simp (config:=KF) (disch:=omega) only [bZ,retI,az,addA,aa,aJ,eH,↓reduceIte,Nat.reduceEqDiff,Nat.reduceAdd,Nat.reduceLeDiff,reduceCtorEq,a1,a2,a3,a5,a6]
  exact hQ _ _ (same st1 (O.1,⟨0,false,[],O.2.1,O.2.2⟩) rfl (r1.mono (by omega) (fun _ q=>q)) r2)
end Go.Fx.YtbdjfccgkdgbfaaFx

