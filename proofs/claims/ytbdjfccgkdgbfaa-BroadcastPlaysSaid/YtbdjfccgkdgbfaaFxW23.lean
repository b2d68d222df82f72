/- What the functions that the statement reaches compute: part 23. -/
import Derived.Test.YtbdjfccgkdgbfaaFxW22
namespace Go.Fx.YtbdjfccgkdgbfaaFx
open Go Go.Fx
attribute [local irreducible] aC runI az aA

set_option maxRecDepth 100000
set_option maxHeartbeats 4000000

/-! A call of the program. -/
structure RO where
  n:Int
  done:Bool
  data:List UInt8
  items:List Nat
  err:Int
def rDo (w t p n o:Int) (d:List UInt8) (R:HR):HR×RO :=
  if w = 0 then ((rSub p n o R).1,⟨(rSub p n o R).2.1,false,[],[],(rSub p n o R).2.2⟩)
  else if w = 1 then ((rPub p d R).1,⟨0,false,[],[],(rPub p d R).2⟩)
  else if w = 2 then ((bQ t p d R).1,⟨0,(bQ t p d R).2.1,[],[],(bQ t p d R).2.2⟩)
  else if w = 3 then ((bd n R).1,⟨0,false,(bd n R).2.1,(bd n R).2.2.1,(bd n R).2.2.2⟩)
  else if w = 4 then ((cm n R).1,⟨0,false,[],(cm n R).2.1,(cm n R).2.2⟩)
  else ((bA t R).1,⟨0,false,[],(bA t R).2.1,(bA t R).2.2⟩)

/-- What iR behind a call. -/
def DoK (st st':St) (h wid n:Nat) (F:List Nat) (x:HR×RO) (v:AV):Prop :=
  ∃ dv F',v = resA x.2.n x.2.done dv (itsV x.2.items) x.2.err∧MB dv st' (BB x.2.data)∧(∀ b ∈ ap dv,st.boxes.length≤b)∧(∀ b ∈ ap dv,b ∉ F')∧HubR st' h wid (n + 100) x.1 F'∧Kp st st' F∧∀ b ∈ F',(b ∈ F∨st.boxes.length≤b)∧b < st'.boxes.length
theorem do_calls {st:St} {h wid k:Nat} {R:HR} {F:List Nat} (hh:HubR st h wid k R F) (hF:∀ x ∈ F,x < st.boxes.length) (w t p n o:Int) {v:AV} {d:List UInt8} (hv:DV v st d) (hd:d.length≤100000) (hvn:∀ b ∈ ap v,b ∉ F) (hn:k < 900000) :
    al Go.Proofs.Try.prog n_f13 [.ptr h 0,actA w t p n o v] st (fun x st'=>DoK st st' h wid k F (rDo w t p n o d R) x):=by
  obtain ⟨v1,v2,v3,v4,v5,v6,v7,v8⟩:=hv.facts
  unfold actA
  refine aq hmix k_f13 rfl rfl fun Q hQ=>?_
  unfold aFun c_f13
  unfold rDo at hQ
  have same:∀ (st':St) (x:HR×RO),x.2.data = []→HubR st' h wid (k + 100) x.1 F→Kp st st' F→DoK st st' h wid k F x (resA x.2.n x.2.done (.lit (.slice none 0 0)) (itsV x.2.items) x.2.err):=fun st' x hx h1 h2 =>
    ⟨_,F,rfl,.inl ⟨rfl,by rw [hx]; rfl⟩,fun _ q=>(by cases q),fun _ q=>(by cases q),h1,h2,fun b hb=>⟨.inl hb,Nat.lt_of_lt_of_le (hF b hb) h2.1⟩⟩
  unfold resA at same
  simp (config:=KF) (disch:=omega) only [bZ,addA,aa,bF,↓reduceIte,Nat.reduceEqDiff,Nat.reduceAdd,reduceCtorEq,v2,v4]
  refine aO (fun c0=>?_) (fun c0=>?_)
  · rw [if_pos c0] at hQ
    simp (config:=KF) (disch:=omega) only [bZ,addA,aa,id,↓reduceIte,Nat.reduceEqDiff,reduceCtorEq]
    refine au rfl e_f9 (pc hh p n o) rfl fun x st1 hr=>?_
    obtain ⟨rfl,F',r1,r2,r3⟩:=hr
    generalize rSub p n o R = O at hQ r1
    simp (config:=KF) (disch:=omega) only [bZ,retI,ah,addA,aa,↓reduceIte,Nat.reduceEqDiff,Nat.reduceAdd,Nat.reduceLeDiff,reduceCtorEq,af,ae]
    refine hQ _ _ ⟨.lit (.slice none 0 0),F',rfl,.inl ⟨rfl,rfl⟩,fun _ q=>(by cases q),fun _ q=>(by cases q),r1.mono (by omega) (fun _ q=>q),r2,r3⟩
  rw [if_neg c0] at hQ
  simp (config:=KF) (disch:=omega) only [bZ,↓reduceIte,Nat.reduceEqDiff,reduceCtorEq]
  refine aO (fun c1=>?_) (fun c1=>?_)
  · rw [if_pos c1] at hQ
    simp (config:=KF) (disch:=omega) only [bZ,addA,aa,id,↓reduceIte,Nat.reduceEqDiff,reduceCtorEq,v1]
    refine au (vs:=[.ptr h 0,.lit (.int .i64 p),v]) (by simp [v1,el,aH]) e_f28 (kM hh p hv hd hvn hn) (by simp [v5,dn,aD]) fun x st1 hr=>?_
    obtain ⟨rfl,r1,r2⟩:=hr
    generalize rPub p d R = O at hQ r1
    simp (config:=KF) (disch:=omega) only [bZ,retI,ah,addA,aa,↓reduceIte,Nat.reduceEqDiff,Nat.reduceAdd,Nat.reduceLeDiff,reduceCtorEq,af,ae]
    exact hQ _ _ (same st1 (O.1,⟨0,false,[],[],O.2⟩) rfl (r1.mono (by omega) (fun _ q=>q)) r2)
  rw [if_neg c1] at hQ
  simp (config:=KF) (disch:=omega) only [bZ,↓reduceIte,Nat.reduceEqDiff,reduceCtorEq]
  refine aO (fun c2=>?_) (fun c2=>?_)
  · rw [if_pos c2] at hQ
    simp (config:=KF) (disch:=omega) only [bZ,addA,aa,id,↓reduceIte,Nat.reduceEqDiff,reduceCtorEq,v1]
    refine au (vs:=[.ptr h 0,.lit (.int .i64 t),.lit (.int .i64 p),v]) (by simp [v1,el,aH]) e_f29 (nH hh t p hv hd hvn hn) (by simp [v5,dn,aD]) fun x st1 hr=>?_
    obtain ⟨rfl,r1,r2⟩:=hr
    generalize bQ t p d R = O at hQ r1
    simp (config:=KF) (disch:=omega) only [bZ,retI,ah,addA,aa,↓reduceIte,Nat.reduceEqDiff,Nat.reduceAdd,Nat.reduceLeDiff,reduceCtorEq,af,ae]
    exact hQ _ _ (same st1 (O.1,⟨0,O.2.1,[],[],O.2.2⟩) rfl (r1.mono (by omega) (fun _ q=>q)) r2)
  rw [if_neg c2] at hQ
  simp (config:=KF) (disch:=omega) only [bZ,↓reduceIte,Nat.reduceEqDiff,reduceCtorEq]
  refine aO (fun c3=>?_) (fun c3=>?_)
  · rw [if_pos c3] at hQ
    simp (config:=KF) (disch:=omega) only [bZ,addA,aa,id,↓reduceIte,Nat.reduceEqDiff,reduceCtorEq]
    refine au rfl e_f33 (nI hh hF n hn) rfl fun x st1 hr=>?_
    obtain ⟨dv,rfl,hmb,hw,r1,r2⟩:=hr
    generalize bd n R = O at hQ r1 hmb
    obtain ⟨w1,w2,w3,w4,w5,w6,w7,w8⟩:=hmb.facts
    obtain ⟨a1,a2,a3,a4⟩:=aR O.2.2.1
    obtain ⟨a5,a6,a7⟩:=dx O.2.2.1
    simp (config:=KF) (disch:=omega) only [bZ,retI,ah,addA,aa,↓reduceIte,Nat.reduceEqDiff,Nat.reduceAdd,Nat.reduceLeDiff,reduceCtorEq,af,ae,w1,w2,w3,w4,w6,a1,a2,a3,a5,a6]
    refine hQ _ _ ⟨dv,F,rfl,hmb,hw,fun b hb q=>?_,r1.mono (by omega) (fun _ q=>q),r2,fun b hb=>⟨.inl hb,Nat.lt_of_lt_of_le (hF b hb) r2.1⟩⟩
    have:=hF b q
    have:=hw b hb
    omega
  rw [if_neg c3] at hQ
  simp (config:=KF) (disch:=omega) only [bZ,↓reduceIte,Nat.reduceEqDiff,reduceCtorEq]
  refine aO (fun c4=>?_) (fun c4=>?_)
  · rw [if_pos c4] at hQ
    simp (config:=KF) (disch:=omega) only [bZ,addA,aa,id,↓reduceIte,Nat.reduceEqDiff,reduceCtorEq]
    refine au rfl e_f11 (leave_calls hh n hn) rfl fun x st1 hr=>?_
    obtain ⟨rfl,r1,r2⟩:=hr
    generalize cm n R = O at hQ r1
    obtain ⟨a1,a2,a3,a4⟩:=aR O.2.1
    obtain ⟨a5,a6,a7⟩:=dx O.2.1
    simp (config:=KF) (disch:=omega) only [bZ,retI,ah,addA,aa,↓reduceIte,Nat.reduceEqDiff,Nat.reduceAdd,Nat.reduceLeDiff,reduceCtorEq,af,ae,a1,a2,a3,a5,a6]
    exact hQ _ _ (same st1 (O.1,⟨0,false,[],O.2.1,O.2.2⟩) rfl (r1.mono (by omega) (fun _ q=>q)) r2)
  rw [if_neg c4] at hQ
  simp (config:=KF) (disch:=omega) only [bZ,addA,aa,id,↓reduceIte,Nat.reduceEqDiff,reduceCtorEq]
  refine au rfl e_f34 (qd hh t hn) rfl fun x st1 hr=>?_
  obtain ⟨rfl,r1,r2⟩:=hr
  generalize bA t R = O at hQ r1
  obtain ⟨a1,a2,a3,a4⟩:=aR O.2.1
  obtain ⟨a5,a6,a7⟩:=dx O.2.1
  simp (config:=KF) (disch:=omega) only [bZ,retI,ah,addA,aa,↓reduceIte,Nat.reduceEqDiff,Nat.reduceAdd,Nat.reduceLeDiff,reduceCtorEq,af,ae,a1,a2,a3,a5,a6]
  exact hQ _ _ (same st1 (O.1,⟨0,false,[],O.2.1,O.2.2⟩) rfl (r1.mono (by omega) (fun _ q=>q)) r2)
end Go.Fx.YtbdjfccgkdgbfaaFx

