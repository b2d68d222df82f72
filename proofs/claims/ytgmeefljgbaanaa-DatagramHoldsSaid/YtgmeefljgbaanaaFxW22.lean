/- What the functions that the statement reaches compute: part 22. -/
import Derived.Test.YtgmeefljgbaanaaFxW21
namespace Go.Fx.YtgmeefljgbaanaaFx
open Go Go.Fx
attribute [local irreducible] aC runI aF a9

set_option maxRecDepth 100000
set_option maxHeartbeats 4000000

/-! A call of the program. -/
def rDo (w t n m:Int) (nm:ByteArray) (port pol:Int) (life:Nat) (d:List UInt8) (at_:Int) (R:NR):NR×RO :=
  if w = 0 then ((eM nm port n m pol life R).1,⟨(eM nm port n m pol life R).2.1,false,rc0,[],(eM nm port n m pol life R).2.2⟩)
  else if w = 1 then ((cc n nm port d R).1,⟨0,false,rc0,(cc n nm port d R).2.1,(cc n nm port d R).2.2⟩)
  else if w = 2 then ((fL t n m R).1,⟨0,(fL t n m R).2.2.1,(fL t n m R).2.1,[],(fL t n m R).2.2.2⟩)
  else if w = 3 then ((rTry n m R).1,⟨0,false,(rTry n m R).2.1,[],(rTry n m R).2.2⟩)
  else if w = 4 then ((gA t R).1,⟨0,false,rc0,[],(gA t R).2⟩)
  else if w = 5 then ((iC n R).1,⟨0,false,rc0,(iC n R).2.1,(iC n R).2.2⟩)
  else ((rAdv at_ R).1,⟨(rAdv at_ R).2.1,false,rc0,[],(rAdv at_ R).2.2⟩)

/-- What lA behind a call. -/
def DoK (st st':St) (n sid wid k:Nat) (F:List Nat) (x:NR×RO) (v:AV):Prop :=
  ∃ dv av F',v = resV x.2 dv av∧MB dv st' (BB x.2.one.data)∧(∀ b ∈ ae dv,st.boxes.length≤b∧b ∉ F')∧AllV (fun b=>st.boxes.length≤b∧b ∉ F') false av st' x.2.all∧NP st st' n sid wid k F x.1 F'
theorem AllV.imp {P P':Nat→Prop} {o:Bool} {v:AV} {st:St} {l:List Rc} (h:AllV P o v st l) (hp:∀ b,P b→P' b):AllV P' o v st l:=by
  rcases h with h | ⟨es,rfl,h⟩
  · exact .inl h
  · refine .inr ⟨es,rfl,?_⟩
    induction es generalizing l with
    | nil=>cases l <;> exact h
    | cons e es ih => cases l with
      | nil=>exact h
      | cons r rs =>
        obtain ⟨⟨w,h1,h2,h3⟩,h4⟩:=h
        exact ⟨⟨w,h1,h2,fun b hb=>hp b (h3 b hb)⟩,ih h4⟩
theorem do_calls {st:St} {n sid wid k:Nat} {R:NR} {F:List Nat} (hh:NetR st n sid wid k R F) (hF:∀ x ∈ F,x < st.boxes.length) (w t i m:Int) (nm:ByteArray) (port pol:Int) (life:Nat) {v:AV} {d:List UInt8} (at_:Int) (hv:DV v st d) (hd:d.length≤100000)
    (hnm:nm.size < 1000000) (hlife:life < 18446744073709551616) (h0:0≤at_) (h1:at_ < 18446744073709551616) (hk:k < 90000) :
    ao Go.Proofs.Try.prog n_f14 [.ptr n 0,actA w t i m nm port pol life v at_] st (fun x st'=>DoK st st' n sid wid k F (rDo w t i m nm port pol life d at_ R) x):=by
  obtain ⟨v1,v2,v3,v4,v5,v6,v7,v8⟩:=hv.facts
  unfold actA
  refine aA hmix k_f14 rfl rfl fun Q hQ=>?_
  unfold aFun c_f14
  unfold rDo at hQ
  have same:∀ (st':St) (x:NR×RO) (F':List Nat),x.2.one = rc0→x.2.all = []→NP st st' n sid wid k F x.1 F'→DoK st st' n sid wid k F x (resA x.2.n x.2.done 0 ⟨#[]⟩ 0 (.lit (.slice none 0 0)) 0 false 0 (.lit (.slice none 0 0)) x.2.err):=fun st' x F' hx hy h1 =>
    ⟨.lit (.slice none 0 0),.lit (.slice none 0 0),F',by unfold resV; rw [hx]; rfl,by rw [hx]; exact .inl ⟨rfl,rfl⟩,fun _ q=>(by cases q),.inl ⟨rfl,hy⟩,h1⟩
  unfold resA at same
  simp (config:=KF) (disch:=omega) only [bZ,bU,fo,addA,aa,aS,↓reduceIte,Nat.reduceEqDiff,Nat.reduceAdd,reduceCtorEq,v2,v4]
  refine ap (fun c0=>?_) (fun c0=>?_)
  · rw [if_pos c0] at hQ
    simp (config:=KF) (disch:=omega) only [bZ,addA,aa,id,↓reduceIte,Nat.reduceEqDiff,Nat.reduceAdd,Nat.reduceLeDiff,reduceCtorEq]
    refine aq (vs:=[.ptr n 0,adAV nm port,.lit (.int .i64 i),.lit (.int .i64 m),.lit (.int .i64 pol),.lit (.int .u64 (life:Nat))]) (by simp [v1,l7,gu,adAV,fH,eg]) e_f9 (jE hh nm port i m pol life hnm hlife) (by simp [v5,gy,iM,adAV,bk]) fun x st1 hr=>?_
    obtain ⟨F',rfl,r1⟩:=hr
    generalize eM nm port i m pol life R = O at hQ r1
    simp (config:=KF) (disch:=omega) only [bZ,retI,al,addA,aa,ba,bk,↓reduceIte,Nat.reduceEqDiff,Nat.reduceAdd,Nat.reduceLeDiff,reduceCtorEq]
    exact hQ _ _ (same st1 (O.1,⟨O.2.1,false,rc0,[],O.2.2⟩) F' rfl rfl r1)
  rw [if_neg c0] at hQ
  simp (config:=KF) (disch:=omega) only [bZ,↓reduceIte,Nat.reduceEqDiff,reduceCtorEq]
  refine ap (fun c1=>?_) (fun c1=>?_)
  · rw [if_pos c1] at hQ
    simp (config:=KF) (disch:=omega) only [bZ,addA,aa,id,↓reduceIte,Nat.reduceEqDiff,Nat.reduceAdd,Nat.reduceLeDiff,reduceCtorEq,v1]
    refine aq (vs:=[.ptr n 0,.lit (.int .i64 i),adAV nm port,v]) (by simp [v1,l7,gu,adAV,fH,eg]) e_f36 (nI hh hF i nm port hnm hv hd (by omega)) (by simp [v5,gy,iM,adAV,bk]) fun x st1 hr=>?_
    obtain ⟨av,F',rfl,ha,r1⟩:=hr
    generalize cc i nm port d R = O at hQ r1 ha
    obtain ⟨a1,a2,a3,a4,a5,a6,a7,a8⟩:=ha.facts
    simp (config:=KF) (disch:=omega) only [bZ,retI,al,addA,aa,ba,bk,↓reduceIte,Nat.reduceEqDiff,Nat.reduceAdd,Nat.reduceLeDiff,reduceCtorEq,a1,a2,a3,a4,a6]
    exact hQ _ _ ⟨.lit (.slice none 0 0),av,F',rfl,.inl ⟨rfl,rfl⟩,fun _ q=>(by cases q),ha,r1⟩
  rw [if_neg c1] at hQ
  simp (config:=KF) (disch:=omega) only [bZ,↓reduceIte,Nat.reduceEqDiff,reduceCtorEq]
  refine ap (fun c2=>?_) (fun c2=>?_)
  · rw [if_pos c2] at hQ
    simp (config:=KF) (disch:=omega) only [bZ,addA,aa,id,↓reduceIte,Nat.reduceEqDiff,reduceCtorEq]
    refine aq (vs:=[.ptr n 0,.lit (.int .i64 t),.lit (.int .i64 i),.lit (.int .i64 m)]) rfl e_f34 (nK hh t i m hk) rfl fun x st1 hr=>?_
    obtain ⟨ov,F',rfl,⟨dv,rfl,hmb,hb⟩,r1⟩:=hr
    generalize fL t i m R = O at hQ r1 hmb
    obtain ⟨a1,a2,a3,a4,a5,a6,a7,a8⟩:=hmb.facts
    unfold rcAV
    simp (config:=KF) (disch:=omega) only [bZ,retI,al,addA,aa,ba,dp,bk,↓reduceIte,Nat.reduceEqDiff,Nat.reduceAdd,Nat.reduceLeDiff,reduceCtorEq,a2,a4]
    exact hQ _ _ ⟨dv,.lit (.slice none 0 0),F',rfl,hmb,hb,.inl ⟨rfl,rfl⟩,r1⟩
  rw [if_neg c2] at hQ
  simp (config:=KF) (disch:=omega) only [bZ,↓reduceIte,Nat.reduceEqDiff,reduceCtorEq]
  refine ap (fun c3=>?_) (fun c3=>?_)
  · rw [if_pos c3] at hQ
    simp (config:=KF) (disch:=omega) only [bZ,addA,aa,id,↓reduceIte,Nat.reduceEqDiff,reduceCtorEq]
    refine aq (vs:=[.ptr n 0,.lit (.int .i64 i),.lit (.int .i64 m)]) rfl e_f31 (pu hh i m) rfl fun x st1 hr=>?_
    obtain ⟨ov,F',rfl,⟨dv,rfl,hmb,hb⟩,r1⟩:=hr
    generalize rTry i m R = O at hQ r1 hmb
    obtain ⟨a1,a2,a3,a4,a5,a6,a7,a8⟩:=hmb.facts
    unfold rcAV
    simp (config:=KF) (disch:=omega) only [bZ,retI,al,addA,aa,ba,dp,bk,↓reduceIte,Nat.reduceEqDiff,Nat.reduceAdd,Nat.reduceLeDiff,reduceCtorEq,a2,a4]
    exact hQ _ _ ⟨dv,.lit (.slice none 0 0),F',rfl,hmb,hb,.inl ⟨rfl,rfl⟩,r1⟩
  rw [if_neg c3] at hQ
  simp (config:=KF) (disch:=omega) only [bZ,↓reduceIte,Nat.reduceEqDiff,reduceCtorEq]
  refine ap (fun c4=>?_) (fun c4=>?_)
  · rw [if_pos c4] at hQ
    simp (config:=KF) (disch:=omega) only [bZ,addA,aa,id,↓reduceIte,Nat.reduceEqDiff,reduceCtorEq]
    refine aq (vs:=[.ptr n 0,.lit (.int .i64 t)]) rfl e_f37 (qr hh t (by omega)) rfl fun x st1 hr=>?_
    obtain ⟨F',rfl,r1⟩:=hr
    generalize gA t R = O at hQ r1
    simp (config:=KF) (disch:=omega) only [bZ,retI,al,addA,aa,bk,↓reduceIte,Nat.reduceEqDiff,Nat.reduceAdd,Nat.reduceLeDiff,reduceCtorEq]
    exact hQ _ _ (same st1 (O.1,⟨0,false,rc0,[],O.2⟩) F' rfl rfl r1)
  rw [if_neg c4] at hQ
  simp (config:=KF) (disch:=omega) only [bZ,↓reduceIte,Nat.reduceEqDiff,reduceCtorEq]
  refine ap (fun c5=>?_) (fun c5=>?_)
  · rw [if_pos c5] at hQ
    simp (config:=KF) (disch:=omega) only [bZ,addA,aa,id,↓reduceIte,Nat.reduceEqDiff,reduceCtorEq]
    refine aq (vs:=[.ptr n 0,.lit (.int .i64 i)]) rfl e_f12 (close_calls hh i hk) rfl fun x st1 hr=>?_
    obtain ⟨av,F',rfl,ha,r1⟩:=hr
    generalize iC i R = O at hQ r1 ha
    obtain ⟨a1,a2,a3,a4,a5,a6,a7,a8⟩:=ha.facts
    simp (config:=KF) (disch:=omega) only [bZ,retI,al,addA,aa,ba,bk,↓reduceIte,Nat.reduceEqDiff,Nat.reduceAdd,Nat.reduceLeDiff,reduceCtorEq,a1,a2,a3,a4,a6]
    exact hQ _ _ ⟨.lit (.slice none 0 0),av,F',rfl,.inl ⟨rfl,rfl⟩,fun _ q=>(by cases q),ha.imp fun _ q=>q.elim,r1⟩
  rw [if_neg c5] at hQ
  simp (config:=KF) (disch:=omega) only [bZ,addA,aa,id,↓reduceIte,Nat.reduceEqDiff,reduceCtorEq]
  refine aq (vs:=[.ptr n 0,.lit (.int .u64 at_)]) rfl e_f38 (pv hh at_ h0 h1 hk) rfl fun x st1 hr=>?_
  obtain ⟨F',rfl,r1⟩:=hr
  generalize rAdv at_ R = O at hQ r1
  simp (config:=KF) (disch:=omega) only [bZ,retI,al,addA,aa,ba,bk,↓reduceIte,Nat.reduceEqDiff,Nat.reduceAdd,Nat.reduceLeDiff,reduceCtorEq]
  exact hQ _ _ (same st1 (O.1,⟨O.2.1,false,rc0,[],O.2.2⟩) F' rfl rfl r1)
end Go.Fx.YtgmeefljgbaanaaFx

