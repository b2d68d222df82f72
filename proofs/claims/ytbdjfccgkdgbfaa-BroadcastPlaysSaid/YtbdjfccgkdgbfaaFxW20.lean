/- What the functions that the statement reaches compute: part 20. -/
import Derived.Test.YtbdjfccgkdgbfaaFxW19
namespace Go.Fx.YtbdjfccgkdgbfaaFx
open Go Go.Fx
attribute [local irreducible] aC runI az aA

set_option maxRecDepth 100000
set_option maxHeartbeats 4000000

/-! A hub of one's own. -/
structure HubK (st0 st:St) (h n:Nat) (R:HR):Prop where
  ex:∃ wid F,HubR st h wid n R F∧(∀ x ∈ F,st0.boxes.length≤x∧x < st.boxes.length)∧Kp st0 st []
section
variable {st0 st:St} {h n:Nat} {R:HR}
theorem HubK.go {wid m:Nat} {F:List Nat} {st':St} {R':HR} (h2:∀ x ∈ F,st0.boxes.length≤x∧x < st.boxes.length) (h3:Kp st0 st []) (hr:HubR st' h wid m R' F) (hk:Kp st st' F):HubK st0 st' h m R' :=
  ⟨⟨wid,F,hr,fun x hx=>⟨(h2 x hx).1,Nat.lt_of_lt_of_le (h2 x hx).2 hk.1⟩,h3.trans hk fun x hx=>.inr (h2 x hx).1⟩⟩
theorem kNew (st:St):al Go.Proofs.Try.prog n_f8 [] st (fun v st'=>∃ h,v = .ptr h 0∧HubK st st' h 0 ⟨[],[]⟩) :=
  (j6 st).mono fun v st' ⟨h,wid,F,e,h1,h2,h3⟩=>⟨h,e,⟨⟨wid,F,h1,h3,h2⟩⟩⟩
theorem kSub (hh:HubK st0 st h n R) (topic room pol:Int):al Go.Proofs.Try.prog n_f9 [.ptr h 0,.lit (.int .i64 topic),.lit (.int .i64 room),.lit (.int .i64 pol)] st (fun v st'=>v = .tup [.lit (.int .i64 (rSub topic room pol R).2.1),.lit (.int .i64 (rSub topic room pol R).2.2)]∧HubK st0 st' h n (rSub topic room pol R).1):=by
  obtain ⟨wid,F,h1,h2,h3⟩:=hh.ex
  refine (pc h1 topic room pol).mono fun v st' ⟨e,F',r1,r2,r3⟩=>⟨e,⟨⟨wid,F',r1,fun x hx=>⟨?_,(r3 x hx).2⟩,h3.trans r2 fun x hx=>.inr (h2 x hx).1⟩⟩⟩
  rcases (r3 x hx).1 with q | q
  · exact (h2 x q).1
  · exact Nat.le_trans h3.1 q
theorem kPub (hh:HubK st0 st h n R) (topic:Int) (p:List UInt8) (hp:p.length≤100000) (hn:n < 900000):al Go.Proofs.Try.prog n_f28 [.ptr h 0,.lit (.int .i64 topic),.sl false 1 (BB p)] st (fun v st'=>v = .lit (.int .i64 (rPub topic p R).2)∧HubK st0 st' h (n + 1) (rPub topic p R).1):=by
  obtain ⟨wid,F,h1,h2,h3⟩:=hh.ex
  exact (kM h1 topic (DV.sl st p) hp (fun _ q=>by cases q) hn).mono fun v st' ⟨e,r1,r2⟩=>⟨e,HubK.go h2 h3 r1 r2⟩
theorem kSend (hh:HubK st0 st h n R) (task topic:Int) (p:List UInt8) (hp:p.length≤100000) (hn:n < 900000):al Go.Proofs.Try.prog n_f29 [.ptr h 0,.lit (.int .i64 task),.lit (.int .i64 topic),.sl false 1 (BB p)] st (fun v st'=>v = .tup [.lit (.bool (bQ task topic p R).2.1),.lit (.int .i64 (bQ task topic p R).2.2)]∧HubK st0 st' h (n + 2) (bQ task topic p R).1):=by
  obtain ⟨wid,F,h1,h2,h3⟩:=hh.ex
  exact (nH h1 task topic (DV.sl st p) hp (fun _ q=>by cases q) hn).mono fun v st' ⟨e,r1,r2⟩=>⟨e,HubK.go h2 h3 r1 r2⟩
theorem kReads (hh:HubK st0 st h n R) (m no:Int) (want:List UInt8) (its:List Nat) (hn:n < 900000):al Go.Proofs.Try.prog n_f30 [.ptr h 0,.lit (.int .i64 m),.lit (.string (str want)),itsV its,.lit (.int .i64 no)] st (fun v st'=>v = .lit (.bool (decide ((bd m R).2.1 = want∧(bd m R).2.2.1 = its∧(bd m R).2.2.2 = no)))∧HubK st0 st' h (n + 64) (bd m R).1):=by
  obtain ⟨wid,F,h1,h2,h3⟩:=hh.ex
  exact (reads_calls h1 (fun x hx=>(h2 x hx).2) m no want its hn).mono fun v st' ⟨e,r1,r2⟩=>⟨e,HubK.go h2 h3 r1 r2⟩
theorem kLen (hh:HubK st0 st h n R) (m:Int):aB Go.Proofs.Try.prog n_f15 [.ptr h 0,.lit (.int .i64 m)] st (.lit (.int .i64 (lenR m R:Nat))):=by
  obtain ⟨wid,F,h1,h2,h3⟩:=hh.ex
  exact len_pure h1 m
theorem kLost (hh:HubK st0 st h n R) (m:Int):aB Go.Proofs.Try.prog n_f14 [.ptr h 0,.lit (.int .i64 m)] st (.lit (.int .i64 (ip m R:Nat))):=by
  obtain ⟨wid,F,h1,h2,h3⟩:=hh.ex
  exact pd h1 m
end

/-! The examples. -/
def X1:=(rSub 2 8 1 ⟨[],[]⟩).1
def X2:=(rSub 2 5 3 X1).1
def X3:=(rSub 2 8 2 X2).1
def X4:=(rPub 2 [97,98,99] X3).1
def X5:=(bQ 7 2 [100,101] X4).1
def X6:=(bd 1 X5).1
def X7:=(bd 0 X6).1
def X8:=(bd 2 X7).1
def X9:=(rPub 2 [49,50,51,52,53] X8).1
theorem x1:rSub 2 8 1 ⟨[],[]⟩ = (X1,0,0):=rfl
theorem x2:rSub 2 5 3 X1 = (X2,1,0):=rfl
theorem x3:rSub 2 8 2 X2 = (X3,2,0):=rfl
theorem x4:rPub 2 [97,98,99] X3 = (X4,0):=rfl
theorem x4':rPub 2 [120] X4 = (X4,16):=rfl
theorem x5:bQ 7 2 [100,101] X4 = (X5,false,0):=rfl
theorem x6:bd 1 X5 = (X6,[97,98,99],[7],0):=rfl
theorem x6':lenR 0 X6 = 1∧ip 0 X6 = 1∧lenR 2 X6 = 1∧ip 2 X6 = 1:=⟨rfl,rfl,rfl,rfl⟩
theorem x7:bd 0 X6 = (X7,[100,101],[],0):=rfl
theorem x7':bd 0 X7 = (X7,[],[],16):=rfl
theorem x8:bd 2 X7 = (X8,[97,98,99],[],0):=rfl
theorem x8':bd 3 X8 = (X8,[],[],9):=rfl
theorem x9:rPub 2 [49,50,51,52,53] X8 = (X9,0):=rfl
theorem x9':ip 0 X9 = 1∧ip 1 X9 = 1∧lenR 2 X9 = 1:=⟨rfl,rfl,rfl⟩
end Go.Fx.YtbdjfccgkdgbfaaFx

