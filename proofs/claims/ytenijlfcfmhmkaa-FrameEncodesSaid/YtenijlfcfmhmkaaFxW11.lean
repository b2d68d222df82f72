/- What the functions that the statement reaches compute: part 11. -/
import Derived.Test.YtenijlfcfmhmkaaFxW10
namespace Go.Fx.YtenijlfcfmhmkaaFx
open Go Go.Fx
attribute [local irreducible] aC runI headI loopI

set_option maxRecDepth 100000
set_option maxHeartbeats 8000000

def RdS (rb : AV) : St := ⟨[some (.cells [rb, .lit (.int .i64 0)])]⟩
theorem RdS_set (rb rb' : AV) : (RdS rb).set 0 [rb', .lit (.int .i64 0)] = RdS rb' := rfl
theorem RdS_rd {rb : AV} {L : List UInt8} (h : Own1 rb L) : Rd (RdS rb) 0 L 0 := ⟨rb, h, rfl⟩

/-- What is pending: the bytes fed, but for those of the frames read. -/
def pend (l : List Fr) (at_ got : Nat) : List UInt8 := (joinB (l.drop got)).take (at_ - (joinB (l.take got)).length)

theorem joinB_split (l : List Fr) (i : Nat) : (joinB (l.take i)).length + (joinB (l.drop i)).length = (joinB l).length := by
  conv => rhs; rw [← List.take_append_drop i l, joinB_app, List.length_append]

theorem pend_len {l : List Fr} {at_ got : Nat} (h1 : (joinB (l.take got)).length ≤ at_) (h2 : at_ ≤ (joinB l).length) : (pend l at_ got).length = at_ - (joinB (l.take got)).length := by
  have := joinB_split l got
  simp only [pend, List.length_take]; omega

theorem pend_feed {l : List Fr} {at_ got n : Nat} (h1 : (joinB (l.take got)).length ≤ at_) : pend l at_ got ++ ((joinB l).take (at_ + n)).drop at_ = pend l (at_ + n) got := by
  unfold pend
  rw [← joinB_drop l got, ← List.drop_take, ← List.drop_take]
  generalize (joinB (l.take got)).length = s at *
  have e : ((joinB l).take (at_ + n)).drop at_ = (((joinB l).take (at_ + n)).drop s).drop (at_ - s) := by rw [List.drop_drop]; congr 1; omega
  have e2 : ((joinB l).take at_).drop s = (((joinB l).take (at_ + n)).drop s).take (at_ - s) := by
    rw [List.take_drop, List.take_take]; congr 2; omega
  rw [e, e2, List.take_append_drop]

theorem pend_next {l : List Fr} {at_ got : Nat} {f : Fr} {r : List Fr} (h1 : (joinB (l.take got)).length + (f.2.length + 6) ≤ at_) (h : l.drop got = f :: r) :
    got < l.length ∧ l.getD got (0, []) = f ∧ (joinB (l.take (got + 1))).length = (joinB (l.take got)).length + f.2.length + 6 ∧ (pend l at_ got).drop (f.2.length + 6) = pend l at_ (got + 1) := by
  have hg : got < l.length := by
    have := congrArg List.length h
    simp at this; omega
  have hd := List.drop_eq_getElem_cons hg
  rw [h] at hd
  injection hd with a b
  have e3 : l.take (got + 1) = l.take got ++ [f] := by rw [List.take_succ_eq_append_getElem hg, ← a]
  have e4 : (joinB (l.take (got + 1))).length = (joinB (l.take got)).length + f.2.length + 6 := by rw [e3, joinB_app, List.length_append]; simp [joinB, enc_len]; omega
  refine ⟨hg, by simp [List.getD, hg, ← a], e4, ?_⟩
  unfold pend
  rw [h, e4, b.symm]
  simp only [joinB]
  rw [List.drop_take, List.drop_left' (enc_len _ _)]
  congr 1; omega
end Go.Fx.YtenijlfcfmhmkaaFx

