/- What the functions that the statement reaches compute: part 17. -/
import Derived.Test.YtohlpjfhkejjgaaFxW16
namespace Go.Fx.YtohlpjfhkejjgaaFx
open Go Go.Fx
attribute [local irreducible] aC runI headI loopI

set_option maxRecDepth 100000
set_option maxHeartbeats 4000000

/-- 1, 2, 3 and so on. -/
def ordL (n : Nat) : List Int := (List.range n).map fun i => ((i + 1 : Nat) : Int)
theorem ordL_succ (n : Nat) : ordL (n + 1) = ordL n ++ [((n + 1 : Nat) : Int)] := by simp [ordL, List.range_succ]
theorem ordL_len (n : Nat) : (ordL n).length = n := by simp [ordL]
theorem ordL_get {n i : Nat} (h : i < n) : (ordL n)[i]? = some ((i + 1 : Nat) : Int) := by simp [ordL, h]
/-- What was sent was received, or is there, in order. -/
structure Od (P : ChP) (n s r : Nat) : Prop where
  hi : Hi P n
  cl : P.closed = false
  eq : ordL r ++ (P.buf ++ P.S.map fun x => x.2.2) = ordL s
theorem Od.len {P : ChP} {n s r : Nat} (h : Od P n s r) : r + (P.buf.length + P.S.length) = s := by
  have := congrArg List.length h.eq
  simpa [ordL_len] using this
theorem Od.new (n : Nat) : Od (newP n) n 0 0 := ⟨Hi.new n, rfl, rfl⟩

/-- What a call comes to. -/
inductive Oc (w : Int) (s r : Nat) (x : Rs) : Nat → Nat → Prop
  | no (h1 : x.2.2.2 ≠ 0) (h2 : x.2.2.1 = []) : Oc w s r x s r
  | put (h1 : x.2.2.2 = 0) (h2 : x.2.2.1 = []) (h3 : w = 0 ∨ w = 2) : Oc w s r x (s + 1) r
  | give (u : Int) (h1 : x.2.2.2 = 0) (h2 : x.2.2.1 = [(u, ((s + 1 : Nat) : Int), 0)]) (h3 : w = 0 ∨ w = 2) (h4 : s = r) : Oc w s r x (s + 1) (r + 1)
  | get (h1 : x.2.2.2 = 0) (h2 : x.2.2.1 = [] ∨ ∃ u, x.2.2.1 = [(u, 0, 0)]) (h3 : w = 1 ∨ w = 3) (h4 : x.1 = ((r + 1 : Nat) : Int)) (h5 : x.2.1 = true) : Oc w s r x s (r + 1)
  | wait (h1 : x.2.2.2 = 0) (h2 : x.2.2.1 = []) (h3 : w = 1 ∨ w = 3) (h5 : x.2.1 = false) : Oc w s r x s r

theorem od_head {r s : Nat} {x : Int} {l : List Int} (h : ordL r ++ x :: l = ordL s) : x = ((r + 1 : Nat) : Int) ∧ ordL (r + 1) ++ l = ordL s := by
  have hlen := congrArg List.length h
  simp only [List.length_append, List.length_cons, ordL_len] at hlen
  have h1 : (ordL r ++ x :: l)[r]? = some x := by
    rw [List.getElem?_append_right (by rw [ordL_len]; omega), ordL_len]; simp
  rw [h, ordL_get (by omega)] at h1
  cases h1
  exact ⟨rfl, by rw [ordL_succ, List.append_assoc, List.singleton_append]; exact h⟩
theorem od_eq {r s : Nat} (h : ordL r = ordL s) : r = s := by
  have := congrArg List.length h
  simpa [ordL_len] using this

theorem od_trySend {P : ChP} {n s r : Nat} (h : Od P n s r) {w : Int} (hw : w = 0 ∨ w = 2) {v : Int} (hv : v = ((s + 1 : Nat) : Int)) (d : Bool) (h16 : (pTrySend P v).2.2 ≠ 16) :
    ∃ s' r', Od (pTrySend P v).1 n s' r' ∧ Oc w s r (0, d, (pTrySend P v).2.1, (pTrySend P v).2.2) s' r' := by
  subst hv
  have hh := h.hi.trySend ((s + 1 : Nat) : Int)
  unfold pTrySend at *
  simp only [h.cl, Bool.false_eq_true, if_false] at *
  cases hV : P.V with
  | cons x l =>
    obtain ⟨hB, _⟩ := h.hi.v (by rw [hV]; simp)
    have hS : P.S = [] := by
      apply Classical.byContradiction
      intro e
      have := (h.hi.s e).1
      rw [hV] at this; cases this
    have he := h.eq
    rw [hB, hS] at he
    simp only [List.map_nil, List.append_nil] at he
    have hrs := od_eq he
    rw [hV] at hh
    refine ⟨s + 1, r + 1, ⟨hh, rfl, ?_⟩, .give x.2.1 rfl rfl hw hrs.symm⟩
    simp only [hB, hS, List.map_nil, List.append_nil]
    rw [hrs]
  | nil =>
    rw [hV] at hh h16
    simp only at hh h16 ⊢
    by_cases hlt : P.buf.length < P.cap
    · rw [if_pos hlt] at hh ⊢
      have hS : P.S = [] := by
        apply Classical.byContradiction
        intro e
        have h1 := (h.hi.s e).2.1
        have h2 := h.hi.cap
        omega
      refine ⟨s + 1, r, ⟨hh, rfl, ?_⟩, .put rfl rfl hw⟩
      have he := h.eq
      simp only [hS, List.map_nil, List.append_nil] at he ⊢
      rw [← List.append_assoc, he, ordL_succ]
    · rw [if_neg hlt] at h16
      exact absurd rfl h16

theorem od_tryReceive {P : ChP} {n s r : Nat} (h : Od P n s r) {w : Int} (hw : w = 1 ∨ w = 3) (h16 : (pTryReceive P).2.2.2 ≠ 16) :
    (pTryReceive P).2.2.2 = 0 ∧ Od (pTryReceive P).1 n s (r + 1) ∧ Oc w s r ((pTryReceive P).2.1, true, (pTryReceive P).2.2.1, (pTryReceive P).2.2.2) s (r + 1) := by
  have hh := h.hi.tryReceive
  have he := h.eq
  unfold pTryReceive at *
  cases hS : P.S with
  | cons x l =>
    rw [hS] at hh he
    simp only at hh ⊢
    obtain ⟨y, b, hyb⟩ : ∃ y b, P.buf ++ [x.2.2] = y :: b := by
      cases P.buf with
      | nil => exact ⟨_, _, rfl⟩
      | cons y b => exact ⟨_, _, rfl⟩
    rw [List.map_cons, ← List.singleton_append, ← List.append_assoc P.buf, hyb, List.cons_append] at he
    obtain ⟨h1, h2⟩ := od_head he
    rw [hyb] at hh ⊢
    exact ⟨trivial, ⟨hh, h.cl, h2⟩, .get rfl (.inr ⟨x.2.1, rfl⟩) hw h1 rfl⟩
  | nil =>
    rw [hS] at hh he h16
    simp only at hh h16 ⊢
    cases hB : P.buf with
    | cons y b =>
      rw [hB] at hh he
      simp only [List.map_nil, List.append_nil] at hh he ⊢
      obtain ⟨h1, h2⟩ := od_head he
      refine ⟨trivial, ⟨hh, h.cl, ?_⟩, .get rfl (.inl rfl) hw h1 rfl⟩
      simp only [List.map_nil, List.append_nil]
      exact h2
    | nil =>
      rw [hB] at h16
      simp only [h.cl] at h16
      exact absurd rfl h16

theorem od_do {P : ChP} {n s r : Nat} (h : Od P n s r) {w t v : Int} (hw : 0 ≤ w ∧ w ≤ 3) (hv : v = ((s + 1 : Nat) : Int)) : ∃ s' r', Od (pDo P (w, t, v)).1 n s' r' ∧ Oc w s r (pDo P (w, t, v)).2 s' r' := by
  obtain rfl | rfl | rfl | rfl : w = 0 ∨ w = 1 ∨ w = 2 ∨ w = 3 := by omega
  · have hh := h.hi.do (0, t, v)
    rw [pDo_0] at *
    unfold pSend at *
    split
    · rename_i hc; exact ⟨s, r, h, .no hc rfl⟩
    · rename_i hc
      rw [if_neg hc] at hh
      split
      · rename_i h16
        rw [if_pos h16] at hh
        refine ⟨s + 1, r, ⟨hh, h.cl, ?_⟩, .put rfl rfl (.inl rfl)⟩
        simp only [List.map_append, List.map_cons, List.map_nil]
        rw [hv, ← List.append_assoc P.buf, ← List.append_assoc, h.eq, ordL_succ]
      · rename_i h16
        exact od_trySend h (.inl rfl) hv _ h16
  · have hh := h.hi.do (1, t, v)
    rw [pDo_1] at *
    unfold pReceive at *
    split
    · rename_i hc; exact ⟨s, r, h, .no hc rfl⟩
    · rename_i hc
      rw [if_neg hc] at hh
      split
      · rename_i h16
        rw [if_pos h16] at hh
        exact ⟨s, r, ⟨hh, h.cl, h.eq⟩, .wait rfl rfl (.inl rfl) rfl⟩
      · rename_i h16
        obtain ⟨h1, h2, h3⟩ := od_tryReceive h (w := 1) (.inl rfl) h16
        refine ⟨s, r + 1, h2, ?_⟩
        have : ((pTryReceive P).2.2.2 == 0) = true := by rw [h1]; rfl
        simp only [this]
        exact h3
  · rw [pDo_2]
    by_cases h16 : (pTrySend P v).2.2 = 16
    · obtain ⟨e1, e2⟩ := try_16 h16
      rw [e1]
      exact ⟨s, r, h, .no (by simp [h16]) e2⟩
    · exact od_trySend h (.inr rfl) hv _ h16
  · rw [pDo_3]
    by_cases h16 : (pTryReceive P).2.2.2 = 16
    · obtain ⟨e1, e2, _⟩ := tryr_16 h16
      rw [e1]
      exact ⟨s, r, h, .no (by simp [h16]) e2⟩
    · obtain ⟨h1, h2, h3⟩ := od_tryReceive h (w := 3) (.inr rfl) h16
      refine ⟨s, r + 1, h2, ?_⟩
      have : decide ((pTryReceive P).2.2.2 = 0) = true := decide_eq_true h1
      simp only [this]
      exact h3
end Go.Fx.YtohlpjfhkejjgaaFx

