/- What the functions that the statement reaches compute: part 11. -/
import Derived.Test.YtenijlfcfmhmkaaFxW10
namespace Go.Fx.YtenijlfcfmhmkaaFx
open Go Go.Fx
attribute [local irreducible] aC runI headI loopI

set_option maxRecDepth 100000
set_option maxHeartbeats 4000000

/-! What is gone stays gone. -/
def boolsC (G : List Bool) : List AV := G.map fun b => .lit (.bool b)
theorem boolsC_len (G : List Bool) : (boolsC G).length = G.length := by simp [boolsC]
theorem boolsC_set (G : List Bool) (t : Nat) (b : Bool) : (boolsC G).set t (.lit (.bool b)) = boolsC (G.set t b) := by simp [boolsC, List.map_set]
theorem boolsC_drop {G : List Bool} {t : Nat} {b : Bool} (h : G[t]? = some b) : (boolsC G).drop t = .lit (.bool b) :: (boolsC G).drop (t + 1) := by
  obtain ⟨h1, h2⟩ := List.getElem?_eq_some_iff.mp h
  rw [List.drop_eq_getElem_cons (by rw [boolsC_len]; exact h1)]
  simp [boolsC, h2]

theorem qfront_nil {q mid g : Nat} {st : St} (h : QIs st q mid [] g) : PCalls Go.Proofs.Try.prog n_f26 [.ptr q 0] st (.tup [.lit (.int .i64 0), .lit (.int .u64 0), .lit (.int .i64 9)]) := qfront_pure h
theorem qfront_cons {q mid g u : Nat} {y : Int} {r : Qu} {st : St} (h : QIs st q mid ((u, y) :: r) g) : PCalls Go.Proofs.Try.prog n_f26 [.ptr q 0] st (.tup [.lit (.int .i64 y), .lit (.int .u64 (u : Nat)), .lit (.int .i64 0)]) := qfront_pure h

structure HInv (L : Qu) (n p : Nat) (G : List Bool) : Prop where
  len : G.length = 64
  val : ∀ x ∈ L, x.2 = (x.1 : Int)
  yes : ∀ t ∈ ticks L, G[t]? = some false
  no : ∀ t, 1 ≤ t → t ≤ n → t ∉ ticks L → G[t]? = some true
  fut : ∀ t, n < t → t < 64 → G[t]? = some false
  lt : ∀ t ∈ ticks L, p < t
  pn : p ≤ n

theorem srt_len {n : Nat} : ∀ (l : List Nat) (a : Nat), l.Pairwise (· < ·) → (∀ x ∈ l, a < x ∧ x ≤ n) → l.length ≤ n - a
  | [], _, _, _ => Nat.zero_le _
  | x :: l, a, hp, hx => by
    have h1 := srt_len l x (List.pairwise_cons.mp hp).2 fun y hy => ⟨(List.pairwise_cons.mp hp).1 y hy, (hx y (by simp [hy])).2⟩
    have h2 := hx x (by simp)
    rw [List.length_cons]; omega
theorem qis_len {st : St} {q mid g : Nat} {L : Qu} (h : QIs st q mid L g) : L.length ≤ g := by
  have := srt_len (ticks L) 0 h.srt h.pos
  simpa [ticks] using this

theorem mem_tick {A B : Qu} {t : Nat} {v : Int} : t ∈ ticks (A ++ (t, v) :: B) := by simp [ticks]

theorem HInv.push {L : Qu} {n p : Nat} {G : List Bool} (h : HInv L n p G) (hn : n < 63) : HInv (L ++ [(n + 1, ((n + 1 : Nat) : Int))]) (n + 1) p G := by
  refine ⟨h.len, fun x hx => ?_, fun t ht => ?_, fun t h1 h2 h3 => ?_, fun t h1 h2 => h.fut t (by omega) h2, fun t ht => ?_, by have := h.pn; omega⟩
  · rcases List.mem_append.mp hx with hx | hx
    · exact h.val x hx
    · rw [List.mem_singleton] at hx; subst hx; rfl
  · rw [ticks_app] at ht
    rcases List.mem_append.mp ht with ht | ht
    · exact h.yes t ht
    · have : t = n + 1 := by simpa [ticks] using ht
      exact h.fut t (by omega) (by omega)
  · rw [ticks_app] at h3
    have h4 : t ∉ ticks L ∧ t ≠ n + 1 := by simpa [ticks] using h3
    exact h.no t h1 (by omega) h4.1
  · rw [ticks_app] at ht
    have := h.pn
    rcases List.mem_append.mp ht with ht | ht
    · exact h.lt t ht
    · have : t = n + 1 := by simpa [ticks] using ht
      omega

theorem HInv.cut {A B : Qu} {t : Nat} {v : Int} {n p : Nat} {G : List Bool} (h : HInv (A ++ (t, v) :: B) n p G) (htn : t ≤ n) (hs : (ticks (A ++ (t, v) :: B)).Pairwise (· < ·)) :
    HInv (A ++ B) n p (G.set t true) := by
  have hnd : t ∉ ticks (A ++ B) := by
    rw [ticks_app] at hs ⊢
    have h2 : ticks ((t, v) :: B) = t :: ticks B := rfl
    rw [h2, List.pairwise_append] at hs
    obtain ⟨_, h3, h4⟩ := hs
    intro hm
    rcases List.mem_append.mp hm with hm | hm
    · exact Nat.lt_irrefl _ (h4 t hm t (by simp))
    · exact Nat.lt_irrefl _ ((List.pairwise_cons.mp h3).1 t hm)
  have hsub : ∀ u, u ∈ ticks (A ++ B) → u ∈ ticks (A ++ (t, v) :: B) := fun u hu => by
    simp only [ticks, List.map_append, List.mem_append, List.map_cons, List.mem_cons] at hu ⊢
    exact hu.imp id .inr
  refine ⟨by rw [List.length_set]; exact h.len, fun x hx => h.val x ?_, fun u hu => ?_, fun u h1 h2 h3 => ?_, fun u h1 h2 => ?_, fun u hu => h.lt u (hsub u hu), h.pn⟩
  · simp only [List.mem_append, List.mem_cons] at hx ⊢
    exact hx.imp id .inr
  · have : u ≠ t := fun e => hnd (e ▸ hu)
    rw [List.getElem?_set_ne (by omega)]
    exact h.yes u (hsub u hu)
  · by_cases hu : u = t
    · subst hu
      have := h.yes u mem_tick
      obtain ⟨h5, _⟩ := List.getElem?_eq_some_iff.mp this
      rw [List.getElem?_set_self h5]
    · rw [List.getElem?_set_ne (by omega)]
      refine h.no u h1 h2 fun hm => h3 ?_
      simp only [ticks, List.map_append, List.mem_append, List.map_cons, List.mem_cons] at hm ⊢
      exact hm.imp id fun o => o.resolve_left hu
  · by_cases hu : u = t
    · subst hu
      omega
    · rw [List.getElem?_set_ne (by omega)]
      exact h.fut u h1 h2

theorem HInv.pop {B : Qu} {t : Nat} {v : Int} {n p : Nat} {G : List Bool} (h : HInv ((t, v) :: B) n p G) (hs : (ticks ((t, v) :: B)).Pairwise (· < ·)) (htn : t ≤ n) :
    HInv B n t (G.set t true) := by
  have h1 := HInv.cut (A := []) h htn hs
  exact ⟨h1.len, h1.val, h1.yes, h1.no, h1.fut, fun u hu => (List.pairwise_cons.mp hs).1 u hu, htn⟩
end Go.Fx.YtenijlfcfmhmkaaFx

