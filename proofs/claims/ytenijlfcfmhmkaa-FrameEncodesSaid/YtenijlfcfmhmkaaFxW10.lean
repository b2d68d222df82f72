/- What the functions that the statement reaches compute: part 10. -/
import Derived.Test.YtenijlfcfmhmkaaFxW9
namespace Go.Fx.YtenijlfcfmhmkaaFx
open Go Go.Fx
attribute [local irreducible] aC runI headI loopI

set_option maxRecDepth 100000
set_option maxHeartbeats 4000000

/-- A frame's encoding as a list. -/
theorem enc_list (f : Fr) : encB f.1 f.2 = 197 :: f.1 :: UInt8.ofNat (f.2.length / 256) :: UInt8.ofNat f.2.length :: (f.2 ++ twoB (sumB 1 (innerB f.1 f.2))) := by
  simp [encB, innerB, twoB]

theorem two_back {n : Nat} (h : n ≤ 1024) : 256 * (UInt8.ofNat (n / 256)).toNat + (UInt8.ofNat n).toNat = n := by
  simp only [UInt8.toNat_ofNat']; omega

theorem nxt_enc (f : Fr) (rest : List UInt8) (h : f.2.length ≤ 1024) : nxt (encB f.1 f.2 ++ rest) = (f, f.2.length + 6, 0) := by
  obtain ⟨k, b⟩ := f
  simp only at h ⊢
  have hl : (encB k b ++ rest).length = b.length + 6 + rest.length := by rw [List.length_append, enc_len]
  have e0 : (encB k b ++ rest).getD 0 0 = 197 := by rw [enc_list (k, b)]; rfl
  have e1 : (encB k b ++ rest).getD 1 0 = k := by rw [enc_list (k, b)]; rfl
  have e2 : 256 * ((encB k b ++ rest).getD 2 0).toNat + ((encB k b ++ rest).getD 3 0).toNat = b.length := by rw [enc_list (k, b)]; exact two_back h
  have t1 : ((encB k b ++ rest).take (4 + b.length)) = 197 :: innerB k b := by
    rw [enc_list (k, b)]
    simp only [innerB, twoB, List.cons_append, List.append_assoc, Nat.add_comm 4, List.take_succ_cons, List.nil_append, List.take_left]
  have t2 : ((encB k b ++ rest).take (6 + b.length)) = 197 :: innerB k b ++ twoB (sumB 1 (innerB k b)) := by
    have : encB k b ++ rest = (197 :: innerB k b ++ twoB (sumB 1 (innerB k b))) ++ rest := by simp [encB]
    rw [this, List.take_left' (by simp [inner_len, twoB]; omega)]
  unfold nxt
  rw [e0, e1, e2, hl, t1, t2]
  have d1 : List.drop (4 + b.length) (197 :: innerB k b ++ twoB (sumB 1 (innerB k b))) = twoB (sumB 1 (innerB k b)) := List.drop_left' (by simp [inner_len]; omega)
  rw [d1]
  rw [if_neg (by omega), if_neg (by simp), if_neg (by omega), if_neg (by omega), if_neg (by omega), if_pos (by simp)]
  simp [innerB, twoB]

theorem nxt_part (f : Fr) (rest : List UInt8) (m : Nat) (h : f.2.length ≤ 1024) (hm : m < f.2.length + 6) : (nxt ((encB f.1 f.2 ++ rest).take m)).2.1 = 0 ∧ (nxt ((encB f.1 f.2 ++ rest).take m)).2.2 = 0 := by
  have hl : ((encB f.1 f.2 ++ rest).take m).length = m := by rw [List.length_take, List.length_append, enc_len]; omega
  unfold nxt
  rw [hl]
  by_cases h0 : m = 0
  · rw [if_pos h0]; exact ⟨rfl, rfl⟩
  rw [if_neg h0]
  have e0 : ((encB f.1 f.2 ++ rest).take m).getD 0 0 = 197 := by
    obtain ⟨q, rfl⟩ : ∃ q, m = q + 1 := ⟨m - 1, by omega⟩
    rw [enc_list f]; rfl
  rw [e0, if_neg (by simp)]
  by_cases h4 : m < 4
  · rw [if_pos h4]; exact ⟨rfl, rfl⟩
  rw [if_neg h4]
  have e2 : 256 * (((encB f.1 f.2 ++ rest).take m).getD 2 0).toNat + (((encB f.1 f.2 ++ rest).take m).getD 3 0).toNat = f.2.length := by
    obtain ⟨q, rfl⟩ : ∃ q, m = q + 1 + 1 + 1 + 1 := ⟨m - 4, by omega⟩
    rw [enc_list f]; exact two_back h
  rw [e2, if_neg (by omega), if_pos hm]
  exact ⟨rfl, rfl⟩

theorem joinB_drop (l : List Fr) (i : Nat) : (joinB l).drop (joinB (l.take i)).length = joinB (l.drop i) := by
  conv => lhs; rw [← List.take_append_drop i l]
  rw [joinB_app, List.take_append_drop, List.drop_left]

/-- The first frame of a beginning of joined frames. -/
theorem nxt_join (l : List Fr) (m : Nat) (h : ∀ f ∈ l, f.2.length ≤ 1024) : (nxt ((joinB l).take m)).2.2 = 0 ∧
    (((nxt ((joinB l).take m)).2.1 = 0 ∧ (l = [] ∨ ∃ f r, l = f :: r ∧ m < f.2.length + 6)) ∨
     ∃ f r, l = f :: r ∧ (nxt ((joinB l).take m)).1 = f ∧ (nxt ((joinB l).take m)).2.1 = f.2.length + 6 ∧ f.2.length + 6 ≤ m) := by
  match l, h with
  | [], _ => simp [joinB, nxt]
  | f :: r, h =>
    have hf := h f (List.mem_cons_self ..)
    simp only [joinB]
    by_cases hm : m < f.2.length + 6
    · obtain ⟨h1, h2⟩ := nxt_part f (joinB r) m hf hm
      exact ⟨h2, .inl ⟨h1, .inr ⟨f, r, rfl, hm⟩⟩⟩
    · have e : (encB f.1 f.2 ++ joinB r).take m = encB f.1 f.2 ++ (joinB r).take (m - (f.2.length + 6)) := by
        rw [List.take_append, enc_len, List.take_of_length_le (by rw [enc_len]; omega)]
      rw [e, nxt_enc f _ hf]
      exact ⟨rfl, .inr ⟨f, r, rfl, rfl, rfl, by omega⟩⟩

theorem allF_join (l : List Fr) (h : ∀ f ∈ l, f.2.length ≤ 1024) (k : Nat) : ∀ (n i : Nat) (j : Nat), j ≤ l.length → i = (joinB (l.take j)).length → i ≤ ((joinB l).take k).length →
    (allF ((joinB l).take k) n i (l.take j)).2.2 = 0 ∧ (allF ((joinB l).take k) n i (l.take j)).2.1 ≤ ((joinB l).take k).length ∧ ∃ q, q ≤ l.length ∧ (allF ((joinB l).take k) n i (l.take j)).1 = l.take q
  | 0, i, j, hj, hi, hk => ⟨rfl, hk, j, hj, rfl⟩
  | n + 1, i, j, hj, hi, hk => by
    have e : ((joinB l).take k).drop i = (joinB (l.drop j)).take (k - i) := by rw [List.drop_take, hi, joinB_drop]
    have hx := nxt_join (l.drop j) (k - i) fun f hf => h f (List.mem_of_mem_drop hf)
    simp only [allF]
    rw [e]
    generalize hR : nxt ((joinB (l.drop j)).take (k - i)) = R at hx
    obtain ⟨h1, h2⟩ := hx
    rw [if_neg (by omega)]
    rcases h2 with ⟨h3, _⟩ | ⟨f, r, h3, h4, h5, h6⟩
    · rw [if_pos h3]
      exact ⟨rfl, hk, j, hj, rfl⟩
    · rw [if_neg (by omega), h4, h5]
      have hjl : j < l.length := by
        have := congrArg List.length h3
        simp at this; omega
      have hf : l[j] = f := by
        have := List.drop_eq_getElem_cons hjl
        rw [h3] at this
        injection this with a b
        exact a.symm
      have e3 : l.take j ++ [f] = l.take (j + 1) := by rw [List.take_succ_eq_append_getElem hjl, hf]
      rw [e3]
      refine allF_join l h k n _ (j + 1) hjl ?_ ?_
      · rw [← e3, joinB_app, List.length_append, ← hi]
        simp [joinB, enc_len]
      · rw [List.length_take] at hk ⊢
        have : i + (joinB (l.drop j)).length = (joinB l).length := by
          rw [hi, ← joinB_drop, List.length_drop]
          omega
        rw [h3] at this
        simp only [joinB, List.length_append, enc_len] at this
        omega

theorem allB_join (l : List Fr) (h : ∀ f ∈ l, f.2.length ≤ 1024) (k : Nat) :
    (allB ((joinB l).take k)).2.2 = 0 ∧ (allB ((joinB l).take k)).2.1 ≤ ((joinB l).take k).length ∧ ∃ q, q ≤ l.length ∧ (allB ((joinB l).take k)).1 = l.take q := by
  have := allF_join l h k (((joinB l).take k).length + 1) 0 0 (by omega) (by simp [joinB]) (by omega)
  simpa [allB] using this
end Go.Fx.YtenijlfcfmhmkaaFx

