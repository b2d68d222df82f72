/- What the functions that the statement reaches compute: part 13. -/
import Derived.Test.YtddifejdkiemgaaFxW12
namespace Go.Fx.YtddifejdkiemgaaFx
open Go Go.Fx
attribute [local irreducible] aC runI headI loopI

set_option maxRecDepth 100000
set_option maxHeartbeats 8000000

abbrev Bc := Int × Int
def bcAV (a : Bc) : AV := .agg [.lit (.int .i64 a.1), .lit (.int .i64 a.2)]
def bcsAV (l : List Bc) : AV := .sl false 2 (l.map bcAV)
def hlSf (l : List Bc) (b : Nat) (L : List Int) (cl : Bool) (i : Nat) : Sf := ⟨[(1, bcsAV l), (5, .ptr b 0), (7, gAV L), (8, .lit (.bool cl)), (9, .lit (.int .i64 (i : Nat)))], []⟩

def hkSf (l : List Bc) (b : Nat) (L : List Int) (cl : Bool) (i : Nat) : Sf := ⟨[(1, bcsAV l), (5, .ptr b 0), (7, gAV L), (8, .lit (.bool cl)), (9, .lit (.int .i64 (i : Nat))), (131, .lit (.bool false))], []⟩

/-- The checks after each call. -/
theorem bh_check0 {l : List Bc} {b q mid tid n g i : Nat} {cl : Bool} {L : Qu} {st : St} (h : BkIs st b q mid tid n cl L g) (hn : n ≤ 4000) (hcl : cl = true → L = []) {K : Exit → Sf → St → Prop}
    (hK : ∀ st', BkIs st' b q mid tid n cl L g → K .normal (hkSf l b (conns L) cl i) st') :
    aC Go.Proofs.Try.prog id false f5_90 ⟨[(1, bcsAV l), (5, .ptr b 0), (7, gAV (conns L)), (8, .lit (.bool cl)), (9, .lit (.int .i64 (i : Nat)))], []⟩ st K := by
  have hlen := h.len
  have hcl2 : (conns L).length = L.length := by simp [conns]
  have hw := bwaiting_calls h (by omega)
  have hs : ∀ st, PCalls Go.Proofs.Try.prog n_f25 [lAV (conns L), lAV (conns L)] st (.lit (.bool true)) := fun st => by have := lsame_l (conns L) (conns L) (by omega) (by omega) st; simpa using this
  obtain ⟨w1, w2, w3, w4, w5, w6⟩ := lAV_facts (conns L)
  have g1 := gAV_dis (conns L)
  have g2 := gAV_noL (conns L)
  have gl : ∀ st, lenI .sl st (gAV (conns L)) = .ok (.lit (.int .i64 (L.length : Nat))) := fun st => by
    rw [← hcl2]
    rcases gAV_cases (conns L) with ⟨e, e2⟩ | ⟨e, _⟩
    · rw [e, e2]; rfl
    · rw [e]; simp [lenI, ints_len]
  unfold hkSf at hK
  obtain ⟨x, hx⟩ : ∃ x, x = gAV (conns L) := ⟨_, rfl⟩
  rw [← hx] at hK g1 g2 gl ⊢
  have hcases : x = .lit (.slice none 0 0) ∨ x = .sl true 1 (ints (conns L)) := by rw [hx]; rcases gAV_cases (conns L) with ⟨e, _⟩ | ⟨e, _⟩ <;> simp [e]
  have hmost := fun st (h : BkIs st b q mid tid n cl L g) => bmost_pure h
  have hil := ints_len (conns L)
  have hroom : cl = false → decide (((n - L.length : Nat) : Int) + (L.length : Nat) = (n : Nat)) = true := fun _ => decide_eq_true (by omega)
  rcases hcases with rfl | rfl
  · have e : lAV (conns L) = .lit (.slice none 0 0) := g1.symm
    rw [e] at hs hw
    have gl0 := gl st
    have hL0 : L.length = 0 := by
      have : (Res.ok (AV.lit (.int .i64 0)) : Res AV) = .ok (.lit (.int .i64 (L.length : Nat))) := gl0
      have h9 : (0 : Int) = (L.length : Nat) := by injection this with h; injection h with h; injection h
      omega
    simp -implicitDefEqProofs (maxSteps := 10000000) (disch := omega) only [runI_none, o_mv, o_call, ev_r, ev_f, putS, Sf.set, Sf.reg, getR, setR, id, dis_ptr, List.map_cons, List.map_nil, ↓reduceIte, Nat.reduceEqDiff, f5_90e, f5_91e, f5_91l, bcsAV]
    refine call_a rfl e_f19 hw rfl fun r st1 hr => ?_
    obtain ⟨rfl, hl1, hk1⟩ := hr
    have h1 : BkIs st1 b q mid tid n cl L g := h.at fun i hi => hk1 i (h.lts i hi)
    have hr1 := broom_pure h1 hn
    have hf := hK st1 h1
    simp only [bcsAV] at hf
    rw [hL0] at hr1
    simp -implicitDefEqProofs (maxSteps := 10000000) (disch := omega) only [runI_none, o_mv, o_call, ev_r, ev_f, putS, Sf.set, Sf.reg, getR, setR, id, dis_lit, List.map_cons, List.map_nil, ↓reduceIte, Nat.reduceEqDiff]
    refine call_p rfl e_f25 (hs _) rfl ?_
    cases cl
    · simp only [Bool.false_eq_true, if_false, Nat.sub_zero] at hr1
      simp -implicitDefEqProofs (maxSteps := 10000000) (disch := omega) only [runI_none, runI_some, AI.dst, putP_eq, guard_tt, guard_ff, o_mv, o_un, o_call, unA, wp_ok, ev_r, ev_f, putS, Sf.set, Sf.reg, getR, setR, id, dis_lit, dis_ptr, List.map_cons, List.map_nil, ↓reduceIte, Nat.reduceEqDiff, Bool.not_true, Bool.not_false, Bool.false_eq_true]
      refine call_p rfl e_f17 hr1 rfl ?_
      simp -implicitDefEqProofs (maxSteps := 10000000) (disch := omega) only [runI_some, AI.dst, putP_eq, guard_tt, o_mv, o_bin, o_len, o_call, lenI, n_add, wp_ok, ev_r, ev_f, putS, Sf.set, Sf.reg, getR, setR, id, dis_lit, dis_ptr, List.map_cons, List.map_nil, ↓reduceIte, Nat.reduceEqDiff, IntWalk.i64_in, Int.add_zero]
      refine call_p rfl e_f26 (bmost_pure h1) rfl ?_
      simp -implicitDefEqProofs (maxSteps := 10000000) (disch := omega) only [seqQ_normal, aC_skip, opsK_eq, runI_nil, runI_none, runI_some, AI.dst, putP_eq, cond_ff, guard_tt, guard_ff, o_pick, o_bin, pick_tt, pick_ff, n_neq, wp_ok, ev_r, ev_c, setB_r, putS, Sf.set, Sf.reg, mask_eq, maskR_nil, maskR_cons, getR, setR, maskL, dis_lit, ↓reduceIte, Nat.reduceEqDiff, not_true_eq_false, decide_false, Bool.false_eq_true, f5_92e]
      exact hf
    · simp -implicitDefEqProofs (maxSteps := 10000000) (disch := omega) only [seqQ_normal, aC_skip, opsK_eq, runI_nil, runI_none, runI_some, skipI_eq, AI.dst, putP_eq, cond_ff, guard_ff, o_mv, o_pick, o_un, pick_ff, unA, wp_ok, ev_r, ev_c, setB_r, putS, Sf.set, Sf.reg, mask_eq, maskR_nil, maskR_cons, getR, setR, maskL, dis_lit, ↓reduceIte, Nat.reduceEqDiff, Bool.not_true, Bool.false_eq_true, f5_92e]
      exact hf
  · have e : lAV (conns L) = .sl false 1 (ints (conns L)) := g1.symm
    rw [e] at hs hw
    simp -implicitDefEqProofs (maxSteps := 10000000) (disch := omega) only [runI_none, o_mv, o_call, ev_r, ev_f, putS, Sf.set, Sf.reg, getR, setR, id, dis_ptr, List.map_cons, List.map_nil, ↓reduceIte, Nat.reduceEqDiff, f5_90e, f5_91e, f5_91l, bcsAV]
    refine call_a rfl e_f19 hw rfl fun r st1 hr => ?_
    obtain ⟨rfl, hl1, hk1⟩ := hr
    have h1 : BkIs st1 b q mid tid n cl L g := h.at fun i hi => hk1 i (h.lts i hi)
    have hr1 := broom_pure h1 hn
    have hf := hK st1 h1
    simp only [bcsAV] at hf
    simp -implicitDefEqProofs (maxSteps := 10000000) (disch := omega) only [runI_none, o_mv, o_call, ev_r, ev_f, putS, Sf.set, Sf.reg, getR, setR, id, dis_sl, List.map_cons, List.map_nil, ↓reduceIte, Nat.reduceEqDiff]
    refine call_p rfl e_f25 (hs _) rfl ?_
    cases cl
    · simp only [Bool.false_eq_true, if_false] at hr1
      have hne : decide (((n - L.length : Nat) : Int) + (L.length : Nat) ≠ (n : Nat)) = false := decide_eq_false (by simp; omega)
      simp -implicitDefEqProofs (maxSteps := 10000000) (disch := omega) only [runI_none, runI_some, AI.dst, putP_eq, guard_tt, guard_ff, o_mv, o_un, o_call, unA, wp_ok, ev_r, ev_f, putS, Sf.set, Sf.reg, getR, setR, id, dis_lit, dis_ptr, List.map_cons, List.map_nil, ↓reduceIte, Nat.reduceEqDiff, Bool.not_true, Bool.not_false, Bool.false_eq_true]
      refine call_p rfl e_f17 hr1 rfl ?_
      simp -implicitDefEqProofs (maxSteps := 10000000) (disch := omega) only [runI_some, AI.dst, putP_eq, guard_tt, o_mv, o_bin, o_len, o_call, lenI, n_add, wp_ok, ev_r, ev_f, putS, Sf.set, Sf.reg, getR, setR, id, dis_ptr, dis_sl, List.map_cons, List.map_nil, ↓reduceIte, Nat.reduceEqDiff, IntWalk.i64_in, up_add, hil, hcl2]
      refine call_p rfl e_f26 (bmost_pure h1) rfl ?_
      rw [show n - L.length + L.length = n by omega]
      simp -implicitDefEqProofs (maxSteps := 10000000) (disch := omega) only [seqQ_normal, aC_skip, opsK_eq, runI_nil, runI_none, runI_some, AI.dst, putP_eq, cond_ff, guard_tt, guard_ff, o_pick, o_bin, pick_tt, pick_ff, n_neq, wp_ok, ev_r, ev_c, setB_r, putS, Sf.set, Sf.reg, mask_eq, maskR_nil, maskR_cons, getR, setR, maskL, dis_lit, ↓reduceIte, Nat.reduceEqDiff, not_true_eq_false, decide_false, Bool.false_eq_true, f5_92e]
      exact hf
    · simp -implicitDefEqProofs (maxSteps := 10000000) (disch := omega) only [seqQ_normal, aC_skip, opsK_eq, runI_nil, runI_none, runI_some, skipI_eq, AI.dst, putP_eq, cond_ff, guard_ff, o_mv, o_pick, o_un, pick_ff, unA, wp_ok, ev_r, ev_c, setB_r, putS, Sf.set, Sf.reg, mask_eq, maskR_nil, maskR_cons, getR, setR, maskL, dis_lit, ↓reduceIte, Nat.reduceEqDiff, Bool.not_true, Bool.false_eq_true, f5_92e]
      exact hf
/-- The checks after each call. -/
theorem bh_check1 {l : List Bc} {b q mid tid n g i : Nat} {cl : Bool} {L : Qu} {st : St} (h : BkIs st b q mid tid n cl L g) (hn : n ≤ 4000) (hcl : cl = true → L = []) (c : Int) {K : Exit → Sf → St → Prop}
    (hK : ∀ st', BkIs st' b q mid tid n cl L g → K .normal (hkSf l b (conns L) cl i) st') :
    aC Go.Proofs.Try.prog id false f5_90 ⟨[(1, bcsAV l), (5, .ptr b 0), (7, gAV (conns L)), (8, .lit (.bool cl)), (9, .lit (.int .i64 (i : Nat))), (10, .lit (.int .i64 c)), (60, .lit (.bool false))], []⟩ st K := by
  have hlen := h.len
  have hcl2 : (conns L).length = L.length := by simp [conns]
  have hw := bwaiting_calls h (by omega)
  have hs : ∀ st, PCalls Go.Proofs.Try.prog n_f25 [lAV (conns L), lAV (conns L)] st (.lit (.bool true)) := fun st => by have := lsame_l (conns L) (conns L) (by omega) (by omega) st; simpa using this
  obtain ⟨w1, w2, w3, w4, w5, w6⟩ := lAV_facts (conns L)
  have g1 := gAV_dis (conns L)
  have g2 := gAV_noL (conns L)
  have gl : ∀ st, lenI .sl st (gAV (conns L)) = .ok (.lit (.int .i64 (L.length : Nat))) := fun st => by
    rw [← hcl2]
    rcases gAV_cases (conns L) with ⟨e, e2⟩ | ⟨e, _⟩
    · rw [e, e2]; rfl
    · rw [e]; simp [lenI, ints_len]
  unfold hkSf at hK
  obtain ⟨x, hx⟩ : ∃ x, x = gAV (conns L) := ⟨_, rfl⟩
  rw [← hx] at hK g1 g2 gl ⊢
  have hcases : x = .lit (.slice none 0 0) ∨ x = .sl true 1 (ints (conns L)) := by rw [hx]; rcases gAV_cases (conns L) with ⟨e, _⟩ | ⟨e, _⟩ <;> simp [e]
  have hmost := fun st (h : BkIs st b q mid tid n cl L g) => bmost_pure h
  have hil := ints_len (conns L)
  have hroom : cl = false → decide (((n - L.length : Nat) : Int) + (L.length : Nat) = (n : Nat)) = true := fun _ => decide_eq_true (by omega)
  rcases hcases with rfl | rfl
  · have e : lAV (conns L) = .lit (.slice none 0 0) := g1.symm
    rw [e] at hs hw
    have gl0 := gl st
    have hL0 : L.length = 0 := by
      have : (Res.ok (AV.lit (.int .i64 0)) : Res AV) = .ok (.lit (.int .i64 (L.length : Nat))) := gl0
      have h9 : (0 : Int) = (L.length : Nat) := by injection this with h; injection h with h; injection h
      omega
    simp -implicitDefEqProofs (maxSteps := 10000000) (disch := omega) only [runI_none, o_mv, o_call, ev_r, ev_f, putS, Sf.set, Sf.reg, getR, setR, id, dis_ptr, List.map_cons, List.map_nil, ↓reduceIte, Nat.reduceEqDiff, f5_90e, f5_91e, f5_91l, bcsAV]
    refine call_a rfl e_f19 hw rfl fun r st1 hr => ?_
    obtain ⟨rfl, hl1, hk1⟩ := hr
    have h1 : BkIs st1 b q mid tid n cl L g := h.at fun i hi => hk1 i (h.lts i hi)
    have hr1 := broom_pure h1 hn
    have hf := hK st1 h1
    simp only [bcsAV] at hf
    rw [hL0] at hr1
    simp -implicitDefEqProofs (maxSteps := 10000000) (disch := omega) only [runI_none, o_mv, o_call, ev_r, ev_f, putS, Sf.set, Sf.reg, getR, setR, id, dis_lit, List.map_cons, List.map_nil, ↓reduceIte, Nat.reduceEqDiff]
    refine call_p rfl e_f25 (hs _) rfl ?_
    cases cl
    · simp only [Bool.false_eq_true, if_false, Nat.sub_zero] at hr1
      simp -implicitDefEqProofs (maxSteps := 10000000) (disch := omega) only [runI_none, runI_some, AI.dst, putP_eq, guard_tt, guard_ff, o_mv, o_un, o_call, unA, wp_ok, ev_r, ev_f, putS, Sf.set, Sf.reg, getR, setR, id, dis_lit, dis_ptr, List.map_cons, List.map_nil, ↓reduceIte, Nat.reduceEqDiff, Bool.not_true, Bool.not_false, Bool.false_eq_true]
      refine call_p rfl e_f17 hr1 rfl ?_
      simp -implicitDefEqProofs (maxSteps := 10000000) (disch := omega) only [runI_some, AI.dst, putP_eq, guard_tt, o_mv, o_bin, o_len, o_call, lenI, n_add, wp_ok, ev_r, ev_f, putS, Sf.set, Sf.reg, getR, setR, id, dis_lit, dis_ptr, List.map_cons, List.map_nil, ↓reduceIte, Nat.reduceEqDiff, IntWalk.i64_in, Int.add_zero]
      refine call_p rfl e_f26 (bmost_pure h1) rfl ?_
      simp -implicitDefEqProofs (maxSteps := 10000000) (disch := omega) only [seqQ_normal, aC_skip, opsK_eq, runI_nil, runI_none, runI_some, AI.dst, putP_eq, cond_ff, guard_tt, guard_ff, o_pick, o_bin, pick_tt, pick_ff, n_neq, wp_ok, ev_r, ev_c, setB_r, putS, Sf.set, Sf.reg, mask_eq, maskR_nil, maskR_cons, getR, setR, maskL, dis_lit, ↓reduceIte, Nat.reduceEqDiff, not_true_eq_false, decide_false, Bool.false_eq_true, f5_92e]
      exact hf
    · simp -implicitDefEqProofs (maxSteps := 10000000) (disch := omega) only [seqQ_normal, aC_skip, opsK_eq, runI_nil, runI_none, runI_some, skipI_eq, AI.dst, putP_eq, cond_ff, guard_ff, o_mv, o_pick, o_un, pick_ff, unA, wp_ok, ev_r, ev_c, setB_r, putS, Sf.set, Sf.reg, mask_eq, maskR_nil, maskR_cons, getR, setR, maskL, dis_lit, ↓reduceIte, Nat.reduceEqDiff, Bool.not_true, Bool.false_eq_true, f5_92e]
      exact hf
  · have e : lAV (conns L) = .sl false 1 (ints (conns L)) := g1.symm
    rw [e] at hs hw
    simp -implicitDefEqProofs (maxSteps := 10000000) (disch := omega) only [runI_none, o_mv, o_call, ev_r, ev_f, putS, Sf.set, Sf.reg, getR, setR, id, dis_ptr, List.map_cons, List.map_nil, ↓reduceIte, Nat.reduceEqDiff, f5_90e, f5_91e, f5_91l, bcsAV]
    refine call_a rfl e_f19 hw rfl fun r st1 hr => ?_
    obtain ⟨rfl, hl1, hk1⟩ := hr
    have h1 : BkIs st1 b q mid tid n cl L g := h.at fun i hi => hk1 i (h.lts i hi)
    have hr1 := broom_pure h1 hn
    have hf := hK st1 h1
    simp only [bcsAV] at hf
    simp -implicitDefEqProofs (maxSteps := 10000000) (disch := omega) only [runI_none, o_mv, o_call, ev_r, ev_f, putS, Sf.set, Sf.reg, getR, setR, id, dis_sl, List.map_cons, List.map_nil, ↓reduceIte, Nat.reduceEqDiff]
    refine call_p rfl e_f25 (hs _) rfl ?_
    cases cl
    · simp only [Bool.false_eq_true, if_false] at hr1
      have hne : decide (((n - L.length : Nat) : Int) + (L.length : Nat) ≠ (n : Nat)) = false := decide_eq_false (by simp; omega)
      simp -implicitDefEqProofs (maxSteps := 10000000) (disch := omega) only [runI_none, runI_some, AI.dst, putP_eq, guard_tt, guard_ff, o_mv, o_un, o_call, unA, wp_ok, ev_r, ev_f, putS, Sf.set, Sf.reg, getR, setR, id, dis_lit, dis_ptr, List.map_cons, List.map_nil, ↓reduceIte, Nat.reduceEqDiff, Bool.not_true, Bool.not_false, Bool.false_eq_true]
      refine call_p rfl e_f17 hr1 rfl ?_
      simp -implicitDefEqProofs (maxSteps := 10000000) (disch := omega) only [runI_some, AI.dst, putP_eq, guard_tt, o_mv, o_bin, o_len, o_call, lenI, n_add, wp_ok, ev_r, ev_f, putS, Sf.set, Sf.reg, getR, setR, id, dis_ptr, dis_sl, List.map_cons, List.map_nil, ↓reduceIte, Nat.reduceEqDiff, IntWalk.i64_in, up_add, hil, hcl2]
      refine call_p rfl e_f26 (bmost_pure h1) rfl ?_
      rw [show n - L.length + L.length = n by omega]
      simp -implicitDefEqProofs (maxSteps := 10000000) (disch := omega) only [seqQ_normal, aC_skip, opsK_eq, runI_nil, runI_none, runI_some, AI.dst, putP_eq, cond_ff, guard_tt, guard_ff, o_pick, o_bin, pick_tt, pick_ff, n_neq, wp_ok, ev_r, ev_c, setB_r, putS, Sf.set, Sf.reg, mask_eq, maskR_nil, maskR_cons, getR, setR, maskL, dis_lit, ↓reduceIte, Nat.reduceEqDiff, not_true_eq_false, decide_false, Bool.false_eq_true, f5_92e]
      exact hf
    · simp -implicitDefEqProofs (maxSteps := 10000000) (disch := omega) only [seqQ_normal, aC_skip, opsK_eq, runI_nil, runI_none, runI_some, skipI_eq, AI.dst, putP_eq, cond_ff, guard_ff, o_mv, o_pick, o_un, pick_ff, unA, wp_ok, ev_r, ev_c, setB_r, putS, Sf.set, Sf.reg, mask_eq, maskR_nil, maskR_cons, getR, setR, maskL, dis_lit, ↓reduceIte, Nat.reduceEqDiff, Bool.not_true, Bool.false_eq_true, f5_92e]
      exact hf
/-- The checks after each call. -/
theorem bh_check2 {l : List Bc} {b q mid tid n g i : Nat} {cl : Bool} {L : Qu} {st : St} (h : BkIs st b q mid tid n cl L g) (hn : n ≤ 4000) (hcl : cl = true → L = []) (c : Int) {K : Exit → Sf → St → Prop}
    (hK : ∀ st', BkIs st' b q mid tid n cl L g → K .normal (hkSf l b (conns L) cl i) st') :
    aC Go.Proofs.Try.prog id false f5_90 ⟨[(1, bcsAV l), (5, .ptr b 0), (7, gAV (conns L)), (8, .lit (.bool cl)), (9, .lit (.int .i64 (i : Nat))), (11, .lit (.int .i64 c)), (73, .lit (.bool false))], []⟩ st K := by
  have hlen := h.len
  have hcl2 : (conns L).length = L.length := by simp [conns]
  have hw := bwaiting_calls h (by omega)
  have hs : ∀ st, PCalls Go.Proofs.Try.prog n_f25 [lAV (conns L), lAV (conns L)] st (.lit (.bool true)) := fun st => by have := lsame_l (conns L) (conns L) (by omega) (by omega) st; simpa using this
  obtain ⟨w1, w2, w3, w4, w5, w6⟩ := lAV_facts (conns L)
  have g1 := gAV_dis (conns L)
  have g2 := gAV_noL (conns L)
  have gl : ∀ st, lenI .sl st (gAV (conns L)) = .ok (.lit (.int .i64 (L.length : Nat))) := fun st => by
    rw [← hcl2]
    rcases gAV_cases (conns L) with ⟨e, e2⟩ | ⟨e, _⟩
    · rw [e, e2]; rfl
    · rw [e]; simp [lenI, ints_len]
  unfold hkSf at hK
  obtain ⟨x, hx⟩ : ∃ x, x = gAV (conns L) := ⟨_, rfl⟩
  rw [← hx] at hK g1 g2 gl ⊢
  have hcases : x = .lit (.slice none 0 0) ∨ x = .sl true 1 (ints (conns L)) := by rw [hx]; rcases gAV_cases (conns L) with ⟨e, _⟩ | ⟨e, _⟩ <;> simp [e]
  have hmost := fun st (h : BkIs st b q mid tid n cl L g) => bmost_pure h
  have hil := ints_len (conns L)
  have hroom : cl = false → decide (((n - L.length : Nat) : Int) + (L.length : Nat) = (n : Nat)) = true := fun _ => decide_eq_true (by omega)
  rcases hcases with rfl | rfl
  · have e : lAV (conns L) = .lit (.slice none 0 0) := g1.symm
    rw [e] at hs hw
    have gl0 := gl st
    have hL0 : L.length = 0 := by
      have : (Res.ok (AV.lit (.int .i64 0)) : Res AV) = .ok (.lit (.int .i64 (L.length : Nat))) := gl0
      have h9 : (0 : Int) = (L.length : Nat) := by injection this with h; injection h with h; injection h
      omega
    simp -implicitDefEqProofs (maxSteps := 10000000) (disch := omega) only [runI_none, o_mv, o_call, ev_r, ev_f, putS, Sf.set, Sf.reg, getR, setR, id, dis_ptr, List.map_cons, List.map_nil, ↓reduceIte, Nat.reduceEqDiff, f5_90e, f5_91e, f5_91l, bcsAV]
    refine call_a rfl e_f19 hw rfl fun r st1 hr => ?_
    obtain ⟨rfl, hl1, hk1⟩ := hr
    have h1 : BkIs st1 b q mid tid n cl L g := h.at fun i hi => hk1 i (h.lts i hi)
    have hr1 := broom_pure h1 hn
    have hf := hK st1 h1
    simp only [bcsAV] at hf
    rw [hL0] at hr1
    simp -implicitDefEqProofs (maxSteps := 10000000) (disch := omega) only [runI_none, o_mv, o_call, ev_r, ev_f, putS, Sf.set, Sf.reg, getR, setR, id, dis_lit, List.map_cons, List.map_nil, ↓reduceIte, Nat.reduceEqDiff]
    refine call_p rfl e_f25 (hs _) rfl ?_
    cases cl
    · simp only [Bool.false_eq_true, if_false, Nat.sub_zero] at hr1
      simp -implicitDefEqProofs (maxSteps := 10000000) (disch := omega) only [runI_none, runI_some, AI.dst, putP_eq, guard_tt, guard_ff, o_mv, o_un, o_call, unA, wp_ok, ev_r, ev_f, putS, Sf.set, Sf.reg, getR, setR, id, dis_lit, dis_ptr, List.map_cons, List.map_nil, ↓reduceIte, Nat.reduceEqDiff, Bool.not_true, Bool.not_false, Bool.false_eq_true]
      refine call_p rfl e_f17 hr1 rfl ?_
      simp -implicitDefEqProofs (maxSteps := 10000000) (disch := omega) only [runI_some, AI.dst, putP_eq, guard_tt, o_mv, o_bin, o_len, o_call, lenI, n_add, wp_ok, ev_r, ev_f, putS, Sf.set, Sf.reg, getR, setR, id, dis_lit, dis_ptr, List.map_cons, List.map_nil, ↓reduceIte, Nat.reduceEqDiff, IntWalk.i64_in, Int.add_zero]
      refine call_p rfl e_f26 (bmost_pure h1) rfl ?_
      simp -implicitDefEqProofs (maxSteps := 10000000) (disch := omega) only [seqQ_normal, aC_skip, opsK_eq, runI_nil, runI_none, runI_some, AI.dst, putP_eq, cond_ff, guard_tt, guard_ff, o_pick, o_bin, pick_tt, pick_ff, n_neq, wp_ok, ev_r, ev_c, setB_r, putS, Sf.set, Sf.reg, mask_eq, maskR_nil, maskR_cons, getR, setR, maskL, dis_lit, ↓reduceIte, Nat.reduceEqDiff, not_true_eq_false, decide_false, Bool.false_eq_true, f5_92e]
      exact hf
    · simp -implicitDefEqProofs (maxSteps := 10000000) (disch := omega) only [seqQ_normal, aC_skip, opsK_eq, runI_nil, runI_none, runI_some, skipI_eq, AI.dst, putP_eq, cond_ff, guard_ff, o_mv, o_pick, o_un, pick_ff, unA, wp_ok, ev_r, ev_c, setB_r, putS, Sf.set, Sf.reg, mask_eq, maskR_nil, maskR_cons, getR, setR, maskL, dis_lit, ↓reduceIte, Nat.reduceEqDiff, Bool.not_true, Bool.false_eq_true, f5_92e]
      exact hf
  · have e : lAV (conns L) = .sl false 1 (ints (conns L)) := g1.symm
    rw [e] at hs hw
    simp -implicitDefEqProofs (maxSteps := 10000000) (disch := omega) only [runI_none, o_mv, o_call, ev_r, ev_f, putS, Sf.set, Sf.reg, getR, setR, id, dis_ptr, List.map_cons, List.map_nil, ↓reduceIte, Nat.reduceEqDiff, f5_90e, f5_91e, f5_91l, bcsAV]
    refine call_a rfl e_f19 hw rfl fun r st1 hr => ?_
    obtain ⟨rfl, hl1, hk1⟩ := hr
    have h1 : BkIs st1 b q mid tid n cl L g := h.at fun i hi => hk1 i (h.lts i hi)
    have hr1 := broom_pure h1 hn
    have hf := hK st1 h1
    simp only [bcsAV] at hf
    simp -implicitDefEqProofs (maxSteps := 10000000) (disch := omega) only [runI_none, o_mv, o_call, ev_r, ev_f, putS, Sf.set, Sf.reg, getR, setR, id, dis_sl, List.map_cons, List.map_nil, ↓reduceIte, Nat.reduceEqDiff]
    refine call_p rfl e_f25 (hs _) rfl ?_
    cases cl
    · simp only [Bool.false_eq_true, if_false] at hr1
      have hne : decide (((n - L.length : Nat) : Int) + (L.length : Nat) ≠ (n : Nat)) = false := decide_eq_false (by simp; omega)
      simp -implicitDefEqProofs (maxSteps := 10000000) (disch := omega) only [runI_none, runI_some, AI.dst, putP_eq, guard_tt, guard_ff, o_mv, o_un, o_call, unA, wp_ok, ev_r, ev_f, putS, Sf.set, Sf.reg, getR, setR, id, dis_lit, dis_ptr, List.map_cons, List.map_nil, ↓reduceIte, Nat.reduceEqDiff, Bool.not_true, Bool.not_false, Bool.false_eq_true]
      refine call_p rfl e_f17 hr1 rfl ?_
      simp -implicitDefEqProofs (maxSteps := 10000000) (disch := omega) only [runI_some, AI.dst, putP_eq, guard_tt, o_mv, o_bin, o_len, o_call, lenI, n_add, wp_ok, ev_r, ev_f, putS, Sf.set, Sf.reg, getR, setR, id, dis_ptr, dis_sl, List.map_cons, List.map_nil, ↓reduceIte, Nat.reduceEqDiff, IntWalk.i64_in, up_add, hil, hcl2]
      refine call_p rfl e_f26 (bmost_pure h1) rfl ?_
      rw [show n - L.length + L.length = n by omega]
      simp -implicitDefEqProofs (maxSteps := 10000000) (disch := omega) only [seqQ_normal, aC_skip, opsK_eq, runI_nil, runI_none, runI_some, AI.dst, putP_eq, cond_ff, guard_tt, guard_ff, o_pick, o_bin, pick_tt, pick_ff, n_neq, wp_ok, ev_r, ev_c, setB_r, putS, Sf.set, Sf.reg, mask_eq, maskR_nil, maskR_cons, getR, setR, maskL, dis_lit, ↓reduceIte, Nat.reduceEqDiff, not_true_eq_false, decide_false, Bool.false_eq_true, f5_92e]
      exact hf
    · simp -implicitDefEqProofs (maxSteps := 10000000) (disch := omega) only [seqQ_normal, aC_skip, opsK_eq, runI_nil, runI_none, runI_some, skipI_eq, AI.dst, putP_eq, cond_ff, guard_ff, o_mv, o_pick, o_un, pick_ff, unA, wp_ok, ev_r, ev_c, setB_r, putS, Sf.set, Sf.reg, mask_eq, maskR_nil, maskR_cons, getR, setR, maskL, dis_lit, ↓reduceIte, Nat.reduceEqDiff, Bool.not_true, Bool.false_eq_true, f5_92e]
      exact hf
/-- The checks after each call. -/
theorem bh_check3 {l : List Bc} {b q mid tid n g i : Nat} {cl : Bool} {L : Qu} {st : St} (h : BkIs st b q mid tid n cl L g) (hn : n ≤ 4000) (hcl : cl = true → L = []) (c : Int) {K : Exit → Sf → St → Prop}
    (hK : ∀ st', BkIs st' b q mid tid n cl L g → K .normal (hkSf l b (conns L) cl i) st') :
    aC Go.Proofs.Try.prog id false f5_90 ⟨[(1, bcsAV l), (5, .ptr b 0), (7, gAV (conns L)), (8, .lit (.bool cl)), (9, .lit (.int .i64 (i : Nat))), (10, .lit (.int .i64 c)), (91, .lit (.bool false))], []⟩ st K := by
  have hlen := h.len
  have hcl2 : (conns L).length = L.length := by simp [conns]
  have hw := bwaiting_calls h (by omega)
  have hs : ∀ st, PCalls Go.Proofs.Try.prog n_f25 [lAV (conns L), lAV (conns L)] st (.lit (.bool true)) := fun st => by have := lsame_l (conns L) (conns L) (by omega) (by omega) st; simpa using this
  obtain ⟨w1, w2, w3, w4, w5, w6⟩ := lAV_facts (conns L)
  have g1 := gAV_dis (conns L)
  have g2 := gAV_noL (conns L)
  have gl : ∀ st, lenI .sl st (gAV (conns L)) = .ok (.lit (.int .i64 (L.length : Nat))) := fun st => by
    rw [← hcl2]
    rcases gAV_cases (conns L) with ⟨e, e2⟩ | ⟨e, _⟩
    · rw [e, e2]; rfl
    · rw [e]; simp [lenI, ints_len]
  unfold hkSf at hK
  obtain ⟨x, hx⟩ : ∃ x, x = gAV (conns L) := ⟨_, rfl⟩
  rw [← hx] at hK g1 g2 gl ⊢
  have hcases : x = .lit (.slice none 0 0) ∨ x = .sl true 1 (ints (conns L)) := by rw [hx]; rcases gAV_cases (conns L) with ⟨e, _⟩ | ⟨e, _⟩ <;> simp [e]
  have hmost := fun st (h : BkIs st b q mid tid n cl L g) => bmost_pure h
  have hil := ints_len (conns L)
  have hroom : cl = false → decide (((n - L.length : Nat) : Int) + (L.length : Nat) = (n : Nat)) = true := fun _ => decide_eq_true (by omega)
  rcases hcases with rfl | rfl
  · have e : lAV (conns L) = .lit (.slice none 0 0) := g1.symm
    rw [e] at hs hw
    have gl0 := gl st
    have hL0 : L.length = 0 := by
      have : (Res.ok (AV.lit (.int .i64 0)) : Res AV) = .ok (.lit (.int .i64 (L.length : Nat))) := gl0
      have h9 : (0 : Int) = (L.length : Nat) := by injection this with h; injection h with h; injection h
      omega
    simp -implicitDefEqProofs (maxSteps := 10000000) (disch := omega) only [runI_none, o_mv, o_call, ev_r, ev_f, putS, Sf.set, Sf.reg, getR, setR, id, dis_ptr, List.map_cons, List.map_nil, ↓reduceIte, Nat.reduceEqDiff, f5_90e, f5_91e, f5_91l, bcsAV]
    refine call_a rfl e_f19 hw rfl fun r st1 hr => ?_
    obtain ⟨rfl, hl1, hk1⟩ := hr
    have h1 : BkIs st1 b q mid tid n cl L g := h.at fun i hi => hk1 i (h.lts i hi)
    have hr1 := broom_pure h1 hn
    have hf := hK st1 h1
    simp only [bcsAV] at hf
    rw [hL0] at hr1
    simp -implicitDefEqProofs (maxSteps := 10000000) (disch := omega) only [runI_none, o_mv, o_call, ev_r, ev_f, putS, Sf.set, Sf.reg, getR, setR, id, dis_lit, List.map_cons, List.map_nil, ↓reduceIte, Nat.reduceEqDiff]
    refine call_p rfl e_f25 (hs _) rfl ?_
    cases cl
    · simp only [Bool.false_eq_true, if_false, Nat.sub_zero] at hr1
      simp -implicitDefEqProofs (maxSteps := 10000000) (disch := omega) only [runI_none, runI_some, AI.dst, putP_eq, guard_tt, guard_ff, o_mv, o_un, o_call, unA, wp_ok, ev_r, ev_f, putS, Sf.set, Sf.reg, getR, setR, id, dis_lit, dis_ptr, List.map_cons, List.map_nil, ↓reduceIte, Nat.reduceEqDiff, Bool.not_true, Bool.not_false, Bool.false_eq_true]
      refine call_p rfl e_f17 hr1 rfl ?_
      simp -implicitDefEqProofs (maxSteps := 10000000) (disch := omega) only [runI_some, AI.dst, putP_eq, guard_tt, o_mv, o_bin, o_len, o_call, lenI, n_add, wp_ok, ev_r, ev_f, putS, Sf.set, Sf.reg, getR, setR, id, dis_lit, dis_ptr, List.map_cons, List.map_nil, ↓reduceIte, Nat.reduceEqDiff, IntWalk.i64_in, Int.add_zero]
      refine call_p rfl e_f26 (bmost_pure h1) rfl ?_
      simp -implicitDefEqProofs (maxSteps := 10000000) (disch := omega) only [seqQ_normal, aC_skip, opsK_eq, runI_nil, runI_none, runI_some, AI.dst, putP_eq, cond_ff, guard_tt, guard_ff, o_pick, o_bin, pick_tt, pick_ff, n_neq, wp_ok, ev_r, ev_c, setB_r, putS, Sf.set, Sf.reg, mask_eq, maskR_nil, maskR_cons, getR, setR, maskL, dis_lit, ↓reduceIte, Nat.reduceEqDiff, not_true_eq_false, decide_false, Bool.false_eq_true, f5_92e]
      exact hf
    · simp -implicitDefEqProofs (maxSteps := 10000000) (disch := omega) only [seqQ_normal, aC_skip, opsK_eq, runI_nil, runI_none, runI_some, skipI_eq, AI.dst, putP_eq, cond_ff, guard_ff, o_mv, o_pick, o_un, pick_ff, unA, wp_ok, ev_r, ev_c, setB_r, putS, Sf.set, Sf.reg, mask_eq, maskR_nil, maskR_cons, getR, setR, maskL, dis_lit, ↓reduceIte, Nat.reduceEqDiff, Bool.not_true, Bool.false_eq_true, f5_92e]
      exact hf
  · have e : lAV (conns L) = .sl false 1 (ints (conns L)) := g1.symm
    rw [e] at hs hw
    simp -implicitDefEqProofs (maxSteps := 10000000) (disch := omega) only [runI_none, o_mv, o_call, ev_r, ev_f, putS, Sf.set, Sf.reg, getR, setR, id, dis_ptr, List.map_cons, List.map_nil, ↓reduceIte, Nat.reduceEqDiff, f5_90e, f5_91e, f5_91l, bcsAV]
    refine call_a rfl e_f19 hw rfl fun r st1 hr => ?_
    obtain ⟨rfl, hl1, hk1⟩ := hr
    have h1 : BkIs st1 b q mid tid n cl L g := h.at fun i hi => hk1 i (h.lts i hi)
    have hr1 := broom_pure h1 hn
    have hf := hK st1 h1
    simp only [bcsAV] at hf
    simp -implicitDefEqProofs (maxSteps := 10000000) (disch := omega) only [runI_none, o_mv, o_call, ev_r, ev_f, putS, Sf.set, Sf.reg, getR, setR, id, dis_sl, List.map_cons, List.map_nil, ↓reduceIte, Nat.reduceEqDiff]
    refine call_p rfl e_f25 (hs _) rfl ?_
    cases cl
    · simp only [Bool.false_eq_true, if_false] at hr1
      have hne : decide (((n - L.length : Nat) : Int) + (L.length : Nat) ≠ (n : Nat)) = false := decide_eq_false (by simp; omega)
      simp -implicitDefEqProofs (maxSteps := 10000000) (disch := omega) only [runI_none, runI_some, AI.dst, putP_eq, guard_tt, guard_ff, o_mv, o_un, o_call, unA, wp_ok, ev_r, ev_f, putS, Sf.set, Sf.reg, getR, setR, id, dis_lit, dis_ptr, List.map_cons, List.map_nil, ↓reduceIte, Nat.reduceEqDiff, Bool.not_true, Bool.not_false, Bool.false_eq_true]
      refine call_p rfl e_f17 hr1 rfl ?_
      simp -implicitDefEqProofs (maxSteps := 10000000) (disch := omega) only [runI_some, AI.dst, putP_eq, guard_tt, o_mv, o_bin, o_len, o_call, lenI, n_add, wp_ok, ev_r, ev_f, putS, Sf.set, Sf.reg, getR, setR, id, dis_ptr, dis_sl, List.map_cons, List.map_nil, ↓reduceIte, Nat.reduceEqDiff, IntWalk.i64_in, up_add, hil, hcl2]
      refine call_p rfl e_f26 (bmost_pure h1) rfl ?_
      rw [show n - L.length + L.length = n by omega]
      simp -implicitDefEqProofs (maxSteps := 10000000) (disch := omega) only [seqQ_normal, aC_skip, opsK_eq, runI_nil, runI_none, runI_some, AI.dst, putP_eq, cond_ff, guard_tt, guard_ff, o_pick, o_bin, pick_tt, pick_ff, n_neq, wp_ok, ev_r, ev_c, setB_r, putS, Sf.set, Sf.reg, mask_eq, maskR_nil, maskR_cons, getR, setR, maskL, dis_lit, ↓reduceIte, Nat.reduceEqDiff, not_true_eq_false, decide_false, Bool.false_eq_true, f5_92e]
      exact hf
    · simp -implicitDefEqProofs (maxSteps := 10000000) (disch := omega) only [seqQ_normal, aC_skip, opsK_eq, runI_nil, runI_none, runI_some, skipI_eq, AI.dst, putP_eq, cond_ff, guard_ff, o_mv, o_pick, o_un, pick_ff, unA, wp_ok, ev_r, ev_c, setB_r, putS, Sf.set, Sf.reg, mask_eq, maskR_nil, maskR_cons, getR, setR, maskL, dis_lit, ↓reduceIte, Nat.reduceEqDiff, Bool.not_true, Bool.false_eq_true, f5_92e]
      exact hf
/-- The checks after each call. -/
theorem bh_check4 {l : List Bc} {b q mid tid n g i : Nat} {cl : Bool} {L : Qu} {st : St} (h : BkIs st b q mid tid n cl L g) (hn : n ≤ 4000) (hcl : cl = true → L = []) {K : Exit → Sf → St → Prop}
    (hK : ∀ st', BkIs st' b q mid tid n cl L g → K .normal (hkSf l b (conns L) cl i) st') :
    aC Go.Proofs.Try.prog id false f5_90 ⟨[(1, bcsAV l), (5, .ptr b 0), (7, gAV (conns L)), (8, .lit (.bool cl)), (9, .lit (.int .i64 (i : Nat))), (14, .lit (.slice none 0 0)), (108, .lit (.bool false))], []⟩ st K := by
  have hlen := h.len
  have hcl2 : (conns L).length = L.length := by simp [conns]
  have hw := bwaiting_calls h (by omega)
  have hs : ∀ st, PCalls Go.Proofs.Try.prog n_f25 [lAV (conns L), lAV (conns L)] st (.lit (.bool true)) := fun st => by have := lsame_l (conns L) (conns L) (by omega) (by omega) st; simpa using this
  obtain ⟨w1, w2, w3, w4, w5, w6⟩ := lAV_facts (conns L)
  have g1 := gAV_dis (conns L)
  have g2 := gAV_noL (conns L)
  have gl : ∀ st, lenI .sl st (gAV (conns L)) = .ok (.lit (.int .i64 (L.length : Nat))) := fun st => by
    rw [← hcl2]
    rcases gAV_cases (conns L) with ⟨e, e2⟩ | ⟨e, _⟩
    · rw [e, e2]; rfl
    · rw [e]; simp [lenI, ints_len]
  unfold hkSf at hK
  obtain ⟨x, hx⟩ : ∃ x, x = gAV (conns L) := ⟨_, rfl⟩
  rw [← hx] at hK g1 g2 gl ⊢
  have hcases : x = .lit (.slice none 0 0) ∨ x = .sl true 1 (ints (conns L)) := by rw [hx]; rcases gAV_cases (conns L) with ⟨e, _⟩ | ⟨e, _⟩ <;> simp [e]
  have hmost := fun st (h : BkIs st b q mid tid n cl L g) => bmost_pure h
  have hil := ints_len (conns L)
  have hroom : cl = false → decide (((n - L.length : Nat) : Int) + (L.length : Nat) = (n : Nat)) = true := fun _ => decide_eq_true (by omega)
  rcases hcases with rfl | rfl
  · have e : lAV (conns L) = .lit (.slice none 0 0) := g1.symm
    rw [e] at hs hw
    have gl0 := gl st
    have hL0 : L.length = 0 := by
      have : (Res.ok (AV.lit (.int .i64 0)) : Res AV) = .ok (.lit (.int .i64 (L.length : Nat))) := gl0
      have h9 : (0 : Int) = (L.length : Nat) := by injection this with h; injection h with h; injection h
      omega
    simp -implicitDefEqProofs (maxSteps := 10000000) (disch := omega) only [runI_none, o_mv, o_call, ev_r, ev_f, putS, Sf.set, Sf.reg, getR, setR, id, dis_ptr, List.map_cons, List.map_nil, ↓reduceIte, Nat.reduceEqDiff, f5_90e, f5_91e, f5_91l, bcsAV]
    refine call_a rfl e_f19 hw rfl fun r st1 hr => ?_
    obtain ⟨rfl, hl1, hk1⟩ := hr
    have h1 : BkIs st1 b q mid tid n cl L g := h.at fun i hi => hk1 i (h.lts i hi)
    have hr1 := broom_pure h1 hn
    have hf := hK st1 h1
    simp only [bcsAV] at hf
    rw [hL0] at hr1
    simp -implicitDefEqProofs (maxSteps := 10000000) (disch := omega) only [runI_none, o_mv, o_call, ev_r, ev_f, putS, Sf.set, Sf.reg, getR, setR, id, dis_lit, List.map_cons, List.map_nil, ↓reduceIte, Nat.reduceEqDiff]
    refine call_p rfl e_f25 (hs _) rfl ?_
    cases cl
    · simp only [Bool.false_eq_true, if_false, Nat.sub_zero] at hr1
      simp -implicitDefEqProofs (maxSteps := 10000000) (disch := omega) only [runI_none, runI_some, AI.dst, putP_eq, guard_tt, guard_ff, o_mv, o_un, o_call, unA, wp_ok, ev_r, ev_f, putS, Sf.set, Sf.reg, getR, setR, id, dis_lit, dis_ptr, List.map_cons, List.map_nil, ↓reduceIte, Nat.reduceEqDiff, Bool.not_true, Bool.not_false, Bool.false_eq_true]
      refine call_p rfl e_f17 hr1 rfl ?_
      simp -implicitDefEqProofs (maxSteps := 10000000) (disch := omega) only [runI_some, AI.dst, putP_eq, guard_tt, o_mv, o_bin, o_len, o_call, lenI, n_add, wp_ok, ev_r, ev_f, putS, Sf.set, Sf.reg, getR, setR, id, dis_lit, dis_ptr, List.map_cons, List.map_nil, ↓reduceIte, Nat.reduceEqDiff, IntWalk.i64_in, Int.add_zero]
      refine call_p rfl e_f26 (bmost_pure h1) rfl ?_
      simp -implicitDefEqProofs (maxSteps := 10000000) (disch := omega) only [seqQ_normal, aC_skip, opsK_eq, runI_nil, runI_none, runI_some, AI.dst, putP_eq, cond_ff, guard_tt, guard_ff, o_pick, o_bin, pick_tt, pick_ff, n_neq, wp_ok, ev_r, ev_c, setB_r, putS, Sf.set, Sf.reg, mask_eq, maskR_nil, maskR_cons, getR, setR, maskL, dis_lit, ↓reduceIte, Nat.reduceEqDiff, not_true_eq_false, decide_false, Bool.false_eq_true, f5_92e]
      exact hf
    · simp -implicitDefEqProofs (maxSteps := 10000000) (disch := omega) only [seqQ_normal, aC_skip, opsK_eq, runI_nil, runI_none, runI_some, skipI_eq, AI.dst, putP_eq, cond_ff, guard_ff, o_mv, o_pick, o_un, pick_ff, unA, wp_ok, ev_r, ev_c, setB_r, putS, Sf.set, Sf.reg, mask_eq, maskR_nil, maskR_cons, getR, setR, maskL, dis_lit, ↓reduceIte, Nat.reduceEqDiff, Bool.not_true, Bool.false_eq_true, f5_92e]
      exact hf
  · have e : lAV (conns L) = .sl false 1 (ints (conns L)) := g1.symm
    rw [e] at hs hw
    simp -implicitDefEqProofs (maxSteps := 10000000) (disch := omega) only [runI_none, o_mv, o_call, ev_r, ev_f, putS, Sf.set, Sf.reg, getR, setR, id, dis_ptr, List.map_cons, List.map_nil, ↓reduceIte, Nat.reduceEqDiff, f5_90e, f5_91e, f5_91l, bcsAV]
    refine call_a rfl e_f19 hw rfl fun r st1 hr => ?_
    obtain ⟨rfl, hl1, hk1⟩ := hr
    have h1 : BkIs st1 b q mid tid n cl L g := h.at fun i hi => hk1 i (h.lts i hi)
    have hr1 := broom_pure h1 hn
    have hf := hK st1 h1
    simp only [bcsAV] at hf
    simp -implicitDefEqProofs (maxSteps := 10000000) (disch := omega) only [runI_none, o_mv, o_call, ev_r, ev_f, putS, Sf.set, Sf.reg, getR, setR, id, dis_sl, List.map_cons, List.map_nil, ↓reduceIte, Nat.reduceEqDiff]
    refine call_p rfl e_f25 (hs _) rfl ?_
    cases cl
    · simp only [Bool.false_eq_true, if_false] at hr1
      have hne : decide (((n - L.length : Nat) : Int) + (L.length : Nat) ≠ (n : Nat)) = false := decide_eq_false (by simp; omega)
      simp -implicitDefEqProofs (maxSteps := 10000000) (disch := omega) only [runI_none, runI_some, AI.dst, putP_eq, guard_tt, guard_ff, o_mv, o_un, o_call, unA, wp_ok, ev_r, ev_f, putS, Sf.set, Sf.reg, getR, setR, id, dis_lit, dis_ptr, List.map_cons, List.map_nil, ↓reduceIte, Nat.reduceEqDiff, Bool.not_true, Bool.not_false, Bool.false_eq_true]
      refine call_p rfl e_f17 hr1 rfl ?_
      simp -implicitDefEqProofs (maxSteps := 10000000) (disch := omega) only [runI_some, AI.dst, putP_eq, guard_tt, o_mv, o_bin, o_len, o_call, lenI, n_add, wp_ok, ev_r, ev_f, putS, Sf.set, Sf.reg, getR, setR, id, dis_ptr, dis_sl, List.map_cons, List.map_nil, ↓reduceIte, Nat.reduceEqDiff, IntWalk.i64_in, up_add, hil, hcl2]
      refine call_p rfl e_f26 (bmost_pure h1) rfl ?_
      rw [show n - L.length + L.length = n by omega]
      simp -implicitDefEqProofs (maxSteps := 10000000) (disch := omega) only [seqQ_normal, aC_skip, opsK_eq, runI_nil, runI_none, runI_some, AI.dst, putP_eq, cond_ff, guard_tt, guard_ff, o_pick, o_bin, pick_tt, pick_ff, n_neq, wp_ok, ev_r, ev_c, setB_r, putS, Sf.set, Sf.reg, mask_eq, maskR_nil, maskR_cons, getR, setR, maskL, dis_lit, ↓reduceIte, Nat.reduceEqDiff, not_true_eq_false, decide_false, Bool.false_eq_true, f5_92e]
      exact hf
    · simp -implicitDefEqProofs (maxSteps := 10000000) (disch := omega) only [seqQ_normal, aC_skip, opsK_eq, runI_nil, runI_none, runI_some, skipI_eq, AI.dst, putP_eq, cond_ff, guard_ff, o_mv, o_pick, o_un, pick_ff, unA, wp_ok, ev_r, ev_c, setB_r, putS, Sf.set, Sf.reg, mask_eq, maskR_nil, maskR_cons, getR, setR, maskL, dis_lit, ↓reduceIte, Nat.reduceEqDiff, Bool.not_true, Bool.false_eq_true, f5_92e]
      exact hf
/-- The checks after each call. -/
theorem bh_check5 {l : List Bc} {b q mid tid n g i : Nat} {cl : Bool} {L : Qu} {st : St} (h : BkIs st b q mid tid n cl L g) (hn : n ≤ 4000) (hcl : cl = true → L = []) {K : Exit → Sf → St → Prop}
    (hK : ∀ st', BkIs st' b q mid tid n cl L g → K .normal (hkSf l b (conns L) cl i) st') :
    aC Go.Proofs.Try.prog id false f5_90 ⟨[(1, bcsAV l), (5, .ptr b 0), (7, gAV (conns L)), (8, .lit (.bool cl)), (9, .lit (.int .i64 (i : Nat))), (100, .lit (.bool false))], []⟩ st K := by
  have hlen := h.len
  have hcl2 : (conns L).length = L.length := by simp [conns]
  have hw := bwaiting_calls h (by omega)
  have hs : ∀ st, PCalls Go.Proofs.Try.prog n_f25 [lAV (conns L), lAV (conns L)] st (.lit (.bool true)) := fun st => by have := lsame_l (conns L) (conns L) (by omega) (by omega) st; simpa using this
  obtain ⟨w1, w2, w3, w4, w5, w6⟩ := lAV_facts (conns L)
  have g1 := gAV_dis (conns L)
  have g2 := gAV_noL (conns L)
  have gl : ∀ st, lenI .sl st (gAV (conns L)) = .ok (.lit (.int .i64 (L.length : Nat))) := fun st => by
    rw [← hcl2]
    rcases gAV_cases (conns L) with ⟨e, e2⟩ | ⟨e, _⟩
    · rw [e, e2]; rfl
    · rw [e]; simp [lenI, ints_len]
  unfold hkSf at hK
  obtain ⟨x, hx⟩ : ∃ x, x = gAV (conns L) := ⟨_, rfl⟩
  rw [← hx] at hK g1 g2 gl ⊢
  have hcases : x = .lit (.slice none 0 0) ∨ x = .sl true 1 (ints (conns L)) := by rw [hx]; rcases gAV_cases (conns L) with ⟨e, _⟩ | ⟨e, _⟩ <;> simp [e]
  have hmost := fun st (h : BkIs st b q mid tid n cl L g) => bmost_pure h
  have hil := ints_len (conns L)
  have hroom : cl = false → decide (((n - L.length : Nat) : Int) + (L.length : Nat) = (n : Nat)) = true := fun _ => decide_eq_true (by omega)
  rcases hcases with rfl | rfl
  · have e : lAV (conns L) = .lit (.slice none 0 0) := g1.symm
    rw [e] at hs hw
    have gl0 := gl st
    have hL0 : L.length = 0 := by
      have : (Res.ok (AV.lit (.int .i64 0)) : Res AV) = .ok (.lit (.int .i64 (L.length : Nat))) := gl0
      have h9 : (0 : Int) = (L.length : Nat) := by injection this with h; injection h with h; injection h
      omega
    simp -implicitDefEqProofs (maxSteps := 10000000) (disch := omega) only [runI_none, o_mv, o_call, ev_r, ev_f, putS, Sf.set, Sf.reg, getR, setR, id, dis_ptr, List.map_cons, List.map_nil, ↓reduceIte, Nat.reduceEqDiff, f5_90e, f5_91e, f5_91l, bcsAV]
    refine call_a rfl e_f19 hw rfl fun r st1 hr => ?_
    obtain ⟨rfl, hl1, hk1⟩ := hr
    have h1 : BkIs st1 b q mid tid n cl L g := h.at fun i hi => hk1 i (h.lts i hi)
    have hr1 := broom_pure h1 hn
    have hf := hK st1 h1
    simp only [bcsAV] at hf
    rw [hL0] at hr1
    simp -implicitDefEqProofs (maxSteps := 10000000) (disch := omega) only [runI_none, o_mv, o_call, ev_r, ev_f, putS, Sf.set, Sf.reg, getR, setR, id, dis_lit, List.map_cons, List.map_nil, ↓reduceIte, Nat.reduceEqDiff]
    refine call_p rfl e_f25 (hs _) rfl ?_
    cases cl
    · simp only [Bool.false_eq_true, if_false, Nat.sub_zero] at hr1
      simp -implicitDefEqProofs (maxSteps := 10000000) (disch := omega) only [runI_none, runI_some, AI.dst, putP_eq, guard_tt, guard_ff, o_mv, o_un, o_call, unA, wp_ok, ev_r, ev_f, putS, Sf.set, Sf.reg, getR, setR, id, dis_lit, dis_ptr, List.map_cons, List.map_nil, ↓reduceIte, Nat.reduceEqDiff, Bool.not_true, Bool.not_false, Bool.false_eq_true]
      refine call_p rfl e_f17 hr1 rfl ?_
      simp -implicitDefEqProofs (maxSteps := 10000000) (disch := omega) only [runI_some, AI.dst, putP_eq, guard_tt, o_mv, o_bin, o_len, o_call, lenI, n_add, wp_ok, ev_r, ev_f, putS, Sf.set, Sf.reg, getR, setR, id, dis_lit, dis_ptr, List.map_cons, List.map_nil, ↓reduceIte, Nat.reduceEqDiff, IntWalk.i64_in, Int.add_zero]
      refine call_p rfl e_f26 (bmost_pure h1) rfl ?_
      simp -implicitDefEqProofs (maxSteps := 10000000) (disch := omega) only [seqQ_normal, aC_skip, opsK_eq, runI_nil, runI_none, runI_some, AI.dst, putP_eq, cond_ff, guard_tt, guard_ff, o_pick, o_bin, pick_tt, pick_ff, n_neq, wp_ok, ev_r, ev_c, setB_r, putS, Sf.set, Sf.reg, mask_eq, maskR_nil, maskR_cons, getR, setR, maskL, dis_lit, ↓reduceIte, Nat.reduceEqDiff, not_true_eq_false, decide_false, Bool.false_eq_true, f5_92e]
      exact hf
    · simp -implicitDefEqProofs (maxSteps := 10000000) (disch := omega) only [seqQ_normal, aC_skip, opsK_eq, runI_nil, runI_none, runI_some, skipI_eq, AI.dst, putP_eq, cond_ff, guard_ff, o_mv, o_pick, o_un, pick_ff, unA, wp_ok, ev_r, ev_c, setB_r, putS, Sf.set, Sf.reg, mask_eq, maskR_nil, maskR_cons, getR, setR, maskL, dis_lit, ↓reduceIte, Nat.reduceEqDiff, Bool.not_true, Bool.false_eq_true, f5_92e]
      exact hf
  · have e : lAV (conns L) = .sl false 1 (ints (conns L)) := g1.symm
    rw [e] at hs hw
    simp -implicitDefEqProofs (maxSteps := 10000000) (disch := omega) only [runI_none, o_mv, o_call, ev_r, ev_f, putS, Sf.set, Sf.reg, getR, setR, id, dis_ptr, List.map_cons, List.map_nil, ↓reduceIte, Nat.reduceEqDiff, f5_90e, f5_91e, f5_91l, bcsAV]
    refine call_a rfl e_f19 hw rfl fun r st1 hr => ?_
    obtain ⟨rfl, hl1, hk1⟩ := hr
    have h1 : BkIs st1 b q mid tid n cl L g := h.at fun i hi => hk1 i (h.lts i hi)
    have hr1 := broom_pure h1 hn
    have hf := hK st1 h1
    simp only [bcsAV] at hf
    simp -implicitDefEqProofs (maxSteps := 10000000) (disch := omega) only [runI_none, o_mv, o_call, ev_r, ev_f, putS, Sf.set, Sf.reg, getR, setR, id, dis_sl, List.map_cons, List.map_nil, ↓reduceIte, Nat.reduceEqDiff]
    refine call_p rfl e_f25 (hs _) rfl ?_
    cases cl
    · simp only [Bool.false_eq_true, if_false] at hr1
      have hne : decide (((n - L.length : Nat) : Int) + (L.length : Nat) ≠ (n : Nat)) = false := decide_eq_false (by simp; omega)
      simp -implicitDefEqProofs (maxSteps := 10000000) (disch := omega) only [runI_none, runI_some, AI.dst, putP_eq, guard_tt, guard_ff, o_mv, o_un, o_call, unA, wp_ok, ev_r, ev_f, putS, Sf.set, Sf.reg, getR, setR, id, dis_lit, dis_ptr, List.map_cons, List.map_nil, ↓reduceIte, Nat.reduceEqDiff, Bool.not_true, Bool.not_false, Bool.false_eq_true]
      refine call_p rfl e_f17 hr1 rfl ?_
      simp -implicitDefEqProofs (maxSteps := 10000000) (disch := omega) only [runI_some, AI.dst, putP_eq, guard_tt, o_mv, o_bin, o_len, o_call, lenI, n_add, wp_ok, ev_r, ev_f, putS, Sf.set, Sf.reg, getR, setR, id, dis_ptr, dis_sl, List.map_cons, List.map_nil, ↓reduceIte, Nat.reduceEqDiff, IntWalk.i64_in, up_add, hil, hcl2]
      refine call_p rfl e_f26 (bmost_pure h1) rfl ?_
      rw [show n - L.length + L.length = n by omega]
      simp -implicitDefEqProofs (maxSteps := 10000000) (disch := omega) only [seqQ_normal, aC_skip, opsK_eq, runI_nil, runI_none, runI_some, AI.dst, putP_eq, cond_ff, guard_tt, guard_ff, o_pick, o_bin, pick_tt, pick_ff, n_neq, wp_ok, ev_r, ev_c, setB_r, putS, Sf.set, Sf.reg, mask_eq, maskR_nil, maskR_cons, getR, setR, maskL, dis_lit, ↓reduceIte, Nat.reduceEqDiff, not_true_eq_false, decide_false, Bool.false_eq_true, f5_92e]
      exact hf
    · simp -implicitDefEqProofs (maxSteps := 10000000) (disch := omega) only [seqQ_normal, aC_skip, opsK_eq, runI_nil, runI_none, runI_some, skipI_eq, AI.dst, putP_eq, cond_ff, guard_ff, o_mv, o_pick, o_un, pick_ff, unA, wp_ok, ev_r, ev_c, setB_r, putS, Sf.set, Sf.reg, mask_eq, maskR_nil, maskR_cons, getR, setR, maskL, dis_lit, ↓reduceIte, Nat.reduceEqDiff, Bool.not_true, Bool.false_eq_true, f5_92e]
      exact hf
end Go.Fx.YtddifejdkiemgaaFx

