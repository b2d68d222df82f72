/- What the functions that the statement reaches compute: part 3. -/
import Derived.Test.YtenijlfcfmhmkaaFxW2
namespace Go.Fx.YtenijlfcfmhmkaaFx
open Go Go.Fx
attribute [local irreducible] aC runI headI loopI

set_option maxRecDepth 100000
set_option maxHeartbeats 4000000

/-- The check sum. -/
def sumB : Nat → List UInt8 → Nat
  | s, [] => s
  | s, x :: r => sumB ((31 * s + x.toNat) % 65521) r
theorem sumB_lt : ∀ {s : Nat} (l : List UInt8), s < 65521 → sumB s l < 65521
  | s, [], h => h
  | s, x :: r, _ => sumB_lt r (Nat.mod_lt _ (by omega))

theorem sum_pure (l : List UInt8) (hl : l.length ≤ 1000000) (st : St) : PCalls Go.Proofs.Try.prog n_frame_sum [.sl false 1 (BB l)] st (.lit (.int .i64 (sumB 1 l : Nat))) := by
  refine pure_eq ?_ (.lit _) (by simp [BB_slnb]) st
  refine acalls_id hmix k_frame_sum rfl rfl ?_
  unfold aFun c_frame_sum
  simp -implicitDefEqProofs (maxSteps := 10000000) (disch := omega) only [seqQ_normal, opsK_eq, runI_nil, runI_none, putP_eq, o_mv, o_len, lenI, wp_ok, ev_r, ev_c, putS, Sf.set, Sf.reg, mask_eq, maskR_nil, maskR_cons, getR, setR, maskL, regs0, dis_lit, dis_sl, ↓reduceIte, Nat.reduceEqDiff, reduceCtorEq, BB_len, frame_sum_1e, frame_sum_2e, frame_sum_2l, frame_sum_3e, frame_sum_4e, frame_sum_4l, frame_sum_5e, frame_sum_6e, frame_sum_7e, frame_sum_7l, frame_sum_8e]
  rw [frame_sum_9w]
  refine loop_for (A := Nat × Nat) (fun a => l.length - a.1) (fun a => ⟨[(3, .lit (.int .i64 (a.2 : Nat))), (6, .sl false 1 (BB l)), (7, .lit (.int .i64 l.length)), (8, .lit (.int .i64 (a.1 : Nat)))], []⟩) (fun _ => ⟨[]⟩)
    (fun a => a.1 ≤ l.length ∧ a.2 < 65521 ∧ sumB a.2 (l.drop a.1) = sumB 1 l) (0, 1) ⟨by omega, by omega, rfl⟩ (Sf.le_refl _) rfl ?_
  rintro ⟨i, s⟩ ⟨h1, h2, h3⟩
  simp only at h1 h2 h3
  have hx := (l.getD i 0).toNat_lt
  simp -implicitDefEqProofs (maxSteps := 10000000) (disch := omega) only [seqQ_normal, opsK_eq, runI_nil, runI_none, putP_eq, o_bin, n_lss, wp_ok, ev_r, putS, Sf.set, Sf.reg, mask_eq, maskR_nil, maskR_cons, getR, setR, maskL, ↓reduceIte, Nat.reduceEqDiff, frame_sum_10e, frame_sum_11e, frame_sum_11l, frame_sum_12e, frame_sum_13e]
  refine cond_split (fun h => ?_) (fun h => ?_)
  · simp -implicitDefEqProofs (maxSteps := 10000000) (disch := omega) only [stepQ_normal, seqQ_normal, blockQ_normal, aC_skip, opsK_eq, runI_nil, runI_none, putP_eq, o_mv, o_bin, o_conv, o_ixS, o_load, o_own, ixSV, loadV, ixA, convI, derefI, takeI_none, n_add, n_mul, wp_ok, bind_ok, bind_req, req_tt, ev_r, ev_c, setB_r, putS, Sf.set, Sf.reg, mask_eq, maskR_nil, maskR_cons, getR, setR, maskL, Sf.disAt, dis_lit, cells_lit, Int.toNat_natCast, ↓reduceIte, Nat.reduceEqDiff, Bool.and_true, and_true, BB_len, BB_getD, req_dec, IntWalk.i64_in, n_rem, IntWalk.rem_in, up_addL, and_pre, frame_sum_14e, frame_sum_15e, frame_sum_16e, frame_sum_17e, frame_sum_17l, frame_sum_18e, frame_sum_18l, frame_sum_19e, frame_sum_19l]
    have hi : i < l.length := by omega
    refine ⟨(i + 1, (31 * s + (l.getD i 0).toNat) % 65521), ⟨⟨by omega, Nat.mod_lt _ (by omega), ?_⟩, by simp only; omega⟩, ?_⟩
    · rw [← h3, List.drop_eq_getElem_cons hi]
      simp [sumB, List.getD, hi]
    · exact Sf.le_refl _
  · simp -implicitDefEqProofs (maxSteps := 10000000) (disch := omega) only [stepQ_exit, seqQ_normal, seqQ_exit, blockQ_exit, aC_exit, aC_ret, opsK_eq, retQ_ret, retI, runI_nil, runI_none, o_mv, o_own, wp_ok, ev_r, setB_r, putS, Sf.set, Sf.reg, mask_eq, maskR_nil, maskR_cons, getR, setR, maskL, Sf.disAt, dis_lit, noL_lit, ↓reduceIte, Nat.reduceEqDiff, Bool.true_and, true_and, frame_sum_20e, frame_sum_21e, frame_sum_21l]
    have : i = l.length := by omega
    subst this
    simp only [List.drop_length, sumB] at h3
    rw [h3]
    exact .refl _
end Go.Fx.YtenijlfcfmhmkaaFx

