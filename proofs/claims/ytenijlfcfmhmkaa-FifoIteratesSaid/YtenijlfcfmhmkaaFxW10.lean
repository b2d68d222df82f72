/- What the functions that the statement reaches compute: part 10. -/
import Derived.Test.YtenijlfcfmhmkaaFxW9
namespace Go.Fx.YtenijlfcfmhmkaaFx
open Go Go.Fx
attribute [local irreducible] aC runI headI loopI

set_option maxRecDepth 100000
set_option maxHeartbeats 4000000

/-! As many as there may be. -/
theorem fulls_loop1 {q mid M O : Nat} (hM : M < 5000) {st0 : St} (h0 : QIs st0 q mid [] 0) (Q : Exit → Sf → St → Prop)
    (hQ : ∀ st, QIs st q mid (ordQ (min M 4096)) (min M 4096) → Q (.exit 0) ⟨[(0, .lit (.int .i64 (M : Nat))), (1, .lit (.int .i64 (O : Nat))), (5, .ptr q 0)], []⟩ st) :
    aC Go.Proofs.Try.prog id false f7_21 ⟨[(0, .lit (.int .i64 (M : Nat))), (1, .lit (.int .i64 (O : Nat))), (5, .ptr q 0), (6, .lit (.int .i64 1))], []⟩ st0 Q := by
  rw [f7_21w]
  refine loop_op (A := Nat × Nat × St) (fun a => M + 2 - a.1) (fun a => ⟨[(0, .lit (.int .i64 (M : Nat))), (1, .lit (.int .i64 (O : Nat))), (5, .ptr q 0), (6, .lit (.int .i64 (a.1 : Nat)))], []⟩) (fun a => a.2.2)
    (fun a => 1 ≤ a.1 ∧ a.1 ≤ M + 1 ∧ a.2.1 = min (a.1 - 1) 4096 ∧ QIs a.2.2 q mid (ordQ a.2.1) a.2.1) (1, 0, st0) ⟨by simp, by simp, by simp, h0⟩ (Sf.le_refl _) rfl ?_
  rintro ⟨k, c, st⟩ ⟨h1, h2, h3, h4⟩ K hK hKe hKr
  simp only at h1 h2 h3 h4
  by_cases hk : k ≤ M
  · by_cases hc : k ≤ 4096
    · have hc' : c + 1 = k := by omega
      simp -implicitDefEqProofs (maxSteps := 10000000) (disch := omega) only [seqQ_normal, aC_skip, opsK_eq, runI_nil, runI_none, putP_eq, o_mv, o_bin, o_call, n_leq, wp_ok, ev_r, ev_f, setB_r, putS, Sf.set, Sf.reg, mask_eq, maskR_nil, maskR_cons, getR, setR, maskL, id, dis_lit, dis_ptr, List.map_cons, List.map_nil, ↓reduceIte, Nat.reduceEqDiff, reduceCtorEq, cond_yes, f7_22e, f7_23e, f7_24e, f7_24l, f7_25e, f7_26e, f7_27e, f7_28e, f7_29e, f7_29l]
      refine call_a rfl e_f32 (qpush_calls (v := (k : Nat)) h4 (by rw [ordQ_len]; omega) (by omega)) rfl fun r st1 hr => ?_
      obtain ⟨rfl, h5, _⟩ := hr
      rw [hc'] at h5 ⊢
      have h6 : ordQ c ++ [(k, ((k : Nat) : Int))] = ordQ (c + 1) := by rw [ordQ_succ, hc']
      rw [h6] at h5
      simp -implicitDefEqProofs (maxSteps := 10000000) (disch := omega) only [guard_tup, seqQ_normal, blockQ_normal, aC_skip, opsK_eq, runI_nil, runI_none, runI_some, skipI_eq, AI.dst, putP_eq, cond_ff, guard_tt, guard_ff, o_mv, o_pick, o_bin, o_conv, o_ext, o_own, pick_tt, pick_ff, extV, convI, n_add, n_neq, n_leq, n_gtr, wp_ok, bind_ok, ofOpt_some, ev_r, ev_c, setB_r, putS, Sf.set, Sf.reg, mask_eq, maskR_nil, maskR_cons, getR, setR, maskL, Sf.disAt, dis_lit, dis_tup, own2_lit, List.map_cons, List.map_nil, List.getElem?_cons_zero, List.getElem?_cons_succ, ↓reduceIte, Nat.reduceEqDiff, reduceCtorEq, not_true_eq_false, decide_false, Bool.false_eq_true, guard_yes, guard_no, IntWalk.i64_in, IntWalk.u64_in, up_addL, f7_30e, f7_31e, f7_31l, f7_32e, f7_35e, f7_35l]
      exact hK (k + 1, c + 1, st1) _ ⟨by simp, by simp only; omega, by simp only; omega, by simp only; rw [hc'] at h5 ⊢; exact h5⟩ (by simp only; omega) (Sf.le_refl _)
    · simp -implicitDefEqProofs (maxSteps := 10000000) (disch := omega) only [seqQ_normal, aC_skip, opsK_eq, runI_nil, runI_none, putP_eq, o_mv, o_bin, o_call, n_leq, wp_ok, ev_r, ev_f, setB_r, putS, Sf.set, Sf.reg, mask_eq, maskR_nil, maskR_cons, getR, setR, maskL, id, dis_lit, dis_ptr, List.map_cons, List.map_nil, ↓reduceIte, Nat.reduceEqDiff, reduceCtorEq, cond_yes, f7_22e, f7_23e, f7_24e, f7_24l, f7_25e, f7_26e, f7_27e, f7_28e, f7_29e, f7_29l]
      refine call_a rfl e_f32 (qpush_full (v := (k : Nat)) h4 (by rw [ordQ_len]; omega) (by rw [ordQ_len]; omega)) rfl fun r st1 hr => ?_
      obtain ⟨rfl, rfl⟩ := hr
      simp -implicitDefEqProofs (maxSteps := 10000000) (disch := omega) only [guard_tup, seqQ_normal, blockQ_normal, aC_skip, opsK_eq, runI_nil, runI_none, runI_some, skipI_eq, AI.dst, putP_eq, cond_ff, guard_tt, guard_ff, o_mv, o_pick, o_bin, o_ext, o_own, pick_tt, pick_ff, extV, n_add, n_neq, n_leq, n_gtr, wp_ok, bind_ok, ofOpt_some, ev_r, ev_c, setB_r, putS, Sf.set, Sf.reg, mask_eq, maskR_nil, maskR_cons, getR, setR, maskL, Sf.disAt, dis_lit, dis_tup, own2_lit, List.map_cons, List.map_nil, List.getElem?_cons_zero, List.getElem?_cons_succ, ↓reduceIte, Nat.reduceEqDiff, reduceCtorEq, not_true_eq_false, decide_false, Bool.false_eq_true, guard_yes, guard_no, IntWalk.i64_in, up_addL, f7_30e, f7_31e, f7_31l, f7_32e, f7_35e, f7_35l]
      exact hK (k + 1, c, st1) _ ⟨by simp, by simp only; omega, by simp only; omega, h4⟩ (by simp only; omega) (Sf.le_refl _)
  · simp -implicitDefEqProofs (maxSteps := 10000000) (disch := omega) only [seqQ_normal, seqQ_exit, aC_exit, opsK_eq, runI_nil, runI_none, putP_eq, o_mv, o_bin, n_leq, wp_ok, ev_r, setB_r, putS, Sf.set, Sf.reg, mask_eq, maskR_nil, maskR_cons, getR, setR, maskL, dis_lit, ↓reduceIte, Nat.reduceEqDiff, reduceCtorEq, cond_no, f7_22e, f7_23e, f7_24e, f7_24l, f7_25e]
    have hcM : c = min M 4096 := by omega
    subst hcM
    exact hKe _ _ _ (hQ _ h4)

theorem fulls_loop2 {q mid n O : Nat} {m : Int} (hn : O < n) (hn2 : n < 5000) {st0 : St} (h0 : QIs st0 q mid (ordQ n) n) (Q : Exit → Sf → St → Prop)
    (hQ : ∀ st, QIs st q mid ((ordQ n).drop O) n → Q (.exit 2) ⟨[(0, .lit (.int .i64 m)), (1, .lit (.int .i64 (O : Nat))), (5, .ptr q 0)], []⟩ st) :
    aC Go.Proofs.Try.prog id false f7_40 ⟨[(0, .lit (.int .i64 m)), (1, .lit (.int .i64 (O : Nat))), (5, .ptr q 0), (9, .lit (.int .i64 1))], []⟩ st0 Q := by
  rw [f7_40w]
  refine loop_op (A := Nat × St) (fun a => O + 2 - a.1) (fun a => ⟨[(0, .lit (.int .i64 m)), (1, .lit (.int .i64 (O : Nat))), (5, .ptr q 0), (9, .lit (.int .i64 ((a.1 + 1 : Nat))))], []⟩) (fun a => a.2)
    (fun a => a.1 ≤ O ∧ QIs a.2 q mid ((ordQ n).drop a.1) n) (0, st0) ⟨by simp, h0⟩ (Sf.le_refl _) rfl ?_
  rintro ⟨k, st⟩ ⟨h1, h2⟩ K hK hKe hKr
  simp only at h1 h2
  by_cases hk : k < O
  · rw [ordQ_drop (by omega)] at h2
    simp -implicitDefEqProofs (maxSteps := 10000000) (disch := omega) only [seqQ_normal, aC_skip, opsK_eq, runI_nil, runI_none, putP_eq, o_mv, o_bin, o_conv, o_call, convI, n_leq, wp_ok, ev_r, ev_f, setB_r, putS, Sf.set, Sf.reg, mask_eq, maskR_nil, maskR_cons, getR, setR, maskL, id, dis_lit, dis_ptr, List.map_cons, List.map_nil, ↓reduceIte, Nat.reduceEqDiff, reduceCtorEq, cond_yes, IntWalk.u64_in, f7_41e, f7_42e, f7_43e, f7_43l, f7_44e, f7_45e, f7_46e, f7_47e, f7_48e, f7_48l]
    refine call_a rfl e_f33 (pops_calls h2 (by omega)) rfl fun r st1 hr => ?_
    obtain ⟨rfl, h3⟩ := hr
    simp -implicitDefEqProofs (maxSteps := 10000000) (disch := omega) only [seqQ_normal, blockQ_normal, aC_skip, opsK_eq, runI_nil, runI_none, putP_eq, cond_ff, o_mv, o_bin, o_un, o_own, unA, n_add, wp_ok, ev_r, ev_c, setB_r, putS, Sf.set, Sf.reg, mask_eq, maskR_nil, maskR_cons, getR, setR, maskL, Sf.disAt, dis_lit, ↓reduceIte, Nat.reduceEqDiff, reduceCtorEq, Bool.not_true, IntWalk.i64_in, up_addL, f7_49e, f7_52e, f7_52l]
    exact hK (k + 1, st1) _ ⟨by simp only; omega, h3⟩ (by simp only; omega) (Sf.le_refl _)
  · simp -implicitDefEqProofs (maxSteps := 10000000) (disch := omega) only [seqQ_normal, seqQ_exit, aC_exit, opsK_eq, runI_nil, runI_none, putP_eq, o_mv, o_bin, n_leq, wp_ok, ev_r, setB_r, putS, Sf.set, Sf.reg, mask_eq, maskR_nil, maskR_cons, getR, setR, maskL, dis_lit, ↓reduceIte, Nat.reduceEqDiff, reduceCtorEq, cond_no, f7_41e, f7_42e, f7_43e, f7_43l, f7_44e]
    have hkO : k = O := by omega
    subst hkO
    exact hKe _ _ _ (hQ _ h2)

theorem fifoFulls_law (many out : Int) : ACalls Go.Proofs.Try.prog n_f7 [.lit (.int .i64 many), .lit (.int .i64 out)] ⟨[]⟩ (fun v _ => v = .lit (.bool true)) := by
  refine acalls_op hmix k_f7 rfl rfl fun Q hQ => ?_
  unfold aFun c_f7
  by_cases h1 : many < 4090
  · simp -implicitDefEqProofs (maxSteps := 10000000) (disch := omega) only [seqQ_normal, opsK_eq, runI_nil, runI_none, runI_some, skipI_eq, AI.dst, putP_eq, cond_tt, guard_tt, o_mv, o_pick, o_bin, o_call, pick_tt, n_lss, wp_ok, ev_r, ev_c, ev_f, setB_r, putS, Sf.set, Sf.reg, mask_eq, maskR_nil, maskR_cons, getR, setR, maskL, regs0, id, dis_lit, List.map_nil, ↓reduceIte, Nat.reduceEqDiff, reduceCtorEq, Nat.zero_add, Bool.false_eq_true, guard_yes, f7_1e, f7_2e, f7_2l, f7_3e, f7_4e, f7_5e, f7_5l, f7_6e, f7_7e, f7_8e, f7_8l]
    refine call_a rfl e_f23 (known06 _) rfl fun r st1 hr => ?_
    subst hr
    simp -implicitDefEqProofs (maxSteps := 10000000) (disch := omega) only [seqQ_normal, seqQ_ret, aC_ret, opsK_eq, retQ_ret, retI, runI_nil, runI_none, o_own, wp_ok, putS, Sf.set, Sf.reg, mask_eq, maskR_nil, maskR_cons, getR, setR, maskL, Sf.disAt, dis_lit, noL_lit, ↓reduceIte, Nat.reduceEqDiff, Bool.true_and, true_and, reduceCtorEq]
    exact hQ _ _ rfl
  by_cases h2 : 4110 < many
  · simp -implicitDefEqProofs (maxSteps := 10000000) (disch := omega) only [seqQ_normal, opsK_eq, runI_nil, runI_none, runI_some, skipI_eq, AI.dst, putP_eq, cond_tt, guard_tt, guard_ff, o_mv, o_pick, o_bin, o_call, pick_tt, pick_ff, n_lss, n_gtr, wp_ok, ev_r, ev_c, ev_f, setB_r, putS, Sf.set, Sf.reg, mask_eq, maskR_nil, maskR_cons, getR, setR, maskL, regs0, id, dis_lit, List.map_nil, ↓reduceIte, Nat.reduceEqDiff, reduceCtorEq, Nat.zero_add, Bool.false_eq_true, guard_yes, guard_no, f7_1e, f7_2e, f7_2l, f7_3e, f7_4e, f7_5e, f7_5l, f7_6e, f7_7e, f7_8e, f7_8l]
    refine call_a rfl e_f23 (known06 _) rfl fun r st1 hr => ?_
    subst hr
    simp -implicitDefEqProofs (maxSteps := 10000000) (disch := omega) only [seqQ_normal, seqQ_ret, aC_ret, opsK_eq, retQ_ret, retI, runI_nil, runI_none, o_own, wp_ok, putS, Sf.set, Sf.reg, mask_eq, maskR_nil, maskR_cons, getR, setR, maskL, Sf.disAt, dis_lit, noL_lit, ↓reduceIte, Nat.reduceEqDiff, Bool.true_and, true_and, reduceCtorEq]
    exact hQ _ _ rfl
  by_cases h3 : out < 1
  · simp -implicitDefEqProofs (maxSteps := 10000000) (disch := omega) only [seqQ_normal, opsK_eq, runI_nil, runI_none, runI_some, skipI_eq, AI.dst, putP_eq, cond_tt, guard_tt, guard_ff, o_mv, o_pick, o_bin, o_call, pick_tt, pick_ff, n_lss, n_gtr, wp_ok, ev_r, ev_c, ev_f, setB_r, putS, Sf.set, Sf.reg, mask_eq, maskR_nil, maskR_cons, getR, setR, maskL, regs0, id, dis_lit, List.map_nil, ↓reduceIte, Nat.reduceEqDiff, reduceCtorEq, Nat.zero_add, Bool.false_eq_true, guard_yes, guard_no, f7_1e, f7_2e, f7_2l, f7_3e, f7_4e, f7_5e, f7_5l, f7_6e, f7_7e, f7_8e, f7_8l]
    refine call_a rfl e_f23 (known06 _) rfl fun r st1 hr => ?_
    subst hr
    simp -implicitDefEqProofs (maxSteps := 10000000) (disch := omega) only [seqQ_normal, seqQ_ret, aC_ret, opsK_eq, retQ_ret, retI, runI_nil, runI_none, o_own, wp_ok, putS, Sf.set, Sf.reg, mask_eq, maskR_nil, maskR_cons, getR, setR, maskL, Sf.disAt, dis_lit, noL_lit, ↓reduceIte, Nat.reduceEqDiff, Bool.true_and, true_and, reduceCtorEq]
    exact hQ _ _ rfl
  by_cases h4 : 9 < out
  · simp -implicitDefEqProofs (maxSteps := 10000000) (disch := omega) only [seqQ_normal, opsK_eq, runI_nil, runI_none, runI_some, AI.dst, putP_eq, guard_ff, o_mv, o_pick, o_bin, o_call, pick_ff, n_lss, n_gtr, wp_ok, ev_r, ev_c, ev_f, setB_r, putS, Sf.set, Sf.reg, mask_eq, maskR_nil, maskR_cons, getR, setR, maskL, regs0, id, dis_lit, List.map_nil, ↓reduceIte, Nat.reduceEqDiff, reduceCtorEq, Nat.zero_add, Bool.false_eq_true, cond_yes, guard_no, f7_1e, f7_2e, f7_2l, f7_3e, f7_4e, f7_5e, f7_5l, f7_6e, f7_7e, f7_8e, f7_8l]
    refine call_a rfl e_f23 (known06 _) rfl fun r st1 hr => ?_
    subst hr
    simp -implicitDefEqProofs (maxSteps := 10000000) (disch := omega) only [seqQ_normal, seqQ_ret, aC_ret, opsK_eq, retQ_ret, retI, runI_nil, runI_none, o_own, wp_ok, putS, Sf.set, Sf.reg, mask_eq, maskR_nil, maskR_cons, getR, setR, maskL, Sf.disAt, dis_lit, noL_lit, ↓reduceIte, Nat.reduceEqDiff, Bool.true_and, true_and, reduceCtorEq]
    exact hQ _ _ rfl
  obtain ⟨M, rfl⟩ : ∃ k : Nat, many = (k : Int) := ⟨many.toNat, by omega⟩
  obtain ⟨O, rfl⟩ : ∃ k : Nat, out = (k : Int) := ⟨out.toNat, by omega⟩
  simp -implicitDefEqProofs (maxSteps := 10000000) (disch := omega) only [seqQ_normal, aC_skip, opsK_eq, runI_nil, runI_none, runI_some, AI.dst, putP_eq, guard_ff, o_mv, o_pick, o_bin, o_call, pick_ff, n_lss, n_gtr, wp_ok, ev_r, ev_c, ev_f, setB_r, putS, Sf.set, Sf.reg, mask_eq, maskR_nil, maskR_cons, getR, setR, maskL, regs0, id, dis_lit, List.map_nil, ↓reduceIte, Nat.reduceEqDiff, reduceCtorEq, Nat.zero_add, Bool.false_eq_true, cond_no, guard_no, f7_1e, f7_2e, f7_2l, f7_3e, f7_4e, f7_5e, f7_5l, f7_6e, f7_9e, f7_10e, f7_10l]
  refine call_a rfl e_f24 (qnew_calls _) rfl fun r st0 hr => ?_
  obtain ⟨rfl, h0, _⟩ := hr
  generalize (St.boxes ⟨[]⟩).length + 1 = q at *
  generalize (St.boxes ⟨[]⟩).length = mid at *
  simp -implicitDefEqProofs (maxSteps := 10000000) (disch := omega) only [seqQ_normal, aC_skip, opsK_eq, runI_nil, runI_none, putP_eq, cond_ff, o_mv, o_bin, o_own, n_nileq, eqNilI, isNilI, wp_ok, bind_ok, ofOpt_some, ev_r, ev_c, setB_r, putS, Sf.set, Sf.reg, mask_eq, maskR_nil, maskR_cons, getR, setR, maskL, Sf.disAt, dis_lit, dis_ptr, ↓reduceIte, Nat.reduceEqDiff, reduceCtorEq, f7_11e, f7_12e, f7_13e, f7_13l, f7_14e, f7_17e, f7_18e, f7_19e, f7_19l, f7_20e]
  refine fulls_loop1 (by omega) h0 _ fun st1 h5 => ?_
  simp -implicitDefEqProofs (maxSteps := 10000000) (disch := omega) only [seqQ_normal, blockQ_exit, opsK_eq, runI_nil, runI_none, o_mv, ev_c, putS, Sf.set, mask_eq, maskR_nil, maskR_cons, getR, setR, maskL, dis_lit, ↓reduceIte, Nat.reduceEqDiff, reduceCtorEq, f7_36e, f7_37e, f7_38e, f7_38l, f7_39e]
  generalize hnn : min M 4096 = n at *
  refine fulls_loop2 (by omega) (by omega) h5 _ fun st2 h6 => ?_
  have hl6 : ((ordQ n).drop O).length = n - O := by rw [List.length_drop, ordQ_len]
  have hmn : (if (4096 : Int) < (M : Nat) then (4096 : Int) else (M : Nat)) = (n : Nat) := by split <;> omega
  simp -implicitDefEqProofs (maxSteps := 10000000) (disch := omega) only [seqQ_normal, blockQ_exit, runI_none, putP_eq, o_mv, o_bin, o_conv, o_mn, o_call, convI, minmaxA, n_add, wp_ok, ev_r, ev_c, ev_f, putS, Sf.set, Sf.reg, getR, setR, id, dis_lit, dis_ptr, List.map_cons, List.map_nil, ↓reduceIte, Nat.reduceEqDiff, reduceCtorEq, IntWalk.i64_in, IntWalk.u64_in, up_addL, f7_53e, f7_54e, f7_54l, hmn]
  refine call_a rfl e_f34 (pushes_calls (v := 5) h6 (by omega) (by omega) (n + 1) rfl) rfl fun r st3 hr => ?_
  obtain ⟨rfl, h7⟩ := hr
  simp -implicitDefEqProofs (maxSteps := 10000000) (disch := omega) only [runI_none, runI_some, AI.dst, guard_tt, o_mv, o_call, ev_r, ev_f, putS, Sf.set, Sf.reg, getR, setR, id, dis_lit, dis_ptr, List.map_cons, List.map_nil, ↓reduceIte, Nat.reduceEqDiff, reduceCtorEq]
  refine call_p rfl e_f28 (qlen_pure h7) rfl ?_
  simp only [List.length_append, hl6, List.length_cons, List.length_nil]
  have hend : decide (((n - O + (0 + 1) : Nat) : Int) = (n : Int) - (O : Nat) + 1) = true := decide_eq_true (by omega)
  simp -implicitDefEqProofs (maxSteps := 10000000) (disch := omega) only [runI_none, runI_some, AI.dst, putP_eq, guard_tt, o_mv, o_pick, o_bin, o_mn, o_call, pick_tt, minmaxA, n_add, n_sub, n_eql, wp_ok, ev_r, ev_c, ev_f, putS, Sf.set, Sf.reg, getR, setR, id, dis_lit, List.map_nil, ↓reduceIte, Nat.reduceEqDiff, reduceCtorEq, Nat.zero_add, decide_true, IntWalk.i64_in, up_addL, up_sub, hmn]
  refine call_a rfl e_f23 (known06 _) rfl fun r st1 hr => ?_
  subst hr
  simp -implicitDefEqProofs (maxSteps := 10000000) (disch := omega) only [seqQ_normal, aC_ret, opsK_eq, retQ_ret, retI, runI_nil, runI_none, putP_eq, o_pick, o_own, pick_tt, wp_ok, ev_r, ev_c, putS, Sf.set, Sf.reg, mask_eq, maskR_nil, maskR_cons, getR, setR, maskL, Sf.disAt, dis_lit, noL_lit, ↓reduceIte, Nat.reduceEqDiff, Bool.true_and, true_and, reduceCtorEq]
  exact hQ _ _ rfl
end Go.Fx.YtenijlfcfmhmkaaFx

