/- What the functions that the statement reaches compute: part 15. -/
import Derived.Test.YtddifejdkiemgaaFxW14
namespace Go.Fx.YtddifejdkiemgaaFx
open Go Go.Fx
attribute [local irreducible] aC runI headI loopI

set_option maxRecDepth 100000
set_option maxHeartbeats 8000000

theorem backlogHolds_law (n : Int) (l : List Bc) : ACalls Go.Proofs.Try.prog n_f5 [.lit (.int .i64 n), bcsAV l] ⟨[]⟩ (fun v _ => v = .lit (.bool true)) := by
  refine acalls_op hmix k_f5 rfl rfl fun Q hQ => ?_
  unfold aFun c_f5
  by_cases h1 : n < 1
  · simp -implicitDefEqProofs (maxSteps := 10000000) (disch := omega) only [seqQ_normal, opsK_eq, runI_nil, runI_none, runI_some, skipI_eq, AI.dst, putP_eq, cond_tt, guard_tt, o_mv, o_pick, o_bin, o_call, pick_tt, n_lss, wp_ok, ev_r, ev_c, ev_f, setB_r, putS, Sf.set, Sf.reg, mask_eq, maskR_nil, maskR_cons, getR, setR, maskL, regs0, id, dis_lit, dis_sl, List.map_nil, ↓reduceIte, Nat.reduceEqDiff, reduceCtorEq, Nat.zero_add, Bool.false_eq_true, guard_yes, f5_1e, f5_2e, f5_2l, f5_3e, f5_4e, f5_5e, f5_5l, f5_6e, f5_7e, f5_8e, f5_8l, bcsAV]
    refine call_a rfl e_f14 (known18 _) rfl fun r st1 hr => ?_
    subst hr
    simp -implicitDefEqProofs (maxSteps := 10000000) (disch := omega) only [seqQ_normal, seqQ_ret, aC_ret, opsK_eq, retQ_ret, retI, runI_nil, runI_none, o_own, wp_ok, putS, Sf.set, Sf.reg, mask_eq, maskR_nil, maskR_cons, getR, setR, maskL, Sf.disAt, dis_lit, noL_lit, ↓reduceIte, Nat.reduceEqDiff, Bool.true_and, true_and, reduceCtorEq]
    exact hQ _ _ rfl
  by_cases h2 : 128 < n
  · simp -implicitDefEqProofs (maxSteps := 10000000) (disch := omega) only [seqQ_normal, opsK_eq, runI_nil, runI_none, runI_some, skipI_eq, AI.dst, putP_eq, cond_tt, guard_tt, guard_ff, o_mv, o_pick, o_bin, o_call, pick_tt, pick_ff, n_lss, n_gtr, wp_ok, ev_r, ev_c, ev_f, setB_r, putS, Sf.set, Sf.reg, mask_eq, maskR_nil, maskR_cons, getR, setR, maskL, regs0, id, dis_lit, dis_sl, List.map_nil, ↓reduceIte, Nat.reduceEqDiff, reduceCtorEq, Nat.zero_add, Bool.false_eq_true, guard_yes, guard_no, f5_1e, f5_2e, f5_2l, f5_3e, f5_4e, f5_5e, f5_5l, f5_6e, f5_7e, f5_8e, f5_8l, bcsAV]
    refine call_a rfl e_f14 (known18 _) rfl fun r st1 hr => ?_
    subst hr
    simp -implicitDefEqProofs (maxSteps := 10000000) (disch := omega) only [seqQ_normal, seqQ_ret, aC_ret, opsK_eq, retQ_ret, retI, runI_nil, runI_none, o_own, wp_ok, putS, Sf.set, Sf.reg, mask_eq, maskR_nil, maskR_cons, getR, setR, maskL, Sf.disAt, dis_lit, noL_lit, ↓reduceIte, Nat.reduceEqDiff, Bool.true_and, true_and, reduceCtorEq]
    exact hQ _ _ rfl
  obtain ⟨k, rfl⟩ : ∃ k : Nat, n = (k : Int) := ⟨n.toNat, by omega⟩
  by_cases h3 : 40 < l.length
  · simp -implicitDefEqProofs (maxSteps := 10000000) (disch := omega) only [seqQ_normal, opsK_eq, runI_nil, runI_none, runI_some, AI.dst, putP_eq, guard_ff, o_mv, o_pick, o_bin, o_len, o_call, pick_ff, lenI, n_lss, n_gtr, wp_ok, ev_r, ev_c, ev_f, setB_r, putS, Sf.set, Sf.reg, mask_eq, maskR_nil, maskR_cons, getR, setR, maskL, regs0, id, dis_lit, dis_sl, List.map_nil, ↓reduceIte, Nat.reduceEqDiff, reduceCtorEq, Nat.zero_add, Bool.false_eq_true, List.length_map, cond_yes, guard_no, f5_1e, f5_2e, f5_2l, f5_3e, f5_4e, f5_5e, f5_5l, f5_6e, f5_7e, f5_8e, f5_8l, bcsAV]
    refine call_a rfl e_f14 (known18 _) rfl fun r st1 hr => ?_
    subst hr
    simp -implicitDefEqProofs (maxSteps := 10000000) (disch := omega) only [seqQ_normal, seqQ_ret, aC_ret, opsK_eq, retQ_ret, retI, runI_nil, runI_none, o_own, wp_ok, putS, Sf.set, Sf.reg, mask_eq, maskR_nil, maskR_cons, getR, setR, maskL, Sf.disAt, dis_lit, noL_lit, ↓reduceIte, Nat.reduceEqDiff, Bool.true_and, true_and, reduceCtorEq]
    exact hQ _ _ rfl
  simp -implicitDefEqProofs (maxSteps := 10000000) (disch := omega) only [seqQ_normal, aC_skip, opsK_eq, runI_nil, runI_none, runI_some, AI.dst, putP_eq, guard_ff, o_mv, o_pick, o_bin, o_len, o_call, pick_ff, lenI, n_lss, n_gtr, wp_ok, ev_r, ev_c, ev_f, setB_r, putS, Sf.set, Sf.reg, mask_eq, maskR_nil, maskR_cons, getR, setR, maskL, regs0, id, dis_lit, dis_sl, List.map_cons, List.map_nil, ↓reduceIte, Nat.reduceEqDiff, reduceCtorEq, Nat.zero_add, Bool.false_eq_true, List.length_map, cond_no, guard_no, f5_1e, f5_2e, f5_2l, f5_3e, f5_4e, f5_5e, f5_5l, f5_6e, f5_9e, f5_10e, f5_10l, bcsAV]
  refine call_a rfl e_f13 (bnew_calls (n := k) (by omega) _) rfl fun r st0 hr => ?_
  obtain ⟨rfl, h0, _⟩ := hr
  generalize (St.boxes ⟨[]⟩).length + 3 = b at *
  generalize (St.boxes ⟨[]⟩).length + 1 = q at *
  generalize (St.boxes ⟨[]⟩).length + 2 = tid at *
  generalize (St.boxes ⟨[]⟩).length = mid at *
  simp -implicitDefEqProofs (maxSteps := 10000000) (disch := omega) only [seqQ_normal, aC_skip, opsK_eq, runI_nil, runI_none, runI_some, AI.dst, putP_eq, cond_ff, guard_ff, o_mv, o_pick, o_bin, o_ext, o_own, pick_ff, extV, n_nileq, eqNilI, isNilI, n_neq, wp_ok, bind_ok, ofOpt_some, ev_r, ev_c, setB_r, putS, Sf.set, Sf.reg, mask_eq, maskR_nil, maskR_cons, getR, setR, maskL, Sf.disAt, dis_lit, dis_ptr, dis_tup, own2_lit, own2_ptr, List.map_cons, List.map_nil, List.getElem?_cons_zero, List.getElem?_cons_succ, ↓reduceIte, Nat.reduceEqDiff, reduceCtorEq, not_true_eq_false, decide_false, Bool.false_eq_true, f5_11e, f5_12e, f5_13e, f5_13l, f5_14e, f5_17e, f5_18e, f5_18l, f5_19e, f5_20e, f5_20l, f5_21e, f5_22e, f5_23e, f5_23l, f5_24e]
  refine bholds_loop (by omega) h0 l (by omega) _ fun st1 => ?_
  simp -implicitDefEqProofs (maxSteps := 10000000) (disch := omega) only [seqQ_normal, blockQ_exit, runI_none, o_call, ev_f, id, List.map_nil, ↓reduceIte, f5_96e, f5_97e, f5_97l]
  refine call_a rfl e_f14 (known18 _) rfl fun r st1 hr => ?_
  subst hr
  simp -implicitDefEqProofs (maxSteps := 10000000) (disch := omega) only [seqQ_normal, aC_ret, opsK_eq, retQ_ret, retI, runI_nil, runI_none, o_own, wp_ok, putS, Sf.set, Sf.reg, mask_eq, maskR_nil, maskR_cons, getR, setR, maskL, Sf.disAt, dis_lit, noL_lit, ↓reduceIte, Nat.reduceEqDiff, Bool.true_and, true_and]
  exact hQ _ _ rfl

theorem bcs_lit (l : List (Int × Int × Unit)) : AV.sl false 2 (l.map fun x => .agg [.lit (.int .i64 x.1), .lit (.int .i64 x.2.1)]) = bcsAV (l.map fun x => (x.1, x.2.1)) := by
  simp only [bcsAV, List.map_map]; rfl
theorem backlogHolds_top {n : Int} {l : List (Int × Int × Unit)} : ACalls Go.Proofs.Try.prog n_f5 [.lit (.int .i64 n), .sl false 2 (l.map fun x => .agg [.lit (.int .i64 x.1), .lit (.int .i64 x.2.1)])] ⟨[]⟩ (fun v _ => v = .lit (.bool true)) := by
  rw [bcs_lit]
  exact backlogHolds_law n _
end Go.Fx.YtddifejdkiemgaaFx

