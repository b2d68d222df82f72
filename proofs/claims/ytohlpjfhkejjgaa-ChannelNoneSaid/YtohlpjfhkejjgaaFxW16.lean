/- What the functions that the statement reaches compute: part 16. -/
import Derived.Test.YtohlpjfhkejjgaaFxW15
namespace Go.Fx.YtohlpjfhkejjgaaFx
open Go Go.Fx
attribute [local irreducible] aC runI headI loopI

set_option maxRecDepth 100000
set_option maxHeartbeats 4000000

/-- A nil or zero channel. -/
def ZC (st : St) (x : AV) : Prop := x = .lit (.pointer none) ∨ ∃ z, x = .ptr z 0 ∧ st.get z = some [.lit (.bool false), .lit (.bool false), .lit (.int .i64 0), .lit (.slice none 0 0), .lit (.pointer none), .lit (.pointer none), .lit (.map none)]
section
variable {st : St} {x : AV}

theorem z_zero (h : ZC st x) : PCalls Go.Proofs.Try.prog n_f29 [x] st (.lit (.bool true)) := by
  refine pcalls_id hmix k_f29 rfl rfl fun Q hQ => ?_
  unfold aFun c_f29
  rcases h with rfl | ⟨z, rfl, hg⟩
  · simp -implicitDefEqProofs (maxSteps := 10000000) (disch := omega) only [seqQ_normal, aC_ret, opsK_eq, retQ_ret, retI, runI_nil, runI_none, runI_some, skipI_eq, AI.dst, putP_eq, guard_tt, o_mv, o_pick, o_bin, o_own, pick_tt, n_nileq, eqNilI, isNilI, wp_ok, bind_ok, ofOpt_some, ev_r, ev_c, putS, Sf.set, Sf.reg, mask_eq, maskR_nil, maskR_cons, getR, setR, maskL, Sf.disAt, regs0, dis_lit, noL_lit, ↓reduceIte, Nat.reduceEqDiff, Bool.true_and, true_and, reduceCtorEq, Bool.false_eq_true, f29_1e, f29_2e, f29_2l, f29_3e, f29_4e, f29_4l]
    exact hQ _
  · simp -implicitDefEqProofs (maxSteps := 10000000) (disch := omega) only [seqQ_normal, aC_ret, opsK_eq, retQ_ret, retI, runI_nil, runI_none, runI_some, AI.dst, putP_eq, guard_ff, o_mv, o_pick, o_bin, o_un, o_addr, o_load, o_nilck, o_own, pick_ff, loadV, nilckV, n_nileq, eqNilI, isNilI, addA, derefI, takeI_none, unA, wp_ok, bind_ok, ofOpt_some, ev_r, ev_c, putS, Sf.set, Sf.reg, mask_eq, maskR_nil, maskR_cons, getR, setR, maskL, Sf.disAt, regs0, dis_lit, dis_ptr, noL_lit, List.drop_zero, ↓reduceIte, Nat.reduceEqDiff, Bool.true_and, true_and, reduceCtorEq, Nat.add_zero, Bool.not_false, Bool.false_eq_true, f29_1e, f29_2e, f29_2l, f29_3e, f29_4e, f29_4l, hg]
    exact hQ _
theorem z_Len (h : ZC st x)  : PCalls Go.Proofs.Try.prog n_f13 [x] st (.lit (.int .i64 0)) := by
  refine pcalls_id hmix k_f13 rfl rfl fun Q hQ => ?_
  unfold aFun c_f13
  have hc := (z_zero h)
  rcases h with rfl | ⟨z, rfl, hg⟩
  all_goals
    simp -implicitDefEqProofs (maxSteps := 10000000) (disch := omega) only [seqQ_normal, opsK_eq, runI_nil, runI_none, o_mv, o_call, ev_r, ev_c, ev_f, putS, Sf.set, Sf.reg, mask_eq, maskR_nil, maskR_cons, getR, setR, maskL, regs0, id, dis_lit, dis_ptr, List.map_cons, List.map_nil, ↓reduceIte, reduceCtorEq, f13_1e, f13_2e, f13_2l, f13_3e, f13_4e, f13_5e, f13_5l]
    refine call_p rfl e_f29 hc rfl ?_
    simp -implicitDefEqProofs (maxSteps := 10000000) (disch := omega) only [seqQ_normal, seqQ_ret, aC_ret, opsK_eq, retQ_ret, retI, runI_nil, runI_none, cond_tt, o_mv, wp_ok, ev_r, ev_c, setB_r, putS, Sf.set, Sf.reg, mask_eq, maskR_nil, maskR_cons, getR, setR, maskL, dis_lit, noL_lit, ↓reduceIte, Nat.reduceEqDiff, Bool.true_and, true_and, reduceCtorEq, f13_6e, f13_7e, f13_8e, f13_8l]
    exact hQ _
theorem z_Cap (h : ZC st x)  : PCalls Go.Proofs.Try.prog n_f17 [x] st (.lit (.int .i64 0)) := by
  refine pcalls_id hmix k_f17 rfl rfl fun Q hQ => ?_
  unfold aFun c_f17
  have hc := (z_zero h)
  rcases h with rfl | ⟨z, rfl, hg⟩
  all_goals
    simp -implicitDefEqProofs (maxSteps := 10000000) (disch := omega) only [seqQ_normal, opsK_eq, runI_nil, runI_none, o_mv, o_call, ev_r, ev_c, ev_f, putS, Sf.set, Sf.reg, mask_eq, maskR_nil, maskR_cons, getR, setR, maskL, regs0, id, dis_lit, dis_ptr, List.map_cons, List.map_nil, ↓reduceIte, reduceCtorEq, f17_1e, f17_2e, f17_2l, f17_3e, f17_4e, f17_5e, f17_5l]
    refine call_p rfl e_f29 hc rfl ?_
    simp -implicitDefEqProofs (maxSteps := 10000000) (disch := omega) only [seqQ_normal, seqQ_ret, aC_ret, opsK_eq, retQ_ret, retI, runI_nil, runI_none, cond_tt, o_mv, wp_ok, ev_r, ev_c, setB_r, putS, Sf.set, Sf.reg, mask_eq, maskR_nil, maskR_cons, getR, setR, maskL, dis_lit, noL_lit, ↓reduceIte, Nat.reduceEqDiff, Bool.true_and, true_and, reduceCtorEq, f17_6e, f17_7e, f17_8e, f17_8l]
    exact hQ _
theorem z_Closed (h : ZC st x)  : PCalls Go.Proofs.Try.prog n_f18 [x] st (.lit (.bool false)) := by
  refine pcalls_id hmix k_f18 rfl rfl fun Q hQ => ?_
  unfold aFun c_f18
  have hc := (z_zero h)
  rcases h with rfl | ⟨z, rfl, hg⟩
  all_goals
    simp -implicitDefEqProofs (maxSteps := 10000000) (disch := omega) only [seqQ_normal, opsK_eq, runI_nil, runI_none, o_mv, o_call, ev_r, ev_c, ev_f, putS, Sf.set, Sf.reg, mask_eq, maskR_nil, maskR_cons, getR, setR, maskL, regs0, id, dis_lit, dis_ptr, List.map_cons, List.map_nil, ↓reduceIte, reduceCtorEq, f18_1e, f18_2e, f18_2l, f18_3e, f18_4e, f18_4l]
    refine call_p rfl e_f29 hc rfl ?_
    simp -implicitDefEqProofs (maxSteps := 10000000) (disch := omega) only [seqQ_normal, aC_ret, opsK_eq, retQ_ret, retI, runI_nil, runI_none, runI_some, skipI_eq, AI.dst, putP_eq, guard_ff, o_mv, o_pick, o_un, o_own, pick_ff, unA, wp_ok, ev_r, ev_c, putS, Sf.set, Sf.reg, mask_eq, maskR_nil, maskR_cons, getR, setR, maskL, Sf.disAt, dis_lit, noL_lit, ↓reduceIte, Nat.reduceEqDiff, Bool.true_and, true_and, reduceCtorEq, Bool.not_true]
    exact hQ _
theorem z_Waiting (h : ZC st x)  : PCalls Go.Proofs.Try.prog n_f12 [x] st (.tup [.lit (.int .i64 0), .lit (.int .i64 0)]) := by
  refine pcalls_id hmix k_f12 rfl rfl fun Q hQ => ?_
  unfold aFun c_f12
  have hc := (z_zero h)
  rcases h with rfl | ⟨z, rfl, hg⟩
  all_goals
    simp -implicitDefEqProofs (maxSteps := 10000000) (disch := omega) only [seqQ_normal, opsK_eq, runI_nil, runI_none, o_mv, o_call, ev_r, ev_c, ev_f, putS, Sf.set, Sf.reg, mask_eq, maskR_nil, maskR_cons, getR, setR, maskL, regs0, id, dis_lit, dis_ptr, List.map_cons, List.map_nil, ↓reduceIte, Nat.reduceEqDiff, reduceCtorEq, f12_1e, f12_2e, f12_2l, f12_3e, f12_4e, f12_5e, f12_5l]
    refine call_p rfl e_f29 hc rfl ?_
    simp -implicitDefEqProofs (maxSteps := 10000000) (disch := omega) only [seqQ_normal, seqQ_ret, aC_ret, opsK_eq, retQ_ret, retI, resI, resL, runI_nil, runI_none, cond_tt, o_mv, wp_ok, bind_ok, ev_r, ev_c, setB_r, putS, Sf.set, Sf.reg, mask_eq, maskR_nil, maskR_cons, getR, setR, maskL, dis_lit, noL_lit, noL_tup, List.all_cons, List.all_nil, ↓reduceIte, Nat.reduceEqDiff, Bool.true_and, Bool.and_true, and_true, true_and, reduceCtorEq, f12_6e, f12_7e, f12_8e, f12_8l]
    exact hQ _
theorem z_Copy (h : ZC st x)  : PCalls Go.Proofs.Try.prog n_f22 [x] st (.lit (.pointer none)) := by
  refine pcalls_id hmix k_f22 rfl rfl fun Q hQ => ?_
  unfold aFun c_f22
  have hc := (z_zero h)
  rcases h with rfl | ⟨z, rfl, hg⟩
  all_goals
    simp -implicitDefEqProofs (maxSteps := 10000000) (disch := omega) only [seqQ_normal, opsK_eq, runI_nil, runI_none, o_mv, o_call, ev_r, ev_c, ev_f, putS, Sf.set, Sf.reg, mask_eq, maskR_nil, maskR_cons, getR, setR, maskL, regs0, id, dis_lit, dis_ptr, List.map_cons, List.map_nil, ↓reduceIte, reduceCtorEq, f22_1e, f22_2e, f22_2l, f22_3e, f22_4e, f22_5e, f22_5l]
    refine call_p rfl e_f29 hc rfl ?_
    simp -implicitDefEqProofs (maxSteps := 10000000) (disch := omega) only [seqQ_normal, seqQ_ret, aC_ret, opsK_eq, retQ_ret, retI, runI_nil, runI_none, cond_tt, o_mv, wp_ok, ev_r, ev_c, setB_r, putS, Sf.set, Sf.reg, mask_eq, maskR_nil, maskR_cons, getR, setR, maskL, dis_lit, noL_lit, ↓reduceIte, Nat.reduceEqDiff, Bool.true_and, true_and, reduceCtorEq, f22_6e, f22_7e, f22_8e, f22_8l]
    exact hQ _
theorem z_TrySend (h : ZC st x) (v : Int) : PCalls Go.Proofs.Try.prog n_f21 [x, .lit (.int .i64 v)] st (.tup [.lit (.slice none 0 0), .lit (.int .i64 1)]) := by
  refine pcalls_id hmix k_f21 rfl rfl fun Q hQ => ?_
  unfold aFun c_f21
  have hc := (z_zero h)
  rcases h with rfl | ⟨z, rfl, hg⟩
  all_goals
    simp -implicitDefEqProofs (maxSteps := 10000000) (disch := omega) only [seqQ_normal, opsK_eq, runI_nil, runI_none, o_mv, o_call, ev_r, ev_c, ev_f, putS, Sf.set, Sf.reg, mask_eq, maskR_nil, maskR_cons, getR, setR, maskL, regs0, id, dis_lit, dis_ptr, List.map_cons, List.map_nil, ↓reduceIte, Nat.reduceEqDiff, reduceCtorEq, Nat.zero_add, f21_1e, f21_2e, f21_2l, f21_3e, f21_4e, f21_5e, f21_5l]
    refine call_p rfl e_f29 hc rfl ?_
    simp -implicitDefEqProofs (maxSteps := 10000000) (disch := omega) only [seqQ_normal, seqQ_ret, aC_ret, opsK_eq, retQ_ret, retI, resI, resL, runI_nil, runI_none, cond_tt, o_mv, wp_ok, bind_ok, ev_r, ev_c, setB_r, putS, Sf.set, Sf.reg, mask_eq, maskR_nil, maskR_cons, getR, setR, maskL, dis_lit, noL_lit, noL_tup, List.all_cons, List.all_nil, ↓reduceIte, Nat.reduceEqDiff, Bool.true_and, Bool.and_true, and_true, true_and, reduceCtorEq, f21_6e, f21_7e, f21_8e, f21_8l]
    exact hQ _
theorem z_TryReceive (h : ZC st x)  : PCalls Go.Proofs.Try.prog n_f20 [x] st (.tup [.lit (.int .i64 0), .lit (.slice none 0 0), .lit (.int .i64 1)]) := by
  refine pcalls_id hmix k_f20 rfl rfl fun Q hQ => ?_
  unfold aFun c_f20
  have hc := (z_zero h)
  rcases h with rfl | ⟨z, rfl, hg⟩
  all_goals
    simp -implicitDefEqProofs (maxSteps := 10000000) (disch := omega) only [seqQ_normal, opsK_eq, runI_nil, runI_none, o_mv, o_call, ev_r, ev_c, ev_f, putS, Sf.set, Sf.reg, mask_eq, maskR_nil, maskR_cons, getR, setR, maskL, regs0, id, dis_lit, dis_ptr, List.map_cons, List.map_nil, ↓reduceIte, Nat.reduceEqDiff, reduceCtorEq, f20_1e, f20_2e, f20_2l, f20_3e, f20_4e, f20_5e, f20_5l]
    refine call_p rfl e_f29 hc rfl ?_
    simp -implicitDefEqProofs (maxSteps := 10000000) (disch := omega) only [seqQ_normal, seqQ_ret, aC_ret, opsK_eq, retQ_ret, retI, resI, resL, runI_nil, runI_none, cond_tt, o_mv, wp_ok, bind_ok, ev_r, ev_c, setB_r, putS, Sf.set, Sf.reg, mask_eq, maskR_nil, maskR_cons, getR, setR, maskL, dis_lit, noL_lit, noL_tup, List.all_cons, List.all_nil, ↓reduceIte, Nat.reduceEqDiff, Bool.true_and, Bool.and_true, and_true, true_and, reduceCtorEq, f20_6e, f20_7e, f20_8e, f20_8l]
    exact hQ _
theorem z_Close (h : ZC st x)  : PCalls Go.Proofs.Try.prog n_f19 [x] st (.tup [.lit (.slice none 0 0), .lit (.int .i64 1)]) := by
  refine pcalls_id hmix k_f19 rfl rfl fun Q hQ => ?_
  unfold aFun c_f19
  have hc := (z_zero h)
  rcases h with rfl | ⟨z, rfl, hg⟩
  all_goals
    simp -implicitDefEqProofs (maxSteps := 10000000) (disch := omega) only [seqQ_normal, opsK_eq, runI_nil, runI_none, o_mv, o_call, ev_r, ev_c, ev_f, putS, Sf.set, Sf.reg, mask_eq, maskR_nil, maskR_cons, getR, setR, maskL, regs0, id, dis_lit, dis_ptr, List.map_cons, List.map_nil, ↓reduceIte, Nat.reduceEqDiff, reduceCtorEq, f19_1e, f19_2e, f19_2l, f19_3e, f19_4e, f19_5e, f19_5l]
    refine call_p rfl e_f29 hc rfl ?_
    simp -implicitDefEqProofs (maxSteps := 10000000) (disch := omega) only [seqQ_normal, seqQ_ret, aC_ret, opsK_eq, retQ_ret, retI, resI, resL, runI_nil, runI_none, cond_tt, o_mv, wp_ok, bind_ok, ev_r, ev_c, setB_r, putS, Sf.set, Sf.reg, mask_eq, maskR_nil, maskR_cons, getR, setR, maskL, dis_lit, noL_lit, noL_tup, List.all_cons, List.all_nil, ↓reduceIte, Nat.reduceEqDiff, Bool.true_and, Bool.and_true, and_true, true_and, reduceCtorEq, f19_6e, f19_7e, f19_8e, f19_8l]
    exact hQ _
theorem z_check (h : ZC st x) (t : Int) : PCalls Go.Proofs.Try.prog n_f38 [x, .lit (.int .i64 t)] st (.lit (.int .i64 1)) := by
  refine pcalls_id hmix k_f38 rfl rfl fun Q hQ => ?_
  unfold aFun c_f38
  have hc := (z_zero h)
  rcases h with rfl | ⟨z, rfl, hg⟩
  all_goals
    simp -implicitDefEqProofs (maxSteps := 10000000) (disch := omega) only [seqQ_normal, opsK_eq, runI_nil, runI_none, o_mv, o_call, ev_r, ev_c, ev_f, putS, Sf.set, Sf.reg, mask_eq, maskR_nil, maskR_cons, getR, setR, maskL, regs0, id, dis_lit, dis_ptr, List.map_cons, List.map_nil, ↓reduceIte, Nat.reduceEqDiff, reduceCtorEq, Nat.zero_add, f38_1e, f38_2e, f38_2l, f38_3e, f38_4e, f38_5e, f38_6e, f38_6l]
    refine call_p rfl e_f29 hc rfl ?_
    simp -implicitDefEqProofs (maxSteps := 10000000) (disch := omega) only [seqQ_normal, seqQ_ret, blockQ_ret, aC_ret, opsK_eq, retQ_ret, retI, runI_nil, runI_none, cond_tt, o_mv, o_own, wp_ok, ev_r, ev_c, setB_r, putS, Sf.set, Sf.reg, mask_eq, maskR_nil, maskR_cons, getR, setR, maskL, Sf.disAt, dis_lit, noL_lit, ↓reduceIte, Nat.reduceEqDiff, Bool.true_and, true_and, reduceCtorEq, f38_7e, f38_8e, f38_9e, f38_9l]
    exact hQ _
theorem z_Send (h : ZC st x) (t v : Int) : PCalls Go.Proofs.Try.prog n_f26 [x, .lit (.int .i64 t), .lit (.int .i64 v)] st (.tup [.lit (.bool false), .lit (.slice none 0 0), .lit (.int .i64 1)]) := by
  refine pcalls_id hmix k_f26 rfl rfl fun Q hQ => ?_
  unfold aFun c_f26
  have hc := (z_check h t)
  rcases h with rfl | ⟨z, rfl, hg⟩
  all_goals
    simp -implicitDefEqProofs (maxSteps := 10000000) (disch := omega) only [seqQ_normal, opsK_eq, runI_nil, runI_none, o_mv, o_call, ev_r, ev_c, ev_f, putS, Sf.set, Sf.reg, mask_eq, maskR_nil, maskR_cons, getR, setR, maskL, regs0, id, dis_lit, dis_ptr, List.map_cons, List.map_nil, ↓reduceIte, Nat.reduceEqDiff, Nat.reduceAdd, reduceCtorEq, Nat.zero_add, f26_1e, f26_2e, f26_2l, f26_3e, f26_4e, f26_5e, f26_5l]
    refine call_p rfl e_f38 hc rfl ?_
    simp -implicitDefEqProofs (maxSteps := 10000000) (disch := omega) only [seqQ_normal, seqQ_ret, aC_ret, opsK_eq, retQ_ret, retI, resI, resL, runI_nil, runI_none, putP_eq, cond_tt, o_mv, o_bin, o_own, n_neq, wp_ok, bind_ok, ev_r, ev_c, setB_r, putS, Sf.set, Sf.reg, mask_eq, maskR_nil, maskR_cons, getR, setR, maskL, Sf.disAt, dis_lit, noL_lit, noL_tup, List.all_cons, List.all_nil, ↓reduceIte, Nat.reduceEqDiff, Int.reduceEq, Bool.true_and, Bool.and_true, and_true, true_and, reduceCtorEq, not_false_eq_true, decide_true, f26_6e, f26_7e, f26_7l, f26_8e, f26_9e, f26_10e, f26_10l]
    exact hQ _
theorem z_Receive (h : ZC st x) (t : Int) : PCalls Go.Proofs.Try.prog n_f27 [x, .lit (.int .i64 t)] st (.tup [.lit (.int .i64 0), .lit (.bool false), .lit (.slice none 0 0), .lit (.int .i64 1)]) := by
  refine pcalls_id hmix k_f27 rfl rfl fun Q hQ => ?_
  unfold aFun c_f27
  have hc := (z_check h t)
  rcases h with rfl | ⟨z, rfl, hg⟩
  all_goals
    simp -implicitDefEqProofs (maxSteps := 10000000) (disch := omega) only [seqQ_normal, opsK_eq, runI_nil, runI_none, o_mv, o_call, ev_r, ev_c, ev_f, putS, Sf.set, Sf.reg, mask_eq, maskR_nil, maskR_cons, getR, setR, maskL, regs0, id, dis_lit, dis_ptr, List.map_cons, List.map_nil, ↓reduceIte, Nat.reduceEqDiff, reduceCtorEq, Nat.zero_add, f27_1e, f27_2e, f27_2l, f27_3e, f27_4e, f27_5e, f27_5l]
    refine call_p rfl e_f38 hc rfl ?_
    simp -implicitDefEqProofs (maxSteps := 10000000) (disch := omega) only [seqQ_normal, seqQ_ret, aC_ret, opsK_eq, retQ_ret, retI, resI, resL, runI_nil, runI_none, putP_eq, cond_tt, o_mv, o_bin, o_own, n_neq, wp_ok, bind_ok, ev_r, ev_c, setB_r, putS, Sf.set, Sf.reg, mask_eq, maskR_nil, maskR_cons, getR, setR, maskL, Sf.disAt, dis_lit, noL_lit, noL_tup, List.all_cons, List.all_nil, ↓reduceIte, Nat.reduceEqDiff, Int.reduceEq, Bool.true_and, Bool.and_true, and_true, true_and, reduceCtorEq, not_false_eq_true, decide_true, f27_6e, f27_7e, f27_7l, f27_8e, f27_9e, f27_10e, f27_10l]
    exact hQ _
theorem z_Cancel (h : ZC st x) (t : Int) : PCalls Go.Proofs.Try.prog n_f28 [x, .lit (.int .i64 t)] st (.lit (.int .i64 1)) := by
  refine pcalls_id hmix k_f28 rfl rfl fun Q hQ => ?_
  unfold aFun c_f28
  have hc := (z_check h t)
  rcases h with rfl | ⟨z, rfl, hg⟩
  all_goals
    simp -implicitDefEqProofs (maxSteps := 10000000) (disch := omega) only [seqQ_normal, opsK_eq, runI_nil, runI_none, o_mv, o_call, ev_r, ev_c, ev_f, putS, Sf.set, Sf.reg, mask_eq, maskR_nil, maskR_cons, getR, setR, maskL, regs0, id, dis_lit, dis_ptr, List.map_cons, List.map_nil, ↓reduceIte, Nat.reduceEqDiff, reduceCtorEq, Nat.zero_add, f28_1e, f28_2e, f28_2l, f28_3e, f28_4e, f28_4l]
    refine call_p rfl e_f38 hc rfl ?_
    simp -implicitDefEqProofs (maxSteps := 10000000) (disch := omega) only [seqQ_normal, blockQ_ret, aC_ret, opsK_eq, retQ_ret, retI, runI_nil, runI_none, putP_eq, cond_ff, o_mv, o_bin, o_own, n_eql, wp_ok, ev_r, ev_c, setB_r, putS, Sf.set, Sf.reg, mask_eq, maskR_nil, maskR_cons, getR, setR, maskL, Sf.disAt, dis_lit, noL_lit, ↓reduceIte, Nat.reduceEqDiff, Int.reduceEq, Bool.true_and, true_and, reduceCtorEq, decide_false, f28_5e, f28_6e, f28_6l, f28_7e, f28_8e, f28_9e, f28_9l, f28_10e, f28_13e, f28_14e, f28_14l, f28_15e, f28_24e, f28_25e, f28_25l]
    exact hQ _
theorem z_do (h : ZC st x) (a : Ca) : PCalls Go.Proofs.Try.prog n_f11 [x, caAV a] st (rsAV (0, false, [], 1)) := by
  obtain ⟨w, t, v⟩ := a
  have hx : x.dis = x ∧ x.noL = true := by rcases h with rfl | ⟨z, rfl, _⟩ <;> exact ⟨rfl, rfl⟩
  obtain ⟨x1, x2⟩ := hx
  refine pcalls_id hmix k_f11 rfl rfl fun Q hQ => ?_
  unfold aFun c_f11
  have a0 := z_Send h t v
  have a1 := z_Receive h t
  have a2 := z_TrySend h v
  have a3 := z_TryReceive h
  have a4 := z_Cancel h t
  have a5 := z_Close h
  have hkill : ∀ s, kill s x = x := by rcases h with rfl | ⟨z, rfl, _⟩ <;> exact fun _ => rfl
  rcases h with rfl | ⟨z, rfl, hg⟩
  all_goals
    simp -implicitDefEqProofs (maxSteps := 10000000) (disch := omega) only [seqQ_normal, opsK_eq, runI_nil, runI_none, putP_eq, o_mv, o_bin, o_addr, o_load, o_own, o_newL, o_boxL, loadV, boxX, addA, derefI, takeI_none, n_eql, wp_ok, bind_ok, ofOpt_some, ev_r, ev_c, evOwn_r, putS, Sf.set, Sf.reg, mask_eq, maskR_nil, maskR_cons, getR, setR, maskL, Sf.disAt, Sf.newLoc, look, killR, drop1, regs0, dis_lit, dis_ptr, dis_agg, own1_lit, cells_agg, solid1_lit, solid_eq, kill_lit, kill_ptr, kill_lptr, kill_agg, List.map_cons, List.map_nil, List.length_cons, List.length_nil, List.all_cons, List.all_nil, List.drop_zero, ↓reduceIte, Nat.reduceEqDiff, Nat.reduceAdd, Bool.true_and, Bool.and_true, and_true, true_and, reduceCtorEq, Nat.zero_add, Nat.add_zero, f11_1e, f11_2e, f11_2l, f11_3e, f11_4e, f11_4l, f11_5e, f11_6e, f11_6l, f11_7e, f11_8e, f11_9e, f11_9l, f11_10e, f11_11e, f11_12e, f11_12l, f11_13e, caAV]
    refine cond_split (fun h0 => ?_) (fun h0 => ?_)
    · simp -implicitDefEqProofs (maxSteps := 10000000) (disch := omega) only [runI_none, putP_eq, o_mv, o_addr, o_load, o_call, loadV, addA, derefI, takeI_none, wp_ok, bind_ok, ofOpt_some, ev_r, ev_f, setB_r, putS, Sf.set, Sf.reg, getR, setR, look, id, dis_lit, dis_ptr, List.map_cons, List.map_nil, List.drop_zero, List.drop_succ_cons, ↓reduceIte, Nat.reduceEqDiff, reduceCtorEq, Nat.zero_add, f11_14e, f11_14l]
      refine call_p rfl e_f26 a0 rfl ?_
      simp -implicitDefEqProofs (maxSteps := 10000000) (disch := omega) only [seqQ_normal, blockQ_normal, aC_ret, opsK_eq, retQ_ret, retI, resI, runI_nil, runI_none, putP_eq, o_mv, o_ext, o_addr, o_load, o_own, o_store, extV, loadV, boxX, writeX, addA, derefI, takeI_some, wp_ok, bind_ok, bind_req, ofOpt_some, req_tt, ev_r, evOwn_r, disOp_r, putS, Sf.set, Sf.reg, mask_eq, maskR_nil, maskR_cons, getR, setR, maskL, Sf.disAt, Sf.setLoc, look, drop1, dis_lit, dis_agg, dis_tup, own1_lit, own2_lit, cells_lit, cells_agg, solid1_lit, solid_eq, noL_agg, List.map_cons, List.map_nil, List.length_cons, List.length_nil, List.getElem?_cons_zero, List.getElem?_cons_succ, List.all_cons, List.all_nil, List.drop_zero, List.take_succ_cons, List.take_zero, List.set_cons_zero, List.set_cons_succ, ↓reduceIte, Nat.reduceEqDiff, Nat.reduceAdd, Nat.reduceLeDiff, Bool.true_and, Bool.and_true, and_true, true_and, reduceCtorEq, Nat.zero_add, decide_true, setAt_nil, setAt_cons, f11_36e, f11_37e, f11_37l, f11_38e, f11_39e, f11_39l]
      exact hQ _
    simp -implicitDefEqProofs (maxSteps := 10000000) (disch := omega) only [seqQ_normal, opsK_eq, runI_nil, runI_none, putP_eq, o_bin, o_own, n_eql, wp_ok, ev_r, ev_c, setB_r, putS, Sf.set, Sf.reg, mask_eq, maskR_nil, maskR_cons, getR, setR, maskL, Sf.disAt, look, dis_lit, ↓reduceIte, Nat.reduceEqDiff, reduceCtorEq, f11_15e, f11_16e, f11_16l, f11_17e]
    refine cond_split (fun h1 => ?_) (fun h1 => ?_)
    · simp -implicitDefEqProofs (maxSteps := 10000000) (disch := omega) only [runI_none, putP_eq, o_mv, o_addr, o_load, o_call, loadV, addA, derefI, takeI_none, wp_ok, bind_ok, ofOpt_some, ev_r, ev_f, setB_r, putS, Sf.set, Sf.reg, getR, setR, look, id, dis_lit, dis_ptr, List.map_cons, List.map_nil, List.drop_zero, List.drop_succ_cons, ↓reduceIte, Nat.reduceEqDiff, reduceCtorEq, Nat.zero_add, f11_18e, f11_18l]
      refine call_p rfl e_f27 a1 rfl ?_
      simp -implicitDefEqProofs (maxSteps := 10000000) (disch := omega) only [seqQ_normal, blockQ_normal, aC_ret, opsK_eq, retQ_ret, retI, resI, runI_nil, runI_none, putP_eq, o_mv, o_ext, o_addr, o_load, o_own, o_store, extV, loadV, boxX, writeX, addA, derefI, takeI_some, wp_ok, bind_ok, bind_req, ofOpt_some, req_tt, ev_r, evOwn_r, disOp_r, putS, Sf.set, Sf.reg, mask_eq, maskR_nil, maskR_cons, getR, setR, maskL, Sf.disAt, Sf.setLoc, look, drop1, dis_lit, dis_agg, dis_tup, own1_lit, own2_lit, cells_lit, cells_agg, solid1_lit, solid_eq, noL_agg, List.map_cons, List.map_nil, List.length_cons, List.length_nil, List.getElem?_cons_zero, List.getElem?_cons_succ, List.all_cons, List.all_nil, List.drop_zero, List.take_succ_cons, List.take_zero, List.set_cons_zero, List.set_cons_succ, ↓reduceIte, Nat.reduceEqDiff, Nat.reduceAdd, Nat.reduceLeDiff, Bool.true_and, Bool.and_true, and_true, true_and, reduceCtorEq, Nat.zero_add, Nat.add_zero, decide_true, setAt_nil, setAt_cons, f11_36e, f11_37e, f11_37l, f11_38e, f11_39e, f11_39l]
      exact hQ _
    simp -implicitDefEqProofs (maxSteps := 10000000) (disch := omega) only [seqQ_normal, opsK_eq, runI_nil, runI_none, putP_eq, o_bin, o_own, n_eql, wp_ok, ev_r, ev_c, setB_r, putS, Sf.set, Sf.reg, mask_eq, maskR_nil, maskR_cons, getR, setR, maskL, Sf.disAt, look, dis_lit, ↓reduceIte, Nat.reduceEqDiff, reduceCtorEq, f11_19e, f11_20e, f11_20l, f11_21e]
    refine cond_split (fun h2 => ?_) (fun h2 => ?_)
    · simp -implicitDefEqProofs (maxSteps := 10000000) (disch := omega) only [runI_none, putP_eq, o_mv, o_addr, o_load, o_call, loadV, addA, derefI, takeI_none, wp_ok, bind_ok, ofOpt_some, ev_r, ev_f, setB_r, putS, Sf.set, Sf.reg, getR, setR, look, id, dis_lit, dis_ptr, List.map_cons, List.map_nil, List.drop_zero, List.drop_succ_cons, ↓reduceIte, Nat.reduceEqDiff, reduceCtorEq, Nat.zero_add, f11_22e, f11_23e, f11_23l]
      refine call_p rfl e_f21 a2 rfl ?_
      simp -implicitDefEqProofs (maxSteps := 10000000) (disch := omega) only [seqQ_normal, blockQ_normal, aC_ret, opsK_eq, retQ_ret, retI, resI, runI_nil, runI_none, putP_eq, o_mv, o_bin, o_ext, o_addr, o_load, o_own, o_store, extV, loadV, boxX, writeX, addA, derefI, takeI_some, n_eql, wp_ok, bind_ok, bind_req, ofOpt_some, req_tt, ev_r, ev_c, evOwn_r, disOp_r, putS, Sf.set, Sf.reg, mask_eq, maskR_nil, maskR_cons, getR, setR, maskL, Sf.disAt, Sf.setLoc, look, drop1, dis_lit, dis_agg, dis_tup, own1_lit, own2_lit, cells_lit, cells_agg, solid1_lit, solid_eq, noL_agg, List.map_cons, List.map_nil, List.length_cons, List.length_nil, List.getElem?_cons_zero, List.getElem?_cons_succ, List.all_cons, List.all_nil, List.drop_zero, List.take_succ_cons, List.take_zero, List.set_cons_zero, List.set_cons_succ, ↓reduceIte, Nat.reduceEqDiff, Nat.reduceAdd, Nat.reduceLeDiff, Int.reduceEq, Bool.true_and, Bool.and_true, and_true, true_and, reduceCtorEq, Nat.zero_add, decide_true, decide_false, setAt_nil, setAt_cons, f11_24e, f11_24l, f11_36e, f11_37e, f11_37l, f11_38e, f11_39e, f11_39l]
      exact hQ _
    simp -implicitDefEqProofs (maxSteps := 10000000) (disch := omega) only [seqQ_normal, opsK_eq, runI_nil, runI_none, putP_eq, o_bin, o_own, n_eql, wp_ok, ev_r, ev_c, setB_r, putS, Sf.set, Sf.reg, mask_eq, maskR_nil, maskR_cons, getR, setR, maskL, Sf.disAt, look, dis_lit, ↓reduceIte, Nat.reduceEqDiff, reduceCtorEq, f11_25e, f11_26e, f11_26l, f11_27e]
    refine cond_split (fun h3 => ?_) (fun h3 => ?_)
    · simp -implicitDefEqProofs (maxSteps := 10000000) (disch := omega) only [runI_none, o_mv, o_call, ev_r, ev_f, setB_r, putS, Sf.set, Sf.reg, getR, setR, id, dis_lit, dis_ptr, List.map_cons, List.map_nil, ↓reduceIte, Nat.reduceEqDiff, reduceCtorEq, f11_28e, f11_29e, f11_29l]
      refine call_p rfl e_f20 a3 rfl ?_
      simp -implicitDefEqProofs (maxSteps := 10000000) (disch := omega) only [seqQ_normal, blockQ_normal, aC_ret, opsK_eq, retQ_ret, retI, resI, runI_nil, runI_none, putP_eq, o_mv, o_bin, o_ext, o_addr, o_load, o_own, o_store, extV, loadV, boxX, writeX, addA, derefI, takeI_some, n_eql, wp_ok, bind_ok, bind_req, ofOpt_some, req_tt, ev_r, ev_c, evOwn_r, disOp_r, putS, Sf.set, Sf.reg, mask_eq, maskR_nil, maskR_cons, getR, setR, maskL, Sf.disAt, Sf.setLoc, look, drop1, dis_lit, dis_agg, dis_tup, own1_lit, own2_lit, cells_lit, cells_agg, solid1_lit, solid_eq, noL_agg, List.map_cons, List.map_nil, List.length_cons, List.length_nil, List.getElem?_cons_zero, List.getElem?_cons_succ, List.all_cons, List.all_nil, List.drop_zero, List.take_succ_cons, List.take_zero, List.set_cons_zero, List.set_cons_succ, ↓reduceIte, Nat.reduceEqDiff, Nat.reduceAdd, Nat.reduceLeDiff, Int.reduceEq, Bool.true_and, Bool.and_true, and_true, true_and, reduceCtorEq, Nat.zero_add, Nat.add_zero, decide_true, decide_false, setAt_nil, setAt_cons, f11_30e, f11_30l, f11_36e, f11_37e, f11_37l, f11_38e, f11_39e, f11_39l]
      exact hQ _
    simp -implicitDefEqProofs (maxSteps := 10000000) (disch := omega) only [seqQ_normal, opsK_eq, runI_nil, runI_none, putP_eq, o_bin, o_own, n_eql, wp_ok, ev_r, ev_c, setB_r, putS, Sf.set, Sf.reg, mask_eq, maskR_nil, maskR_cons, getR, setR, maskL, Sf.disAt, look, dis_lit, ↓reduceIte, Nat.reduceEqDiff, reduceCtorEq, f11_31e, f11_32e, f11_32l, f11_33e]
    refine cond_split (fun h4 => ?_) (fun h4 => ?_)
    · simp -implicitDefEqProofs (maxSteps := 10000000) (disch := omega) only [runI_none, putP_eq, o_mv, o_addr, o_load, o_call, loadV, addA, derefI, takeI_none, wp_ok, bind_ok, ofOpt_some, ev_r, ev_f, setB_r, putS, Sf.set, Sf.reg, getR, setR, look, id, dis_lit, dis_ptr, List.map_cons, List.map_nil, List.drop_zero, List.drop_succ_cons, ↓reduceIte, Nat.reduceEqDiff, reduceCtorEq, Nat.zero_add, f11_34e, f11_34l]
      refine call_p rfl e_f28 a4 rfl ?_
      simp -implicitDefEqProofs (maxSteps := 10000000) (disch := omega) only [seqQ_normal, blockQ_normal, aC_ret, opsK_eq, retQ_ret, retI, resI, runI_nil, runI_none, putP_eq, o_mv, o_addr, o_load, o_own, o_store, loadV, boxX, writeX, addA, derefI, takeI_some, wp_ok, bind_ok, bind_req, ofOpt_some, req_tt, ev_r, evOwn_r, disOp_r, putS, Sf.set, Sf.reg, mask_eq, maskR_nil, maskR_cons, getR, setR, maskL, Sf.disAt, Sf.setLoc, look, drop1, dis_lit, dis_agg, own1_lit, cells_lit, cells_agg, solid1_lit, solid_eq, noL_agg, List.map_cons, List.map_nil, List.length_cons, List.length_nil, List.all_cons, List.all_nil, List.drop_zero, List.take_succ_cons, List.take_zero, List.set_cons_zero, List.set_cons_succ, ↓reduceIte, Nat.reduceEqDiff, Nat.reduceAdd, Nat.reduceLeDiff, Bool.true_and, Bool.and_true, and_true, true_and, reduceCtorEq, Nat.zero_add, decide_true, setAt_nil, setAt_cons, f11_36e, f11_37e, f11_37l, f11_38e, f11_39e, f11_39l]
      exact hQ _
    · simp -implicitDefEqProofs (maxSteps := 10000000) (disch := omega) only [runI_none, o_mv, o_call, ev_r, ev_f, setB_r, putS, Sf.set, Sf.reg, getR, setR, id, dis_lit, dis_ptr, List.map_cons, List.map_nil, ↓reduceIte, Nat.reduceEqDiff, reduceCtorEq, f11_35e, f11_35l]
      refine call_p rfl e_f19 a5 rfl ?_
      simp -implicitDefEqProofs (maxSteps := 10000000) (disch := omega) only [seqQ_normal, blockQ_normal, aC_ret, opsK_eq, retQ_ret, retI, resI, runI_nil, runI_none, putP_eq, o_mv, o_ext, o_addr, o_load, o_own, o_store, extV, loadV, boxX, writeX, addA, derefI, takeI_some, wp_ok, bind_ok, bind_req, ofOpt_some, req_tt, ev_r, evOwn_r, disOp_r, putS, Sf.set, Sf.reg, mask_eq, maskR_nil, maskR_cons, getR, setR, maskL, Sf.disAt, Sf.setLoc, look, drop1, dis_lit, dis_agg, dis_tup, own1_lit, own2_lit, cells_lit, cells_agg, solid1_lit, solid_eq, noL_agg, List.map_cons, List.map_nil, List.length_cons, List.length_nil, List.getElem?_cons_zero, List.getElem?_cons_succ, List.all_cons, List.all_nil, List.drop_zero, List.take_succ_cons, List.take_zero, List.set_cons_zero, List.set_cons_succ, ↓reduceIte, Nat.reduceEqDiff, Nat.reduceAdd, Nat.reduceLeDiff, Bool.true_and, Bool.and_true, and_true, true_and, reduceCtorEq, Nat.zero_add, decide_true, setAt_nil, setAt_cons, f11_36e, f11_37e, f11_37l, f11_38e, f11_39e, f11_39l]
      exact hQ _
end

theorem channelNone_law (a : Ca) : ACalls Go.Proofs.Try.prog n_f8 [caAV a] ⟨[]⟩ (fun v _ => v = .lit (.bool true)) := by
  refine acalls_op hmix k_f8 rfl rfl fun Q hQ => ?_
  unfold aFun c_f8
  simp -implicitDefEqProofs (maxSteps := 10000000) (disch := omega) only [seqQ_normal, opsK_eq, runI_nil, runI_none, putP_eq, o_mv, o_bst, o_own, o_boxL, o_boxB, bstV, boxX, buildA, wp_ok, bind_ok, ev_c, evOwn_r, disOp_r, putS, Sf.set, Sf.reg, mask_eq, maskR_nil, maskR_cons, getR, setR, maskL, Sf.disAt, Sf.newLoc, look, killR, drop1, regs0, dis_lit, dis_ptr, dis_agg, own1_lit, cells_agg, solid1_lit, solid_eq, kill_agg, List.map_cons, List.map_nil, List.length_cons, List.length_nil, List.all_cons, List.all_nil, ↓reduceIte, Nat.reduceEqDiff, Nat.reduceAdd, Bool.true_and, Bool.and_true, and_true, true_and, reduceCtorEq, Nat.zero_add, f8_1e, f8_2e, f8_2l, f8_3e, f8_4e, f8_4l, f8_5e, f8_6e, f8_6l, f8_7e, f8_8e, f8_9e, f8_9l, f8_10e, caAV]
  have hg : (St.push ⟨[]⟩ (.cells [.lit (.bool false), .lit (.bool false), .lit (.int .i64 0), .lit (.slice none 0 0), .lit (.pointer none), .lit (.pointer none), .lit (.map none)])).get 0 = some [.lit (.bool false), .lit (.bool false), .lit (.int .i64 0), .lit (.slice none 0 0), .lit (.pointer none), .lit (.pointer none), .lit (.map none)] := rfl
  generalize St.push ⟨[]⟩ _ = st at *
  have hn : ZC st (.lit (.pointer none)) := .inl rfl
  have hz : ZC st (.ptr 0 0) := .inr ⟨0, rfl, hg⟩
  have hd := fun x h => z_do (st := st) (x := x) h a
  simp only [caAV, rsAV] at hd
  have he : PCalls Go.Proofs.Try.prog n_f23 [rsAV (0, false, [], 1), rsAV (0, false, [], 1)] st (.lit (.bool true)) := requal_pure (0, false, [], 1) (0, false, [], 1) (by decide) (by decide) st
  rw [f8_11w]
  refine loop_rounds 3 ?_
  simp -implicitDefEqProofs (maxSteps := 10000000) (disch := omega) only [seqQ_normal, aC_skip, opsK_eq, runI_nil, runI_none, putP_eq, cond_tt, cond_ff, o_mv, o_bin, o_own, o_call, n_eql, n_lss, wp_ok, ev_r, ev_c, ev_f, setB_r, putS, Sf.set, Sf.reg, mask_eq, maskR_nil, maskR_cons, getR, setR, maskL, Sf.disAt, look, id, dis_lit, List.map_cons, List.map_nil, ↓reduceIte, Nat.reduceEqDiff, Int.reduceLT, Int.reduceEq, decide_true, decide_false, f8_12e, f8_13e, f8_14e, f8_14l, f8_15e, f8_16e, f8_17e, f8_18e, f8_19e, f8_19l, f8_20e, f8_21e, f8_22e, f8_22l, f8_23e, f8_25e, f8_26e, f8_26l, loopN_succ]
  refine call_p rfl e_f12 (z_Waiting hn) rfl ?_
  simp -implicitDefEqProofs (maxSteps := 10000000) (disch := omega) only [seqQ_normal, opsK_eq, runI_nil, runI_none, putP_eq, o_mv, o_ext, o_load, o_own, o_call, extV, loadV, derefI, takeI_some, wp_ok, bind_ok, bind_req, ofOpt_some, req_tt, ev_r, ev_f, putS, Sf.set, Sf.reg, mask_eq, maskR_nil, maskR_cons, getR, setR, maskL, Sf.disAt, look, id, dis_lit, dis_agg, dis_tup, own1_lit, own2_lit, List.map_cons, List.map_nil, List.length_cons, List.length_nil, List.getElem?_cons_zero, List.getElem?_cons_succ, List.drop_zero, List.take_succ_cons, List.take_zero, ↓reduceIte, Nat.reduceEqDiff, Nat.reduceAdd, Nat.reduceLeDiff, Nat.zero_add, decide_true, f8_27e, f8_28e, f8_28l]
  refine call_p rfl e_f11 (hd _ hn) rfl ?_
  simp -implicitDefEqProofs (maxSteps := 10000000) (disch := omega) only [and_self, runI_none, putP_eq, o_bst, o_call, bstV, buildA, wp_ok, bind_ok, ev_r, ev_c, ev_f, putS, Sf.set, Sf.reg, getR, setR, id, dis_lit, cells_lit, cells_agg, solid1_lit, solid_eq, List.map_cons, List.map_nil, List.length_cons, List.length_nil, List.getElem?_cons_zero, List.getElem?_cons_succ, List.all_cons, List.all_nil, List.set_cons_zero, List.set_cons_succ, ↓reduceIte, Nat.reduceEqDiff, Nat.reduceAdd, Nat.reduceLeDiff, Bool.and_true, and_true, Nat.zero_add, setAt_nil, setAt_cons, itsAV]
  refine call_p rfl e_f23 he rfl ?_
  simp -implicitDefEqProofs (maxSteps := 10000000) (disch := omega) only [runI_none, runI_some, AI.dst, putP_eq, guard_ff, o_mv, o_un, o_call, unA, wp_ok, ev_r, ev_f, putS, Sf.set, Sf.reg, getR, setR, id, dis_lit, List.map_cons, List.map_nil, ↓reduceIte, Nat.reduceEqDiff, Bool.not_true, Bool.false_eq_true]
  refine call_p rfl e_f13 (z_Len hn) rfl ?_
  simp -implicitDefEqProofs (maxSteps := 10000000) (disch := omega) only [runI_none, runI_some, AI.dst, putP_eq, guard_ff, o_mv, o_pick, o_bin, o_call, pick_ff, n_neq, wp_ok, ev_r, ev_c, ev_f, putS, Sf.set, Sf.reg, getR, setR, id, dis_lit, List.map_cons, List.map_nil, ↓reduceIte, Nat.reduceEqDiff, not_true_eq_false, decide_false, Bool.false_eq_true]
  refine call_p rfl e_f17 (z_Cap hn) rfl ?_
  simp -implicitDefEqProofs (maxSteps := 10000000) (disch := omega) only [runI_none, runI_some, AI.dst, putP_eq, guard_ff, o_mv, o_pick, o_bin, o_call, pick_ff, n_neq, wp_ok, ev_r, ev_c, ev_f, putS, Sf.set, Sf.reg, getR, setR, id, dis_lit, List.map_cons, List.map_nil, ↓reduceIte, Nat.reduceEqDiff, not_true_eq_false, decide_false, Bool.false_eq_true]
  refine call_p rfl e_f18 (z_Closed hn) rfl ?_
  simp -implicitDefEqProofs (maxSteps := 10000000) (disch := omega) only [runI_none, runI_some, AI.dst, putP_eq, guard_ff, o_mv, o_pick, o_call, pick_ff, wp_ok, ev_r, ev_c, ev_f, putS, Sf.set, Sf.reg, getR, setR, id, dis_lit, List.map_cons, List.map_nil, ↓reduceIte, Nat.reduceEqDiff, Bool.false_eq_true]
  refine call_p rfl e_f22 (z_Copy hn) rfl ?_
  simp -implicitDefEqProofs (maxSteps := 10000000) (disch := omega) only [seqQ_normal, blockQ_normal, aC_skip, opsK_eq, runI_nil, runI_none, runI_some, AI.dst, putP_eq, cond_tt, cond_ff, unrQ_normal, guard_ff, o_mv, o_pick, o_bin, o_own, o_call, pick_ff, n_nilne, eqNilI, isNilI, n_add, n_eql, n_lss, wp_ok, bind_ok, ofOpt_some, ev_r, ev_c, ev_f, setB_r, putS, Sf.set, Sf.reg, mask_eq, maskR_nil, maskR_cons, getR, setR, maskL, Sf.disAt, look, id, dis_lit, dis_ptr, List.map_cons, List.map_nil, ↓reduceIte, Nat.reduceEqDiff, Int.reduceLT, decide_true, Bool.not_true, Bool.false_eq_true, IntWalk.i64_in, Int.zero_add, f8_12e, f8_13e, f8_14e, f8_14l, f8_15e, f8_16e, f8_17e, f8_18e, f8_19e, f8_19l, f8_20e, f8_21e, f8_22e, f8_22l, f8_23e, f8_24e, f8_24l, f8_25e, f8_26e, f8_26l, f8_29e, f8_32e, f8_32l, loopN_succ]
  refine call_p rfl e_f12 (z_Waiting hz) rfl ?_
  simp -implicitDefEqProofs (maxSteps := 10000000) (disch := omega) only [seqQ_normal, opsK_eq, runI_nil, runI_none, putP_eq, o_mv, o_ext, o_load, o_own, o_call, extV, loadV, derefI, takeI_some, wp_ok, bind_ok, bind_req, ofOpt_some, req_tt, ev_r, ev_f, putS, Sf.set, Sf.reg, mask_eq, maskR_nil, maskR_cons, getR, setR, maskL, Sf.disAt, look, id, dis_lit, dis_ptr, dis_agg, dis_tup, own1_lit, own2_lit, List.map_cons, List.map_nil, List.length_cons, List.length_nil, List.getElem?_cons_zero, List.getElem?_cons_succ, List.drop_zero, List.take_succ_cons, List.take_zero, ↓reduceIte, Nat.reduceEqDiff, Nat.reduceAdd, Nat.reduceLeDiff, Nat.zero_add, decide_true, f8_27e, f8_28e, f8_28l]
  refine call_p rfl e_f11 (hd _ hz) rfl ?_
  simp -implicitDefEqProofs (maxSteps := 10000000) (disch := omega) only [and_self, runI_none, putP_eq, o_bst, o_call, bstV, buildA, wp_ok, bind_ok, ev_r, ev_c, ev_f, putS, Sf.set, Sf.reg, getR, setR, id, dis_lit, cells_lit, cells_agg, solid1_lit, solid_eq, List.map_cons, List.map_nil, List.length_cons, List.length_nil, List.getElem?_cons_zero, List.getElem?_cons_succ, List.all_cons, List.all_nil, List.set_cons_zero, List.set_cons_succ, ↓reduceIte, Nat.reduceEqDiff, Nat.reduceAdd, Nat.reduceLeDiff, Bool.and_true, and_true, Nat.zero_add, setAt_nil, setAt_cons, itsAV]
  refine call_p rfl e_f23 he rfl ?_
  simp -implicitDefEqProofs (maxSteps := 10000000) (disch := omega) only [runI_none, runI_some, AI.dst, putP_eq, guard_ff, o_mv, o_un, o_call, unA, wp_ok, ev_r, ev_f, putS, Sf.set, Sf.reg, getR, setR, id, dis_lit, dis_ptr, List.map_cons, List.map_nil, ↓reduceIte, Nat.reduceEqDiff, Bool.not_true, Bool.false_eq_true]
  refine call_p rfl e_f13 (z_Len hz) rfl ?_
  simp -implicitDefEqProofs (maxSteps := 10000000) (disch := omega) only [runI_none, runI_some, AI.dst, putP_eq, guard_ff, o_mv, o_pick, o_bin, o_call, pick_ff, n_neq, wp_ok, ev_r, ev_c, ev_f, putS, Sf.set, Sf.reg, getR, setR, id, dis_lit, dis_ptr, List.map_cons, List.map_nil, ↓reduceIte, Nat.reduceEqDiff, not_true_eq_false, decide_false, Bool.false_eq_true]
  refine call_p rfl e_f17 (z_Cap hz) rfl ?_
  simp -implicitDefEqProofs (maxSteps := 10000000) (disch := omega) only [runI_none, runI_some, AI.dst, putP_eq, guard_ff, o_mv, o_pick, o_bin, o_call, pick_ff, n_neq, wp_ok, ev_r, ev_c, ev_f, putS, Sf.set, Sf.reg, getR, setR, id, dis_lit, dis_ptr, List.map_cons, List.map_nil, ↓reduceIte, Nat.reduceEqDiff, not_true_eq_false, decide_false, Bool.false_eq_true]
  refine call_p rfl e_f18 (z_Closed hz) rfl ?_
  simp -implicitDefEqProofs (maxSteps := 10000000) (disch := omega) only [runI_none, runI_some, AI.dst, putP_eq, guard_ff, o_mv, o_pick, o_call, pick_ff, wp_ok, ev_r, ev_c, ev_f, putS, Sf.set, Sf.reg, getR, setR, id, dis_lit, dis_ptr, List.map_cons, List.map_nil, ↓reduceIte, Nat.reduceEqDiff, Bool.false_eq_true]
  refine call_p rfl e_f22 (z_Copy hz) rfl ?_
  simp -implicitDefEqProofs (maxSteps := 10000000) (disch := omega) only [seqQ_normal, seqQ_exit, blockQ_normal, blockQ_exit, aC_skip, aC_exit, opsK_eq, runI_nil, runI_none, runI_some, AI.dst, putP_eq, cond_ff, unrQ_normal, unrQ_exit, guard_ff, o_mv, o_pick, o_bin, o_own, o_call, pick_ff, n_nilne, eqNilI, isNilI, n_add, n_lss, wp_ok, bind_ok, ofOpt_some, ev_r, ev_c, ev_f, setB_r, putS, Sf.set, Sf.reg, mask_eq, maskR_nil, maskR_cons, getR, setR, maskL, Sf.disAt, look, id, dis_lit, List.map_nil, ↓reduceIte, Nat.reduceEqDiff, Int.reduceLT, Int.reduceAdd, decide_false, Bool.not_true, Bool.false_eq_true, IntWalk.i64_in, f8_12e, f8_13e, f8_14e, f8_14l, f8_15e, f8_29e, f8_32e, f8_32l, f8_33e, f8_34e, f8_34l, loopN_succ]
  refine call_a rfl e_f10 (known36 _) rfl fun r st1 hr => ?_
  subst hr
  simp -implicitDefEqProofs (maxSteps := 10000000) (disch := omega) only [seqQ_normal, aC_ret, opsK_eq, retQ_ret, retI, runI_nil, runI_none, o_own, wp_ok, putS, Sf.set, Sf.reg, mask_eq, maskR_nil, maskR_cons, getR, setR, maskL, Sf.disAt, dis_lit, noL_lit, ↓reduceIte, Nat.reduceEqDiff, Bool.true_and, true_and]
  exact hQ _ _ rfl
end Go.Fx.YtohlpjfhkejjgaaFx

