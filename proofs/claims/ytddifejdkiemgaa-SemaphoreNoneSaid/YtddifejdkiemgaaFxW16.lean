/- What the functions that the statement reaches compute: part 16. -/
import Derived.Test.YtddifejdkiemgaaFxW15
namespace Go.Fx.YtddifejdkiemgaaFx
open Go Go.Fx
attribute [local irreducible] aC runI headI loopI

set_option maxRecDepth 100000
set_option maxHeartbeats 4000000

/-! Nil and zero semaphores. -/
def Zb (st : St) (v : AV) : Prop := v = .lit (.pointer none) ∨ ∃ zi r, v = .ptr zi 0 ∧ st.get zi = some (.lit (.int .i64 0) :: .lit (.int .i64 0) :: .lit (.int .u64 0) :: r)
theorem Zb.facts {st : St} {v : AV} (h : Zb st v) : v.dis = v ∧ v.noL = true := by
  rcases h with rfl | ⟨zi, r, rfl, _⟩ <;> exact ⟨rfl, rfl⟩
theorem zzero_pure {st : St} {v : AV} (h : Zb st v) : PCalls Go.Proofs.Try.prog n_f59 [v] st (.lit (.bool true)) := by
  rcases h with rfl | ⟨zi, r, rfl, hg⟩
  · refine pcalls_id hmix k_f59 rfl rfl fun Q hQ => ?_
    unfold aFun c_f59
    simp -implicitDefEqProofs (maxSteps := 10000000) (disch := omega) only [seqQ_normal, aC_ret, opsK_eq, retQ_ret, retI, runI_nil, runI_none, runI_some, skipI_eq, AI.dst, putP_eq, guard_tt, o_mv, o_pick, o_bin, o_own, pick_tt, n_nileq, eqNilI, isNilI, wp_ok, bind_ok, ofOpt_some, ev_r, ev_c, putS, Sf.set, Sf.reg, mask_eq, maskR_nil, maskR_cons, getR, setR, maskL, Sf.disAt, regs0, dis_lit, noL_lit, ↓reduceIte, Nat.reduceEqDiff, Bool.true_and, true_and, reduceCtorEq, Bool.false_eq_true, f59_1e, f59_2e, f59_2l, f59_3e, f59_4e, f59_4l]
    exact hQ _
  · refine pcalls_id hmix k_f59 rfl rfl fun Q hQ => ?_
    unfold aFun c_f59
    simp -implicitDefEqProofs (maxSteps := 10000000) (disch := omega) only [seqQ_normal, aC_ret, opsK_eq, retQ_ret, retI, runI_nil, runI_none, runI_some, AI.dst, putP_eq, guard_ff, o_mv, o_pick, o_bin, o_addr, o_load, o_nilck, o_own, pick_ff, loadV, nilckV, n_nileq, eqNilI, isNilI, addA, derefI, takeI_none, n_eql, wp_ok, bind_ok, ofOpt_some, ev_r, ev_c, putS, Sf.set, Sf.reg, mask_eq, maskR_nil, maskR_cons, getR, setR, maskL, Sf.disAt, regs0, dis_lit, dis_ptr, noL_lit, List.drop_zero, ↓reduceIte, Nat.reduceEqDiff, Bool.true_and, true_and, reduceCtorEq, Nat.add_zero, decide_true, Bool.false_eq_true, f59_1e, f59_2e, f59_2l, f59_3e, f59_4e, f59_4l, hg]
    exact hQ _
theorem zcheck_pure {st : St} {v : AV} (h : Zb st v) (x : Int) (y : Int) : PCalls Go.Proofs.Try.prog n_f61 [v, .lit (.int .i64 x), .lit (.int .i64 y)] st (.lit (.int .i64 1)) := by
  obtain ⟨h1, h2⟩ := h.facts
  refine pcalls_id hmix k_f61 rfl rfl fun Q hQ => ?_
  unfold aFun c_f61
  simp -implicitDefEqProofs (maxSteps := 10000000) (disch := omega) only [seqQ_normal, opsK_eq, runI_nil, runI_none, o_mv, o_call, ev_r, ev_c, ev_f, putS, Sf.set, Sf.reg, mask_eq, maskR_nil, maskR_cons, getR, setR, maskL, regs0, id, dis_lit, List.map_cons, List.map_nil, ↓reduceIte, Nat.reduceEqDiff, Nat.reduceAdd, reduceCtorEq, Nat.zero_add, f61_1e, f61_2e, f61_2l, f61_3e, f61_4e, f61_5e, f61_6e, f61_6l, h1]
  refine call_p (vs := [v]) (by simp [h1]) e_f59 (zzero_pure h) (by simp [h2]) ?_
  simp -implicitDefEqProofs (maxSteps := 10000000) (disch := omega) only [seqQ_normal, seqQ_ret, blockQ_ret, aC_ret, opsK_eq, retQ_ret, retI, runI_nil, runI_none, cond_tt, o_mv, o_own, wp_ok, ev_r, ev_c, setB_r, putS, Sf.set, Sf.reg, mask_eq, maskR_nil, maskR_cons, getR, setR, maskL, Sf.disAt, dis_lit, noL_lit, ↓reduceIte, Nat.reduceEqDiff, Bool.true_and, true_and, reduceCtorEq, f61_7e, f61_8e, f61_9e, f61_9l]
  exact hQ _
theorem zacquire_pure {st : St} {v : AV} (h : Zb st v) (x : Int) (y : Int) (d : Int) : PCalls Go.Proofs.Try.prog n_f35 [v, .lit (.int .i64 x), .lit (.int .i64 y), .lit (.int .u64 d)] st (.tup [.lit (.bool false), .lit (.int .i64 1)]) := by
  obtain ⟨h1, h2⟩ := h.facts
  refine pcalls_id hmix k_f35 rfl rfl fun Q hQ => ?_
  unfold aFun c_f35
  simp -implicitDefEqProofs (maxSteps := 10000000) (disch := omega) only [seqQ_normal, opsK_eq, runI_nil, runI_none, o_mv, o_call, ev_r, ev_c, ev_f, putS, Sf.set, Sf.reg, mask_eq, maskR_nil, maskR_cons, getR, setR, maskL, regs0, id, dis_lit, List.map_cons, List.map_nil, ↓reduceIte, Nat.reduceEqDiff, Nat.reduceAdd, reduceCtorEq, Nat.zero_add, f35_1e, f35_2e, f35_2l, f35_3e, f35_4e, f35_5e, f35_5l, h1]
  refine call_p (vs := [v, .lit (.int .i64 x), .lit (.int .i64 y)]) (by simp [h1, dis_lit]) e_f61 (zcheck_pure h x y) (by simp [h2, noL_lit]) ?_
  simp -implicitDefEqProofs (maxSteps := 10000000) (disch := omega) only [seqQ_normal, seqQ_ret, aC_ret, opsK_eq, retQ_ret, retI, resI, resL, runI_nil, runI_none, putP_eq, cond_tt, o_mv, o_bin, o_own, n_neq, wp_ok, bind_ok, ev_r, ev_c, setB_r, putS, Sf.set, Sf.reg, mask_eq, maskR_nil, maskR_cons, getR, setR, maskL, Sf.disAt, dis_lit, noL_lit, noL_tup, List.all_cons, List.all_nil, ↓reduceIte, Nat.reduceEqDiff, Int.reduceEq, Bool.true_and, Bool.and_true, and_true, true_and, reduceCtorEq, not_false_eq_true, decide_true, f35_6e, f35_7e, f35_7l, f35_8e, f35_9e, f35_10e, f35_10l]
  exact hQ _
theorem ztry_pure {st : St} {v : AV} (h : Zb st v) (x : Int) (y : Int) : PCalls Go.Proofs.Try.prog n_f36 [v, .lit (.int .i64 x), .lit (.int .i64 y)] st (.lit (.int .i64 1)) := by
  obtain ⟨h1, h2⟩ := h.facts
  refine pcalls_id hmix k_f36 rfl rfl fun Q hQ => ?_
  unfold aFun c_f36
  simp -implicitDefEqProofs (maxSteps := 10000000) (disch := omega) only [seqQ_normal, opsK_eq, runI_nil, runI_none, o_mv, o_call, ev_r, ev_c, ev_f, putS, Sf.set, Sf.reg, mask_eq, maskR_nil, maskR_cons, getR, setR, maskL, regs0, id, dis_lit, List.map_cons, List.map_nil, ↓reduceIte, Nat.reduceEqDiff, Nat.reduceAdd, reduceCtorEq, Nat.zero_add, f36_1e, f36_2e, f36_2l, f36_3e, f36_4e, f36_5e, f36_5l, h1]
  refine call_p (vs := [v, .lit (.int .i64 x), .lit (.int .i64 y)]) (by simp [h1, dis_lit]) e_f61 (zcheck_pure h x y) (by simp [h2, noL_lit]) ?_
  simp -implicitDefEqProofs (maxSteps := 10000000) (disch := omega) only [seqQ_normal, seqQ_ret, aC_ret, opsK_eq, retQ_ret, retI, runI_nil, runI_none, putP_eq, cond_tt, o_mv, o_bin, o_own, n_neq, wp_ok, ev_r, ev_c, setB_r, putS, Sf.set, Sf.reg, mask_eq, maskR_nil, maskR_cons, getR, setR, maskL, Sf.disAt, dis_lit, noL_lit, ↓reduceIte, Nat.reduceEqDiff, Int.reduceEq, Bool.true_and, true_and, reduceCtorEq, not_false_eq_true, decide_true, f36_6e, f36_7e, f36_7l, f36_8e, f36_9e, f36_10e, f36_10l]
  exact hQ _
theorem zrelease_pure {st : St} {v : AV} (h : Zb st v) (x : Int) (y : Int) : PCalls Go.Proofs.Try.prog n_f37 [v, .lit (.int .i64 x), .lit (.int .i64 y)] st (.tup [.lit (.slice none 0 0), .lit (.int .i64 1)]) := by
  obtain ⟨h1, h2⟩ := h.facts
  refine pcalls_id hmix k_f37 rfl rfl fun Q hQ => ?_
  unfold aFun c_f37
  simp -implicitDefEqProofs (maxSteps := 10000000) (disch := omega) only [seqQ_normal, opsK_eq, runI_nil, runI_none, o_mv, o_call, ev_r, ev_c, ev_f, putS, Sf.set, Sf.reg, mask_eq, maskR_nil, maskR_cons, getR, setR, maskL, regs0, id, dis_lit, List.map_cons, List.map_nil, ↓reduceIte, Nat.reduceEqDiff, Nat.reduceAdd, reduceCtorEq, Nat.zero_add, f37_1e, f37_2e, f37_2l, f37_3e, f37_4e, f37_5e, f37_5l, h1]
  refine call_p (vs := [v, .lit (.int .i64 x), .lit (.int .i64 y)]) (by simp [h1, dis_lit]) e_f61 (zcheck_pure h x y) (by simp [h2, noL_lit]) ?_
  simp -implicitDefEqProofs (maxSteps := 10000000) (disch := omega) only [seqQ_normal, seqQ_ret, aC_ret, opsK_eq, retQ_ret, retI, resI, resL, runI_nil, runI_none, putP_eq, cond_tt, o_mv, o_bin, o_own, n_neq, wp_ok, bind_ok, ev_r, ev_c, setB_r, putS, Sf.set, Sf.reg, mask_eq, maskR_nil, maskR_cons, getR, setR, maskL, Sf.disAt, dis_lit, noL_lit, noL_tup, List.all_cons, List.all_nil, ↓reduceIte, Nat.reduceEqDiff, Int.reduceEq, Bool.true_and, Bool.and_true, and_true, true_and, reduceCtorEq, not_false_eq_true, decide_true, f37_6e, f37_7e, f37_7l, f37_8e, f37_9e, f37_10e, f37_10l]
  exact hQ _
theorem zcancel_pure {st : St} {v : AV} (h : Zb st v) (x : Int) : PCalls Go.Proofs.Try.prog n_f38 [v, .lit (.int .i64 x)] st (.tup [.lit (.slice none 0 0), .lit (.int .i64 1)]) := by
  obtain ⟨h1, h2⟩ := h.facts
  refine pcalls_id hmix k_f38 rfl rfl fun Q hQ => ?_
  unfold aFun c_f38
  simp -implicitDefEqProofs (maxSteps := 10000000) (disch := omega) only [seqQ_normal, opsK_eq, runI_nil, runI_none, o_mv, o_call, ev_r, ev_c, ev_f, putS, Sf.set, Sf.reg, mask_eq, maskR_nil, maskR_cons, getR, setR, maskL, regs0, id, dis_lit, List.map_cons, List.map_nil, ↓reduceIte, Nat.reduceEqDiff, reduceCtorEq, Nat.zero_add, f38_1e, f38_2e, f38_2l, f38_3e, f38_4e, f38_5e, f38_5l, h1]
  refine call_p (vs := [v]) (by simp [h1]) e_f59 (zzero_pure h) (by simp [h2]) ?_
  simp -implicitDefEqProofs (maxSteps := 10000000) (disch := omega) only [seqQ_normal, seqQ_ret, aC_ret, opsK_eq, retQ_ret, retI, resI, resL, runI_nil, runI_none, cond_tt, o_mv, wp_ok, bind_ok, ev_r, ev_c, setB_r, putS, Sf.set, Sf.reg, mask_eq, maskR_nil, maskR_cons, getR, setR, maskL, dis_lit, noL_lit, noL_tup, List.all_cons, List.all_nil, ↓reduceIte, Nat.reduceEqDiff, Bool.true_and, Bool.and_true, and_true, true_and, reduceCtorEq, f38_6e, f38_7e, f38_8e, f38_8l]
  exact hQ _
theorem zadvance_pure {st : St} {v : AV} (h : Zb st v) (d : Int) : PCalls Go.Proofs.Try.prog n_f39 [v, .lit (.int .u64 d)] st (.tup [.lit (.slice none 0 0), .lit (.int .i64 1)]) := by
  obtain ⟨h1, h2⟩ := h.facts
  refine pcalls_id hmix k_f39 rfl rfl fun Q hQ => ?_
  unfold aFun c_f39
  simp -implicitDefEqProofs (maxSteps := 10000000) (disch := omega) only [seqQ_normal, opsK_eq, runI_nil, runI_none, o_mv, o_call, ev_r, ev_c, ev_f, putS, Sf.set, Sf.reg, mask_eq, maskR_nil, maskR_cons, getR, setR, maskL, regs0, id, dis_lit, List.map_cons, List.map_nil, ↓reduceIte, Nat.reduceEqDiff, reduceCtorEq, Nat.zero_add, f39_1e, f39_2e, f39_2l, f39_3e, f39_4e, f39_5e, f39_5l, h1]
  refine call_p (vs := [v]) (by simp [h1]) e_f59 (zzero_pure h) (by simp [h2]) ?_
  simp -implicitDefEqProofs (maxSteps := 10000000) (disch := omega) only [seqQ_normal, seqQ_ret, aC_ret, opsK_eq, retQ_ret, retI, resI, resL, runI_nil, runI_none, cond_tt, o_mv, wp_ok, bind_ok, ev_r, ev_c, setB_r, putS, Sf.set, Sf.reg, mask_eq, maskR_nil, maskR_cons, getR, setR, maskL, dis_lit, noL_lit, noL_tup, List.all_cons, List.all_nil, ↓reduceIte, Nat.reduceEqDiff, Bool.true_and, Bool.and_true, and_true, true_and, reduceCtorEq, f39_6e, f39_7e, f39_8e, f39_8l]
  exact hQ _
theorem zheld_pure {st : St} {v : AV} (h : Zb st v) (x : Int) : PCalls Go.Proofs.Try.prog n_f40 [v, .lit (.int .i64 x)] st (.lit (.int .i64 0)) := by
  obtain ⟨h1, h2⟩ := h.facts
  refine pcalls_id hmix k_f40 rfl rfl fun Q hQ => ?_
  unfold aFun c_f40
  simp -implicitDefEqProofs (maxSteps := 10000000) (disch := omega) only [seqQ_normal, opsK_eq, runI_nil, runI_none, o_mv, o_call, ev_r, ev_c, ev_f, putS, Sf.set, Sf.reg, mask_eq, maskR_nil, maskR_cons, getR, setR, maskL, regs0, id, dis_lit, List.map_cons, List.map_nil, ↓reduceIte, Nat.reduceEqDiff, reduceCtorEq, Nat.zero_add, f40_1e, f40_2e, f40_2l, f40_3e, f40_4e, f40_5e, f40_5l, h1]
  refine call_p (vs := [v]) (by simp [h1]) e_f59 (zzero_pure h) (by simp [h2]) ?_
  simp -implicitDefEqProofs (maxSteps := 10000000) (disch := omega) only [seqQ_normal, seqQ_ret, aC_ret, opsK_eq, retQ_ret, retI, runI_nil, runI_none, runI_some, skipI_eq, AI.dst, putP_eq, cond_tt, guard_tt, o_mv, o_pick, pick_tt, wp_ok, ev_r, ev_c, setB_r, putS, Sf.set, Sf.reg, mask_eq, maskR_nil, maskR_cons, getR, setR, maskL, dis_lit, noL_lit, ↓reduceIte, Nat.reduceEqDiff, Bool.true_and, true_and, reduceCtorEq, Bool.false_eq_true, f40_6e, f40_7e, f40_8e, f40_8l]
  exact hQ _
theorem zleft_pure {st : St} {v : AV} (h : Zb st v) : PCalls Go.Proofs.Try.prog n_f41 [v] st (.lit (.int .i64 0)) := by
  obtain ⟨h1, h2⟩ := h.facts
  refine pcalls_id hmix k_f41 rfl rfl fun Q hQ => ?_
  unfold aFun c_f41
  simp -implicitDefEqProofs (maxSteps := 10000000) (disch := omega) only [seqQ_normal, opsK_eq, runI_nil, runI_none, o_mv, o_call, ev_r, ev_c, ev_f, putS, Sf.set, Sf.reg, mask_eq, maskR_nil, maskR_cons, getR, setR, maskL, regs0, id, dis_lit, List.map_cons, List.map_nil, ↓reduceIte, reduceCtorEq, f41_1e, f41_2e, f41_2l, f41_3e, f41_4e, f41_5e, f41_5l, h1]
  refine call_p (vs := [v]) (by simp [h1]) e_f59 (zzero_pure h) (by simp [h2]) ?_
  simp -implicitDefEqProofs (maxSteps := 10000000) (disch := omega) only [seqQ_normal, seqQ_ret, aC_ret, opsK_eq, retQ_ret, retI, runI_nil, runI_none, cond_tt, o_mv, wp_ok, ev_r, ev_c, setB_r, putS, Sf.set, Sf.reg, mask_eq, maskR_nil, maskR_cons, getR, setR, maskL, dis_lit, noL_lit, ↓reduceIte, Nat.reduceEqDiff, Bool.true_and, true_and, reduceCtorEq, f41_6e, f41_7e, f41_8e, f41_8l]
  exact hQ _
theorem zwaiting_pure {st : St} {v : AV} (h : Zb st v) : PCalls Go.Proofs.Try.prog n_f34 [v] st (.lit (.slice none 0 0)) := by
  obtain ⟨h1, h2⟩ := h.facts
  refine pcalls_id hmix k_f34 rfl rfl fun Q hQ => ?_
  unfold aFun c_f34
  simp -implicitDefEqProofs (maxSteps := 10000000) (disch := omega) only [seqQ_normal, opsK_eq, runI_nil, runI_none, o_mv, o_call, ev_r, ev_c, ev_f, putS, Sf.set, Sf.reg, mask_eq, maskR_nil, maskR_cons, getR, setR, maskL, regs0, id, dis_lit, List.map_cons, List.map_nil, ↓reduceIte, Nat.reduceEqDiff, reduceCtorEq, f34_1e, f34_2e, f34_2l, f34_3e, f34_4e, f34_5e, f34_5l, h1]
  refine call_p (vs := [v]) (by simp [h1]) e_f59 (zzero_pure h) (by simp [h2]) ?_
  simp -implicitDefEqProofs (maxSteps := 10000000) (disch := omega) only [seqQ_normal, seqQ_ret, aC_ret, opsK_eq, retQ_ret, retI, runI_nil, runI_none, cond_tt, o_mv, wp_ok, ev_r, ev_c, setB_r, putS, Sf.set, Sf.reg, mask_eq, maskR_nil, maskR_cons, getR, setR, maskL, dis_lit, noL_lit, ↓reduceIte, Nat.reduceEqDiff, Bool.true_and, true_and, reduceCtorEq, f34_6e, f34_7e, f34_8e, f34_8l]
  exact hQ _
theorem znext_pure {st : St} {v : AV} (h : Zb st v) : PCalls Go.Proofs.Try.prog n_f42 [v] st (.lit (.int .u64 18446744073709551615)) := by
  obtain ⟨h1, h2⟩ := h.facts
  refine pcalls_id hmix k_f42 rfl rfl fun Q hQ => ?_
  unfold aFun c_f42
  simp -implicitDefEqProofs (maxSteps := 10000000) (disch := omega) only [seqQ_normal, opsK_eq, runI_nil, runI_none, o_mv, o_call, ev_r, ev_c, ev_f, putS, Sf.set, Sf.reg, mask_eq, maskR_nil, maskR_cons, getR, setR, maskL, regs0, id, dis_lit, List.map_cons, List.map_nil, ↓reduceIte, reduceCtorEq, f42_1e, f42_2e, f42_2l, f42_3e, f42_4e, f42_5e, f42_5l, h1]
  refine call_p (vs := [v]) (by simp [h1]) e_f59 (zzero_pure h) (by simp [h2]) ?_
  simp -implicitDefEqProofs (maxSteps := 10000000) (disch := omega) only [seqQ_normal, seqQ_ret, aC_ret, opsK_eq, retQ_ret, retI, runI_nil, runI_none, cond_tt, o_mv, wp_ok, ev_r, ev_c, setB_r, putS, Sf.set, Sf.reg, mask_eq, maskR_nil, maskR_cons, getR, setR, maskL, dis_lit, noL_lit, ↓reduceIte, Nat.reduceEqDiff, Bool.true_and, true_and, reduceCtorEq, f42_6e, f42_7e, f42_8e, f42_8l]
  exact hQ _
theorem znow_pure {st : St} {v : AV} (h : Zb st v) : PCalls Go.Proofs.Try.prog n_f43 [v] st (.lit (.int .u64 0)) := by
  obtain ⟨h1, h2⟩ := h.facts
  refine pcalls_id hmix k_f43 rfl rfl fun Q hQ => ?_
  unfold aFun c_f43
  simp -implicitDefEqProofs (maxSteps := 10000000) (disch := omega) only [seqQ_normal, opsK_eq, runI_nil, runI_none, o_mv, o_call, ev_r, ev_c, ev_f, putS, Sf.set, Sf.reg, mask_eq, maskR_nil, maskR_cons, getR, setR, maskL, regs0, id, dis_lit, List.map_cons, List.map_nil, ↓reduceIte, reduceCtorEq, f43_1e, f43_2e, f43_2l, f43_3e, f43_4e, f43_5e, f43_5l, h1]
  refine call_p (vs := [v]) (by simp [h1]) e_f59 (zzero_pure h) (by simp [h2]) ?_
  simp -implicitDefEqProofs (maxSteps := 10000000) (disch := omega) only [seqQ_normal, seqQ_ret, aC_ret, opsK_eq, retQ_ret, retI, runI_nil, runI_none, cond_tt, o_mv, wp_ok, ev_r, ev_c, setB_r, putS, Sf.set, Sf.reg, mask_eq, maskR_nil, maskR_cons, getR, setR, maskL, dis_lit, noL_lit, ↓reduceIte, Nat.reduceEqDiff, Bool.true_and, true_and, reduceCtorEq, f43_6e, f43_7e, f43_8e, f43_8l]
  exact hQ _
theorem zcopy_pure {st : St} {v : AV} (h : Zb st v) : PCalls Go.Proofs.Try.prog n_f44 [v] st (.lit (.pointer none)) := by
  obtain ⟨h1, h2⟩ := h.facts
  refine pcalls_id hmix k_f44 rfl rfl fun Q hQ => ?_
  unfold aFun c_f44
  simp -implicitDefEqProofs (maxSteps := 10000000) (disch := omega) only [seqQ_normal, opsK_eq, runI_nil, runI_none, o_mv, o_call, ev_r, ev_c, ev_f, putS, Sf.set, Sf.reg, mask_eq, maskR_nil, maskR_cons, getR, setR, maskL, regs0, id, dis_lit, List.map_cons, List.map_nil, ↓reduceIte, reduceCtorEq, f44_1e, f44_2e, f44_2l, f44_3e, f44_4e, f44_5e, f44_5l, h1]
  refine call_p (vs := [v]) (by simp [h1]) e_f59 (zzero_pure h) (by simp [h2]) ?_
  simp -implicitDefEqProofs (maxSteps := 10000000) (disch := omega) only [seqQ_normal, seqQ_ret, aC_ret, opsK_eq, retQ_ret, retI, runI_nil, runI_none, cond_tt, o_mv, wp_ok, ev_r, ev_c, setB_r, putS, Sf.set, Sf.reg, mask_eq, maskR_nil, maskR_cons, getR, setR, maskL, dis_lit, noL_lit, ↓reduceIte, Nat.reduceEqDiff, Bool.true_and, true_and, reduceCtorEq, f44_6e, f44_7e, f44_8e, f44_8l]
  exact hQ _

theorem semaphoreNone_law (x y d : Int) : ACalls Go.Proofs.Try.prog n_f12 [.lit (.int .i64 x), .lit (.int .i64 y), .lit (.int .u64 d)] ⟨[]⟩ (fun v _ => v = .lit (.bool true)) := by
  refine acalls_op hmix k_f12 rfl rfl fun Q hQ => ?_
  unfold aFun c_f12
  simp -implicitDefEqProofs (maxSteps := 10000000) (disch := omega) only [seqQ_normal, opsK_eq, runI_nil, runI_none, putP_eq, o_mv, o_bst, o_own, o_boxB, bstV, boxX, buildA, wp_ok, bind_ok, ev_c, evOwn_r, disOp_r, putS, Sf.set, Sf.reg, mask_eq, maskR_nil, maskR_cons, getR, setR, maskL, Sf.disAt, regs0, dis_lit, dis_ptr, dis_agg, own1_lit, cells_agg, solid1_lit, solid_eq, List.map_cons, List.map_nil, List.length_cons, List.length_nil, List.all_cons, List.all_nil, ↓reduceIte, Nat.reduceEqDiff, Nat.reduceAdd, Bool.true_and, Bool.and_true, and_true, true_and, reduceCtorEq, Nat.zero_add, f12_1e, f12_2e, f12_2l, f12_3e, f12_4e, f12_4l, f12_5e, f12_6e, f12_6l, f12_7e, f12_8e, f12_9e, f12_9l, f12_10e]
  generalize hst : St.push ⟨[]⟩ _ = st1
  have hg : ∃ r, st1.get 0 = some (.lit (.int .i64 0) :: .lit (.int .i64 0) :: .lit (.int .u64 0) :: r) := ⟨_, by rw [← hst]; exact get_push ..⟩
  clear hst
  obtain ⟨r, hg⟩ := hg
  have hz1 : Zb st1 (.lit (.pointer none)) := .inl rfl
  have hz2 : Zb st1 (.ptr 0 0) := .inr ⟨0, r, rfl, hg⟩
  rw [f12_11w]
  refine loop_rounds 3 ?_
  simp -implicitDefEqProofs (maxSteps := 10000000) (disch := omega) only [seqQ_normal, aC_skip, opsK_eq, runI_nil, runI_none, putP_eq, cond_tt, cond_ff, o_mv, o_bin, o_own, o_call, n_eql, n_lss, wp_ok, ev_r, ev_c, ev_f, setB_r, putS, Sf.set, Sf.reg, mask_eq, maskR_nil, maskR_cons, getR, setR, maskL, Sf.disAt, id, dis_lit, List.map_cons, List.map_nil, ↓reduceIte, Nat.reduceEqDiff, Int.reduceLT, Int.reduceEq, reduceCtorEq, decide_true, decide_false, f12_12e, f12_13e, f12_14e, f12_14l, f12_15e, f12_16e, f12_17e, f12_18e, f12_19e, f12_19l, f12_20e, f12_21e, f12_22e, f12_22l, f12_23e, f12_25e, f12_26e, f12_26l, loopN_succ]
  refine call_p rfl e_f35 (zacquire_pure hz1 x y d) rfl ?_
  simp -implicitDefEqProofs (maxSteps := 10000000) (disch := omega) only [seqQ_normal, opsK_eq, runI_nil, runI_none, putP_eq, o_mv, o_ext, o_own, o_call, extV, wp_ok, bind_ok, ofOpt_some, ev_r, ev_f, putS, Sf.set, Sf.reg, mask_eq, maskR_nil, maskR_cons, getR, setR, maskL, Sf.disAt, id, dis_lit, dis_tup, own2_lit, List.map_cons, List.map_nil, List.getElem?_cons_zero, List.getElem?_cons_succ, ↓reduceIte, Nat.reduceEqDiff, reduceCtorEq, f12_27e, f12_28e, f12_28l]
  refine call_p rfl e_f37 (zrelease_pure hz1 x y) rfl ?_
  simp -implicitDefEqProofs (maxSteps := 10000000) (disch := omega) only [seqQ_normal, opsK_eq, runI_nil, runI_none, putP_eq, o_mv, o_ext, o_own, o_call, extV, wp_ok, bind_ok, ofOpt_some, ev_r, ev_f, putS, Sf.set, Sf.reg, mask_eq, maskR_nil, maskR_cons, getR, setR, maskL, Sf.disAt, id, dis_lit, dis_tup, own2_lit, List.map_cons, List.map_nil, List.getElem?_cons_zero, List.getElem?_cons_succ, ↓reduceIte, Nat.reduceEqDiff, reduceCtorEq, f12_29e, f12_30e, f12_30l]
  refine call_p rfl e_f38 (zcancel_pure hz1 x) rfl ?_
  simp -implicitDefEqProofs (maxSteps := 10000000) (disch := omega) only [seqQ_normal, opsK_eq, runI_nil, runI_none, putP_eq, o_mv, o_ext, o_own, o_call, extV, wp_ok, bind_ok, ofOpt_some, ev_r, ev_f, putS, Sf.set, Sf.reg, mask_eq, maskR_nil, maskR_cons, getR, setR, maskL, Sf.disAt, id, dis_lit, dis_tup, own2_lit, List.map_cons, List.map_nil, List.getElem?_cons_zero, List.getElem?_cons_succ, ↓reduceIte, Nat.reduceEqDiff, reduceCtorEq, f12_31e, f12_32e, f12_32l]
  refine call_p rfl e_f39 (zadvance_pure hz1 d) rfl ?_
  simp -implicitDefEqProofs (maxSteps := 10000000) (disch := omega) only [seqQ_normal, opsK_eq, runI_nil, runI_none, runI_some, AI.dst, putP_eq, guard_ff, o_mv, o_pick, o_bin, o_ext, o_len, o_own, o_call, pick_ff, extV, lenI, n_neq, wp_ok, bind_ok, ofOpt_some, ev_r, ev_c, ev_f, putS, Sf.set, Sf.reg, mask_eq, maskR_nil, maskR_cons, getR, setR, maskL, Sf.disAt, id, dis_lit, dis_tup, own2_lit, List.map_cons, List.map_nil, List.getElem?_cons_zero, List.getElem?_cons_succ, ↓reduceIte, Nat.reduceEqDiff, reduceCtorEq, not_true_eq_false, decide_false, Bool.false_eq_true, f12_33e, f12_34e, f12_35e, f12_35l]
  refine call_p rfl e_f36 (ztry_pure hz1 x y) rfl ?_
  simp -implicitDefEqProofs (maxSteps := 10000000) (disch := omega) only [seqQ_normal, aC_skip, opsK_eq, runI_nil, runI_none, runI_some, AI.dst, putP_eq, cond_ff, guard_ff, o_mv, o_pick, o_bin, o_call, pick_ff, n_neq, wp_ok, ev_r, ev_c, ev_f, setB_r, putS, Sf.set, Sf.reg, mask_eq, maskR_nil, maskR_cons, getR, setR, maskL, id, dis_lit, List.map_cons, List.map_nil, ↓reduceIte, Nat.reduceEqDiff, reduceCtorEq, not_true_eq_false, decide_false, Bool.false_eq_true, f12_36e, f12_39e, f12_40e, f12_40l]
  refine call_p rfl e_f40 (zheld_pure hz1 x) rfl ?_
  simp -implicitDefEqProofs (maxSteps := 10000000) (disch := omega) only [runI_none, runI_some, AI.dst, putP_eq, guard_ff, o_mv, o_bin, o_call, n_neq, wp_ok, ev_r, ev_c, ev_f, putS, Sf.set, Sf.reg, getR, setR, id, dis_lit, List.map_cons, List.map_nil, ↓reduceIte, Nat.reduceEqDiff, reduceCtorEq, not_true_eq_false, decide_false, Bool.false_eq_true]
  refine call_p rfl e_f41 (zleft_pure hz1) rfl ?_
  simp -implicitDefEqProofs (maxSteps := 10000000) (disch := omega) only [runI_none, runI_some, AI.dst, putP_eq, guard_ff, o_mv, o_pick, o_bin, o_call, pick_ff, n_neq, wp_ok, ev_r, ev_c, ev_f, putS, Sf.set, Sf.reg, getR, setR, id, dis_lit, List.map_cons, List.map_nil, ↓reduceIte, Nat.reduceEqDiff, reduceCtorEq, not_true_eq_false, decide_false, Bool.false_eq_true]
  refine call_p rfl e_f34 (zwaiting_pure hz1) rfl ?_
  simp -implicitDefEqProofs (maxSteps := 10000000) (disch := omega) only [runI_none, runI_some, AI.dst, putP_eq, guard_ff, o_mv, o_pick, o_bin, o_len, o_call, pick_ff, lenI, n_neq, wp_ok, ev_r, ev_c, ev_f, putS, Sf.set, Sf.reg, getR, setR, id, dis_lit, List.map_cons, List.map_nil, ↓reduceIte, Nat.reduceEqDiff, reduceCtorEq, not_true_eq_false, decide_false, Bool.false_eq_true]
  refine call_p rfl e_f42 (znext_pure hz1) rfl ?_
  simp -implicitDefEqProofs (maxSteps := 10000000) (disch := omega) only [runI_none, runI_some, AI.dst, putP_eq, guard_ff, o_mv, o_pick, o_bin, o_call, pick_ff, n_neq, wp_ok, ev_r, ev_c, ev_f, putS, Sf.set, Sf.reg, getR, setR, id, dis_lit, List.map_cons, List.map_nil, ↓reduceIte, Nat.reduceEqDiff, reduceCtorEq, not_true_eq_false, decide_false, Bool.false_eq_true]
  refine call_p rfl e_f43 (znow_pure hz1) rfl ?_
  simp -implicitDefEqProofs (maxSteps := 10000000) (disch := omega) only [runI_none, runI_some, AI.dst, putP_eq, guard_ff, o_mv, o_pick, o_bin, o_call, pick_ff, n_neq, wp_ok, ev_r, ev_c, ev_f, putS, Sf.set, Sf.reg, getR, setR, id, dis_lit, List.map_cons, List.map_nil, ↓reduceIte, Nat.reduceEqDiff, reduceCtorEq, not_true_eq_false, decide_false, Bool.false_eq_true]
  refine call_p rfl e_f44 (zcopy_pure hz1) rfl ?_
  simp -implicitDefEqProofs (maxSteps := 10000000) (disch := omega) only [seqQ_normal, blockQ_normal, aC_skip, opsK_eq, runI_nil, runI_none, runI_some, AI.dst, putP_eq, cond_tt, cond_ff, unrQ_normal, guard_ff, o_mv, o_pick, o_bin, o_own, o_call, pick_ff, n_nilne, eqNilI, isNilI, n_add, n_eql, n_lss, wp_ok, bind_ok, ofOpt_some, ev_r, ev_c, ev_f, setB_r, putS, Sf.set, Sf.reg, mask_eq, maskR_nil, maskR_cons, getR, setR, maskL, Sf.disAt, id, dis_lit, dis_ptr, List.map_cons, List.map_nil, ↓reduceIte, Nat.reduceEqDiff, Int.reduceLT, reduceCtorEq, decide_true, Bool.not_true, Bool.false_eq_true, IntWalk.i64_in, Int.zero_add, f12_12e, f12_13e, f12_14e, f12_14l, f12_15e, f12_16e, f12_17e, f12_18e, f12_19e, f12_19l, f12_20e, f12_21e, f12_22e, f12_22l, f12_23e, f12_24e, f12_24l, f12_25e, f12_26e, f12_26l, f12_41e, f12_44e, f12_44l, loopN_succ]
  refine call_p rfl e_f35 (zacquire_pure hz2 x y d) rfl ?_
  simp -implicitDefEqProofs (maxSteps := 10000000) (disch := omega) only [seqQ_normal, opsK_eq, runI_nil, runI_none, putP_eq, o_mv, o_ext, o_own, o_call, extV, wp_ok, bind_ok, ofOpt_some, ev_r, ev_f, putS, Sf.set, Sf.reg, mask_eq, maskR_nil, maskR_cons, getR, setR, maskL, Sf.disAt, id, dis_lit, dis_ptr, dis_tup, own2_lit, List.map_cons, List.map_nil, List.getElem?_cons_zero, List.getElem?_cons_succ, ↓reduceIte, Nat.reduceEqDiff, reduceCtorEq, f12_27e, f12_28e, f12_28l]
  refine call_p rfl e_f37 (zrelease_pure hz2 x y) rfl ?_
  simp -implicitDefEqProofs (maxSteps := 10000000) (disch := omega) only [seqQ_normal, opsK_eq, runI_nil, runI_none, putP_eq, o_mv, o_ext, o_own, o_call, extV, wp_ok, bind_ok, ofOpt_some, ev_r, ev_f, putS, Sf.set, Sf.reg, mask_eq, maskR_nil, maskR_cons, getR, setR, maskL, Sf.disAt, id, dis_lit, dis_ptr, dis_tup, own2_lit, List.map_cons, List.map_nil, List.getElem?_cons_zero, List.getElem?_cons_succ, ↓reduceIte, Nat.reduceEqDiff, reduceCtorEq, f12_29e, f12_30e, f12_30l]
  refine call_p rfl e_f38 (zcancel_pure hz2 x) rfl ?_
  simp -implicitDefEqProofs (maxSteps := 10000000) (disch := omega) only [seqQ_normal, opsK_eq, runI_nil, runI_none, putP_eq, o_mv, o_ext, o_own, o_call, extV, wp_ok, bind_ok, ofOpt_some, ev_r, ev_f, putS, Sf.set, Sf.reg, mask_eq, maskR_nil, maskR_cons, getR, setR, maskL, Sf.disAt, id, dis_lit, dis_ptr, dis_tup, own2_lit, List.map_cons, List.map_nil, List.getElem?_cons_zero, List.getElem?_cons_succ, ↓reduceIte, Nat.reduceEqDiff, reduceCtorEq, f12_31e, f12_32e, f12_32l]
  refine call_p rfl e_f39 (zadvance_pure hz2 d) rfl ?_
  simp -implicitDefEqProofs (maxSteps := 10000000) (disch := omega) only [seqQ_normal, opsK_eq, runI_nil, runI_none, runI_some, AI.dst, putP_eq, guard_ff, o_mv, o_pick, o_bin, o_ext, o_len, o_own, o_call, pick_ff, extV, lenI, n_neq, wp_ok, bind_ok, ofOpt_some, ev_r, ev_c, ev_f, putS, Sf.set, Sf.reg, mask_eq, maskR_nil, maskR_cons, getR, setR, maskL, Sf.disAt, id, dis_lit, dis_ptr, dis_tup, own2_lit, List.map_cons, List.map_nil, List.getElem?_cons_zero, List.getElem?_cons_succ, ↓reduceIte, Nat.reduceEqDiff, reduceCtorEq, not_true_eq_false, decide_false, Bool.false_eq_true, f12_33e, f12_34e, f12_35e, f12_35l]
  refine call_p rfl e_f36 (ztry_pure hz2 x y) rfl ?_
  simp -implicitDefEqProofs (maxSteps := 10000000) (disch := omega) only [seqQ_normal, aC_skip, opsK_eq, runI_nil, runI_none, runI_some, AI.dst, putP_eq, cond_ff, guard_ff, o_mv, o_pick, o_bin, o_call, pick_ff, n_neq, wp_ok, ev_r, ev_c, ev_f, setB_r, putS, Sf.set, Sf.reg, mask_eq, maskR_nil, maskR_cons, getR, setR, maskL, id, dis_lit, dis_ptr, List.map_cons, List.map_nil, ↓reduceIte, Nat.reduceEqDiff, reduceCtorEq, not_true_eq_false, decide_false, Bool.false_eq_true, f12_36e, f12_39e, f12_40e, f12_40l]
  refine call_p rfl e_f40 (zheld_pure hz2 x) rfl ?_
  simp -implicitDefEqProofs (maxSteps := 10000000) (disch := omega) only [runI_none, runI_some, AI.dst, putP_eq, guard_ff, o_mv, o_bin, o_call, n_neq, wp_ok, ev_r, ev_c, ev_f, putS, Sf.set, Sf.reg, getR, setR, id, dis_lit, dis_ptr, List.map_cons, List.map_nil, ↓reduceIte, Nat.reduceEqDiff, reduceCtorEq, not_true_eq_false, decide_false, Bool.false_eq_true]
  refine call_p rfl e_f41 (zleft_pure hz2) rfl ?_
  simp -implicitDefEqProofs (maxSteps := 10000000) (disch := omega) only [runI_none, runI_some, AI.dst, putP_eq, guard_ff, o_mv, o_pick, o_bin, o_call, pick_ff, n_neq, wp_ok, ev_r, ev_c, ev_f, putS, Sf.set, Sf.reg, getR, setR, id, dis_lit, dis_ptr, List.map_cons, List.map_nil, ↓reduceIte, Nat.reduceEqDiff, reduceCtorEq, not_true_eq_false, decide_false, Bool.false_eq_true]
  refine call_p rfl e_f34 (zwaiting_pure hz2) rfl ?_
  simp -implicitDefEqProofs (maxSteps := 10000000) (disch := omega) only [runI_none, runI_some, AI.dst, putP_eq, guard_ff, o_mv, o_pick, o_bin, o_len, o_call, pick_ff, lenI, n_neq, wp_ok, ev_r, ev_c, ev_f, putS, Sf.set, Sf.reg, getR, setR, id, dis_lit, dis_ptr, List.map_cons, List.map_nil, ↓reduceIte, Nat.reduceEqDiff, reduceCtorEq, not_true_eq_false, decide_false, Bool.false_eq_true]
  refine call_p rfl e_f42 (znext_pure hz2) rfl ?_
  simp -implicitDefEqProofs (maxSteps := 10000000) (disch := omega) only [runI_none, runI_some, AI.dst, putP_eq, guard_ff, o_mv, o_pick, o_bin, o_call, pick_ff, n_neq, wp_ok, ev_r, ev_c, ev_f, putS, Sf.set, Sf.reg, getR, setR, id, dis_lit, dis_ptr, List.map_cons, List.map_nil, ↓reduceIte, Nat.reduceEqDiff, reduceCtorEq, not_true_eq_false, decide_false, Bool.false_eq_true]
  refine call_p rfl e_f43 (znow_pure hz2) rfl ?_
  simp -implicitDefEqProofs (maxSteps := 10000000) (disch := omega) only [runI_none, runI_some, AI.dst, putP_eq, guard_ff, o_mv, o_pick, o_bin, o_call, pick_ff, n_neq, wp_ok, ev_r, ev_c, ev_f, putS, Sf.set, Sf.reg, getR, setR, id, dis_lit, dis_ptr, List.map_cons, List.map_nil, ↓reduceIte, Nat.reduceEqDiff, reduceCtorEq, not_true_eq_false, decide_false, Bool.false_eq_true]
  refine call_p rfl e_f44 (zcopy_pure hz2) rfl ?_
  simp -implicitDefEqProofs (maxSteps := 10000000) (disch := omega) only [seqQ_normal, seqQ_exit, blockQ_normal, blockQ_exit, aC_skip, aC_exit, opsK_eq, runI_nil, runI_none, runI_some, AI.dst, putP_eq, cond_ff, unrQ_normal, unrQ_exit, guard_ff, o_mv, o_pick, o_bin, o_own, o_call, pick_ff, n_nilne, eqNilI, isNilI, n_add, n_lss, wp_ok, bind_ok, ofOpt_some, ev_r, ev_c, ev_f, setB_r, putS, Sf.set, Sf.reg, mask_eq, maskR_nil, maskR_cons, getR, setR, maskL, Sf.disAt, id, dis_lit, List.map_nil, ↓reduceIte, Nat.reduceEqDiff, Int.reduceLT, Int.reduceAdd, reduceCtorEq, decide_false, Bool.not_true, Bool.false_eq_true, IntWalk.i64_in, f12_12e, f12_13e, f12_14e, f12_14l, f12_15e, f12_41e, f12_44e, f12_44l, f12_45e, f12_46e, f12_46l, loopN_succ]
  refine call_a rfl e_f31 (known35 _) rfl fun r st1 hr => ?_
  subst hr
  simp -implicitDefEqProofs (maxSteps := 10000000) (disch := omega) only [seqQ_normal, aC_ret, opsK_eq, retQ_ret, retI, runI_nil, runI_none, o_own, wp_ok, putS, Sf.set, Sf.reg, mask_eq, maskR_nil, maskR_cons, getR, setR, maskL, Sf.disAt, dis_lit, noL_lit, ↓reduceIte, Nat.reduceEqDiff, Bool.true_and, true_and]
  exact hQ _ _ rfl
end Go.Fx.YtddifejdkiemgaaFx

