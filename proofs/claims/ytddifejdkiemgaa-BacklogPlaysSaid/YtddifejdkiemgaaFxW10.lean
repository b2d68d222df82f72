/- What the functions that the statement reaches compute: part 10. -/
import Derived.Test.YtddifejdkiemgaaFxW9
namespace Go.Fx.YtddifejdkiemgaaFx
open Go Go.Fx
attribute [local irreducible] aC runI headI loopI

set_option maxRecDepth 100000
set_option maxHeartbeats 4000000

/-! Nil and zero backlogs. -/
def Zb (st : St) (v : AV) : Prop := v = .lit (.pointer none) ∨ ∃ zi, v = .ptr zi 0 ∧ st.get zi = some [.lit (.pointer none), .lit (.int .i64 0), .lit (.bool false), .lit (.map none)]
theorem Zb.facts {st : St} {v : AV} (h : Zb st v) : v.dis = v ∧ v.noL = true := by
  rcases h with rfl | ⟨zi, rfl, _⟩ <;> exact ⟨rfl, rfl⟩

theorem znone_pure {st : St} {v : AV} (h : Zb st v) : PCalls Go.Proofs.Try.prog n_f46 [v] st (.lit (.bool true)) := by
  rcases h with rfl | ⟨zi, rfl, hg⟩
  · refine pcalls_id hmix k_f46 rfl rfl fun Q hQ => ?_
    unfold aFun c_f46
    simp -implicitDefEqProofs (maxSteps := 10000000) (disch := omega) only [seqQ_normal, aC_ret, opsK_eq, retQ_ret, retI, runI_nil, runI_none, runI_some, skipI_eq, AI.dst, putP_eq, guard_tt, o_mv, o_pick, o_bin, o_own, pick_tt, n_nileq, eqNilI, isNilI, wp_ok, bind_ok, ofOpt_some, ev_r, ev_c, putS, Sf.set, Sf.reg, mask_eq, maskR_nil, maskR_cons, getR, setR, maskL, Sf.disAt, regs0, dis_lit, noL_lit, ↓reduceIte, Nat.reduceEqDiff, Bool.true_and, true_and, reduceCtorEq, Bool.false_eq_true, f46_1e, f46_2e, f46_2l, f46_3e, f46_4e, f46_4l]
    exact hQ _
  · refine pcalls_id hmix k_f46 rfl rfl fun Q hQ => ?_
    unfold aFun c_f46
    simp -implicitDefEqProofs (maxSteps := 10000000) (disch := omega) only [seqQ_normal, aC_ret, opsK_eq, retQ_ret, retI, runI_nil, runI_none, runI_some, AI.dst, putP_eq, guard_ff, o_mv, o_pick, o_bin, o_addr, o_load, o_nilck, o_own, pick_ff, loadV, nilckV, n_nileq, eqNilI, isNilI, addA, derefI, takeI_none, wp_ok, bind_ok, ofOpt_some, ev_r, ev_c, putS, Sf.set, Sf.reg, mask_eq, maskR_nil, maskR_cons, getR, setR, maskL, Sf.disAt, regs0, dis_lit, dis_ptr, noL_lit, List.drop_zero, ↓reduceIte, Nat.reduceEqDiff, Bool.true_and, true_and, reduceCtorEq, Nat.add_zero, Bool.false_eq_true, f46_1e, f46_2e, f46_2l, f46_3e, f46_4e, f46_4l, hg]
    exact hQ _

theorem zclose_pure {st : St} {v : AV} (h : Zb st v) : PCalls Go.Proofs.Try.prog n_f24 [v] st (.tup [.lit (.slice none 0 0), .lit (.int .i64 1)]) := by
  obtain ⟨h1, h2⟩ := h.facts
  refine pcalls_id hmix k_f24 rfl rfl fun Q hQ => ?_
  unfold aFun c_f24
  simp -implicitDefEqProofs (maxSteps := 10000000) (disch := omega) only [seqQ_normal, opsK_eq, runI_nil, runI_none, o_mv, o_call, ev_r, ev_c, ev_f, putS, Sf.set, Sf.reg, mask_eq, maskR_nil, maskR_cons, getR, setR, maskL, regs0, id, dis_lit, List.map_cons, List.map_nil, ↓reduceIte, Nat.reduceEqDiff, reduceCtorEq, f24_1e, f24_2e, f24_2l, f24_3e, f24_4e, f24_5e, f24_6e, f24_6l, h1]
  refine call_p (vs := [v]) (by simp [h1]) e_f46 (znone_pure h) (by simp [h2]) ?_
  simp -implicitDefEqProofs (maxSteps := 10000000) (disch := omega) only [seqQ_normal, seqQ_ret, blockQ_ret, aC_ret, opsK_eq, retQ_ret, retI, resI, resL, runI_nil, runI_none, cond_tt, o_mv, o_own, wp_ok, bind_ok, ev_r, ev_c, setB_r, putS, Sf.set, Sf.reg, mask_eq, maskR_nil, maskR_cons, getR, setR, maskL, Sf.disAt, dis_lit, noL_lit, noL_tup, List.all_cons, List.all_nil, ↓reduceIte, Nat.reduceEqDiff, Bool.true_and, Bool.and_true, and_true, true_and, reduceCtorEq, f24_7e, f24_8e, f24_9e, f24_9l]
  exact hQ _

theorem zpush_pure {st : St} {v : AV} (h : Zb st v) (x : Int) : PCalls Go.Proofs.Try.prog n_f16 [v, .lit (.int .i64 x)] st (.lit (.int .i64 1)) := by
  obtain ⟨h1, h2⟩ := h.facts
  refine pcalls_id hmix k_f16 rfl rfl fun Q hQ => ?_
  unfold aFun c_f16
  simp -implicitDefEqProofs (maxSteps := 10000000) (disch := omega) only [seqQ_normal, opsK_eq, runI_nil, runI_none, o_mv, o_call, ev_r, ev_c, ev_f, putS, Sf.set, Sf.reg, mask_eq, maskR_nil, maskR_cons, getR, setR, maskL, regs0, id, dis_lit, List.map_cons, List.map_nil, ↓reduceIte, Nat.reduceEqDiff, reduceCtorEq, Nat.zero_add, f16_1e, f16_2e, f16_2l, f16_3e, f16_4e, f16_5e, f16_6e, f16_6l, h1]
  refine call_p (vs := [v]) (by simp [h1]) e_f46 (znone_pure h) (by simp [h2]) ?_
  simp -implicitDefEqProofs (maxSteps := 10000000) (disch := omega) only [seqQ_normal, seqQ_ret, blockQ_ret, aC_ret, opsK_eq, retQ_ret, retI, runI_nil, runI_none, cond_tt, o_mv, o_own, wp_ok, ev_r, ev_c, setB_r, putS, Sf.set, Sf.reg, mask_eq, maskR_nil, maskR_cons, getR, setR, maskL, Sf.disAt, dis_lit, noL_lit, ↓reduceIte, Nat.reduceEqDiff, Bool.true_and, true_and, reduceCtorEq, f16_7e, f16_8e, f16_9e, f16_9l]
  exact hQ _

theorem zpop_pure {st : St} {v : AV} (h : Zb st v) : PCalls Go.Proofs.Try.prog n_f20 [v] st (.tup [.lit (.int .i64 0), .lit (.int .i64 1)]) := by
  obtain ⟨h1, h2⟩ := h.facts
  refine pcalls_id hmix k_f20 rfl rfl fun Q hQ => ?_
  unfold aFun c_f20
  simp -implicitDefEqProofs (maxSteps := 10000000) (disch := omega) only [seqQ_normal, opsK_eq, runI_nil, runI_none, o_mv, o_call, ev_r, ev_c, ev_f, putS, Sf.set, Sf.reg, mask_eq, maskR_nil, maskR_cons, getR, setR, maskL, regs0, id, dis_lit, List.map_cons, List.map_nil, ↓reduceIte, Nat.reduceEqDiff, reduceCtorEq, f20_1e, f20_2e, f20_2l, f20_3e, f20_4e, f20_5e, f20_6e, f20_6l, h1]
  refine call_p (vs := [v]) (by simp [h1]) e_f46 (znone_pure h) (by simp [h2]) ?_
  simp -implicitDefEqProofs (maxSteps := 10000000) (disch := omega) only [seqQ_normal, seqQ_ret, blockQ_ret, aC_ret, opsK_eq, retQ_ret, retI, resI, resL, runI_nil, runI_none, cond_tt, o_mv, o_own, wp_ok, bind_ok, ev_r, ev_c, setB_r, putS, Sf.set, Sf.reg, mask_eq, maskR_nil, maskR_cons, getR, setR, maskL, Sf.disAt, dis_lit, noL_lit, noL_tup, List.all_cons, List.all_nil, ↓reduceIte, Nat.reduceEqDiff, Bool.true_and, Bool.and_true, and_true, true_and, reduceCtorEq, f20_7e, f20_8e, f20_9e, f20_9l]
  exact hQ _

theorem zremove_pure {st : St} {v : AV} (h : Zb st v) (x : Int) : PCalls Go.Proofs.Try.prog n_f22 [v, .lit (.int .i64 x)] st (.lit (.int .i64 1)) := by
  obtain ⟨h1, h2⟩ := h.facts
  refine pcalls_id hmix k_f22 rfl rfl fun Q hQ => ?_
  unfold aFun c_f22
  simp -implicitDefEqProofs (maxSteps := 10000000) (disch := omega) only [seqQ_normal, opsK_eq, runI_nil, runI_none, o_mv, o_call, ev_r, ev_c, ev_f, putS, Sf.set, Sf.reg, mask_eq, maskR_nil, maskR_cons, getR, setR, maskL, regs0, id, dis_lit, List.map_cons, List.map_nil, ↓reduceIte, Nat.reduceEqDiff, reduceCtorEq, Nat.zero_add, f22_1e, f22_2e, f22_2l, f22_3e, f22_4e, f22_5e, f22_6e, f22_6l, h1]
  refine call_p (vs := [v]) (by simp [h1]) e_f46 (znone_pure h) (by simp [h2]) ?_
  simp -implicitDefEqProofs (maxSteps := 10000000) (disch := omega) only [seqQ_normal, seqQ_ret, blockQ_ret, aC_ret, opsK_eq, retQ_ret, retI, runI_nil, runI_none, cond_tt, o_mv, o_own, wp_ok, ev_r, ev_c, setB_r, putS, Sf.set, Sf.reg, mask_eq, maskR_nil, maskR_cons, getR, setR, maskL, Sf.disAt, dis_lit, noL_lit, ↓reduceIte, Nat.reduceEqDiff, Bool.true_and, true_and, reduceCtorEq, f22_7e, f22_8e, f22_9e, f22_9l]
  exact hQ _

theorem zwaiting_pure {st : St} {v : AV} (h : Zb st v) : PCalls Go.Proofs.Try.prog n_f19 [v] st (.lit (.slice none 0 0)) := by
  obtain ⟨h1, h2⟩ := h.facts
  refine pcalls_id hmix k_f19 rfl rfl fun Q hQ => ?_
  unfold aFun c_f19
  simp -implicitDefEqProofs (maxSteps := 10000000) (disch := omega) only [seqQ_normal, opsK_eq, runI_nil, runI_none, o_mv, o_call, ev_r, ev_c, ev_f, putS, Sf.set, Sf.reg, mask_eq, maskR_nil, maskR_cons, getR, setR, maskL, regs0, id, dis_lit, List.map_cons, List.map_nil, ↓reduceIte, Nat.reduceEqDiff, reduceCtorEq, f19_1e, f19_2e, f19_2l, f19_3e, f19_4e, f19_5e, f19_5l, h1]
  refine call_p (vs := [v]) (by simp [h1]) e_f46 (znone_pure h) (by simp [h2]) ?_
  simp -implicitDefEqProofs (maxSteps := 10000000) (disch := omega) only [seqQ_normal, seqQ_ret, aC_ret, opsK_eq, retQ_ret, retI, runI_nil, runI_none, cond_tt, o_mv, wp_ok, ev_r, ev_c, setB_r, putS, Sf.set, Sf.reg, mask_eq, maskR_nil, maskR_cons, getR, setR, maskL, dis_lit, noL_lit, ↓reduceIte, Nat.reduceEqDiff, Bool.true_and, true_and, reduceCtorEq, f19_6e, f19_7e, f19_8e, f19_8l]
  exact hQ _

theorem zmost_pure {st : St} {v : AV} (h : Zb st v) : PCalls Go.Proofs.Try.prog n_f26 [v] st (.lit (.int .i64 0)) := by
  obtain ⟨h1, h2⟩ := h.facts
  refine pcalls_id hmix k_f26 rfl rfl fun Q hQ => ?_
  unfold aFun c_f26
  simp -implicitDefEqProofs (maxSteps := 10000000) (disch := omega) only [seqQ_normal, opsK_eq, runI_nil, runI_none, o_mv, o_call, ev_r, ev_c, ev_f, putS, Sf.set, Sf.reg, mask_eq, maskR_nil, maskR_cons, getR, setR, maskL, regs0, id, dis_lit, List.map_cons, List.map_nil, ↓reduceIte, reduceCtorEq, f26_1e, f26_2e, f26_2l, f26_3e, f26_4e, f26_5e, f26_5l, h1]
  refine call_p (vs := [v]) (by simp [h1]) e_f46 (znone_pure h) (by simp [h2]) ?_
  simp -implicitDefEqProofs (maxSteps := 10000000) (disch := omega) only [seqQ_normal, seqQ_ret, aC_ret, opsK_eq, retQ_ret, retI, runI_nil, runI_none, cond_tt, o_mv, wp_ok, ev_r, ev_c, setB_r, putS, Sf.set, Sf.reg, mask_eq, maskR_nil, maskR_cons, getR, setR, maskL, dis_lit, noL_lit, ↓reduceIte, Nat.reduceEqDiff, Bool.true_and, true_and, reduceCtorEq, f26_6e, f26_7e, f26_8e, f26_8l]
  exact hQ _

theorem zroom_pure {st : St} {v : AV} (h : Zb st v) : PCalls Go.Proofs.Try.prog n_f17 [v] st (.lit (.int .i64 0)) := by
  obtain ⟨h1, h2⟩ := h.facts
  refine pcalls_id hmix k_f17 rfl rfl fun Q hQ => ?_
  unfold aFun c_f17
  simp -implicitDefEqProofs (maxSteps := 10000000) (disch := omega) only [seqQ_normal, opsK_eq, runI_nil, runI_none, o_mv, o_call, ev_r, ev_c, ev_f, putS, Sf.set, Sf.reg, mask_eq, maskR_nil, maskR_cons, getR, setR, maskL, regs0, id, dis_lit, List.map_cons, List.map_nil, ↓reduceIte, reduceCtorEq, f17_1e, f17_2e, f17_2l, f17_3e, f17_4e, f17_5e, f17_5l, h1]
  refine call_p (vs := [v]) (by simp [h1]) e_f46 (znone_pure h) (by simp [h2]) ?_
  simp -implicitDefEqProofs (maxSteps := 10000000) (disch := omega) only [seqQ_normal, seqQ_ret, aC_ret, opsK_eq, retQ_ret, retI, runI_nil, runI_none, runI_some, skipI_eq, AI.dst, putP_eq, cond_tt, guard_tt, o_mv, o_pick, pick_tt, wp_ok, ev_r, ev_c, setB_r, putS, Sf.set, Sf.reg, mask_eq, maskR_nil, maskR_cons, getR, setR, maskL, dis_lit, noL_lit, ↓reduceIte, Nat.reduceEqDiff, Bool.true_and, true_and, reduceCtorEq, Bool.false_eq_true, f17_6e, f17_7e, f17_8e, f17_8l]
  exact hQ _

theorem zcopy_pure {st : St} {v : AV} (h : Zb st v) : PCalls Go.Proofs.Try.prog n_f28 [v] st (.lit (.pointer none)) := by
  obtain ⟨h1, h2⟩ := h.facts
  refine pcalls_id hmix k_f28 rfl rfl fun Q hQ => ?_
  unfold aFun c_f28
  simp -implicitDefEqProofs (maxSteps := 10000000) (disch := omega) only [seqQ_normal, opsK_eq, runI_nil, runI_none, o_mv, o_call, ev_r, ev_c, ev_f, putS, Sf.set, Sf.reg, mask_eq, maskR_nil, maskR_cons, getR, setR, maskL, regs0, id, dis_lit, List.map_cons, List.map_nil, ↓reduceIte, reduceCtorEq, f28_1e, f28_2e, f28_2l, f28_3e, f28_4e, f28_5e, f28_5l, h1]
  refine call_p (vs := [v]) (by simp [h1]) e_f46 (znone_pure h) (by simp [h2]) ?_
  simp -implicitDefEqProofs (maxSteps := 10000000) (disch := omega) only [seqQ_normal, seqQ_ret, aC_ret, opsK_eq, retQ_ret, retI, runI_nil, runI_none, cond_tt, o_mv, wp_ok, ev_r, ev_c, setB_r, putS, Sf.set, Sf.reg, mask_eq, maskR_nil, maskR_cons, getR, setR, maskL, dis_lit, noL_lit, ↓reduceIte, Nat.reduceEqDiff, Bool.true_and, true_and, reduceCtorEq, f28_6e, f28_7e, f28_8e, f28_8l]
  exact hQ _

theorem zpops_pure {st : St} {v : AV} (h : Zb st v) : PCalls Go.Proofs.Try.prog n_f18 [v, .lit (.int .i64 0), .lit (.int .i64 1)] st (.lit (.bool true)) := by
  obtain ⟨h1, h2⟩ := h.facts
  refine pcalls_id hmix k_f18 rfl rfl fun Q hQ => ?_
  unfold aFun c_f18
  simp -implicitDefEqProofs (maxSteps := 10000000) (disch := omega) only [seqQ_normal, opsK_eq, runI_nil, runI_none, o_mv, o_call, ev_r, ev_c, ev_f, putS, Sf.set, Sf.reg, mask_eq, maskR_nil, maskR_cons, getR, setR, maskL, regs0, id, dis_lit, List.map_cons, List.map_nil, ↓reduceIte, Nat.reduceEqDiff, Nat.reduceAdd, reduceCtorEq, Nat.zero_add, f18_1e, f18_2e, f18_2l, f18_3e, f18_4e, f18_4l, h1]
  refine call_p (vs := [v]) (by simp [h1]) e_f20 (zpop_pure h) (by simp [h2]) ?_
  simp -implicitDefEqProofs (maxSteps := 10000000) (disch := omega) only [seqQ_normal, aC_ret, opsK_eq, retQ_ret, retI, runI_nil, runI_none, runI_some, AI.dst, putP_eq, guard_tt, o_mv, o_pick, o_bin, o_ext, o_own, pick_tt, extV, n_eql, wp_ok, bind_ok, ofOpt_some, ev_r, ev_c, putS, Sf.set, Sf.reg, mask_eq, maskR_nil, maskR_cons, getR, setR, maskL, Sf.disAt, dis_lit, dis_tup, own2_lit, noL_lit, List.map_cons, List.map_nil, List.getElem?_cons_zero, List.getElem?_cons_succ, ↓reduceIte, Nat.reduceEqDiff, Bool.true_and, true_and, reduceCtorEq, decide_true, f18_5e, f18_6e, f18_6l]
  exact hQ _

theorem backlogNone_law (x : Int) : ACalls Go.Proofs.Try.prog n_f7 [.lit (.int .i64 x)] ⟨[]⟩ (fun v _ => v = .lit (.bool true)) := by
  refine acalls_op hmix k_f7 rfl rfl fun Q hQ => ?_
  unfold aFun c_f7
  simp -implicitDefEqProofs (maxSteps := 10000000) (disch := omega) only [and_self, seqQ_normal, opsK_eq, runI_nil, runI_none, putP_eq, o_mv, o_bsl, o_bst, o_len, o_boxB, bslV, bstV, boxX, List.reduceReplicate, lenI, fillA, buildA, wp_ok, bind_ok, ev_r, ev_c, evOwn_r, disOp_r, putS, Sf.set, Sf.reg, mask_eq, maskR_nil, maskR_cons, getR, setR, maskL, Sf.disAt, regs0, dis_lit, dis_ptr, dis_agg, own1_lit, cells_lit, cells_ptr, cells_agg, solid1_lit, solid1_ptr, solid_eq, List.map_cons, List.map_nil, List.length_cons, List.length_nil, List.all_cons, List.all_nil, List.set_cons_zero, List.set_cons_succ, Int.cast_ofNat_Int, ↓reduceIte, Nat.reduceEqDiff, Nat.reduceAdd, Nat.reduceLT, Bool.true_and, Bool.and_true, and_true, true_and, reduceCtorEq, Nat.zero_add, f7_1e, f7_2e, f7_2l, f7_3e, f7_4e, f7_5e, f7_5l, f7_6e]
  generalize hst : (St.push ⟨[]⟩ (.cells [.lit (.pointer none), .lit (.int .i64 0), .lit (.bool false), .lit (.map none)])) = st1
  have hg : st1.get 0 = some [.lit (.pointer none), .lit (.int .i64 0), .lit (.bool false), .lit (.map none)] := by rw [← hst]; exact get_push ..
  have hz1 : Zb st1 (.lit (.pointer none)) := .inl rfl
  have hz2 : Zb st1 (.ptr 0 0) := .inr ⟨0, rfl, hg⟩
  rw [f7_7w]
  refine loop_rounds 3 ?_
  simp -implicitDefEqProofs (maxSteps := 10000000) (disch := omega) only [and_self, seqQ_normal, aC_skip, opsK_eq, runI_nil, runI_none, putP_eq, cond_tt, o_mv, o_bin, o_ixS, o_load, o_own, o_call, ixSV, loadV, ixA, derefI, takeI_none, n_lss, wp_ok, bind_ok, bind_req, req_tt, ev_r, ev_f, setB_r, putS, Sf.set, Sf.reg, mask_eq, maskR_nil, maskR_cons, getR, setR, maskL, Sf.disAt, id, dis_lit, cells_lit, List.map_cons, List.map_nil, List.length_cons, List.length_nil, List.getD_cons_zero, Int.toNat_zero, Int.cast_ofNat_Int, ↓reduceIte, Nat.reduceEqDiff, Nat.reduceAdd, Int.reduceLT, Int.reduceLE, reduceCtorEq, Nat.zero_add, decide_true, f7_8e, f7_9e, f7_9l, f7_10e, f7_11e, f7_12e, f7_13e, f7_14e, f7_15e, f7_15l, f7_16e, f7_17e, f7_17l, loopN_succ]
  refine call_p rfl e_f24 (zclose_pure hz1) rfl ?_
  simp -implicitDefEqProofs (maxSteps := 10000000) (disch := omega) only [seqQ_normal, opsK_eq, runI_nil, runI_none, putP_eq, o_mv, o_ext, o_own, o_call, extV, wp_ok, bind_ok, ofOpt_some, ev_r, ev_f, putS, Sf.set, Sf.reg, mask_eq, maskR_nil, maskR_cons, getR, setR, maskL, Sf.disAt, id, dis_lit, dis_tup, own2_lit, List.map_cons, List.map_nil, List.getElem?_cons_zero, List.getElem?_cons_succ, ↓reduceIte, Nat.reduceEqDiff, reduceCtorEq, f7_18e, f7_19e, f7_19l]
  refine call_p rfl e_f16 (zpush_pure hz1 _) rfl ?_
  simp -implicitDefEqProofs (maxSteps := 10000000) (disch := omega) only [runI_none, runI_some, AI.dst, putP_eq, guard_ff, o_mv, o_bin, o_call, n_neq, wp_ok, ev_r, ev_c, ev_f, putS, Sf.set, Sf.reg, getR, setR, id, dis_lit, List.map_cons, List.map_nil, ↓reduceIte, Nat.reduceEqDiff, reduceCtorEq, not_true_eq_false, decide_false, Bool.false_eq_true]
  refine call_p rfl e_f18 (zpops_pure hz1) rfl ?_
  simp -implicitDefEqProofs (maxSteps := 10000000) (disch := omega) only [runI_none, runI_some, AI.dst, putP_eq, guard_ff, o_mv, o_pick, o_un, o_call, pick_ff, unA, wp_ok, ev_r, ev_c, ev_f, putS, Sf.set, Sf.reg, getR, setR, id, dis_lit, List.map_cons, List.map_nil, ↓reduceIte, Nat.reduceEqDiff, reduceCtorEq, Bool.not_true, Bool.false_eq_true]
  refine call_p rfl e_f22 (zremove_pure hz1 _) rfl ?_
  simp -implicitDefEqProofs (maxSteps := 10000000) (disch := omega) only [runI_none, runI_some, AI.dst, putP_eq, guard_ff, o_mv, o_pick, o_bin, o_len, o_call, pick_ff, lenI, n_neq, wp_ok, ev_r, ev_c, ev_f, putS, Sf.set, Sf.reg, getR, setR, id, dis_lit, List.map_cons, List.map_nil, ↓reduceIte, Nat.reduceEqDiff, reduceCtorEq, not_true_eq_false, decide_false, Bool.false_eq_true]
  refine call_p rfl e_f19 (zwaiting_pure hz1) rfl ?_
  simp -implicitDefEqProofs (maxSteps := 10000000) (disch := omega) only [runI_none, runI_some, AI.dst, putP_eq, guard_ff, o_mv, o_pick, o_bin, o_len, o_call, pick_ff, lenI, n_neq, wp_ok, ev_r, ev_c, ev_f, putS, Sf.set, Sf.reg, getR, setR, id, dis_lit, List.map_cons, List.map_nil, ↓reduceIte, Nat.reduceEqDiff, reduceCtorEq, not_true_eq_false, decide_false, Bool.false_eq_true]
  refine call_p rfl e_f26 (zmost_pure hz1) rfl ?_
  simp -implicitDefEqProofs (maxSteps := 10000000) (disch := omega) only [runI_none, runI_some, AI.dst, putP_eq, guard_ff, o_mv, o_pick, o_bin, o_call, pick_ff, n_neq, wp_ok, ev_r, ev_c, ev_f, putS, Sf.set, Sf.reg, getR, setR, id, dis_lit, List.map_cons, List.map_nil, ↓reduceIte, Nat.reduceEqDiff, reduceCtorEq, not_true_eq_false, decide_false, Bool.false_eq_true]
  refine call_p rfl e_f17 (zroom_pure hz1) rfl ?_
  simp -implicitDefEqProofs (maxSteps := 10000000) (disch := omega) only [runI_none, runI_some, AI.dst, putP_eq, guard_ff, o_mv, o_pick, o_bin, o_call, pick_ff, n_neq, wp_ok, ev_r, ev_c, ev_f, putS, Sf.set, Sf.reg, getR, setR, id, dis_lit, List.map_cons, List.map_nil, ↓reduceIte, Nat.reduceEqDiff, reduceCtorEq, not_true_eq_false, decide_false, Bool.false_eq_true]
  refine call_p rfl e_f28 (zcopy_pure hz1) rfl ?_
  simp -implicitDefEqProofs (maxSteps := 10000000) (disch := omega) only [and_self, seqQ_normal, blockQ_normal, aC_skip, opsK_eq, runI_nil, runI_none, runI_some, AI.dst, putP_eq, cond_tt, cond_ff, unrQ_normal, guard_ff, o_mv, o_pick, o_bin, o_ixS, o_load, o_own, o_call, pick_ff, ixSV, loadV, n_nilne, eqNilI, isNilI, ixA, derefI, takeI_none, n_add, n_lss, wp_ok, bind_ok, bind_req, ofOpt_some, req_tt, ev_r, ev_c, ev_f, setB_r, putS, Sf.set, Sf.reg, mask_eq, maskR_nil, maskR_cons, getR, setR, maskL, Sf.disAt, id, dis_lit, dis_ptr, cells_ptr, List.map_cons, List.map_nil, List.length_cons, List.length_nil, List.getD_cons_zero, List.getD_cons_succ, Int.toNat_one, Int.cast_ofNat_Int, ↓reduceIte, Nat.reduceEqDiff, Nat.reduceAdd, Int.reduceLT, Int.reduceLE, reduceCtorEq, Nat.zero_add, decide_true, Bool.not_true, Bool.false_eq_true, IntWalk.i64_in, Int.zero_add, f7_8e, f7_9e, f7_9l, f7_10e, f7_11e, f7_12e, f7_13e, f7_14e, f7_15e, f7_15l, f7_16e, f7_17e, f7_17l, f7_20e, f7_23e, f7_23l, loopN_succ]
  refine call_p rfl e_f24 (zclose_pure hz2) rfl ?_
  simp -implicitDefEqProofs (maxSteps := 10000000) (disch := omega) only [seqQ_normal, opsK_eq, runI_nil, runI_none, putP_eq, o_mv, o_ext, o_own, o_call, extV, wp_ok, bind_ok, ofOpt_some, ev_r, ev_f, putS, Sf.set, Sf.reg, mask_eq, maskR_nil, maskR_cons, getR, setR, maskL, Sf.disAt, id, dis_lit, dis_ptr, dis_tup, own2_lit, List.map_cons, List.map_nil, List.getElem?_cons_zero, List.getElem?_cons_succ, ↓reduceIte, Nat.reduceEqDiff, reduceCtorEq, f7_18e, f7_19e, f7_19l]
  refine call_p rfl e_f16 (zpush_pure hz2 _) rfl ?_
  simp -implicitDefEqProofs (maxSteps := 10000000) (disch := omega) only [runI_none, runI_some, AI.dst, putP_eq, guard_ff, o_mv, o_bin, o_call, n_neq, wp_ok, ev_r, ev_c, ev_f, putS, Sf.set, Sf.reg, getR, setR, id, dis_lit, dis_ptr, List.map_cons, List.map_nil, ↓reduceIte, Nat.reduceEqDiff, reduceCtorEq, not_true_eq_false, decide_false, Bool.false_eq_true]
  refine call_p rfl e_f18 (zpops_pure hz2) rfl ?_
  simp -implicitDefEqProofs (maxSteps := 10000000) (disch := omega) only [runI_none, runI_some, AI.dst, putP_eq, guard_ff, o_mv, o_pick, o_un, o_call, pick_ff, unA, wp_ok, ev_r, ev_c, ev_f, putS, Sf.set, Sf.reg, getR, setR, id, dis_lit, dis_ptr, List.map_cons, List.map_nil, ↓reduceIte, Nat.reduceEqDiff, reduceCtorEq, Bool.not_true, Bool.false_eq_true]
  refine call_p rfl e_f22 (zremove_pure hz2 _) rfl ?_
  simp -implicitDefEqProofs (maxSteps := 10000000) (disch := omega) only [runI_none, runI_some, AI.dst, putP_eq, guard_ff, o_mv, o_pick, o_bin, o_len, o_call, pick_ff, lenI, n_neq, wp_ok, ev_r, ev_c, ev_f, putS, Sf.set, Sf.reg, getR, setR, id, dis_lit, dis_ptr, List.map_cons, List.map_nil, ↓reduceIte, Nat.reduceEqDiff, reduceCtorEq, not_true_eq_false, decide_false, Bool.false_eq_true]
  refine call_p rfl e_f19 (zwaiting_pure hz2) rfl ?_
  simp -implicitDefEqProofs (maxSteps := 10000000) (disch := omega) only [runI_none, runI_some, AI.dst, putP_eq, guard_ff, o_mv, o_pick, o_bin, o_len, o_call, pick_ff, lenI, n_neq, wp_ok, ev_r, ev_c, ev_f, putS, Sf.set, Sf.reg, getR, setR, id, dis_lit, dis_ptr, List.map_cons, List.map_nil, ↓reduceIte, Nat.reduceEqDiff, reduceCtorEq, not_true_eq_false, decide_false, Bool.false_eq_true]
  refine call_p rfl e_f26 (zmost_pure hz2) rfl ?_
  simp -implicitDefEqProofs (maxSteps := 10000000) (disch := omega) only [runI_none, runI_some, AI.dst, putP_eq, guard_ff, o_mv, o_pick, o_bin, o_call, pick_ff, n_neq, wp_ok, ev_r, ev_c, ev_f, putS, Sf.set, Sf.reg, getR, setR, id, dis_lit, dis_ptr, List.map_cons, List.map_nil, ↓reduceIte, Nat.reduceEqDiff, reduceCtorEq, not_true_eq_false, decide_false, Bool.false_eq_true]
  refine call_p rfl e_f17 (zroom_pure hz2) rfl ?_
  simp -implicitDefEqProofs (maxSteps := 10000000) (disch := omega) only [runI_none, runI_some, AI.dst, putP_eq, guard_ff, o_mv, o_pick, o_bin, o_call, pick_ff, n_neq, wp_ok, ev_r, ev_c, ev_f, putS, Sf.set, Sf.reg, getR, setR, id, dis_lit, dis_ptr, List.map_cons, List.map_nil, ↓reduceIte, Nat.reduceEqDiff, reduceCtorEq, not_true_eq_false, decide_false, Bool.false_eq_true]
  refine call_p rfl e_f28 (zcopy_pure hz2) rfl ?_
  simp -implicitDefEqProofs (maxSteps := 10000000) (disch := omega) only [seqQ_normal, seqQ_exit, blockQ_normal, blockQ_exit, aC_skip, aC_exit, opsK_eq, runI_nil, runI_none, runI_some, AI.dst, putP_eq, cond_ff, unrQ_normal, unrQ_exit, guard_ff, o_mv, o_pick, o_bin, o_call, pick_ff, n_nilne, eqNilI, isNilI, n_add, n_lss, wp_ok, bind_ok, ofOpt_some, ev_r, ev_c, ev_f, setB_r, putS, Sf.set, Sf.reg, mask_eq, maskR_nil, maskR_cons, getR, setR, maskL, id, dis_lit, List.map_nil, ↓reduceIte, Nat.reduceEqDiff, Int.reduceLT, Int.reduceAdd, reduceCtorEq, decide_false, Bool.not_true, Bool.false_eq_true, IntWalk.i64_in, f7_8e, f7_9e, f7_9l, f7_10e, f7_11e, f7_20e, f7_23e, f7_23l, f7_24e, f7_25e, f7_25l, loopN_succ]
  refine call_a rfl e_f14 (known18 _) rfl fun r st1 hr => ?_
  subst hr
  simp -implicitDefEqProofs (maxSteps := 10000000) (disch := omega) only [seqQ_normal, aC_ret, opsK_eq, retQ_ret, retI, runI_nil, runI_none, o_own, wp_ok, putS, Sf.set, Sf.reg, mask_eq, maskR_nil, maskR_cons, getR, setR, maskL, Sf.disAt, dis_lit, noL_lit, ↓reduceIte, Nat.reduceEqDiff, Bool.true_and, true_and]
  exact hQ _ _ rfl
end Go.Fx.YtddifejdkiemgaaFx

