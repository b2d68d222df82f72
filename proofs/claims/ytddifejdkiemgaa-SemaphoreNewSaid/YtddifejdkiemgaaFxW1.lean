/- What the functions that the statement reaches compute: part 1. -/
import Derived.Test.YtddifejdkiemgaaFxT
namespace Go.Fx.YtddifejdkiemgaaFx
open Go Go.Fx
attribute [local irreducible] aC runI headI loopI

set_option maxRecDepth 100000
set_option maxHeartbeats 4000000

theorem qzero_pure {q mid : Nat} {a b c : AV} {st : St} (hg : st.get q = some [a, b, c, .map mid]) : PCalls Go.Proofs.Try.prog n_f68 [.ptr q 0] st (.lit (.bool false)) := by
  refine pcalls_id hmix k_f68 rfl rfl fun Q hQ => ?_
  unfold aFun c_f68
  simp -implicitDefEqProofs (maxSteps := 10000000) (disch := omega) only [seqQ_normal, aC_ret, opsK_eq, retQ_ret, retI, runI_nil, runI_none, runI_some, AI.dst, putP_eq, guard_ff, o_mv, o_pick, o_bin, o_addr, o_load, o_nilck, o_own, pick_ff, loadV, nilckV, n_nileq, eqNilI, isNilI, addA, derefI, takeI_none, wp_ok, bind_ok, ofOpt_some, ev_r, ev_c, putS, Sf.set, Sf.reg, mask_eq, maskR_nil, maskR_cons, getR, setR, maskL, Sf.disAt, regs0, dis_lit, dis_ptr, dis_map, noL_lit, List.drop_zero, List.drop_succ_cons, ↓reduceIte, Nat.reduceEqDiff, Bool.true_and, true_and, reduceCtorEq, Nat.zero_add, Bool.false_eq_true, f68_1e, f68_2e, f68_2l, f68_3e, f68_4e, f68_4l, hg]
  exact hQ _

theorem qnew_calls (st : St) : ACalls Go.Proofs.Try.prog n_f45 [] st (fun v st' => v = .ptr (st.boxes.length + 1) 0 ∧ QIs st' (st.boxes.length + 1) st.boxes.length [] 0 ∧ st'.boxes.length = st.boxes.length + 2 ∧ ∀ id, id < st.boxes.length → st'.boxes[id]? = st.boxes[id]?) := by
  refine acalls_op hmix k_f45 rfl rfl fun Q hQ => ?_
  unfold aFun c_f45
  simp -implicitDefEqProofs (maxSteps := 10000000) (disch := omega) only [and_self, seqQ_normal, aC_ret, opsK_eq, retQ_ret, retI, runI_nil, runI_none, putP_eq, o_mv, o_bst, o_own, o_boxB, o_mkmap, bstV, boxX, buildA, wp_ok, bind_ok, ev_r, ev_c, evOwn_r, disOp_r, putS, Sf.set, Sf.reg, mask_eq, maskR_nil, maskR_cons, getR, setR, maskL, Sf.disAt, regs0, dis_lit, dis_ptr, dis_map, dis_agg, own1_lit, own1_map, cells_map, cells_agg, solid1_lit, solid1_map, solid_eq, noL_ptr, List.map_cons, List.map_nil, List.length_cons, List.length_nil, List.getElem?_cons_zero, List.getElem?_cons_succ, List.all_cons, List.all_nil, List.set_cons_zero, List.set_cons_succ, ↓reduceIte, Nat.reduceEqDiff, Nat.reduceAdd, Nat.reduceLeDiff, Bool.true_and, Bool.and_true, and_true, true_and, reduceCtorEq, Nat.zero_add, len_push, setAt_nil, setAt_cons, f45_1e, f45_2e, f45_2l, f45_3e, f45_4e, f45_4l]
  refine hQ _ _ ⟨by simp [len_push], ⟨?_, ⟨[], ?_, fun _ => rfl, rfl⟩, by simp [ticks], by simp [ticks]⟩, by simp [len_push], fun id hid => ?_⟩
  · have := get_push (st.push (.mp [] [] 0)) [.lit (.int .u64 0), .lit (.int .u64 0), .lit (.int .u64 0), .map st.boxes.length]
    rw [len_push] at this
    exact this
  · exact (MapIs.new st .u64 ndAV).push _
  · rw [push_at (by rw [len_push]; omega), push_at hid]

theorem qlen_pure {q mid g : Nat} {L : Qu} {st : St} (h : QIs st q mid L g) : PCalls Go.Proofs.Try.prog n_f47 [.ptr q 0] st (.lit (.int .i64 (L.length : Nat))) := by
  refine pcalls_id hmix k_f47 rfl rfl fun Q hQ => ?_
  unfold aFun c_f47
  obtain ⟨m, hm, hl, hlen⟩ := h.mp
  have hg := h.get
  simp -implicitDefEqProofs (maxSteps := 10000000) (disch := omega) only [seqQ_normal, opsK_eq, runI_nil, runI_none, o_mv, o_call, ev_r, ev_c, ev_f, putS, Sf.set, Sf.reg, mask_eq, maskR_nil, maskR_cons, getR, setR, maskL, regs0, id, dis_lit, dis_ptr, List.map_cons, List.map_nil, ↓reduceIte, reduceCtorEq, f47_1e, f47_2e, f47_2l, f47_3e, f47_4e, f47_5e, f47_5l]
  refine call_p rfl e_f68 (qzero_pure hg) rfl ?_
  simp -implicitDefEqProofs (maxSteps := 10000000) (disch := omega) only [seqQ_normal, aC_skip, aC_ret, opsK_eq, retQ_ret, retI, runI_nil, runI_none, putP_eq, cond_ff, o_mv, o_addr, o_load, o_nilck, o_len, o_own, loadV, nilckV, addA, derefI, takeI_none, wp_ok, bind_ok, ofOpt_some, ev_r, setB_r, putS, Sf.set, Sf.reg, mask_eq, maskR_nil, maskR_cons, getR, setR, maskL, Sf.disAt, dis_lit, dis_ptr, dis_map, noL_lit, List.drop_zero, List.drop_succ_cons, ↓reduceIte, Nat.reduceEqDiff, Bool.true_and, true_and, reduceCtorEq, Nat.zero_add, f47_6e, f47_9e, f47_10e, f47_10l, hg, lenI_enc, hlen]
  exact hQ _

theorem qfront_pure {q mid g : Nat} {L : Qu} {st : St} (h : QIs st q mid L g) : PCalls Go.Proofs.Try.prog n_f70 [.ptr q 0] st
    (match L with | [] => .tup [.lit (.int .i64 0), .lit (.int .u64 0), .lit (.int .i64 9)] | (t, v) :: _ => .tup [.lit (.int .i64 v), .lit (.int .u64 (t : Nat)), .lit (.int .i64 0)]) := by
  refine pcalls_id hmix k_f70 rfl rfl fun Q hQ => ?_
  unfold aFun c_f70
  obtain ⟨m, hm, hl, hlen⟩ := h.mp
  have hg := h.get
  cases L with
  | nil =>
    simp -implicitDefEqProofs (maxSteps := 10000000) (disch := omega) only [seqQ_normal, opsK_eq, runI_nil, runI_none, o_mv, o_call, ev_r, ev_c, ev_f, putS, Sf.set, Sf.reg, mask_eq, maskR_nil, maskR_cons, getR, setR, maskL, regs0, id, dis_lit, dis_ptr, List.map_cons, List.map_nil, ↓reduceIte, Nat.reduceEqDiff, reduceCtorEq, f70_1e, f70_2e, f70_2l, f70_3e, f70_4e, f70_5e, f70_6e, f70_6l]
    refine call_p rfl e_f68 (qzero_pure hg) rfl ?_
    simp -implicitDefEqProofs (maxSteps := 10000000) (disch := omega) only [seqQ_normal, seqQ_ret, blockQ_ret, aC_ret, opsK_eq, retQ_ret, retI, resI, resL, runI_nil, runI_none, putP_eq, cond_tt, cond_ff, o_mv, o_bin, o_addr, o_load, o_nilck, o_own, loadV, nilckV, addA, derefI, takeI_none, n_eql, wp_ok, bind_ok, ofOpt_some, ev_r, ev_c, setB_r, putS, Sf.set, Sf.reg, mask_eq, maskR_nil, maskR_cons, getR, setR, maskL, Sf.disAt, dis_lit, dis_ptr, noL_lit, noL_tup, List.all_cons, List.all_nil, List.drop_zero, Int.cast_ofNat_Int, ↓reduceIte, Nat.reduceEqDiff, Bool.true_and, Bool.and_true, and_true, true_and, reduceCtorEq, Nat.add_zero, decide_true, f70_7e, f70_10e, f70_11e, f70_11l, f70_12e, f70_13e, f70_14e, f70_14l, hg, nxtOf]
    exact hQ _
  | cons x r =>
    obtain ⟨t, v⟩ := x
    have hp := h.pos t (by simp [ticks])
    have hk : ∀ z, lookupI (.int .u64) z false st (.map mid) (.lit (.int .u64 (t : Nat))) = .ok (ndAV (v, 0, nxtOf r 0)) := fun z => by
      rw [lookI_enc hm, hl t]; simp [nodeA, ndAV_dis]
    have hn : ((t : Int) = 0) = False := by simp; omega
    simp -implicitDefEqProofs (maxSteps := 10000000) (disch := omega) only [seqQ_normal, opsK_eq, runI_nil, runI_none, o_mv, o_call, ev_r, ev_c, ev_f, putS, Sf.set, Sf.reg, mask_eq, maskR_nil, maskR_cons, getR, setR, maskL, regs0, id, dis_lit, dis_ptr, List.map_cons, List.map_nil, ↓reduceIte, Nat.reduceEqDiff, reduceCtorEq, f70_1e, f70_2e, f70_2l, f70_3e, f70_4e, f70_5e, f70_6e, f70_6l]
    refine call_p rfl e_f68 (qzero_pure hg) rfl ?_
    simp -implicitDefEqProofs (maxSteps := 10000000) (disch := omega) only [h_nil, h_none, hh_mv, hh_field, hh_addr, hh_load, hh_nilck, hh_lookup, val_head, tail_nil, seqQ_normal, blockQ_normal, aC_skip, aC_ret, opsK_eq, retQ_ret, retI, resI, resL, runI_nil, runI_none, putP_eq, cond_ff, o_mv, o_bin, o_addr, o_load, o_nilck, o_own, fieldV, loadV, nilckV, addA, derefI, takeI_none, n_eql, wp_ok, bind_ok, ofOpt_some, ev_r, ev_c, setB_r, putS, Sf.set, Sf.reg, mask_eq, maskR_nil, maskR_cons, getR, setR, maskL, Sf.disAt, dropL, dis_lit, dis_ptr, dis_map, noL_lit, noL_tup, List.all_cons, List.all_nil, List.drop_zero, List.drop_succ_cons, Int.cast_ofNat_Int, ↓reduceIte, Nat.reduceEqDiff, Bool.true_and, Bool.and_true, and_true, true_and, reduceCtorEq, Nat.zero_add, Nat.add_zero, decide_false, f70_7e, f70_10e, f70_11e, f70_11l, f70_12e, f70_15e, f70_16e, f70_16h, f70_16l, hg, nxtOf, hk, hn, ndAV]
    exact hQ _
end Go.Fx.YtddifejdkiemgaaFx

