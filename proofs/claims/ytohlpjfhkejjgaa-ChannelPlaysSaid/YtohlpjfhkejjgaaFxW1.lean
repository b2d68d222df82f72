/- What the functions that the statement reaches compute: part 1. -/
import Derived.Test.YtohlpjfhkejjgaaFxT
namespace Go.Fx.YtohlpjfhkejjgaaFx
open Go Go.Fx
attribute [local irreducible] aC runI headI loopI

set_option maxRecDepth 100000
set_option maxHeartbeats 4000000

theorem qzero_pure {q mid : Nat} {a b c : AV} {st : St} (hg : st.get q = some [a, b, c, .map mid]) : PCalls Go.Proofs.Try.prog n_f41 [.ptr q 0] st (.lit (.bool false)) := by
  refine pcalls_id hmix k_f41 rfl rfl fun Q hQ => ?_
  unfold aFun c_f41
  simp -implicitDefEqProofs (maxSteps := 10000000) (disch := omega) only [seqQ_normal, aC_ret, opsK_eq, retQ_ret, retI, runI_nil, runI_none, runI_some, AI.dst, putP_eq, guard_ff, o_mv, o_pick, o_bin, o_addr, o_load, o_nilck, o_own, pick_ff, loadV, nilckV, n_nileq, eqNilI, isNilI, addA, derefI, takeI_none, wp_ok, bind_ok, ofOpt_some, ev_r, ev_c, putS, Sf.set, Sf.reg, mask_eq, maskR_nil, maskR_cons, getR, setR, maskL, Sf.disAt, regs0, dis_lit, dis_ptr, dis_map, noL_lit, List.drop_zero, List.drop_succ_cons, ↓reduceIte, Nat.reduceEqDiff, Bool.true_and, true_and, reduceCtorEq, Nat.zero_add, Bool.false_eq_true, f41_1e, f41_2e, f41_2l, f41_3e, f41_4e, f41_4l, hg]
  exact hQ _

theorem qnew_calls (st : St) : ACalls Go.Proofs.Try.prog n_f24 [] st (fun v st' => v = .ptr (st.boxes.length + 1) 0 ∧ QIs st' (st.boxes.length + 1) st.boxes.length [] 0 ∧ st'.boxes.length = st.boxes.length + 2 ∧ ∀ id, id < st.boxes.length → st'.boxes[id]? = st.boxes[id]?) := by
  refine acalls_op hmix k_f24 rfl rfl fun Q hQ => ?_
  unfold aFun c_f24
  simp -implicitDefEqProofs (maxSteps := 10000000) (disch := omega) only [and_self, seqQ_normal, aC_ret, opsK_eq, retQ_ret, retI, runI_nil, runI_none, putP_eq, o_mv, o_bst, o_own, o_boxB, o_mkmap, bstV, boxX, buildA, wp_ok, bind_ok, ev_r, ev_c, evOwn_r, disOp_r, putS, Sf.set, Sf.reg, mask_eq, maskR_nil, maskR_cons, getR, setR, maskL, Sf.disAt, regs0, dis_lit, dis_ptr, dis_map, dis_agg, own1_lit, own1_map, cells_map, cells_agg, solid1_lit, solid1_map, solid_eq, noL_ptr, List.map_cons, List.map_nil, List.length_cons, List.length_nil, List.getElem?_cons_zero, List.getElem?_cons_succ, List.all_cons, List.all_nil, List.set_cons_zero, List.set_cons_succ, ↓reduceIte, Nat.reduceEqDiff, Nat.reduceAdd, Nat.reduceLeDiff, Bool.true_and, Bool.and_true, and_true, true_and, reduceCtorEq, Nat.zero_add, len_push, setAt_nil, setAt_cons, f24_1e, f24_2e, f24_2l, f24_3e, f24_4e, f24_4l]
  refine hQ _ _ ⟨by simp [len_push], ⟨?_, ⟨[], ?_, fun _ => rfl, rfl⟩, by simp [ticks], by simp [ticks]⟩, by simp [len_push], fun id hid => ?_⟩
  · have := get_push (st.push (.mp [] [] 0)) [.lit (.int .u64 0), .lit (.int .u64 0), .lit (.int .u64 0), .map st.boxes.length]
    rw [len_push] at this
    exact this
  · exact (MapIs.new st .u64 ndAV).push _
  · rw [push_at (by rw [len_push]; omega), push_at hid]

theorem qlen_pure {q mid g : Nat} {L : Qu} {st : St} (h : QIs st q mid L g) : PCalls Go.Proofs.Try.prog n_f30 [.ptr q 0] st (.lit (.int .i64 (L.length : Nat))) := by
  refine pcalls_id hmix k_f30 rfl rfl fun Q hQ => ?_
  unfold aFun c_f30
  obtain ⟨m, hm, hl, hlen⟩ := h.mp
  have hg := h.get
  simp -implicitDefEqProofs (maxSteps := 10000000) (disch := omega) only [seqQ_normal, opsK_eq, runI_nil, runI_none, o_mv, o_call, ev_r, ev_c, ev_f, putS, Sf.set, Sf.reg, mask_eq, maskR_nil, maskR_cons, getR, setR, maskL, regs0, id, dis_lit, dis_ptr, List.map_cons, List.map_nil, ↓reduceIte, reduceCtorEq, f30_1e, f30_2e, f30_2l, f30_3e, f30_4e, f30_5e, f30_5l]
  refine call_p rfl e_f41 (qzero_pure hg) rfl ?_
  simp -implicitDefEqProofs (maxSteps := 10000000) (disch := omega) only [seqQ_normal, aC_skip, aC_ret, opsK_eq, retQ_ret, retI, runI_nil, runI_none, putP_eq, cond_ff, o_mv, o_addr, o_load, o_nilck, o_len, o_own, loadV, nilckV, addA, derefI, takeI_none, wp_ok, bind_ok, ofOpt_some, ev_r, setB_r, putS, Sf.set, Sf.reg, mask_eq, maskR_nil, maskR_cons, getR, setR, maskL, Sf.disAt, dis_lit, dis_ptr, dis_map, noL_lit, List.drop_zero, List.drop_succ_cons, ↓reduceIte, Nat.reduceEqDiff, Bool.true_and, true_and, reduceCtorEq, Nat.zero_add, f30_6e, f30_9e, f30_10e, f30_10l, hg, lenI_enc, hlen]
  exact hQ _

theorem qfront_pure {q mid g : Nat} {L : Qu} {st : St} (h : QIs st q mid L g) : PCalls Go.Proofs.Try.prog n_f52 [.ptr q 0] st
    (match L with | [] => .tup [.lit (.int .i64 0), .lit (.int .u64 0), .lit (.int .i64 9)] | (t, v) :: _ => .tup [.lit (.int .i64 v), .lit (.int .u64 (t : Nat)), .lit (.int .i64 0)]) := by
  refine pcalls_id hmix k_f52 rfl rfl fun Q hQ => ?_
  unfold aFun c_f52
  obtain ⟨m, hm, hl, hlen⟩ := h.mp
  have hg := h.get
  cases L with
  | nil =>
    simp -implicitDefEqProofs (maxSteps := 10000000) (disch := omega) only [seqQ_normal, opsK_eq, runI_nil, runI_none, o_mv, o_call, ev_r, ev_c, ev_f, putS, Sf.set, Sf.reg, mask_eq, maskR_nil, maskR_cons, getR, setR, maskL, regs0, id, dis_lit, dis_ptr, List.map_cons, List.map_nil, ↓reduceIte, Nat.reduceEqDiff, reduceCtorEq, f52_1e, f52_2e, f52_2l, f52_3e, f52_4e, f52_5e, f52_6e, f52_6l]
    refine call_p rfl e_f41 (qzero_pure hg) rfl ?_
    simp -implicitDefEqProofs (maxSteps := 10000000) (disch := omega) only [seqQ_normal, seqQ_ret, blockQ_ret, aC_ret, opsK_eq, retQ_ret, retI, resI, resL, runI_nil, runI_none, putP_eq, cond_tt, cond_ff, o_mv, o_bin, o_addr, o_load, o_nilck, o_own, loadV, nilckV, addA, derefI, takeI_none, n_eql, wp_ok, bind_ok, ofOpt_some, ev_r, ev_c, setB_r, putS, Sf.set, Sf.reg, mask_eq, maskR_nil, maskR_cons, getR, setR, maskL, Sf.disAt, dis_lit, dis_ptr, noL_lit, noL_tup, List.all_cons, List.all_nil, List.drop_zero, Int.cast_ofNat_Int, ↓reduceIte, Nat.reduceEqDiff, Bool.true_and, Bool.and_true, and_true, true_and, reduceCtorEq, Nat.add_zero, decide_true, f52_7e, f52_10e, f52_11e, f52_11l, f52_12e, f52_13e, f52_14e, f52_14l, hg, nxtOf]
    exact hQ _
  | cons x r =>
    obtain ⟨t, v⟩ := x
    have hp := h.pos t (by simp [ticks])
    have hk : ∀ z, lookupI (.int .u64) z false st (.map mid) (.lit (.int .u64 (t : Nat))) = .ok (ndAV (v, 0, nxtOf r 0)) := fun z => by
      rw [lookI_enc hm, hl t]; simp [nodeA, ndAV_dis]
    have hn : ((t : Int) = 0) = False := by simp; omega
    simp -implicitDefEqProofs (maxSteps := 10000000) (disch := omega) only [seqQ_normal, opsK_eq, runI_nil, runI_none, o_mv, o_call, ev_r, ev_c, ev_f, putS, Sf.set, Sf.reg, mask_eq, maskR_nil, maskR_cons, getR, setR, maskL, regs0, id, dis_lit, dis_ptr, List.map_cons, List.map_nil, ↓reduceIte, Nat.reduceEqDiff, reduceCtorEq, f52_1e, f52_2e, f52_2l, f52_3e, f52_4e, f52_5e, f52_6e, f52_6l]
    refine call_p rfl e_f41 (qzero_pure hg) rfl ?_
    simp -implicitDefEqProofs (maxSteps := 10000000) (disch := omega) only [h_nil, h_none, hh_mv, hh_field, hh_addr, hh_load, hh_nilck, hh_lookup, val_head, tail_nil, seqQ_normal, blockQ_normal, aC_skip, aC_ret, opsK_eq, retQ_ret, retI, resI, resL, runI_nil, runI_none, putP_eq, cond_ff, o_mv, o_bin, o_addr, o_load, o_nilck, o_own, fieldV, loadV, nilckV, addA, derefI, takeI_none, n_eql, wp_ok, bind_ok, ofOpt_some, ev_r, ev_c, setB_r, putS, Sf.set, Sf.reg, mask_eq, maskR_nil, maskR_cons, getR, setR, maskL, Sf.disAt, dropL, dis_lit, dis_ptr, dis_map, noL_lit, noL_tup, List.all_cons, List.all_nil, List.drop_zero, List.drop_succ_cons, Int.cast_ofNat_Int, ↓reduceIte, Nat.reduceEqDiff, Bool.true_and, Bool.and_true, and_true, true_and, reduceCtorEq, Nat.zero_add, Nat.add_zero, decide_false, f52_7e, f52_10e, f52_11e, f52_11l, f52_12e, f52_15e, f52_16e, f52_16h, f52_16l, hg, nxtOf, hk, hn, ndAV]
    exact hQ _
end Go.Fx.YtohlpjfhkejjgaaFx

