/- What the functions that the statement reaches compute: part 15. -/
import Derived.Test.YtohlpjfhkejjgaaFxW14
namespace Go.Fx.YtohlpjfhkejjgaaFx
open Go Go.Fx
attribute [local irreducible] aC runI headI loopI

set_option maxRecDepth 100000
set_option maxHeartbeats 4000000

theorem pDo_0 (P : ChP) (t v : Int) : pDo P (0, t, v) = ((pSend P t v).1, 0, (pSend P t v).2.1, (pSend P t v).2.2.1, (pSend P t v).2.2.2) := rfl
theorem pDo_1 (P : ChP) (t v : Int) : pDo P (1, t, v) = ((pReceive P t).1, (pReceive P t).2.1, (pReceive P t).2.2.1, (pReceive P t).2.2.2.1, (pReceive P t).2.2.2.2) := rfl
theorem pDo_2 (P : ChP) (t v : Int) : pDo P (2, t, v) = ((pTrySend P v).1, 0, decide ((pTrySend P v).2.2 = 0), (pTrySend P v).2.1, (pTrySend P v).2.2) := rfl
theorem pDo_3 (P : ChP) (t v : Int) : pDo P (3, t, v) = ((pTryReceive P).1, (pTryReceive P).2.1, decide ((pTryReceive P).2.2.2 = 0), (pTryReceive P).2.2.1, (pTryReceive P).2.2.2) := rfl

def casAV (l : List Ca) : AV := .sl false 3 (l.map caAV)
theorem cas_lit (l : List (Int × Int × Int × Unit)) : AV.sl false 3 (l.map fun x => .agg [.lit (.int .i64 x.1), .lit (.int .i64 x.2.1), .lit (.int .i64 x.2.2.1)]) = casAV (l.map fun x => (x.1, x.2.1, x.2.2.1)) := by
  simp only [casAV, List.map_map]; rfl
section
variable {st : St} {c q0 m0 q1 m1 wid : Nat} {bv : AV} {P : ChP}

theorem same_pure (h : ChIs st c P q0 m0 q1 m1 wid bv) : PCalls Go.Proofs.Try.prog n_f15 [.ptr c 0, refAV P] st (.lit (.bool true)) := by
  refine pcalls_id hmix k_f15 rfl rfl fun Q hQ => ?_
  unfold aFun c_f15
  simp -implicitDefEqProofs (maxSteps := 10000000) (disch := omega) only [seqQ_normal, opsK_eq, runI_nil, runI_none, o_mv, o_boxL, o_call, boxX, ev_r, ev_c, ev_f, evOwn_r, putS, Sf.set, Sf.reg, mask_eq, maskR_nil, maskR_cons, getR, setR, maskL, Sf.newLoc, look, killR, drop1, regs0, id, dis_lit, dis_ptr, dis_agg, own1_lit, own1_sl, cells_agg, solid1_lit, solid1_sl, solid_eq, kill_ptr, kill_agg, List.map_cons, List.map_nil, List.length_cons, List.length_nil, List.all_cons, List.all_nil, ↓reduceIte, Nat.reduceEqDiff, Nat.reduceAdd, Bool.true_and, Bool.and_true, and_true, true_and, reduceCtorEq, Nat.zero_add, f15_1e, f15_2e, f15_2l, f15_3e, f15_4e, f15_4l, refAV, wlAV]
  refine call_p rfl e_f12 (cwaiting_pure h) rfl ?_
  simp -implicitDefEqProofs (maxSteps := 10000000) (disch := omega) only [List.contains_nil, h_none, hh_mv, hh_call, val_head, seqQ_normal, opsK_eq, runI_nil, runI_none, putP_eq, o_mv, o_ext, o_own, extV, wp_ok, bind_ok, ofOpt_some, ev_r, ev_f, putS, Sf.set, Sf.reg, mask_eq, maskR_nil, maskR_cons, getR, setR, maskL, Sf.disAt, look, dropL, id, dis_lit, dis_ptr, dis_tup, own2_lit, List.map_cons, List.map_nil, List.getElem?_cons_zero, List.getElem?_cons_succ, ↓reduceIte, Nat.reduceEqDiff, reduceCtorEq, Bool.false_eq_true, f15_5e, f15_6e, f15_6h, f15_6l]
  refine call_h rfl e_f13 (clen_pure h) rfl ?_
  simp -implicitDefEqProofs (maxSteps := 10000000) (disch := omega) only [h_none, h_some, hh_mv, hh_bin, hh_addr, hh_load, hh_len, hh_call, guardH_tt, cons_val, val_head, AI.dst, loadV, lenI, addA, derefI, takeI_none, n_eql, wp_ok, bind_ok, ofOpt_some, ev_r, ev_f, putS, Sf.set, Sf.reg, getR, setR, look, id, dis_lit, dis_ptr, dis_sl, List.map_cons, List.map_nil, List.drop_zero, List.drop_succ_cons, ↓reduceIte, Nat.reduceEqDiff, reduceCtorEq, Nat.zero_add, decide_true, ints_len]
  refine call_h rfl e_f17 (ccap_pure h) rfl ?_
  simp -implicitDefEqProofs (maxSteps := 10000000) (disch := omega) only [h_none, h_some, hh_mv, hh_pick, hh_bin, hh_addr, hh_load, hh_len, hh_call, guardH_tt, cons_val, val_head, AI.dst, pick_tt, loadV, lenI, addA, derefI, takeI_none, n_eql, wp_ok, bind_ok, ofOpt_some, ev_r, ev_c, ev_f, putS, Sf.set, Sf.reg, getR, setR, look, id, dis_lit, dis_ptr, dis_sl, List.map_cons, List.map_nil, List.drop_zero, List.drop_succ_cons, ↓reduceIte, Nat.reduceEqDiff, reduceCtorEq, Nat.zero_add, Nat.add_zero, decide_true, List.length_map]
  refine call_h rfl e_f18 (cclosed_pure h) rfl ?_
  simp -implicitDefEqProofs (maxSteps := 10000000) (disch := omega) only [h_nil, h_some, hh_addr, hh_load, guardH_tt, cons_val, val_head, tail_nil, seqQ_normal, aC_ret, opsK_eq, retQ_ret, retI, runI_nil, runI_none, runI_some, AI.dst, putP_eq, guard_tt, o_pick, o_bin, o_own, pick_tt, loadV, b_eql, addA, derefI, takeI_none, wp_ok, bind_ok, ofOpt_some, ev_r, ev_c, putS, Sf.set, Sf.reg, mask_eq, maskR_nil, maskR_cons, getR, setR, maskL, Sf.disAt, look, dis_lit, noL_lit, List.drop_zero, List.drop_succ_cons, ↓reduceIte, Nat.reduceEqDiff, Bool.true_and, true_and, reduceCtorEq, Nat.zero_add, beq_self_eq_true]
  exact hQ _

theorem creturns_true (h : ChIs st c P q0 m0 q1 m1 wid bv) (a : Ca) (y : Rs) (he : (pDo P a).2 = y) {n : Nat} (hb : Bd P n) (hn : n < 3000) (hy : y.2.2.1.length ≤ 1000) :
    ACalls Go.Proofs.Try.prog n_f25 [.ptr c 0, caAV a, rsAV y] st (fun r st' => r = .lit (.bool true) ∧ ChPost st c (pDo P a).1 q0 m0 q1 m1 wid bv st') :=
  (creturns_calls h a y ⟨hb, hn⟩ hy).mono fun r st' ⟨h1, h2⟩ => ⟨by rw [h1, he]; simp, h2⟩
end

theorem refnew_pure (n : Nat) (hn : n ≤ 4096) (st : St) : PCalls Go.Proofs.Try.prog n_f14 [.lit (.int .i64 (n : Nat))] st (.tup [refAV (newP n), .lit (.int .i64 0)]) := by
  refine pure_le hmix k_f14 rfl rfl (.tup _ (by simp [ref_nb, nb_lit])) (by simp [nb_lit]) (fun Q hQ => ?_) st
  unfold aFun c_f14
  simp -implicitDefEqProofs (maxSteps := 10000000) (disch := omega) only [and_self, seqQ_normal, aC_skip, aC_ret, opsK_eq, retQ_ret, retI, resI, resL, runI_nil, runI_none, runI_some, AI.dst, putP_eq, guard_ff, o_mv, o_pick, o_bin, o_bst, o_newL, o_store, pick_ff, bstV, boxX, writeX, derefI, takeI_some, buildA, n_lss, n_gtr, wp_ok, bind_ok, bind_req, ofOpt_some, req_tt, ev_r, ev_c, evOwn_r, disOp_r, setB_r, putS, Sf.set, Sf.reg, mask_eq, maskR_nil, maskR_cons, getR, setR, maskL, Sf.disAt, Sf.newLoc, Sf.setLoc, look, killR, drop1, regs0, dis_lit, dis_agg, own1_lit, cells_lit, cells_agg, solid1_lit, solid_eq, noL_lit, noL_agg, noL_tup, kill_lit, List.map_cons, List.map_nil, List.length_cons, List.length_nil, List.getElem?_cons_zero, List.all_cons, List.all_nil, List.drop_zero, List.take_succ_cons, List.take_zero, List.set_cons_zero, List.set_cons_succ, ↓reduceIte, Nat.reduceEqDiff, Nat.reduceAdd, Nat.reduceLeDiff, Bool.true_and, Bool.and_true, and_true, true_and, reduceCtorEq, Nat.zero_add, decide_true, Bool.false_eq_true, cond_no, guard_no, setAt_nil, setAt_cons, f14_1e, f14_2e, f14_2l, f14_3e, f14_4e, f14_5e, f14_5l, f14_6e, f14_9e, f14_10e, f14_10l]
  refine hQ _ _ (.tupL ⟨?_, .refl _, trivial⟩)
  refine .aggL ⟨.refl _, .nil _ _, .nil _ _, .nil _ _, .refl _, trivial⟩
theorem refnew_err (n : Int) (hn : n < 0 ∨ 4096 < n) (st : St) : PCalls Go.Proofs.Try.prog n_f14 [.lit (.int .i64 n)] st (.tup [refAV (newP 0), .lit (.int .i64 2)]) := by
  refine pure_le hmix k_f14 rfl rfl (.tup _ (by simp [ref_nb, nb_lit])) (by simp [nb_lit]) (fun Q hQ => ?_) st
  unfold aFun c_f14
  simp -implicitDefEqProofs (maxSteps := 10000000) (disch := omega) only [seqQ_normal, opsK_eq, runI_nil, runI_none, runI_some, AI.dst, putP_eq, o_mv, o_bin, o_newL, n_lss, wp_ok, ev_r, ev_c, putS, Sf.set, Sf.reg, mask_eq, maskR_nil, maskR_cons, getR, setR, maskL, Sf.newLoc, look, killR, drop1, regs0, dis_lit, kill_lit, ↓reduceIte, Nat.reduceEqDiff, reduceCtorEq, f14_1e, f14_2e, f14_2l, f14_3e, f14_4e, f14_5e, f14_5l]
  refine guard_split (fun h1 => ?_) (fun h1 => ?_)
  · simp -implicitDefEqProofs (maxSteps := 10000000) (disch := omega) only [seqQ_normal, seqQ_ret, aC_ret, opsK_eq, retQ_ret, retI, resI, resL, runI_nil, runI_none, runI_some, skipI_eq, AI.dst, putP_eq, cond_tt, guard_tt, o_mv, o_pick, o_bst, o_store, pick_tt, bstV, boxX, writeX, derefI, takeI_some, buildA, wp_ok, bind_ok, bind_req, ofOpt_some, req_tt, ev_r, ev_c, evOwn_r, disOp_r, setB_r, putS, Sf.set, Sf.reg, mask_eq, maskR_nil, maskR_cons, getR, setR, maskL, Sf.disAt, Sf.setLoc, look, drop1, dis_lit, dis_agg, own1_lit, cells_agg, solid1_lit, solid_eq, noL_lit, noL_agg, noL_tup, List.map_cons, List.map_nil, List.length_cons, List.length_nil, List.all_cons, List.all_nil, List.drop_zero, List.take_succ_cons, List.take_zero, List.set_cons_zero, List.set_cons_succ, ↓reduceIte, Nat.reduceEqDiff, Nat.reduceAdd, Nat.reduceLeDiff, Bool.true_and, Bool.and_true, and_true, true_and, reduceCtorEq, Nat.zero_add, decide_true, Bool.false_eq_true, setAt_nil, setAt_cons, f14_6e, f14_7e, f14_8e, f14_8l]
    refine hQ _ _ (.tupL ⟨?_, .refl _, trivial⟩)
    refine .aggL ⟨.refl _, .nil _ _, .nil _ _, .nil _ _, .refl _, trivial⟩
  · simp -implicitDefEqProofs (maxSteps := 10000000) (disch := omega) only [seqQ_normal, seqQ_ret, aC_ret, opsK_eq, retQ_ret, retI, resI, resL, runI_nil, runI_none, runI_some, AI.dst, putP_eq, guard_ff, o_mv, o_pick, o_bin, o_bst, o_store, pick_ff, bstV, boxX, writeX, derefI, takeI_some, buildA, n_gtr, wp_ok, bind_ok, bind_req, ofOpt_some, req_tt, ev_r, ev_c, evOwn_r, disOp_r, setB_r, putS, Sf.set, Sf.reg, mask_eq, maskR_nil, maskR_cons, getR, setR, maskL, Sf.disAt, Sf.setLoc, look, drop1, dis_lit, dis_agg, own1_lit, cells_agg, solid1_lit, solid_eq, noL_lit, noL_agg, noL_tup, List.map_cons, List.map_nil, List.length_cons, List.length_nil, List.all_cons, List.all_nil, List.drop_zero, List.take_succ_cons, List.take_zero, List.set_cons_zero, List.set_cons_succ, ↓reduceIte, Nat.reduceEqDiff, Nat.reduceAdd, Nat.reduceLeDiff, Bool.true_and, Bool.and_true, and_true, true_and, reduceCtorEq, Nat.zero_add, decide_true, Bool.false_eq_true, cond_yes, setAt_nil, setAt_cons, f14_6e, f14_7e, f14_8e, f14_8l]
    refine hQ _ _ (.tupL ⟨?_, .refl _, trivial⟩)
    refine .aggL ⟨.refl _, .nil _ _, .nil _ _, .nil _ _, .refl _, trivial⟩

theorem bd_new {n m : Nat} (hn : n ≤ 4096) : Bd (newP n) m := ⟨by simp [newP], by simp [newP], by simp [newP], by simp [newP], by simp [newP], hn⟩

theorem cnew_ex {n : Nat} (hn : n ≤ 4096) (st : St) : ACalls Go.Proofs.Try.prog n_f9 [.lit (.int .i64 (n : Nat))] st (fun r st' =>
    ∃ c q0 m0 q1 m1 wid bv, r = .tup [.ptr c 0, .lit (.int .i64 0)] ∧ ChIs st' c (newP n) q0 m0 q1 m1 wid bv) :=
  (cnew_calls hn st).mono fun r st' ⟨h1, h2, _⟩ => ⟨_, _, _, _, _, _, _, h1, h2⟩

theorem known36 (st : St) : ACalls Go.Proofs.Try.prog n_f10 [] st (fun r _ => r = .lit (.bool true)) := by
  refine acalls_op hmix k_f10 rfl rfl fun Q hQ => ?_
  unfold aFun c_f10
  simp -implicitDefEqProofs (maxSteps := 10000000) (disch := omega) only [seqQ_normal, opsK_eq, runI_nil, runI_none, o_mv, o_call, ev_c, ev_f, putS, Sf.set, mask_eq, maskR_nil, setR, maskL, regs0, id, dis_lit, List.map_cons, List.map_nil, f10_1e, f10_2e, f10_2l, f10_3e, f10_4e, f10_4l]
  refine call_a rfl e_f9 (cnew_ex (n := 1) (by decide) st) rfl fun r st0 hr => ?_
  obtain ⟨c, q0, m0, q1, m1, wid, bv, rfl, h0⟩ := hr
  have b0 : Bd (newP 1) 1 := bd_new (by decide)
  simp -implicitDefEqProofs (maxSteps := 10000000) (disch := omega) only [and_self, seqQ_normal, aC_skip, opsK_eq, runI_nil, runI_none, runI_some, AI.dst, putP_eq, cond_ff, guard_ff, o_mv, o_pick, o_bin, o_ext, o_bst, o_own, o_call, pick_ff, extV, bstV, n_nileq, eqNilI, isNilI, buildA, n_neq, wp_ok, bind_ok, ofOpt_some, ev_r, ev_c, ev_f, setB_r, putS, Sf.set, Sf.reg, mask_eq, maskR_nil, maskR_cons, getR, setR, maskL, Sf.disAt, id, dis_lit, dis_ptr, dis_tup, own2_lit, own2_ptr, cells_lit, cells_agg, solid1_lit, solid_eq, List.map_cons, List.map_nil, List.length_cons, List.length_nil, List.getElem?_cons_zero, List.getElem?_cons_succ, List.all_cons, List.all_nil, List.set_cons_zero, List.set_cons_succ, ↓reduceIte, Nat.reduceEqDiff, Nat.reduceAdd, Nat.reduceLeDiff, Bool.and_true, and_true, Nat.zero_add, not_true_eq_false, decide_false, Bool.false_eq_true, setAt_nil, setAt_cons, f10_5e, f10_6e, f10_7e, f10_7l, f10_8e, f10_11e, f10_12e, f10_13e, f10_13l]
  refine call_a rfl e_f25 (creturns_true h0 (0, 0, 5) (0, true, [], 0) (by decide) b0 (by omega) (by decide)) rfl fun r st1 hr => ?_
  obtain ⟨rfl, bv1, h1, _, _⟩ := hr
  have b1 := (bd_do b0 (0, 0, 5)).1
  simp -implicitDefEqProofs (maxSteps := 10000000) (disch := omega) only [and_self, runI_none, runI_some, AI.dst, putP_eq, guard_ff, o_mv, o_un, o_bst, o_call, bstV, buildA, unA, wp_ok, bind_ok, ev_r, ev_c, ev_f, putS, Sf.set, Sf.reg, getR, setR, id, dis_lit, dis_ptr, cells_lit, cells_agg, solid1_lit, solid_eq, List.map_cons, List.map_nil, List.length_cons, List.length_nil, List.getElem?_cons_zero, List.getElem?_cons_succ, List.all_cons, List.all_nil, List.set_cons_zero, List.set_cons_succ, ↓reduceIte, Nat.reduceEqDiff, Nat.reduceAdd, Nat.reduceLeDiff, Bool.and_true, and_true, Nat.zero_add, Bool.not_true, Bool.false_eq_true, setAt_nil, setAt_cons]
  refine call_a rfl e_f25 (creturns_true h1 (0, 1, 6) (0, false, [], 0) (by decide) b1 (by omega) (by decide)) rfl fun r st2 hr => ?_
  obtain ⟨rfl, bv2, h2, _, _⟩ := hr
  have b2 := (bd_do b1 (0, 1, 6)).1
  simp -implicitDefEqProofs (maxSteps := 10000000) (disch := omega) only [and_self, runI_none, runI_some, AI.dst, putP_eq, guard_ff, o_mv, o_pick, o_un, o_bst, o_call, pick_ff, bstV, buildA, unA, wp_ok, bind_ok, ev_r, ev_c, ev_f, putS, Sf.set, Sf.reg, getR, setR, id, dis_lit, dis_ptr, cells_lit, cells_agg, solid1_lit, solid_eq, List.map_cons, List.map_nil, List.length_cons, List.length_nil, List.getElem?_cons_zero, List.getElem?_cons_succ, List.all_cons, List.all_nil, List.set_cons_zero, List.set_cons_succ, ↓reduceIte, Nat.reduceEqDiff, Nat.reduceAdd, Nat.reduceLeDiff, Bool.and_true, and_true, Nat.zero_add, Bool.not_true, Bool.false_eq_true, setAt_nil, setAt_cons]
  refine call_a rfl e_f25 (creturns_true h2 (0, 1, 7) (0, false, [], 11) (by decide) b2 (by omega) (by decide)) rfl fun r st3 hr => ?_
  obtain ⟨rfl, bv3, h3, _, _⟩ := hr
  have b3 := (bd_do b2 (0, 1, 7)).1
  simp -implicitDefEqProofs (maxSteps := 10000000) (disch := omega) only [and_self, runI_none, runI_some, AI.dst, putP_eq, guard_ff, o_mv, o_pick, o_un, o_bst, o_call, pick_ff, bstV, buildA, unA, wp_ok, bind_ok, ev_r, ev_c, ev_f, putS, Sf.set, Sf.reg, getR, setR, id, dis_lit, dis_ptr, cells_lit, cells_agg, solid1_lit, solid_eq, List.map_cons, List.map_nil, List.length_cons, List.length_nil, List.getElem?_cons_zero, List.getElem?_cons_succ, List.all_cons, List.all_nil, List.set_cons_zero, List.set_cons_succ, ↓reduceIte, Nat.reduceEqDiff, Nat.reduceAdd, Nat.reduceLeDiff, Bool.and_true, and_true, Nat.zero_add, Bool.not_true, Bool.false_eq_true, setAt_nil, setAt_cons]
  refine call_a rfl e_f25 (creturns_true h3 (2, 0, 8) (0, false, [], 16) (by decide) b3 (by omega) (by decide)) rfl fun r st4 hr => ?_
  obtain ⟨rfl, bv4, h4, _, _⟩ := hr
  have b4 := (bd_do b3 (2, 0, 8)).1
  simp -implicitDefEqProofs (maxSteps := 10000000) (disch := omega) only [and_self, seqQ_normal, aC_skip, opsK_eq, runI_nil, runI_none, runI_some, AI.dst, putP_eq, cond_ff, guard_ff, o_mv, o_pick, o_un, o_bsl, o_bst, o_call, pick_ff, bslV, bstV, List.reduceReplicate, fillA, buildA, unA, wp_ok, bind_ok, ev_r, ev_c, ev_f, setB_r, putS, Sf.set, Sf.reg, mask_eq, maskR_nil, maskR_cons, getR, setR, maskL, id, dis_lit, dis_ptr, dis_sl, dis_agg, own1_lit, cells_lit, cells_sl, cells_agg, solid1_lit, solid1_sl, solid_eq, List.map_cons, List.map_nil, List.length_cons, List.length_nil, List.getElem?_cons_zero, List.getElem?_cons_succ, List.all_cons, List.all_nil, List.set_cons_zero, List.set_cons_succ, ↓reduceIte, Nat.reduceEqDiff, Nat.reduceAdd, Nat.reduceLT, Nat.reduceLeDiff, Bool.and_true, and_true, Nat.zero_add, Bool.not_true, Bool.false_eq_true, setAt_nil, setAt_cons, f10_14e, f10_17e, f10_18e, f10_19e, f10_19l]
  refine call_a rfl e_f25 (creturns_true h4 (1, 2, 0) (5, true, [(1, 0, 0)], 0) (by decide) b4 (by omega) (by decide)) rfl fun r st5 hr => ?_
  obtain ⟨rfl, bv5, h5, _, _⟩ := hr
  have b5 := (bd_do b4 (1, 2, 0)).1
  simp -implicitDefEqProofs (maxSteps := 10000000) (disch := omega) only [runI_none, runI_some, AI.dst, putP_eq, guard_ff, o_mv, o_un, o_call, unA, wp_ok, ev_r, ev_f, putS, Sf.set, Sf.reg, getR, setR, id, dis_lit, dis_ptr, List.map_cons, List.map_nil, ↓reduceIte, Nat.reduceEqDiff, Bool.not_true, Bool.false_eq_true]
  refine call_p rfl e_f13 (clen_pure h5) rfl ?_
  rw [show ((pDo ((pDo ((pDo ((pDo ((pDo (newP 1) (0, 0, 5)).1) (0, 1, 6)).1) (0, 1, 7)).1) (2, 0, 8)).1) (1, 2, 0)).1).buf.length = 1 by decide]
  simp -implicitDefEqProofs (maxSteps := 10000000) (disch := omega) only [and_self, runI_none, runI_some, AI.dst, putP_eq, guard_ff, o_mv, o_pick, o_bin, o_bst, o_call, pick_ff, bstV, buildA, n_neq, wp_ok, bind_ok, ev_r, ev_c, ev_f, putS, Sf.set, Sf.reg, getR, setR, id, dis_lit, dis_ptr, cells_lit, cells_agg, solid1_lit, solid_eq, List.map_cons, List.map_nil, List.length_cons, List.length_nil, List.getElem?_cons_zero, List.getElem?_cons_succ, List.all_cons, List.all_nil, List.set_cons_zero, List.set_cons_succ, Int.cast_ofNat_Int, ↓reduceIte, Nat.reduceEqDiff, Nat.reduceAdd, Nat.reduceLeDiff, Bool.and_true, and_true, Nat.zero_add, not_true_eq_false, decide_false, Bool.false_eq_true, setAt_nil, setAt_cons]
  refine call_a rfl e_f25 (creturns_true h5 (3, 0, 0) (6, true, [], 0) (by decide) b5 (by omega) (by decide)) rfl fun r st6 hr => ?_
  obtain ⟨rfl, bv6, h6, _, _⟩ := hr
  have b6 := (bd_do b5 (3, 0, 0)).1
  simp -implicitDefEqProofs (maxSteps := 10000000) (disch := omega) only [and_self, runI_none, runI_some, AI.dst, putP_eq, guard_ff, o_mv, o_pick, o_un, o_bst, o_call, pick_ff, bstV, buildA, unA, wp_ok, bind_ok, ev_r, ev_c, ev_f, putS, Sf.set, Sf.reg, getR, setR, id, dis_lit, dis_ptr, cells_lit, cells_agg, solid1_lit, solid_eq, List.map_cons, List.map_nil, List.length_cons, List.length_nil, List.getElem?_cons_zero, List.getElem?_cons_succ, List.all_cons, List.all_nil, List.set_cons_zero, List.set_cons_succ, ↓reduceIte, Nat.reduceEqDiff, Nat.reduceAdd, Nat.reduceLeDiff, Bool.and_true, and_true, Nat.zero_add, Bool.not_true, Bool.false_eq_true, setAt_nil, setAt_cons]
  refine call_a rfl e_f25 (creturns_true h6 (1, 2, 0) (0, false, [], 0) (by decide) b6 (by omega) (by decide)) rfl fun r st7 hr => ?_
  obtain ⟨rfl, bv7, h7, _, _⟩ := hr
  have b7 := (bd_do b6 (1, 2, 0)).1
  simp -implicitDefEqProofs (maxSteps := 10000000) (disch := omega) only [and_self, runI_none, runI_some, AI.dst, putP_eq, guard_ff, o_mv, o_pick, o_un, o_bst, o_call, pick_ff, bstV, buildA, unA, wp_ok, bind_ok, ev_r, ev_c, ev_f, putS, Sf.set, Sf.reg, getR, setR, id, dis_lit, dis_ptr, cells_lit, cells_agg, solid1_lit, solid_eq, List.map_cons, List.map_nil, List.length_cons, List.length_nil, List.getElem?_cons_zero, List.getElem?_cons_succ, List.all_cons, List.all_nil, List.set_cons_zero, List.set_cons_succ, ↓reduceIte, Nat.reduceEqDiff, Nat.reduceAdd, Nat.reduceLeDiff, Bool.and_true, and_true, Nat.zero_add, Bool.not_true, Bool.false_eq_true, setAt_nil, setAt_cons]
  refine call_a rfl e_f25 (creturns_true h7 (1, 3, 0) (0, false, [], 0) (by decide) b7 (by omega) (by decide)) rfl fun r st8 hr => ?_
  obtain ⟨rfl, bv8, h8, _, _⟩ := hr
  have b8 := (bd_do b7 (1, 3, 0)).1
  simp -implicitDefEqProofs (maxSteps := 10000000) (disch := omega) only [and_self, seqQ_normal, aC_skip, opsK_eq, runI_nil, runI_none, runI_some, AI.dst, putP_eq, cond_ff, guard_ff, o_mv, o_pick, o_un, o_bsl, o_bst, o_call, pick_ff, bslV, bstV, List.reduceReplicate, fillA, buildA, unA, wp_ok, bind_ok, ev_r, ev_c, ev_f, setB_r, putS, Sf.set, Sf.reg, mask_eq, maskR_nil, maskR_cons, getR, setR, maskL, id, dis_lit, dis_ptr, dis_sl, dis_agg, own1_lit, cells_lit, cells_sl, cells_agg, solid1_lit, solid1_sl, solid_eq, List.map_cons, List.map_nil, List.length_cons, List.length_nil, List.getElem?_cons_zero, List.getElem?_cons_succ, List.all_cons, List.all_nil, List.set_cons_zero, List.set_cons_succ, ↓reduceIte, Nat.reduceEqDiff, Nat.reduceAdd, Nat.reduceLT, Nat.reduceLeDiff, Bool.and_true, and_true, Nat.zero_add, Bool.not_true, Bool.false_eq_true, setAt_nil, setAt_cons, f10_20e, f10_23e, f10_24e, f10_25e, f10_25l]
  refine call_a rfl e_f25 (creturns_true h8 (0, 0, 9) (0, true, [(2, 9, 0)], 0) (by decide) b8 (by omega) (by decide)) rfl fun r st9 hr => ?_
  obtain ⟨rfl, bv9, h9, _, _⟩ := hr
  have b9 := (bd_do b8 (0, 0, 9)).1
  simp -implicitDefEqProofs (maxSteps := 10000000) (disch := omega) only [and_self, seqQ_normal, aC_skip, opsK_eq, runI_nil, runI_none, putP_eq, cond_ff, o_mv, o_un, o_bsl, o_bst, o_call, bslV, bstV, List.reduceReplicate, fillA, buildA, unA, wp_ok, bind_ok, ev_r, ev_c, ev_f, setB_r, putS, Sf.set, Sf.reg, mask_eq, maskR_nil, maskR_cons, getR, setR, maskL, id, dis_lit, dis_ptr, dis_sl, dis_agg, own1_lit, cells_lit, cells_sl, cells_agg, solid1_lit, solid1_sl, solid_eq, List.map_cons, List.map_nil, List.length_cons, List.length_nil, List.getElem?_cons_zero, List.getElem?_cons_succ, List.all_cons, List.all_nil, List.set_cons_zero, List.set_cons_succ, ↓reduceIte, Nat.reduceEqDiff, Nat.reduceAdd, Nat.reduceLT, Nat.reduceLeDiff, Bool.and_true, and_true, Nat.zero_add, Bool.not_true, setAt_nil, setAt_cons, f10_26e, f10_29e, f10_30e, f10_30l]
  refine call_a rfl e_f25 (creturns_true h9 (5, 0, 0) (0, false, [(3, 0, 13)], 0) (by decide) b9 (by omega) (by decide)) rfl fun r st10 hr => ?_
  obtain ⟨rfl, bv10, h10, _, _⟩ := hr
  have b10 := (bd_do b9 (5, 0, 0)).1
  simp -implicitDefEqProofs (maxSteps := 10000000) (disch := omega) only [and_self, runI_none, runI_some, AI.dst, putP_eq, guard_tt, o_mv, o_bst, o_call, bstV, buildA, wp_ok, bind_ok, ev_r, ev_c, ev_f, putS, Sf.set, Sf.reg, getR, setR, id, dis_lit, dis_ptr, cells_lit, cells_agg, solid1_lit, solid_eq, List.map_cons, List.map_nil, List.length_cons, List.length_nil, List.getElem?_cons_zero, List.getElem?_cons_succ, List.all_cons, List.all_nil, List.set_cons_zero, List.set_cons_succ, ↓reduceIte, Nat.reduceEqDiff, Nat.reduceAdd, Nat.reduceLeDiff, Bool.and_true, and_true, Nat.zero_add, setAt_nil, setAt_cons]
  refine call_a rfl e_f25 (creturns_true h10 (1, 0, 0) (0, false, [], 13) (by decide) b10 (by omega) (by decide)) rfl fun r st11 hr => ?_
  obtain ⟨rfl, bv11, h11, _, _⟩ := hr
  have b11 := (bd_do b10 (1, 0, 0)).1
  simp -implicitDefEqProofs (maxSteps := 10000000) (disch := omega) only [and_self, runI_none, runI_some, AI.dst, putP_eq, guard_tt, o_mv, o_pick, o_bst, o_call, pick_tt, bstV, buildA, wp_ok, bind_ok, ev_r, ev_c, ev_f, putS, Sf.set, Sf.reg, getR, setR, id, dis_lit, dis_ptr, cells_lit, cells_agg, solid1_lit, solid_eq, List.map_cons, List.map_nil, List.length_cons, List.length_nil, List.getElem?_cons_zero, List.getElem?_cons_succ, List.all_cons, List.all_nil, List.set_cons_zero, List.set_cons_succ, ↓reduceIte, Nat.reduceEqDiff, Nat.reduceAdd, Nat.reduceLeDiff, Bool.and_true, and_true, Nat.zero_add, setAt_nil, setAt_cons]
  refine call_a rfl e_f25 (creturns_true h11 (0, 0, 1) (0, false, [], 14) (by decide) b11 (by omega) (by decide)) rfl fun r st12 hr => ?_
  obtain ⟨rfl, bv12, h12, _, _⟩ := hr
  have b12 := (bd_do b11 (0, 0, 1)).1
  simp -implicitDefEqProofs (maxSteps := 10000000) (disch := omega) only [seqQ_normal, aC_ret, opsK_eq, retQ_ret, retI, runI_nil, runI_none, putP_eq, o_pick, o_own, pick_tt, wp_ok, ev_r, ev_c, putS, Sf.set, Sf.reg, mask_eq, maskR_nil, maskR_cons, getR, setR, maskL, Sf.disAt, dis_lit, noL_lit, ↓reduceIte, Nat.reduceEqDiff, Bool.true_and, true_and, reduceCtorEq]
  exact hQ _ _ rfl
end Go.Fx.YtohlpjfhkejjgaaFx

