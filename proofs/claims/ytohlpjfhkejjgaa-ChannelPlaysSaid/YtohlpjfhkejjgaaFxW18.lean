/- What the functions that the statement reaches compute: part 18. -/
import Derived.Test.YtohlpjfhkejjgaaFxW17
namespace Go.Fx.YtohlpjfhkejjgaaFx
open Go Go.Fx
attribute [local irreducible] aC runI headI loopI

set_option maxRecDepth 100000
set_option maxHeartbeats 4000000

/-- What the reference's Receive does. -/
def rR (P : ChP) (t : Int) : ChP × Rs :=
  if t < -1 ∨ 64 ≤ t then (P, 0, false, [], 2) else if t ∈ keysP (entC P.S P.V) then (P, 0, false, [], 11) else
  match P.S with
  | x :: l => ({ P with S := l, buf := (P.buf ++ [x.2.2]).tail }, (P.buf ++ [x.2.2]).headD 0, true, [(x.2.1, 0, 0)], 0)
  | [] => match P.buf with
    | x :: b => ({ P with buf := b }, x, true, [], 0)
    | [] => if P.closed = true then (P, 0, false, [], 13) else if t < 0 then (P, 0, false, [], 16) else
      ({ P with V := P.V ++ [(P.g1 + 1, t, 0)], g1 := P.g1 + 1 }, 0, false, [], 0)

theorem refrecv_pure (P : ChP) (t : Int) (hl : Sm P) (st : St) : PCalls Go.Proofs.Try.prog n_f43 [refAV P, .lit (.int .i64 t)] st (rrAV (rR P t)) := by
  unfold Sm at hl
  refine pure_le hmix k_f43 rfl rfl (rr_nb _) (by simp [ref_nb, nb_lit]) (fun Q hQ => ?_) st
  unfold aFun c_f43
  generalize hR : rR P t = R at hQ
  unfold rR at hR
  have hw := fun st => waits_pure P t (by omega) st
  simp only [waits_iff] at hw
  by_cases h1 : t < -1 ∨ 64 ≤ t
  · rw [if_pos h1] at hR
    subst hR
    simp -implicitDefEqProofs (maxSteps := 10000000) (disch := omega) only [seqQ_normal, opsK_eq, runI_nil, runI_none, runI_some, AI.dst, putP_eq, o_mv, o_bin, o_newL, o_boxL, boxX, n_lss, wp_ok, ev_r, ev_c, evOwn_r, putS, Sf.set, Sf.reg, mask_eq, maskR_nil, maskR_cons, getR, setR, maskL, Sf.newLoc, look, killR, drop1, regs0, dis_lit, dis_agg, own1_lit, own1_sl, cells_agg, solid1_lit, solid1_sl, solid_eq, kill_lit, kill_lptr, kill_agg, List.map_cons, List.map_nil, List.length_cons, List.length_nil, List.all_cons, List.all_nil, ↓reduceIte, Nat.reduceEqDiff, Nat.reduceAdd, Int.reduceNeg, Bool.true_and, Bool.and_true, and_true, true_and, reduceCtorEq, Nat.zero_add, f43_1e, f43_2e, f43_2l, f43_3e, f43_4e, f43_5e, f43_5l, refAV, wlAV]
    refine guard_split (fun h => ?_) (fun h => ?_)
    · simp -implicitDefEqProofs (maxSteps := 10000000) (disch := omega) only [and_self, seqQ_normal, seqQ_ret, aC_ret, opsK_eq, retQ_ret, retI, resI, resL, runI_nil, runI_none, runI_some, skipI_eq, AI.dst, putP_eq, cond_tt, guard_tt, o_pick, o_load, o_bst, o_store, pick_tt, loadV, bstV, boxX, writeX, derefI, takeI_some, buildA, wp_ok, bind_ok, bind_req, ofOpt_some, req_tt, ev_r, ev_c, evOwn_r, disOp_r, setB_r, putS, Sf.set, Sf.reg, mask_eq, maskR_nil, maskR_cons, getR, setR, maskL, Sf.disAt, Sf.setLoc, look, drop1, dis_lit, dis_agg, own1_lit, own1_sl, cells_lit, cells_agg, solid1_lit, solid1_sl, solid_eq, noL_agg, noL_tup, List.map_cons, List.map_nil, List.length_cons, List.length_nil, List.getElem?_cons_zero, List.getElem?_cons_succ, List.all_cons, List.all_nil, List.drop_zero, List.take_succ_cons, List.take_zero, List.set_cons_zero, List.set_cons_succ, ↓reduceIte, Nat.reduceEqDiff, Nat.reduceAdd, Nat.reduceLeDiff, Int.reduceNeg, Bool.true_and, Bool.and_true, and_true, true_and, Nat.zero_add, decide_true, Bool.false_eq_true, setAt_nil, setAt_cons, f43_6e, f43_7e, f43_8e, f43_8l]
      exact hQ _ _ (.refl _)
    · simp -implicitDefEqProofs (maxSteps := 10000000) (disch := omega) only [and_self, seqQ_normal, seqQ_ret, aC_ret, opsK_eq, retQ_ret, retI, resI, resL, runI_nil, runI_none, runI_some, AI.dst, putP_eq, guard_ff, o_mv, o_pick, o_bin, o_load, o_bst, o_store, pick_ff, loadV, bstV, boxX, writeX, derefI, takeI_some, buildA, n_geq, wp_ok, bind_ok, bind_req, ofOpt_some, req_tt, ev_r, ev_c, evOwn_r, disOp_r, setB_r, putS, Sf.set, Sf.reg, mask_eq, maskR_nil, maskR_cons, getR, setR, maskL, Sf.disAt, Sf.setLoc, look, drop1, dis_lit, dis_agg, own1_lit, own1_sl, cells_lit, cells_agg, solid1_lit, solid1_sl, solid_eq, noL_agg, noL_tup, List.map_cons, List.map_nil, List.length_cons, List.length_nil, List.getElem?_cons_zero, List.getElem?_cons_succ, List.all_cons, List.all_nil, List.drop_zero, List.take_succ_cons, List.take_zero, List.set_cons_zero, List.set_cons_succ, ↓reduceIte, Nat.reduceEqDiff, Nat.reduceAdd, Nat.reduceLeDiff, Int.reduceNeg, Bool.true_and, Bool.and_true, and_true, true_and, Nat.zero_add, decide_true, Bool.false_eq_true, cond_yes, setAt_nil, setAt_cons, f43_6e, f43_7e, f43_8e, f43_8l]
      exact hQ _ _ (.refl _)
  rw [if_neg h1] at hR
  simp only [refAV, wlAV] at hw
  simp -implicitDefEqProofs (maxSteps := 10000000) (disch := omega) only [seqQ_normal, aC_skip, opsK_eq, runI_nil, runI_none, runI_some, AI.dst, putP_eq, guard_ff, o_mv, o_pick, o_bin, o_load, o_newL, o_boxL, o_call, pick_ff, loadV, boxX, derefI, takeI_some, n_lss, n_geq, wp_ok, bind_ok, bind_req, ofOpt_some, req_tt, ev_r, ev_c, ev_f, evOwn_r, setB_r, putS, Sf.set, Sf.reg, mask_eq, maskR_nil, maskR_cons, getR, setR, maskL, Sf.newLoc, look, killR, drop1, regs0, id, dis_lit, dis_agg, own1_lit, own1_sl, cells_agg, solid1_lit, solid1_sl, solid_eq, kill_lit, kill_lptr, kill_agg, List.map_cons, List.map_nil, List.length_cons, List.length_nil, List.all_cons, List.all_nil, List.drop_zero, List.take_succ_cons, List.take_zero, ↓reduceIte, Nat.reduceEqDiff, Nat.reduceAdd, Nat.reduceLeDiff, Int.reduceNeg, Bool.true_and, Bool.and_true, and_true, true_and, reduceCtorEq, Nat.zero_add, decide_true, Bool.false_eq_true, cond_no, guard_no, f43_1e, f43_2e, f43_2l, f43_3e, f43_4e, f43_5e, f43_5l, f43_6e, f43_9e, f43_10e, f43_11e, f43_11l, refAV, wlAV]
  refine call_p rfl e_f49 (hw _) rfl ?_
  by_cases h2 : t ∈ keysP (entC P.S P.V)
  · rw [if_pos h2] at hR
    subst hR
    rw [decide_eq_true h2]
    simp -implicitDefEqProofs (maxSteps := 10000000) (disch := omega) only [and_self, seqQ_normal, seqQ_ret, aC_ret, opsK_eq, retQ_ret, retI, resI, resL, runI_nil, runI_none, putP_eq, cond_tt, o_load, o_bst, o_store, loadV, bstV, boxX, writeX, derefI, takeI_some, buildA, wp_ok, bind_ok, bind_req, ofOpt_some, req_tt, ev_r, ev_c, evOwn_r, disOp_r, setB_r, putS, Sf.set, Sf.reg, mask_eq, maskR_nil, maskR_cons, getR, setR, maskL, Sf.disAt, Sf.setLoc, look, drop1, dis_lit, dis_agg, own1_lit, own1_sl, cells_lit, cells_agg, solid1_lit, solid1_sl, solid_eq, noL_agg, noL_tup, List.map_cons, List.map_nil, List.length_cons, List.length_nil, List.getElem?_cons_zero, List.getElem?_cons_succ, List.all_cons, List.all_nil, List.drop_zero, List.take_succ_cons, List.take_zero, List.set_cons_zero, List.set_cons_succ, ↓reduceIte, Nat.reduceEqDiff, Nat.reduceAdd, Nat.reduceLeDiff, Bool.true_and, Bool.and_true, and_true, true_and, Nat.zero_add, decide_true, setAt_nil, setAt_cons, f43_12e, f43_13e, f43_14e, f43_14l]
    exact hQ _ _ (.refl _)
  rw [if_neg h2] at hR
  rw [decide_eq_false h2]
  cases hS : P.S with
  | cons x l =>
    have hSl : P.S.length = l.length + 1 := by rw [hS]; rfl
    have htl : List.take l.length (l.map wAV) = l.map wAV := List.take_of_length_le (by simp)
    rw [hS] at hR
    simp only at hR
    rcases hB : P.buf with _ | ⟨b, B⟩
    · rw [hB] at hR
      simp only [List.nil_append, List.tail_cons, List.headD_cons] at hR
      subst hR
      simp -implicitDefEqProofs (maxSteps := 10000000) (disch := omega) only [List.contains_nil, List.contains_cons, Nat.reduceBEq, Bool.or_false, ksB, storesOf, newsOf, appsOf, distinctB, finSS, finNN, nstB, nstsOf, h_nil, h_none, hh_load, hh_store, headAddr_eq, headStore_eq, val_head, tail_eq, cons_store, and_self, seqQ_normal, seqQ_ret, aC_skip, aC_ret, opsK_eq, retQ_ret, retI, resI, resL, runI_nil, runI_none, putP_eq, cond_ff, o_mv, o_bin, o_addr, o_ixS, o_load, o_bsl, o_bst, o_len, o_app, o_loadOwn, o_own, o_sliOwn, o_appS, o_newL, o_store, ixSV, loadV, sliSV, bslV, bstV, loadOwnX, sliOwnX, appSX, boxX, writeX, List.isEmpty_cons, List.isEmpty_nil, List.reduceReplicate, ixA, ixTo, lenI, addA, derefI, takeI_none, takeI_some, appNewI, srcA, fillA, buildA, n_add, n_gtr, wp_ok, bind_ok, bind_req, ofOpt_some, req_tt, ev_r, ev_c, evOwn_r, disOp_r, setB_r, putS, Sf.set, Sf.reg, mask_eq, maskR_nil, maskR_cons, getR, setR, maskL, Sf.disAt, Sf.newLoc, Sf.setLoc, look, killR, drop1, dropL, dis_lit, dis_sl, dis_agg, own1_lit, own1_sl, cells_lit, cells_sl, cells_agg, solid1_lit, solid1_sl, solid_eq, noL_agg, noL_tup, kill_lit, kill_lptr, kill_agg, List.map_cons, List.map_nil, List.length_cons, List.length_nil, List.getElem?_cons_zero, List.getElem?_cons_succ, List.getD_cons_zero, List.all_cons, List.all_nil, List.nil_append, List.drop_zero, List.drop_succ_cons, List.take_succ_cons, List.take_zero, List.set_cons_zero, List.set_cons_succ, Int.toNat_zero, Int.toNat_one, Int.cast_ofNat_Int, ↓reduceIte, Nat.reduceEqDiff, Nat.reduceAdd, Nat.reduceLT, Nat.reduceLeDiff, Int.reduceLT, Int.reduceLE, Bool.true_and, Bool.and_true, and_true, true_and, Nat.zero_add, Nat.add_zero, or_false, decide_true, Bool.not_false, Bool.false_eq_true, List.length_map, req_dec, room_of, cond_yes, IntWalk.i64_in, up_addR, setAt_nil, setAt_cons, f43_12e, f43_15e, f43_16e, f43_17e, f43_17l, f43_18e, f43_19e, f43_20e, f43_20l, f43_21e, f43_22e, f43_22l, f43_23e, f43_24e, f43_25e, f43_25l, f43_26e, f43_27e, f43_28e, f43_28l, f43_29e, f43_30e, f43_30l, f43_31e, f43_31l, f43_32e, f43_33e, f43_33l, f43_34e, f43_35e, f43_35l, f43_36e, f43_37e, f43_37h, f43_37l, wAV, htl, ints]
      refine hQ _ _ ?_
      simp only [rrAV, refAV]
      exact .refl _
    · have hBl : P.buf.length = B.length + 1 := by rw [hB]; rfl
      rw [hB] at hR
      simp only [List.cons_append, List.tail_cons, List.headD_cons] at hR
      subst hR
      have hi : ints (b :: B) = .lit (.int .i64 b) :: ints B := rfl
      have hia : ints (B ++ [x.2.2]) = ints B ++ [.lit (.int .i64 x.2.2)] := by simp [ints]
      have hid := ints_dis B
      have hit : List.take (B.length + 1) (ints B ++ [.lit (.int .i64 x.2.2)]) = ints B ++ [.lit (.int .i64 x.2.2)] := List.take_of_length_le (by simp [ints])
      simp -implicitDefEqProofs (maxSteps := 10000000) (disch := omega) only [List.contains_nil, List.contains_cons, Nat.reduceBEq, Bool.or_false, ksB, storesOf, newsOf, appsOf, distinctB, finSS, finNN, nstB, nstsOf, h_nil, h_none, hh_load, hh_store, headAddr_eq, headStore_eq, val_head, tail_eq, cons_store, and_self, seqQ_normal, seqQ_ret, aC_skip, aC_ret, opsK_eq, retQ_ret, retI, resI, resL, runI_nil, runI_none, putP_eq, cond_ff, o_mv, o_bin, o_addr, o_ixS, o_load, o_bsl, o_bst, o_len, o_app, o_loadOwn, o_own, o_sliOwn, o_appS, o_newL, o_store, ixSV, loadV, sliSV, bslV, bstV, loadOwnX, sliOwnX, appSX, boxX, writeX, List.isEmpty_cons, List.reduceReplicate, ixA, ixTo, lenI, addA, derefI, takeI_none, takeI_some, appNewI, appOwnI, srcA, fillA, buildA, n_add, n_gtr, wp_ok, bind_ok, bind_req, ofOpt_some, req_tt, ev_r, ev_c, evOwn_r, disOp_r, setB_r, putS, Sf.set, Sf.reg, mask_eq, maskR_nil, maskR_cons, getR, setR, maskL, Sf.disAt, Sf.newLoc, Sf.setLoc, look, killR, drop1, dropL, dis_lit, dis_sl, dis_agg, own1_lit, own1_sl, cells_lit, cells_sl, cells_agg, solid1_lit, solid1_sl, solid_eq, noL_agg, noL_tup, kill_lptr, kill_sl, kill_agg, List.map_cons, List.map_nil, List.length_cons, List.length_nil, List.getElem?_cons_zero, List.getElem?_cons_succ, List.getD_cons_zero, List.all_cons, List.all_nil, List.nil_append, List.cons_append, List.drop_zero, List.drop_succ_cons, List.take_succ_cons, List.take_zero, List.set_cons_zero, List.set_cons_succ, Int.toNat_zero, Int.toNat_one, ↓reduceIte, Nat.reduceEqDiff, Nat.reduceAdd, Nat.reduceLT, Nat.reduceLeDiff, Int.reduceLE, Bool.true_and, Bool.and_true, and_true, true_and, Nat.zero_add, Nat.add_zero, or_false, decide_true, Bool.not_false, Bool.false_eq_true, List.length_map, req_dec, room_of, cond_yes, IntWalk.i64_in, up_add, List.length_append, setAt_nil, setAt_cons, Nat.mul_one, f43_12e, f43_15e, f43_16e, f43_17e, f43_17l, f43_18e, f43_19e, f43_20e, f43_20l, f43_21e, f43_22e, f43_22l, f43_23e, f43_24e, f43_25e, f43_25l, f43_26e, f43_27e, f43_28e, f43_28l, f43_29e, f43_30e, f43_30l, f43_31e, f43_31l, f43_32e, f43_33e, f43_33l, f43_34e, f43_35e, f43_35l, f43_36e, f43_37e, f43_37h, f43_37l, wAV, htl, ints_len, hi, hid]
      refine hQ _ _ ?_
      simp only [rrAV, refAV, hia]
      exact .refl _
  | nil =>
    rw [hS] at hR
    simp only at hR
    rcases hB : P.buf with _ | ⟨b, B⟩
    · rw [hB] at hR
      simp only at hR
      cases hcl : P.closed with
      | true =>
        rw [hcl] at hR
        simp only [if_true] at hR
        subst hR
        simp -implicitDefEqProofs (maxSteps := 10000000) (disch := omega) only [and_self, seqQ_normal, seqQ_ret, aC_skip, aC_ret, opsK_eq, retQ_ret, retI, resI, resL, runI_nil, runI_none, putP_eq, cond_tt, cond_ff, o_bin, o_addr, o_load, o_bst, o_len, o_store, loadV, bstV, boxX, writeX, lenI, addA, derefI, takeI_none, takeI_some, buildA, n_add, n_gtr, wp_ok, bind_ok, bind_req, ofOpt_some, req_tt, ev_r, ev_c, evOwn_r, disOp_r, setB_r, putS, Sf.set, Sf.reg, mask_eq, maskR_nil, maskR_cons, getR, setR, maskL, Sf.disAt, Sf.setLoc, look, drop1, dis_lit, dis_sl, dis_agg, own1_lit, own1_sl, cells_lit, cells_agg, solid1_lit, solid1_sl, solid_eq, noL_agg, noL_tup, List.map_cons, List.map_nil, List.length_cons, List.length_nil, List.getElem?_cons_zero, List.getElem?_cons_succ, List.all_cons, List.all_nil, List.drop_zero, List.drop_succ_cons, List.take_succ_cons, List.take_zero, List.set_cons_zero, List.set_cons_succ, Int.cast_ofNat_Int, ↓reduceIte, Nat.reduceEqDiff, Nat.reduceAdd, Nat.reduceLeDiff, Bool.true_and, Bool.and_true, and_true, true_and, Nat.zero_add, decide_true, cond_no, IntWalk.i64_in, Int.add_zero, setAt_nil, setAt_cons, f43_12e, f43_15e, f43_16e, f43_17e, f43_17l, f43_18e, f43_38e, f43_39e, f43_40e, f43_40l, f43_41e, f43_42e, f43_43e, f43_43l, ints]
        refine hQ _ _ ?_
        simp only [rrAV, refAV, hcl, hB, hS]
        exact .refl _
      | false =>
        rw [hcl] at hR
        simp only [Bool.false_eq_true, if_false] at hR
        by_cases h4 : t < 0
        · rw [if_pos h4] at hR
          subst hR
          simp -implicitDefEqProofs (maxSteps := 10000000) (disch := omega) only [and_self, seqQ_normal, seqQ_ret, aC_skip, aC_ret, opsK_eq, retQ_ret, retI, resI, resL, runI_nil, runI_none, putP_eq, cond_ff, o_mv, o_bin, o_addr, o_load, o_bst, o_len, o_store, loadV, bstV, boxX, writeX, lenI, addA, derefI, takeI_none, takeI_some, buildA, n_add, n_lss, n_gtr, wp_ok, bind_ok, bind_req, ofOpt_some, req_tt, ev_r, ev_c, evOwn_r, disOp_r, setB_r, putS, Sf.set, Sf.reg, mask_eq, maskR_nil, maskR_cons, getR, setR, maskL, Sf.disAt, Sf.setLoc, look, drop1, dis_lit, dis_sl, dis_agg, own1_lit, own1_sl, cells_lit, cells_agg, solid1_lit, solid1_sl, solid_eq, noL_agg, noL_tup, List.map_cons, List.map_nil, List.length_cons, List.length_nil, List.getElem?_cons_zero, List.getElem?_cons_succ, List.all_cons, List.all_nil, List.drop_zero, List.drop_succ_cons, List.take_succ_cons, List.take_zero, List.set_cons_zero, List.set_cons_succ, Int.cast_ofNat_Int, ↓reduceIte, Nat.reduceEqDiff, Nat.reduceAdd, Nat.reduceLeDiff, Bool.true_and, Bool.and_true, and_true, true_and, Nat.zero_add, decide_true, cond_yes, cond_no, IntWalk.i64_in, Int.add_zero, setAt_nil, setAt_cons, f43_12e, f43_15e, f43_16e, f43_17e, f43_17l, f43_18e, f43_38e, f43_39e, f43_40e, f43_40l, f43_41e, f43_44e, f43_45e, f43_46e, f43_46l, f43_47e, f43_48e, f43_49e, f43_49l, ints]
          refine hQ _ _ ?_
          simp only [rrAV, refAV, hcl, hB, hS]
          exact .refl _
        · rw [if_neg h4] at hR
          subst hR
          have hwp := fun st => with_pure P.V (P.g1 + 1) t 0 (by omega) st
          simp only [wlAV, wAV] at hwp
          simp -implicitDefEqProofs (maxSteps := 10000000) (disch := omega) only [and_self, seqQ_normal, aC_skip, opsK_eq, runI_nil, runI_none, putP_eq, cond_ff, o_mv, o_bin, o_addr, o_load, o_bst, o_len, o_call, loadV, bstV, lenI, addA, derefI, takeI_none, buildA, n_add, n_lss, n_gtr, wp_ok, bind_ok, ofOpt_some, ev_r, ev_c, ev_f, setB_r, putS, Sf.set, Sf.reg, mask_eq, maskR_nil, maskR_cons, getR, setR, maskL, look, id, dis_lit, dis_sl, cells_lit, cells_agg, solid1_lit, solid_eq, List.map_cons, List.map_nil, List.length_cons, List.length_nil, List.getElem?_cons_zero, List.all_cons, List.all_nil, List.drop_zero, List.drop_succ_cons, List.set_cons_zero, Int.cast_ofNat_Int, ↓reduceIte, Nat.reduceEqDiff, Nat.reduceAdd, Nat.reduceLeDiff, Bool.and_true, and_true, Nat.zero_add, cond_no, IntWalk.i64_in, Int.add_zero, setAt_nil, setAt_cons, f43_12e, f43_15e, f43_16e, f43_17e, f43_17l, f43_18e, f43_38e, f43_39e, f43_40e, f43_40l, f43_41e, f43_44e, f43_45e, f43_46e, f43_46l, f43_47e, f43_50e, f43_51e, f43_51l, ints]
          refine call_p rfl e_f50 (hwp _) rfl ?_
          simp -implicitDefEqProofs (maxSteps := 10000000) (disch := omega) only [seqQ_normal, aC_ret, opsK_eq, retQ_ret, retI, resI, resL, runI_nil, runI_none, putP_eq, o_addr, o_load, o_bst, o_store, loadV, bstV, boxX, writeX, addA, derefI, takeI_some, buildA, wp_ok, bind_ok, bind_req, ofOpt_some, req_tt, ev_r, evOwn_r, disOp_r, putS, Sf.set, Sf.reg, mask_eq, maskR_nil, maskR_cons, getR, setR, maskL, Sf.disAt, Sf.setLoc, look, drop1, dis_sl, dis_agg, own1_lit, own1_sl, cells_sl, cells_agg, solid1_lit, solid1_sl, solid_eq, noL_agg, noL_tup, List.map_cons, List.map_nil, List.length_cons, List.length_nil, List.all_cons, List.all_nil, List.drop_zero, List.take_succ_cons, List.take_zero, List.set_cons_zero, List.set_cons_succ, ↓reduceIte, Nat.reduceEqDiff, Nat.reduceAdd, Nat.reduceLeDiff, Bool.true_and, Bool.and_true, and_true, true_and, Nat.zero_add, decide_true, setAt_nil, setAt_cons, f43_52e, f43_53e, f43_53l]
          refine hQ _ _ ?_
          simp only [rrAV, refAV, hcl, hB, hS]
          exact .refl _
    · have hBl : P.buf.length = B.length + 1 := by rw [hB]; rfl
      rw [hB] at hR
      simp only at hR
      subst hR
      have hi : ints (b :: B) = .lit (.int .i64 b) :: ints B := rfl
      have hid := ints_dis B
      have hit : List.take B.length (ints B) = ints B := List.take_of_length_le (by simp [ints])
      simp -implicitDefEqProofs (maxSteps := 10000000) (disch := omega) only [List.contains_nil, List.contains_cons, Nat.reduceBEq, Bool.or_false, ksB, storesOf, newsOf, appsOf, distinctB, finSS, finNN, nstB, nstsOf, h_nil, h_none, hh_load, hh_store, headAddr_eq, headStore_eq, val_head, tail_eq, cons_store, and_self, seqQ_normal, seqQ_ret, aC_skip, aC_ret, opsK_eq, retQ_ret, retI, resI, resL, runI_nil, runI_none, putP_eq, cond_ff, o_mv, o_bin, o_addr, o_ixS, o_load, o_bst, o_len, o_app, o_own, o_sliOwn, o_newL, o_store, ixSV, loadV, bstV, sliOwnX, boxX, writeX, List.isEmpty_cons, ixA, ixTo, lenI, addA, derefI, takeI_none, takeI_some, appNewI, srcA, buildA, n_add, n_gtr, wp_ok, bind_ok, bind_req, ofOpt_some, req_tt, ev_r, ev_c, evOwn_r, disOp_r, setB_r, putS, Sf.set, Sf.reg, mask_eq, maskR_nil, maskR_cons, getR, setR, maskL, Sf.disAt, Sf.newLoc, Sf.setLoc, look, killR, drop1, dropL, dis_lit, dis_sl, dis_agg, own1_lit, own1_sl, cells_lit, cells_sl, cells_agg, solid1_lit, solid1_sl, solid_eq, noL_agg, noL_tup, kill_lptr, kill_sl, kill_agg, List.map_cons, List.map_nil, List.length_cons, List.length_nil, List.getElem?_cons_zero, List.getElem?_cons_succ, List.getD_cons_zero, List.all_cons, List.all_nil, List.nil_append, List.drop_zero, List.drop_succ_cons, List.take_succ_cons, List.take_zero, List.set_cons_zero, List.set_cons_succ, Int.toNat_zero, Int.toNat_one, Int.cast_ofNat_Int, ↓reduceIte, Nat.reduceEqDiff, Nat.reduceAdd, Nat.reduceLeDiff, Int.reduceLE, Bool.true_and, Bool.and_true, and_true, true_and, Nat.zero_add, Nat.add_zero, or_false, decide_true, Bool.not_false, Bool.false_eq_true, req_dec, room_of, cond_yes, cond_no, IntWalk.i64_in, Int.add_zero, setAt_nil, setAt_cons, f43_12e, f43_15e, f43_16e, f43_17e, f43_17l, f43_18e, f43_19e, f43_20e, f43_20l, f43_21e, f43_22e, f43_22l, f43_23e, f43_24e, f43_25e, f43_25l, f43_26e, f43_32e, f43_33e, f43_33l, f43_34e, f43_35e, f43_35l, f43_36e, f43_37e, f43_37h, f43_37l, ints_len, hi, hid]
      refine hQ _ _ ?_
      simp only [rrAV, refAV, hS]
      exact .refl _

theorem refcancel_pure (P : ChP) (t : Int) (hl : Sm P) (hnd : (keysP (entC P.S P.V)).Nodup) (st : St) : PCalls Go.Proofs.Try.prog n_f44 [refAV P, .lit (.int .i64 t)] st
    (rrAV ((pCancel P t).1, 0, false, [], (pCancel P t).2)) := by
  unfold Sm at hl
  refine pure_le hmix k_f44 rfl rfl (rr_nb _) (by simp [ref_nb, nb_lit]) (fun Q hQ => ?_) st
  unfold aFun c_f44
  have hw := fun st => waits_pure P t (by omega) st
  simp only [waits_iff] at hw
  unfold pCancel chk at hQ
  by_cases h1 : t < 0 ∨ 64 ≤ t
  · rw [if_pos h1] at hQ
    simp -implicitDefEqProofs (maxSteps := 10000000) (disch := omega) only [seqQ_normal, opsK_eq, runI_nil, runI_none, runI_some, AI.dst, putP_eq, o_mv, o_bin, o_newL, o_boxL, boxX, n_lss, wp_ok, ev_r, ev_c, evOwn_r, putS, Sf.set, Sf.reg, mask_eq, maskR_nil, maskR_cons, getR, setR, maskL, Sf.newLoc, look, killR, drop1, regs0, dis_lit, dis_agg, own1_lit, own1_sl, cells_agg, solid1_lit, solid1_sl, solid_eq, kill_lit, kill_lptr, kill_agg, List.map_cons, List.map_nil, List.length_cons, List.length_nil, List.all_cons, List.all_nil, ↓reduceIte, Nat.reduceEqDiff, Nat.reduceAdd, Bool.true_and, Bool.and_true, and_true, true_and, reduceCtorEq, Nat.zero_add, f44_1e, f44_2e, f44_2l, f44_3e, f44_4e, f44_5e, f44_5l, refAV, wlAV]
    refine guard_split (fun h => ?_) (fun h => ?_)
    · simp -implicitDefEqProofs (maxSteps := 10000000) (disch := omega) only [and_self, seqQ_normal, seqQ_ret, aC_ret, opsK_eq, retQ_ret, retI, resI, resL, runI_nil, runI_none, runI_some, skipI_eq, AI.dst, putP_eq, cond_tt, guard_tt, o_pick, o_load, o_bst, o_store, pick_tt, loadV, bstV, boxX, writeX, derefI, takeI_some, buildA, wp_ok, bind_ok, bind_req, ofOpt_some, req_tt, ev_r, ev_c, evOwn_r, disOp_r, setB_r, putS, Sf.set, Sf.reg, mask_eq, maskR_nil, maskR_cons, getR, setR, maskL, Sf.disAt, Sf.setLoc, look, drop1, dis_lit, dis_agg, own1_lit, own1_sl, cells_lit, cells_agg, solid1_lit, solid1_sl, solid_eq, noL_agg, noL_tup, List.map_cons, List.map_nil, List.length_cons, List.length_nil, List.getElem?_cons_zero, List.getElem?_cons_succ, List.all_cons, List.all_nil, List.drop_zero, List.take_succ_cons, List.take_zero, List.set_cons_zero, List.set_cons_succ, ↓reduceIte, Nat.reduceEqDiff, Nat.reduceAdd, Nat.reduceLeDiff, Bool.true_and, Bool.and_true, and_true, true_and, Nat.zero_add, decide_true, Bool.false_eq_true, setAt_nil, setAt_cons, f44_6e, f44_7e, f44_8e, f44_8l]
      exact hQ _ _ (.refl _)
    · simp -implicitDefEqProofs (maxSteps := 10000000) (disch := omega) only [and_self, seqQ_normal, seqQ_ret, aC_ret, opsK_eq, retQ_ret, retI, resI, resL, runI_nil, runI_none, runI_some, AI.dst, putP_eq, guard_ff, o_mv, o_pick, o_bin, o_load, o_bst, o_store, pick_ff, loadV, bstV, boxX, writeX, derefI, takeI_some, buildA, n_geq, wp_ok, bind_ok, bind_req, ofOpt_some, req_tt, ev_r, ev_c, evOwn_r, disOp_r, setB_r, putS, Sf.set, Sf.reg, mask_eq, maskR_nil, maskR_cons, getR, setR, maskL, Sf.disAt, Sf.setLoc, look, drop1, dis_lit, dis_agg, own1_lit, own1_sl, cells_lit, cells_agg, solid1_lit, solid1_sl, solid_eq, noL_agg, noL_tup, List.map_cons, List.map_nil, List.length_cons, List.length_nil, List.getElem?_cons_zero, List.getElem?_cons_succ, List.all_cons, List.all_nil, List.drop_zero, List.take_succ_cons, List.take_zero, List.set_cons_zero, List.set_cons_succ, ↓reduceIte, Nat.reduceEqDiff, Nat.reduceAdd, Nat.reduceLeDiff, Bool.true_and, Bool.and_true, and_true, true_and, Nat.zero_add, decide_true, Bool.false_eq_true, cond_yes, setAt_nil, setAt_cons, f44_6e, f44_7e, f44_8e, f44_8l]
      exact hQ _ _ (.refl _)
  rw [if_neg h1] at hQ
  simp only [refAV, wlAV] at hw
  simp -implicitDefEqProofs (maxSteps := 10000000) (disch := omega) only [seqQ_normal, aC_skip, opsK_eq, runI_nil, runI_none, runI_some, AI.dst, putP_eq, guard_ff, o_mv, o_pick, o_bin, o_load, o_newL, o_boxL, o_call, pick_ff, loadV, boxX, derefI, takeI_some, n_lss, n_geq, wp_ok, bind_ok, bind_req, ofOpt_some, req_tt, ev_r, ev_c, ev_f, evOwn_r, setB_r, putS, Sf.set, Sf.reg, mask_eq, maskR_nil, maskR_cons, getR, setR, maskL, Sf.newLoc, look, killR, drop1, regs0, id, dis_lit, dis_agg, own1_lit, own1_sl, cells_agg, solid1_lit, solid1_sl, solid_eq, kill_lit, kill_lptr, kill_agg, List.map_cons, List.map_nil, List.length_cons, List.length_nil, List.all_cons, List.all_nil, List.drop_zero, List.take_succ_cons, List.take_zero, ↓reduceIte, Nat.reduceEqDiff, Nat.reduceAdd, Nat.reduceLeDiff, Bool.true_and, Bool.and_true, and_true, true_and, reduceCtorEq, Nat.zero_add, decide_true, Bool.false_eq_true, cond_no, guard_no, f44_1e, f44_2e, f44_2l, f44_3e, f44_4e, f44_5e, f44_5l, f44_6e, f44_9e, f44_10e, f44_11e, f44_11l, refAV, wlAV]
  refine call_p rfl e_f49 (hw _) rfl ?_
  by_cases h2 : t ∈ keysP (entC P.S P.V)
  · rw [if_pos h2] at hQ
    rw [decide_eq_true h2]
    simp only [entC, keys_app, List.nodup_append] at hnd
    rw [keys_wEnt, keys_wEnt, ← keys_wEnt 0, ← keys_wEnt 0 P.V] at hnd
    have ha := fun st => without_pure P.S t (by omega) hnd.1 st
    have hb := fun st => without_pure P.V t (by omega) hnd.2.1 st
    simp only [wlAV] at ha hb
    simp -implicitDefEqProofs (maxSteps := 10000000) (disch := omega) only [List.contains_nil, h_none, hh_mv, hh_addr, hh_load, hh_call, val_head, seqQ_normal, aC_skip, opsK_eq, runI_nil, runI_none, putP_eq, cond_ff, o_un, loadV, addA, derefI, takeI_none, unA, wp_ok, bind_ok, ofOpt_some, ev_r, ev_f, setB_r, putS, Sf.set, Sf.reg, mask_eq, maskR_nil, maskR_cons, getR, setR, maskL, look, dropL, id, dis_lit, dis_sl, List.map_cons, List.map_nil, List.drop_zero, List.drop_succ_cons, ↓reduceIte, Nat.reduceEqDiff, Nat.zero_add, Bool.not_true, Bool.false_eq_true, f44_12e, f44_15e, f44_16e, f44_16h, f44_16l]
    refine call_h rfl e_f51 (ha _) rfl ?_
    simp -implicitDefEqProofs (maxSteps := 10000000) (disch := omega) only [h_none, hh_mv, hh_addr, hh_load, hh_call, cons_val, val_head, loadV, addA, derefI, takeI_none, wp_ok, bind_ok, ofOpt_some, ev_r, ev_f, putS, Sf.set, Sf.reg, getR, setR, look, id, dis_lit, dis_sl, List.map_cons, List.map_nil, List.drop_zero, List.drop_succ_cons, ↓reduceIte, Nat.reduceEqDiff, Nat.zero_add]
    refine call_h rfl e_f51 (hb _) rfl ?_
    simp -implicitDefEqProofs (maxSteps := 10000000) (disch := omega) only [h_nil, h_none, hh_addr, cons_val, val_head, tail_nil, seqQ_normal, aC_ret, opsK_eq, retQ_ret, retI, resI, resL, runI_nil, runI_none, putP_eq, o_addr, o_load, o_bst, o_store, loadV, bstV, boxX, writeX, addA, derefI, takeI_some, buildA, wp_ok, bind_ok, bind_req, ofOpt_some, req_tt, ev_r, evOwn_r, disOp_r, putS, Sf.set, Sf.reg, mask_eq, maskR_nil, maskR_cons, getR, setR, maskL, Sf.disAt, Sf.setLoc, look, drop1, dis_sl, dis_agg, own1_lit, own1_sl, cells_sl, cells_agg, solid1_lit, solid1_sl, solid_eq, noL_agg, noL_tup, List.map_cons, List.map_nil, List.length_cons, List.length_nil, List.all_cons, List.all_nil, List.drop_zero, List.take_succ_cons, List.take_zero, List.set_cons_zero, List.set_cons_succ, ↓reduceIte, Nat.reduceEqDiff, Nat.reduceAdd, Nat.reduceLeDiff, Bool.true_and, Bool.and_true, and_true, true_and, Nat.zero_add, decide_true, setAt_nil, setAt_cons, f44_17e, f44_18e, f44_18l]
    exact hQ _ _ (.refl _)
  · rw [if_neg h2] at hQ
    rw [decide_eq_false h2]
    simp -implicitDefEqProofs (maxSteps := 10000000) (disch := omega) only [and_self, seqQ_normal, seqQ_ret, aC_ret, opsK_eq, retQ_ret, retI, resI, resL, runI_nil, runI_none, putP_eq, cond_tt, o_un, o_load, o_bst, o_store, loadV, bstV, boxX, writeX, derefI, takeI_some, buildA, unA, wp_ok, bind_ok, bind_req, ofOpt_some, req_tt, ev_r, ev_c, evOwn_r, disOp_r, setB_r, putS, Sf.set, Sf.reg, mask_eq, maskR_nil, maskR_cons, getR, setR, maskL, Sf.disAt, Sf.setLoc, look, drop1, dis_lit, dis_agg, own1_lit, own1_sl, cells_lit, cells_agg, solid1_lit, solid1_sl, solid_eq, noL_agg, noL_tup, List.map_cons, List.map_nil, List.length_cons, List.length_nil, List.getElem?_cons_zero, List.getElem?_cons_succ, List.all_cons, List.all_nil, List.drop_zero, List.take_succ_cons, List.take_zero, List.set_cons_zero, List.set_cons_succ, ↓reduceIte, Nat.reduceEqDiff, Nat.reduceAdd, Nat.reduceLeDiff, Bool.true_and, Bool.and_true, and_true, true_and, Nat.zero_add, decide_true, Bool.not_false, setAt_nil, setAt_cons, f44_12e, f44_13e, f44_14e, f44_14l]
    exact hQ _ _ (.refl _)
end Go.Fx.YtohlpjfhkejjgaaFx

