/- What the functions that the statement reaches compute: part 17. -/
import Derived.Test.YtohlpjfhkejjgaaFxW16
namespace Go.Fx.YtohlpjfhkejjgaaFx
open Go Go.Fx
attribute [local irreducible] aC runI headI loopI

set_option maxRecDepth 100000
set_option maxHeartbeats 4000000

theorem atR_in {t : Int} : ∀ {l : List W3} {k : Nat}, t ∈ keysP (wEnt 0 l) → 0 ≤ atR t l k
  | x :: l, k, h => by
    simp only [wEnt, keysP, List.map_cons, List.mem_cons] at h
    simp only [atR]
    by_cases e : x.2.1 = t
    · rw [if_pos e]; omega
    · rw [if_neg e]
      exact atR_in (h.resolve_left fun q => e q.symm)
theorem waits_iff (P : ChP) (t : Int) : (0 ≤ atR t P.S 0 ∨ 0 ≤ atR t P.V 0) ↔ t ∈ keysP (entC P.S P.V) := by
  have h0 : ∀ l : List W3, 0 ≤ atR t l 0 ↔ t ∈ keysP (wEnt 0 l) := fun l => by
    constructor
    · intro h
      by_cases e : t ∈ keysP (wEnt 0 l)
      · exact e
      · rw [atR_none e] at h; omega
    · exact atR_in
  rw [h0, h0]
  simp only [entC, keys_app, keys_wEnt, List.mem_append]

/-- What the reference's Send does. -/
def rS (P : ChP) (t v : Int) : ChP × Rs :=
  if t < -1 ∨ 64 ≤ t then (P, 0, false, [], 2) else if t ∈ keysP (entC P.S P.V) then (P, 0, false, [], 11) else if P.closed = true then (P, 0, false, [], 14) else
  match P.V with
  | x :: l => ({ P with V := l }, 0, true, [(x.2.1, v, 0)], 0)
  | [] => if P.buf.length < P.cap then ({ P with buf := P.buf ++ [v] }, 0, true, [], 0) else if t < 0 then (P, 0, false, [], 16) else
    ({ P with S := P.S ++ [(P.g0 + 1, t, v)], g0 := P.g0 + 1 }, 0, false, [], 0)
def rrAV (x : ChP × Rs) : AV := .tup [refAV x.1, rsAV x.2]
theorem rr_nb (x : ChP × Rs) : (rrAV x).NB := .tup _ (by simp [ref_nb, rs_nb])
def Sm (P : ChP) : Prop := P.S.length ≤ 10000 ∧ P.V.length ≤ 10000 ∧ P.buf.length ≤ 10000

theorem refsend_pure (P : ChP) (t v : Int) (hl : Sm P) (st : St) : PCalls Go.Proofs.Try.prog n_f42 [refAV P, .lit (.int .i64 t), .lit (.int .i64 v)] st (rrAV (rS P t v)) := by
  unfold Sm at hl
  refine pure_le hmix k_f42 rfl rfl (rr_nb _) (by simp [ref_nb, nb_lit]) (fun Q hQ => ?_) st
  unfold aFun c_f42
  generalize hR : rS P t v = R at hQ
  unfold rS at hR
  have hw := fun st => waits_pure P t (by omega) st
  simp only [waits_iff] at hw
  by_cases h1 : t < -1 ∨ 64 ≤ t
  · rw [if_pos h1] at hR
    subst hR
    simp -implicitDefEqProofs (maxSteps := 10000000) (disch := omega) only [seqQ_normal, opsK_eq, runI_nil, runI_none, runI_some, AI.dst, putP_eq, o_mv, o_bin, o_newL, o_boxL, boxX, n_lss, wp_ok, ev_r, ev_c, evOwn_r, putS, Sf.set, Sf.reg, mask_eq, maskR_nil, maskR_cons, getR, setR, maskL, Sf.newLoc, look, killR, drop1, regs0, dis_lit, dis_agg, own1_lit, own1_sl, cells_agg, solid1_lit, solid1_sl, solid_eq, kill_lit, kill_lptr, kill_agg, List.map_cons, List.map_nil, List.length_cons, List.length_nil, List.all_cons, List.all_nil, ↓reduceIte, Nat.reduceEqDiff, Nat.reduceAdd, Int.reduceNeg, Bool.true_and, Bool.and_true, and_true, true_and, reduceCtorEq, Nat.zero_add, f42_1e, f42_2e, f42_2l, f42_3e, f42_4e, f42_5e, f42_5l, refAV, wlAV]
    refine guard_split (fun h => ?_) (fun h => ?_)
    · simp -implicitDefEqProofs (maxSteps := 10000000) (disch := omega) only [and_self, seqQ_normal, seqQ_ret, aC_ret, opsK_eq, retQ_ret, retI, resI, resL, runI_nil, runI_none, runI_some, skipI_eq, AI.dst, putP_eq, cond_tt, guard_tt, o_pick, o_load, o_bst, o_store, pick_tt, loadV, bstV, boxX, writeX, derefI, takeI_some, buildA, wp_ok, bind_ok, bind_req, ofOpt_some, req_tt, ev_r, ev_c, evOwn_r, disOp_r, setB_r, putS, Sf.set, Sf.reg, mask_eq, maskR_nil, maskR_cons, getR, setR, maskL, Sf.disAt, Sf.setLoc, look, drop1, dis_lit, dis_agg, own1_lit, own1_sl, cells_lit, cells_agg, solid1_lit, solid1_sl, solid_eq, noL_agg, noL_tup, List.map_cons, List.map_nil, List.length_cons, List.length_nil, List.getElem?_cons_zero, List.getElem?_cons_succ, List.all_cons, List.all_nil, List.drop_zero, List.take_succ_cons, List.take_zero, List.set_cons_zero, List.set_cons_succ, ↓reduceIte, Nat.reduceEqDiff, Nat.reduceAdd, Nat.reduceLeDiff, Int.reduceNeg, Bool.true_and, Bool.and_true, and_true, true_and, Nat.zero_add, decide_true, Bool.false_eq_true, setAt_nil, setAt_cons, f42_6e, f42_7e, f42_8e, f42_8l]
      exact hQ _ _ (.refl _)
    · simp -implicitDefEqProofs (maxSteps := 10000000) (disch := omega) only [and_self, seqQ_normal, seqQ_ret, aC_ret, opsK_eq, retQ_ret, retI, resI, resL, runI_nil, runI_none, runI_some, AI.dst, putP_eq, guard_ff, o_mv, o_pick, o_bin, o_load, o_bst, o_store, pick_ff, loadV, bstV, boxX, writeX, derefI, takeI_some, buildA, n_geq, wp_ok, bind_ok, bind_req, ofOpt_some, req_tt, ev_r, ev_c, evOwn_r, disOp_r, setB_r, putS, Sf.set, Sf.reg, mask_eq, maskR_nil, maskR_cons, getR, setR, maskL, Sf.disAt, Sf.setLoc, look, drop1, dis_lit, dis_agg, own1_lit, own1_sl, cells_lit, cells_agg, solid1_lit, solid1_sl, solid_eq, noL_agg, noL_tup, List.map_cons, List.map_nil, List.length_cons, List.length_nil, List.getElem?_cons_zero, List.getElem?_cons_succ, List.all_cons, List.all_nil, List.drop_zero, List.take_succ_cons, List.take_zero, List.set_cons_zero, List.set_cons_succ, ↓reduceIte, Nat.reduceEqDiff, Nat.reduceAdd, Nat.reduceLeDiff, Int.reduceNeg, Bool.true_and, Bool.and_true, and_true, true_and, Nat.zero_add, decide_true, Bool.false_eq_true, cond_yes, setAt_nil, setAt_cons, f42_6e, f42_7e, f42_8e, f42_8l]
      exact hQ _ _ (.refl _)
  rw [if_neg h1] at hR
  simp only [refAV, wlAV] at hw
  simp -implicitDefEqProofs (maxSteps := 10000000) (disch := omega) only [seqQ_normal, aC_skip, opsK_eq, runI_nil, runI_none, runI_some, AI.dst, putP_eq, guard_ff, o_mv, o_pick, o_bin, o_load, o_newL, o_boxL, o_call, pick_ff, loadV, boxX, derefI, takeI_some, n_lss, n_geq, wp_ok, bind_ok, bind_req, ofOpt_some, req_tt, ev_r, ev_c, ev_f, evOwn_r, setB_r, putS, Sf.set, Sf.reg, mask_eq, maskR_nil, maskR_cons, getR, setR, maskL, Sf.newLoc, look, killR, drop1, regs0, id, dis_lit, dis_agg, own1_lit, own1_sl, cells_agg, solid1_lit, solid1_sl, solid_eq, kill_lit, kill_lptr, kill_agg, List.map_cons, List.map_nil, List.length_cons, List.length_nil, List.all_cons, List.all_nil, List.drop_zero, List.take_succ_cons, List.take_zero, ↓reduceIte, Nat.reduceEqDiff, Nat.reduceAdd, Nat.reduceLeDiff, Int.reduceNeg, Bool.true_and, Bool.and_true, and_true, true_and, reduceCtorEq, Nat.zero_add, decide_true, Bool.false_eq_true, cond_no, guard_no, f42_1e, f42_2e, f42_2l, f42_3e, f42_4e, f42_5e, f42_5l, f42_6e, f42_9e, f42_10e, f42_11e, f42_11l, refAV, wlAV]
  refine call_p rfl e_f49 (hw _) rfl ?_
  by_cases h2 : t ∈ keysP (entC P.S P.V)
  · rw [if_pos h2] at hR
    subst hR
    rw [decide_eq_true h2]
    simp -implicitDefEqProofs (maxSteps := 10000000) (disch := omega) only [and_self, seqQ_normal, seqQ_ret, aC_ret, opsK_eq, retQ_ret, retI, resI, resL, runI_nil, runI_none, putP_eq, cond_tt, o_load, o_bst, o_store, loadV, bstV, boxX, writeX, derefI, takeI_some, buildA, wp_ok, bind_ok, bind_req, ofOpt_some, req_tt, ev_r, ev_c, evOwn_r, disOp_r, setB_r, putS, Sf.set, Sf.reg, mask_eq, maskR_nil, maskR_cons, getR, setR, maskL, Sf.disAt, Sf.setLoc, look, drop1, dis_lit, dis_agg, own1_lit, own1_sl, cells_lit, cells_agg, solid1_lit, solid1_sl, solid_eq, noL_agg, noL_tup, List.map_cons, List.map_nil, List.length_cons, List.length_nil, List.getElem?_cons_zero, List.getElem?_cons_succ, List.all_cons, List.all_nil, List.drop_zero, List.take_succ_cons, List.take_zero, List.set_cons_zero, List.set_cons_succ, ↓reduceIte, Nat.reduceEqDiff, Nat.reduceAdd, Nat.reduceLeDiff, Bool.true_and, Bool.and_true, and_true, true_and, Nat.zero_add, decide_true, setAt_nil, setAt_cons, f42_12e, f42_13e, f42_14e, f42_14l]
    exact hQ _ _ (.refl _)
  rw [if_neg h2] at hR
  rw [decide_eq_false h2]
  cases hcl : P.closed with
  | true =>
    rw [hcl] at hR
    simp only [if_true] at hR
    subst hR
    simp -implicitDefEqProofs (maxSteps := 10000000) (disch := omega) only [and_self, seqQ_normal, seqQ_ret, aC_skip, aC_ret, opsK_eq, retQ_ret, retI, resI, resL, runI_nil, runI_none, putP_eq, cond_tt, cond_ff, o_addr, o_load, o_bst, o_store, loadV, bstV, boxX, writeX, addA, derefI, takeI_none, takeI_some, buildA, wp_ok, bind_ok, bind_req, ofOpt_some, req_tt, ev_r, ev_c, evOwn_r, disOp_r, setB_r, putS, Sf.set, Sf.reg, mask_eq, maskR_nil, maskR_cons, getR, setR, maskL, Sf.disAt, Sf.setLoc, look, drop1, dis_lit, dis_agg, own1_lit, own1_sl, cells_lit, cells_agg, solid1_lit, solid1_sl, solid_eq, noL_agg, noL_tup, List.map_cons, List.map_nil, List.length_cons, List.length_nil, List.getElem?_cons_zero, List.getElem?_cons_succ, List.all_cons, List.all_nil, List.drop_zero, List.drop_succ_cons, List.take_succ_cons, List.take_zero, List.set_cons_zero, List.set_cons_succ, ↓reduceIte, Nat.reduceEqDiff, Nat.reduceAdd, Nat.reduceLeDiff, Bool.true_and, Bool.and_true, and_true, true_and, Nat.zero_add, decide_true, setAt_nil, setAt_cons, f42_12e, f42_15e, f42_16e, f42_17e, f42_17l, f42_18e, f42_19e, f42_20e, f42_20l]
    refine hQ _ _ ?_
    simp only [rrAV, refAV, hcl]
    exact .refl _
  | false =>
    rw [hcl] at hR
    simp only [Bool.false_eq_true, if_false] at hR
    cases hV : P.V with
    | cons x l =>
      have hVl : P.V.length = l.length + 1 := by rw [hV]; rfl
      rw [hV] at hR
      simp only at hR
      subst hR
      have htl : List.take l.length (l.map wAV) = l.map wAV := List.take_of_length_le (by simp)
      simp -implicitDefEqProofs (maxSteps := 10000000) (disch := omega) only [List.contains_nil, List.contains_cons, Nat.reduceBEq, Bool.or_false, ksB, storesOf, newsOf, appsOf, distinctB, finSS, finNN, nstB, nstsOf, h_nil, h_none, hh_mv, hh_addr, hh_load, hh_bsl, hh_bst, hh_store, headAddr_eq, headStore_eq, val_head, tail_eq, cons_store, and_self, seqQ_normal, seqQ_ret, aC_skip, aC_ret, opsK_eq, retQ_ret, retI, resI, resL, runI_nil, runI_none, putP_eq, cond_ff, o_bin, o_addr, o_ixS, o_load, o_len, o_loadOwn, o_sliOwn, o_newL, o_store, ixSV, loadV, sliSV, bslV, bstV, loadOwnX, sliOwnX, boxX, writeX, List.reduceReplicate, ixA, ixTo, lenI, addA, derefI, takeI_none, takeI_some, fillA, buildA, n_gtr, wp_ok, bind_ok, bind_req, ofOpt_some, req_tt, ev_r, ev_c, evOwn_r, disOp_r, setB_r, putS, Sf.set, Sf.reg, mask_eq, maskR_nil, maskR_cons, getR, setR, maskL, Sf.disAt, Sf.newLoc, Sf.setLoc, look, killR, drop1, dropL, dis_lit, dis_sl, dis_agg, own1_lit, own1_sl, cells_lit, cells_sl, cells_agg, solid1_lit, solid1_sl, solid_eq, noL_agg, noL_tup, kill_lit, kill_lptr, kill_cptr, kill_sl, kill_agg, List.map_cons, List.map_nil, List.length_cons, List.length_nil, List.getElem?_cons_zero, List.getElem?_cons_succ, List.getD_cons_zero, List.all_cons, List.all_nil, List.nil_append, List.drop_zero, List.drop_succ_cons, List.take_succ_cons, List.take_zero, List.set_cons_zero, List.set_cons_succ, Int.toNat_zero, Int.toNat_one, ↓reduceIte, Nat.reduceEqDiff, Nat.reduceAdd, Nat.reduceLT, Nat.reduceLeDiff, Int.reduceLE, Bool.true_and, Bool.and_true, and_true, true_and, Nat.zero_add, Nat.add_zero, or_false, decide_true, Bool.not_false, Bool.false_eq_true, List.length_map, req_dec, cond_yes, setAt_nil, setAt_cons, f42_12e, f42_15e, f42_16e, f42_17e, f42_17l, f42_18e, f42_21e, f42_22e, f42_23e, f42_23l, f42_24e, f42_25e, f42_26e, f42_26l, f42_27e, f42_28e, f42_28l, f42_29e, f42_30e, f42_30h, f42_30l, wAV, htl]
      refine hQ _ _ ?_
      simp only [rrAV, refAV, hcl]
      exact .refl _
    | nil =>
      rw [hV] at hR
      simp only at hR
      simp -implicitDefEqProofs (maxSteps := 10000000) (disch := omega) only [seqQ_normal, aC_skip, opsK_eq, runI_nil, runI_none, putP_eq, cond_ff, o_bin, o_addr, o_load, o_len, loadV, lenI, addA, derefI, takeI_none, n_lss, n_gtr, wp_ok, bind_ok, ofOpt_some, ev_r, ev_c, setB_r, putS, Sf.set, Sf.reg, mask_eq, maskR_nil, maskR_cons, getR, setR, maskL, look, dis_lit, dis_sl, List.map_nil, List.length_nil, List.drop_zero, List.drop_succ_cons, Int.cast_ofNat_Int, ↓reduceIte, Nat.reduceEqDiff, Nat.zero_add, Nat.add_zero, cond_no, f42_12e, f42_15e, f42_16e, f42_17e, f42_17l, f42_18e, f42_21e, f42_22e, f42_23e, f42_23l, f42_24e, f42_31e, f42_32e, f42_33e, f42_33l, f42_34e, ints_len]
      refine cond_split (fun h3 => ?_) (fun h3 => ?_)
      · rw [if_pos (by omega)] at hR
        subst hR
        rcases hB : P.buf with _ | ⟨b, B⟩
        · simp -implicitDefEqProofs (maxSteps := 10000000) (disch := omega) only [and_self, seqQ_normal, seqQ_ret, aC_ret, opsK_eq, retQ_ret, retI, resI, resL, runI_nil, runI_none, putP_eq, o_mv, o_addr, o_load, o_bsl, o_bst, o_app, o_appS, o_store, loadV, bslV, bstV, appSX, boxX, writeX, List.isEmpty_cons, List.isEmpty_nil, List.reduceReplicate, addA, derefI, takeI_none, takeI_some, appNewI, srcA, fillA, buildA, wp_ok, bind_ok, bind_req, ofOpt_some, req_tt, ev_r, ev_c, evOwn_r, disOp_r, setB_r, putS, Sf.set, Sf.reg, mask_eq, maskR_nil, maskR_cons, getR, setR, maskL, Sf.disAt, Sf.setLoc, look, drop1, dis_lit, dis_sl, dis_agg, own1_lit, own1_sl, cells_lit, cells_sl, cells_agg, solid1_lit, solid1_sl, solid_eq, noL_agg, noL_tup, List.map_cons, List.map_nil, List.length_cons, List.length_nil, List.getElem?_cons_zero, List.getElem?_cons_succ, List.all_cons, List.all_nil, List.drop_zero, List.drop_succ_cons, List.take_succ_cons, List.take_zero, List.set_cons_zero, List.set_cons_succ, Int.cast_ofNat_Int, ↓reduceIte, Nat.reduceEqDiff, Nat.reduceAdd, Nat.reduceLT, Nat.reduceLeDiff, Bool.true_and, Bool.and_true, and_true, true_and, Nat.zero_add, decide_true, Bool.false_eq_true, room_of, setAt_nil, setAt_cons, f42_35e, f42_36e, f42_36l, f42_37e, f42_38e, f42_38l, ints]
          refine hQ _ _ ?_
          simp only [rrAV, refAV, hcl, hB, hV]
          exact .refl _
        · have hBl : P.buf.length = B.length + 1 := by rw [hB]; rfl
          have hi : ints (b :: B) = .lit (.int .i64 b) :: ints B := rfl
          have hia : ints (b :: B ++ [v]) = .lit (.int .i64 b) :: (ints B ++ [.lit (.int .i64 v)]) := by simp [ints]
          have hid := ints_dis B
          simp -implicitDefEqProofs (maxSteps := 10000000) (disch := omega) only [and_self, seqQ_normal, seqQ_ret, aC_ret, opsK_eq, retQ_ret, retI, resI, resL, runI_nil, runI_none, putP_eq, o_mv, o_addr, o_load, o_bsl, o_bst, o_app, o_appS, o_store, loadV, bslV, bstV, appSX, boxX, writeX, List.isEmpty_cons, List.reduceReplicate, addA, derefI, takeI_none, takeI_some, appNewI, appOwnI, srcA, fillA, buildA, wp_ok, bind_ok, bind_req, ofOpt_some, req_tt, ev_r, ev_c, evOwn_r, disOp_r, setB_r, putS, Sf.set, Sf.reg, mask_eq, maskR_nil, maskR_cons, getR, setR, maskL, Sf.disAt, Sf.setLoc, look, drop1, dis_lit, dis_sl, dis_agg, own1_lit, own1_sl, cells_lit, cells_sl, cells_agg, solid1_lit, solid1_sl, solid_eq, noL_agg, noL_tup, List.map_cons, List.map_nil, List.length_cons, List.length_nil, List.getElem?_cons_zero, List.getElem?_cons_succ, List.all_cons, List.all_nil, List.cons_append, List.drop_zero, List.drop_succ_cons, List.take_succ_cons, List.take_zero, List.set_cons_zero, List.set_cons_succ, ↓reduceIte, Nat.reduceEqDiff, Nat.reduceAdd, Nat.reduceLT, Nat.reduceLeDiff, Bool.true_and, Bool.and_true, and_true, true_and, Nat.zero_add, decide_true, Bool.false_eq_true, List.length_map, room_of, len_setAt, setAt_nil, setAt_cons, f42_35e, f42_36e, f42_36l, f42_37e, f42_38e, f42_38l, hi, ints_len, hid]
          refine hQ _ _ ?_
          simp only [rrAV, refAV, hcl, hB, hV, hia]
          exact .refl _
      · rw [if_neg (by omega)] at hR
        by_cases h4 : t < 0
        · rw [if_pos h4] at hR
          subst hR
          simp -implicitDefEqProofs (maxSteps := 10000000) (disch := omega) only [and_self, seqQ_normal, seqQ_ret, aC_skip, aC_ret, opsK_eq, retQ_ret, retI, resI, resL, runI_nil, runI_none, putP_eq, o_mv, o_bin, o_load, o_bst, o_store, loadV, bstV, boxX, writeX, derefI, takeI_some, buildA, n_lss, wp_ok, bind_ok, bind_req, ofOpt_some, req_tt, ev_r, ev_c, evOwn_r, disOp_r, setB_r, putS, Sf.set, Sf.reg, mask_eq, maskR_nil, maskR_cons, getR, setR, maskL, Sf.disAt, Sf.setLoc, look, drop1, dis_lit, dis_agg, own1_lit, own1_sl, cells_lit, cells_agg, solid1_lit, solid1_sl, solid_eq, noL_agg, noL_tup, List.map_cons, List.map_nil, List.length_cons, List.length_nil, List.getElem?_cons_zero, List.getElem?_cons_succ, List.all_cons, List.all_nil, List.drop_zero, List.take_succ_cons, List.take_zero, List.set_cons_zero, List.set_cons_succ, ↓reduceIte, Nat.reduceEqDiff, Nat.reduceAdd, Nat.reduceLeDiff, Bool.true_and, Bool.and_true, and_true, true_and, Nat.zero_add, decide_true, cond_yes, setAt_nil, setAt_cons, f42_39e, f42_40e, f42_41e, f42_41l, f42_42e, f42_43e, f42_44e, f42_44l]
          refine hQ _ _ ?_
          simp only [rrAV, refAV, hcl, hV]
          exact .refl _
        · rw [if_neg h4] at hR
          subst hR
          have hwp := fun st => with_pure P.S (P.g0 + 1) t v (by omega) st
          simp only [wlAV, wAV] at hwp
          simp -implicitDefEqProofs (maxSteps := 10000000) (disch := omega) only [and_self, seqQ_normal, aC_skip, opsK_eq, runI_nil, runI_none, putP_eq, o_mv, o_bin, o_addr, o_load, o_bst, o_call, loadV, bstV, addA, derefI, takeI_none, buildA, n_lss, wp_ok, bind_ok, ofOpt_some, ev_r, ev_c, ev_f, setB_r, putS, Sf.set, Sf.reg, mask_eq, maskR_nil, maskR_cons, getR, setR, maskL, look, id, dis_lit, dis_sl, cells_lit, cells_agg, solid1_lit, solid_eq, List.map_cons, List.map_nil, List.length_cons, List.length_nil, List.getElem?_cons_zero, List.getElem?_cons_succ, List.all_cons, List.all_nil, List.drop_zero, List.drop_succ_cons, List.set_cons_zero, List.set_cons_succ, ↓reduceIte, Nat.reduceEqDiff, Nat.reduceAdd, Nat.reduceLeDiff, Bool.and_true, and_true, Nat.zero_add, cond_no, setAt_nil, setAt_cons, f42_39e, f42_40e, f42_41e, f42_41l, f42_42e, f42_45e, f42_46e, f42_46l]
          refine call_p rfl e_f50 (hwp _) rfl ?_
          simp -implicitDefEqProofs (maxSteps := 10000000) (disch := omega) only [seqQ_normal, aC_ret, opsK_eq, retQ_ret, retI, resI, resL, runI_nil, runI_none, putP_eq, o_addr, o_load, o_bst, o_store, loadV, bstV, boxX, writeX, addA, derefI, takeI_some, buildA, wp_ok, bind_ok, bind_req, ofOpt_some, req_tt, ev_r, evOwn_r, disOp_r, putS, Sf.set, Sf.reg, mask_eq, maskR_nil, maskR_cons, getR, setR, maskL, Sf.disAt, Sf.setLoc, look, drop1, dis_sl, dis_agg, own1_lit, own1_sl, cells_sl, cells_agg, solid1_lit, solid1_sl, solid_eq, noL_agg, noL_tup, List.map_cons, List.map_nil, List.length_cons, List.length_nil, List.all_cons, List.all_nil, List.drop_zero, List.take_succ_cons, List.take_zero, List.set_cons_zero, List.set_cons_succ, ↓reduceIte, Nat.reduceEqDiff, Nat.reduceAdd, Nat.reduceLeDiff, Bool.true_and, Bool.and_true, and_true, true_and, Nat.zero_add, decide_true, setAt_nil, setAt_cons, f42_47e, f42_48e, f42_48l]
          refine hQ _ _ ?_
          simp only [rrAV, refAV, hcl, hV]
          exact .refl _
end Go.Fx.YtohlpjfhkejjgaaFx

