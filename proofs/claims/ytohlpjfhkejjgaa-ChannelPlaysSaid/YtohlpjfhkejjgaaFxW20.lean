/- What the functions that the statement reaches compute: part 20. -/
import Derived.Test.YtohlpjfhkejjgaaFxW19
namespace Go.Fx.YtohlpjfhkejjgaaFx
open Go Go.Fx
attribute [local irreducible] aC runI headI loopI

set_option maxRecDepth 100000
set_option maxHeartbeats 4000000

theorem chk_2 {P : ChP} {t : Int} (h : t < 0 ∨ 64 ≤ t) : chk P t = 2 := by unfold chk; rw [if_pos h]
theorem chk_b {P : ChP} {t : Int} (h : ¬ (t < 0 ∨ 64 ≤ t)) (h2 : t ∈ keysP (entC P.S P.V)) : chk P t = 11 := by unfold chk; rw [if_neg h, if_pos h2]
theorem chk_0 {P : ChP} {t : Int} (h : ¬ (t < 0 ∨ 64 ≤ t)) (h2 : t ∉ keysP (entC P.S P.V)) : chk P t = 0 := by unfold chk; rw [if_neg h, if_neg h2]

theorem rS_pos (P : ChP) (w t v : Int) (h : 0 ≤ t) (hw : w = 0) : rS P t v = pDo P (w, t, v) := by
  subst hw
  rw [pDo_0]
  unfold rS pSend
  by_cases h1 : 64 ≤ t
  · rw [if_pos (.inr h1), chk_2 (.inr h1)]; rfl
  rw [if_neg (by omega)]
  by_cases h2 : t ∈ keysP (entC P.S P.V)
  · rw [if_pos h2, chk_b (by omega) h2]; rfl
  rw [if_neg h2, chk_0 (by omega) h2]
  unfold pTrySend
  simp only [ne_eq, not_true_eq_false, if_false]
  by_cases h3 : P.closed = true
  · simp only [if_pos h3]; rfl
  simp only [if_neg h3]
  cases hV : P.V with
  | cons x l => rfl
  | nil =>
    simp only
    by_cases h4 : P.buf.length < P.cap
    · simp only [if_pos h4]; rfl
    · simp only [if_neg h4, if_true, if_neg (show ¬ t < 0 by omega)]
theorem rS_neg (P : ChP) (w t v : Int) (h : ∀ t ∈ keysP (entC P.S P.V), 0 ≤ t) (hw : w = 2) : rS P (-1) v = pDo P (w, t, v) := by
  subst hw
  rw [pDo_2]
  unfold rS
  have h2 : ¬ (-1 : Int) ∈ keysP (entC P.S P.V) := fun e => by have := h _ e; omega
  rw [if_neg (by omega), if_neg h2]
  unfold pTrySend
  by_cases h3 : P.closed = true
  · simp only [if_pos h3]; rfl
  simp only [if_neg h3]
  cases hV : P.V with
  | cons x l => rfl
  | nil =>
    simp only
    by_cases h4 : P.buf.length < P.cap
    · simp only [if_pos h4]; rfl
    · simp only [if_neg h4]; rfl
theorem rR_pos (P : ChP) (w t v : Int) (h : 0 ≤ t) (hw : w = 1) : rR P t = pDo P (w, t, v) := by
  subst hw
  rw [pDo_1]
  unfold rR pReceive
  by_cases h1 : 64 ≤ t
  · rw [if_pos (.inr h1), chk_2 (.inr h1)]; rfl
  rw [if_neg (by omega)]
  by_cases h2 : t ∈ keysP (entC P.S P.V)
  · rw [if_pos h2, chk_b (by omega) h2]; rfl
  rw [if_neg h2, chk_0 (by omega) h2]
  unfold pTryReceive
  simp only [ne_eq, not_true_eq_false, if_false]
  cases hS : P.S with
  | cons x l => rfl
  | nil =>
    simp only
    cases hB : P.buf with
    | cons x l => rfl
    | nil =>
      simp only
      by_cases h3 : P.closed = true
      · simp only [if_pos h3]; rfl
      · simp only [if_neg h3, if_true, if_neg (show ¬ t < 0 by omega)]
theorem rR_neg (P : ChP) (w t v : Int) (h : ∀ t ∈ keysP (entC P.S P.V), 0 ≤ t) (hw : w = 3) : rR P (-1) = pDo P (w, t, v) := by
  subst hw
  rw [pDo_3]
  unfold rR
  have h2 : ¬ (-1 : Int) ∈ keysP (entC P.S P.V) := fun e => by have := h _ e; omega
  rw [if_neg (by omega), if_neg h2]
  unfold pTryReceive
  cases hS : P.S with
  | cons x l => rfl
  | nil =>
    simp only
    cases hB : P.buf with
    | cons x l => rfl
    | nil =>
      simp only
      by_cases h3 : P.closed = true
      · simp only [if_pos h3]; rfl
      · simp only [if_neg h3]; rfl

/-- What makes answers. -/
theorem makes_pure (P : ChP) (a : Ca) (hl : Sm P) (hnd : (keysP (entC P.S P.V)).Nodup) (hr : ∀ t ∈ keysP (entC P.S P.V), 0 ≤ t) (st : St) : PCalls Go.Proofs.Try.prog n_f31 [refAV P, caAV a] st (rrAV (pDo P a)) := by
  obtain ⟨w, t, v⟩ := a
  refine pure_le hmix k_f31 rfl rfl (rr_nb _) (by simp [ref_nb, caAV, nb_agg, nb_lit]) (fun Q hQ => ?_) st
  unfold aFun c_f31
  have hs := fun t v => refsend_pure P t v hl ⟨[]⟩
  have hrv := fun t => refrecv_pure P t hl ⟨[]⟩
  have hcn := refcancel_pure P t hl hnd ⟨[]⟩
  have hcl := refclose_pure P hl ⟨[]⟩
  have hq' : Q (rrAV (pDo P (w, t, v))) ⟨[]⟩ := hQ _ _ (.refl _)
  have h0 : w = 0 → t < 0 → pDo P (w, t, v) = (P, 0, false, [], 2) := fun e h => by
    subst e
    rw [pDo_0]; unfold pSend; rw [chk_2 (.inl h)]; rfl
  have h1 : w = 1 → t < 0 → pDo P (w, t, v) = (P, 0, false, [], 2) := fun e h => by
    subst e
    rw [pDo_1]; unfold pReceive; rw [chk_2 (.inl h)]; rfl
  simp only [refAV, wlAV] at hs hrv hcn hcl
  have hfin : ∀ R, pDo P (w, t, v) = R → ∀ w1 w2, rrAV R = .tup [w1, w2] → True := fun _ _ _ _ _ => trivial
  simp -implicitDefEqProofs (maxSteps := 10000000) (disch := omega) only [seqQ_normal, opsK_eq, runI_nil, runI_none, putP_eq, o_bin, o_addr, o_load, o_own, o_newL, o_boxL, loadV, boxX, addA, derefI, takeI_none, n_eql, wp_ok, bind_ok, ofOpt_some, ev_r, ev_c, evOwn_r, putS, Sf.set, Sf.reg, mask_eq, maskR_nil, maskR_cons, getR, setR, maskL, Sf.disAt, Sf.newLoc, look, killR, drop1, regs0, dis_lit, dis_agg, own1_lit, own1_sl, cells_agg, solid1_lit, solid1_sl, solid_eq, kill_lptr, kill_agg, List.map_cons, List.map_nil, List.length_cons, List.length_nil, List.all_cons, List.all_nil, List.drop_zero, ↓reduceIte, Nat.reduceEqDiff, Nat.reduceAdd, Bool.true_and, Bool.and_true, and_true, true_and, reduceCtorEq, Nat.zero_add, Nat.add_zero, f31_1e, f31_2e, f31_2l, f31_3e, f31_4e, f31_5e, f31_5l, f31_6e, f31_7e, f31_8e, f31_8l, f31_9e, refAV, wlAV, caAV]
  refine cond_split (fun e0 => ?_) (fun e0 => ?_)
  · simp -implicitDefEqProofs (maxSteps := 10000000) (disch := omega) only [seqQ_normal, opsK_eq, runI_nil, runI_none, putP_eq, o_bin, o_addr, o_load, loadV, addA, derefI, takeI_none, n_lss, wp_ok, bind_ok, ofOpt_some, ev_r, ev_c, setB_r, putS, Sf.set, Sf.reg, mask_eq, maskR_nil, maskR_cons, getR, setR, maskL, look, dis_lit, List.drop_zero, List.drop_succ_cons, ↓reduceIte, Nat.reduceEqDiff, Nat.zero_add, f31_10e, f31_11e, f31_12e, f31_12l, f31_13e]
    refine cond_split (fun e => ?_) (fun e => ?_)
    · rw [h0 e0 e] at hq'
      simp -implicitDefEqProofs (maxSteps := 10000000) (disch := omega) only [and_self, seqQ_normal, seqQ_ret, blockQ_ret, aC_ret, opsK_eq, retQ_ret, retI, resI, resL, runI_nil, runI_none, putP_eq, o_load, o_bst, o_store, loadV, bstV, boxX, writeX, derefI, takeI_some, buildA, wp_ok, bind_ok, bind_req, ofOpt_some, req_tt, ev_r, ev_c, evOwn_r, disOp_r, setB_r, putS, Sf.set, Sf.reg, mask_eq, maskR_nil, maskR_cons, getR, setR, maskL, Sf.disAt, Sf.setLoc, look, drop1, dis_lit, dis_agg, own1_lit, own1_sl, cells_lit, cells_agg, solid1_lit, solid1_sl, solid_eq, noL_agg, noL_tup, List.map_cons, List.map_nil, List.length_cons, List.length_nil, List.getElem?_cons_zero, List.getElem?_cons_succ, List.all_cons, List.all_nil, List.drop_zero, List.take_succ_cons, List.take_zero, List.set_cons_zero, List.set_cons_succ, ↓reduceIte, Nat.reduceEqDiff, Nat.reduceAdd, Nat.reduceLeDiff, Bool.true_and, Bool.and_true, and_true, true_and, Nat.zero_add, decide_true, setAt_nil, setAt_cons, f31_14e, f31_15e, f31_15l]
      exact hq'
    · simp -implicitDefEqProofs (maxSteps := 10000000) (disch := omega) only [seqQ_normal, aC_skip, runI_none, putP_eq, o_addr, o_load, o_call, loadV, addA, derefI, takeI_none, takeI_some, wp_ok, bind_ok, bind_req, ofOpt_some, req_tt, ev_r, ev_f, setB_r, putS, Sf.set, Sf.reg, getR, setR, look, id, dis_lit, dis_agg, own1_lit, own1_sl, List.map_cons, List.map_nil, List.length_cons, List.length_nil, List.drop_zero, List.drop_succ_cons, List.take_succ_cons, List.take_zero, ↓reduceIte, Nat.reduceEqDiff, Nat.reduceAdd, Nat.reduceLeDiff, Nat.zero_add, decide_true, f31_16e, f31_17e, f31_17l]
      refine call_p rfl e_f42 (hs t v) rfl ?_
      rw [rS_pos P w t v (by omega) e0]
      generalize pDo P (w, t, v) = R at *
      obtain ⟨w1, w2, w3, w4, w5, w6, w7⟩ := itsAV_facts R.2.2.2.1
      simp only [rrAV, refAV, wlAV, rsAV] at hq'
      simp -implicitDefEqProofs (maxSteps := 10000000) (disch := omega) only [seqQ_normal, seqQ_ret, blockQ_ret, aC_ret, opsK_eq, retQ_ret, retI, resI, resL, runI_nil, runI_none, putP_eq, o_ext, o_store, extV, boxX, writeX, derefI, takeI_some, wp_ok, bind_ok, bind_req, ofOpt_some, req_tt, ev_r, evOwn_r, disOp_r, putS, Sf.set, Sf.reg, mask_eq, maskR_nil, maskR_cons, getR, setR, maskL, Sf.disAt, Sf.setLoc, look, drop1, dis_agg, own1_lit, own1_sl, cells_agg, solid1_lit, solid1_sl, solid_eq, noL_agg, noL_tup, List.map_cons, List.map_nil, List.length_cons, List.length_nil, List.getElem?_cons_zero, List.getElem?_cons_succ, List.all_cons, List.all_nil, List.drop_zero, List.take_succ_cons, List.take_zero, List.set_cons_zero, List.set_cons_succ, ↓reduceIte, Nat.reduceEqDiff, Nat.reduceAdd, Nat.reduceLeDiff, Bool.true_and, Bool.and_true, and_true, true_and, Nat.zero_add, decide_true, setAt_nil, setAt_cons, rrAV, refAV, wlAV, rsAV, w2, w4]
      exact hq'
  simp -implicitDefEqProofs (maxSteps := 10000000) (disch := omega) only [seqQ_normal, opsK_eq, runI_nil, runI_none, putP_eq, o_bin, o_own, n_eql, wp_ok, ev_r, ev_c, setB_r, putS, Sf.set, Sf.reg, mask_eq, maskR_nil, maskR_cons, getR, setR, maskL, Sf.disAt, look, dis_lit, ↓reduceIte, Nat.reduceEqDiff, f31_18e, f31_19e, f31_19l, f31_20e]
  refine cond_split (fun e1 => ?_) (fun e1 => ?_)
  · simp -implicitDefEqProofs (maxSteps := 10000000) (disch := omega) only [seqQ_normal, opsK_eq, runI_nil, runI_none, putP_eq, o_bin, o_addr, o_load, loadV, addA, derefI, takeI_none, n_lss, wp_ok, bind_ok, ofOpt_some, ev_r, ev_c, setB_r, putS, Sf.set, Sf.reg, mask_eq, maskR_nil, maskR_cons, getR, setR, maskL, look, dis_lit, List.drop_zero, List.drop_succ_cons, ↓reduceIte, Nat.reduceEqDiff, Nat.zero_add, f31_21e, f31_22e, f31_23e, f31_23l, f31_24e]
    refine cond_split (fun e => ?_) (fun e => ?_)
    · rw [h1 e1 e] at hq'
      simp -implicitDefEqProofs (maxSteps := 10000000) (disch := omega) only [and_self, seqQ_normal, seqQ_ret, blockQ_ret, aC_ret, opsK_eq, retQ_ret, retI, resI, resL, runI_nil, runI_none, putP_eq, o_load, o_bst, o_store, loadV, bstV, boxX, writeX, derefI, takeI_some, buildA, wp_ok, bind_ok, bind_req, ofOpt_some, req_tt, ev_r, ev_c, evOwn_r, disOp_r, setB_r, putS, Sf.set, Sf.reg, mask_eq, maskR_nil, maskR_cons, getR, setR, maskL, Sf.disAt, Sf.setLoc, look, drop1, dis_lit, dis_agg, own1_lit, own1_sl, cells_lit, cells_agg, solid1_lit, solid1_sl, solid_eq, noL_agg, noL_tup, List.map_cons, List.map_nil, List.length_cons, List.length_nil, List.getElem?_cons_zero, List.getElem?_cons_succ, List.all_cons, List.all_nil, List.drop_zero, List.take_succ_cons, List.take_zero, List.set_cons_zero, List.set_cons_succ, ↓reduceIte, Nat.reduceEqDiff, Nat.reduceAdd, Nat.reduceLeDiff, Bool.true_and, Bool.and_true, and_true, true_and, Nat.zero_add, decide_true, setAt_nil, setAt_cons, f31_25e, f31_26e, f31_26l]
      exact hq'
    · simp -implicitDefEqProofs (maxSteps := 10000000) (disch := omega) only [seqQ_normal, aC_skip, runI_none, putP_eq, o_addr, o_load, o_call, loadV, addA, derefI, takeI_none, takeI_some, wp_ok, bind_ok, bind_req, ofOpt_some, req_tt, ev_r, ev_f, setB_r, putS, Sf.set, Sf.reg, getR, setR, look, id, dis_lit, dis_agg, own1_lit, own1_sl, List.map_cons, List.map_nil, List.length_cons, List.length_nil, List.drop_zero, List.drop_succ_cons, List.take_succ_cons, List.take_zero, ↓reduceIte, Nat.reduceEqDiff, Nat.reduceAdd, Nat.reduceLeDiff, Nat.zero_add, decide_true, f31_27e, f31_28e, f31_28l]
      refine call_p rfl e_f43 (hrv t) rfl ?_
      rw [rR_pos P w t v (by omega) e1]
      generalize pDo P (w, t, v) = R at *
      obtain ⟨w1, w2, w3, w4, w5, w6, w7⟩ := itsAV_facts R.2.2.2.1
      simp only [rrAV, refAV, wlAV, rsAV] at hq'
      simp -implicitDefEqProofs (maxSteps := 10000000) (disch := omega) only [seqQ_normal, seqQ_ret, blockQ_ret, aC_ret, opsK_eq, retQ_ret, retI, resI, resL, runI_nil, runI_none, putP_eq, o_ext, o_store, extV, boxX, writeX, derefI, takeI_some, wp_ok, bind_ok, bind_req, ofOpt_some, req_tt, ev_r, evOwn_r, disOp_r, putS, Sf.set, Sf.reg, mask_eq, maskR_nil, maskR_cons, getR, setR, maskL, Sf.disAt, Sf.setLoc, look, drop1, dis_agg, own1_lit, own1_sl, cells_agg, solid1_lit, solid1_sl, solid_eq, noL_agg, noL_tup, List.map_cons, List.map_nil, List.length_cons, List.length_nil, List.getElem?_cons_zero, List.getElem?_cons_succ, List.all_cons, List.all_nil, List.drop_zero, List.take_succ_cons, List.take_zero, List.set_cons_zero, List.set_cons_succ, ↓reduceIte, Nat.reduceEqDiff, Nat.reduceAdd, Nat.reduceLeDiff, Bool.true_and, Bool.and_true, and_true, true_and, Nat.zero_add, decide_true, setAt_nil, setAt_cons, rrAV, refAV, wlAV, rsAV, w2, w4]
      exact hq'
  simp -implicitDefEqProofs (maxSteps := 10000000) (disch := omega) only [seqQ_normal, opsK_eq, runI_nil, runI_none, putP_eq, o_bin, o_own, n_eql, wp_ok, ev_r, ev_c, setB_r, putS, Sf.set, Sf.reg, mask_eq, maskR_nil, maskR_cons, getR, setR, maskL, Sf.disAt, look, dis_lit, ↓reduceIte, Nat.reduceEqDiff, f31_29e, f31_30e, f31_30l, f31_31e]
  refine cond_split (fun e2 => ?_) (fun e2 => ?_)
  · simp -implicitDefEqProofs (maxSteps := 10000000) (disch := omega) only [runI_none, putP_eq, o_addr, o_load, o_call, loadV, addA, derefI, takeI_none, takeI_some, wp_ok, bind_ok, bind_req, ofOpt_some, req_tt, ev_r, ev_c, ev_f, setB_r, putS, Sf.set, Sf.reg, getR, setR, look, id, dis_lit, dis_agg, own1_lit, own1_sl, List.map_cons, List.map_nil, List.length_cons, List.length_nil, List.drop_zero, List.drop_succ_cons, List.take_succ_cons, List.take_zero, ↓reduceIte, Nat.reduceEqDiff, Nat.reduceAdd, Nat.reduceLeDiff, Int.reduceNeg, Nat.zero_add, decide_true, f31_32e, f31_33e, f31_33l]
    refine call_p rfl e_f42 (hs (-1) v) rfl ?_
    rw [rS_neg P w t v hr e2]
    generalize pDo P (w, t, v) = R at *
    obtain ⟨w1, w2, w3, w4, w5, w6, w7⟩ := itsAV_facts R.2.2.2.1
    simp only [rrAV, refAV, wlAV, rsAV] at hq'
    simp -implicitDefEqProofs (maxSteps := 10000000) (disch := omega) only [seqQ_normal, seqQ_ret, blockQ_ret, aC_ret, opsK_eq, retQ_ret, retI, resI, resL, runI_nil, runI_none, putP_eq, o_ext, o_store, extV, boxX, writeX, derefI, takeI_some, wp_ok, bind_ok, bind_req, ofOpt_some, req_tt, ev_r, evOwn_r, disOp_r, putS, Sf.set, Sf.reg, mask_eq, maskR_nil, maskR_cons, getR, setR, maskL, Sf.disAt, Sf.setLoc, look, drop1, dis_agg, own1_lit, own1_sl, cells_agg, solid1_lit, solid1_sl, solid_eq, noL_agg, noL_tup, List.map_cons, List.map_nil, List.length_cons, List.length_nil, List.getElem?_cons_zero, List.getElem?_cons_succ, List.all_cons, List.all_nil, List.drop_zero, List.take_succ_cons, List.take_zero, List.set_cons_zero, List.set_cons_succ, ↓reduceIte, Nat.reduceEqDiff, Nat.reduceAdd, Nat.reduceLeDiff, Bool.true_and, Bool.and_true, and_true, true_and, Nat.zero_add, decide_true, setAt_nil, setAt_cons, rrAV, refAV, wlAV, rsAV, w2, w4]
    exact hq'
  simp -implicitDefEqProofs (maxSteps := 10000000) (disch := omega) only [seqQ_normal, opsK_eq, runI_nil, runI_none, putP_eq, o_bin, o_own, n_eql, wp_ok, ev_r, ev_c, setB_r, putS, Sf.set, Sf.reg, mask_eq, maskR_nil, maskR_cons, getR, setR, maskL, Sf.disAt, look, dis_lit, ↓reduceIte, Nat.reduceEqDiff, f31_34e, f31_35e, f31_35l, f31_36e]
  refine cond_split (fun e3 => ?_) (fun e3 => ?_)
  · simp -implicitDefEqProofs (maxSteps := 10000000) (disch := omega) only [runI_none, putP_eq, o_load, o_call, loadV, derefI, takeI_some, wp_ok, bind_ok, bind_req, ofOpt_some, req_tt, ev_r, ev_c, ev_f, setB_r, putS, Sf.set, Sf.reg, getR, setR, look, id, dis_agg, own1_lit, own1_sl, List.map_cons, List.map_nil, List.length_cons, List.length_nil, List.drop_zero, List.take_succ_cons, List.take_zero, ↓reduceIte, Nat.reduceEqDiff, Nat.reduceAdd, Nat.reduceLeDiff, Int.reduceNeg, Nat.zero_add, decide_true, f31_37e, f31_38e, f31_38l]
    refine call_p rfl e_f43 (hrv (-1)) rfl ?_
    rw [rR_neg P w t v hr e3]
    generalize pDo P (w, t, v) = R at *
    obtain ⟨w1, w2, w3, w4, w5, w6, w7⟩ := itsAV_facts R.2.2.2.1
    simp only [rrAV, refAV, wlAV, rsAV] at hq'
    simp -implicitDefEqProofs (maxSteps := 10000000) (disch := omega) only [seqQ_normal, seqQ_ret, blockQ_ret, aC_ret, opsK_eq, retQ_ret, retI, resI, resL, runI_nil, runI_none, putP_eq, o_ext, o_store, extV, boxX, writeX, derefI, takeI_some, wp_ok, bind_ok, bind_req, ofOpt_some, req_tt, ev_r, evOwn_r, disOp_r, putS, Sf.set, Sf.reg, mask_eq, maskR_nil, maskR_cons, getR, setR, maskL, Sf.disAt, Sf.setLoc, look, drop1, dis_agg, own1_lit, own1_sl, cells_agg, solid1_lit, solid1_sl, solid_eq, noL_agg, noL_tup, List.map_cons, List.map_nil, List.length_cons, List.length_nil, List.getElem?_cons_zero, List.getElem?_cons_succ, List.all_cons, List.all_nil, List.drop_zero, List.take_succ_cons, List.take_zero, List.set_cons_zero, List.set_cons_succ, ↓reduceIte, Nat.reduceEqDiff, Nat.reduceAdd, Nat.reduceLeDiff, Bool.true_and, Bool.and_true, and_true, true_and, Nat.zero_add, decide_true, setAt_nil, setAt_cons, rrAV, refAV, wlAV, rsAV, w2, w4]
    exact hq'
  simp -implicitDefEqProofs (maxSteps := 10000000) (disch := omega) only [seqQ_normal, opsK_eq, runI_nil, runI_none, putP_eq, o_bin, o_own, n_eql, wp_ok, ev_r, ev_c, setB_r, putS, Sf.set, Sf.reg, mask_eq, maskR_nil, maskR_cons, getR, setR, maskL, Sf.disAt, look, dis_lit, ↓reduceIte, Nat.reduceEqDiff, f31_39e, f31_40e, f31_40l, f31_41e]
  refine cond_split (fun e4 => ?_) (fun e4 => ?_)
  · have hd : pDo P (w, t, v) = ((pCancel P t).1, 0, false, [], (pCancel P t).2) := by
      unfold pDo; simp only [if_neg e0, if_neg e1, if_neg e2, if_neg e3, if_pos e4]
    rw [hd] at hq'
    simp -implicitDefEqProofs (maxSteps := 10000000) (disch := omega) only [runI_none, putP_eq, o_addr, o_load, o_call, loadV, addA, derefI, takeI_none, takeI_some, wp_ok, bind_ok, bind_req, ofOpt_some, req_tt, ev_r, ev_f, setB_r, putS, Sf.set, Sf.reg, getR, setR, look, id, dis_lit, dis_agg, own1_lit, own1_sl, List.map_cons, List.map_nil, List.length_cons, List.length_nil, List.drop_zero, List.drop_succ_cons, List.take_succ_cons, List.take_zero, ↓reduceIte, Nat.reduceEqDiff, Nat.reduceAdd, Nat.reduceLeDiff, Nat.zero_add, decide_true, f31_42e, f31_43e, f31_43l]
    refine call_p rfl e_f44 hcn rfl ?_
    generalize (((pCancel P t).1, 0, false, [], (pCancel P t).2) : ChP × Rs) = R at *
    obtain ⟨w1, w2, w3, w4, w5, w6, w7⟩ := itsAV_facts R.2.2.2.1
    simp only [rrAV, refAV, wlAV, rsAV] at hq'
    simp -implicitDefEqProofs (maxSteps := 10000000) (disch := omega) only [seqQ_normal, seqQ_ret, blockQ_ret, aC_ret, opsK_eq, retQ_ret, retI, resI, resL, runI_nil, runI_none, putP_eq, o_ext, o_store, extV, boxX, writeX, derefI, takeI_some, wp_ok, bind_ok, bind_req, ofOpt_some, req_tt, ev_r, evOwn_r, disOp_r, putS, Sf.set, Sf.reg, mask_eq, maskR_nil, maskR_cons, getR, setR, maskL, Sf.disAt, Sf.setLoc, look, drop1, dis_agg, own1_lit, own1_sl, cells_agg, solid1_lit, solid1_sl, solid_eq, noL_agg, noL_tup, List.map_cons, List.map_nil, List.length_cons, List.length_nil, List.getElem?_cons_zero, List.getElem?_cons_succ, List.all_cons, List.all_nil, List.drop_zero, List.take_succ_cons, List.take_zero, List.set_cons_zero, List.set_cons_succ, ↓reduceIte, Nat.reduceEqDiff, Nat.reduceAdd, Nat.reduceLeDiff, Bool.true_and, Bool.and_true, and_true, true_and, Nat.zero_add, decide_true, setAt_nil, setAt_cons, rrAV, refAV, wlAV, rsAV, w2, w4]
    exact hq'
  · have hd : pDo P (w, t, v) = ((pClose P).1, 0, false, (pClose P).2.1, (pClose P).2.2) := by
      unfold pDo; simp only [if_neg e0, if_neg e1, if_neg e2, if_neg e3, if_neg e4]
    rw [hd] at hq'
    simp -implicitDefEqProofs (maxSteps := 10000000) (disch := omega) only [seqQ_normal, blockQ_normal, aC_skip, runI_none, putP_eq, o_load, o_call, loadV, derefI, takeI_some, wp_ok, bind_ok, bind_req, ofOpt_some, req_tt, ev_r, ev_f, setB_r, putS, Sf.set, Sf.reg, getR, setR, look, id, dis_agg, own1_lit, own1_sl, List.map_cons, List.map_nil, List.length_cons, List.length_nil, List.drop_zero, List.take_succ_cons, List.take_zero, ↓reduceIte, Nat.reduceEqDiff, Nat.reduceAdd, Nat.reduceLeDiff, Nat.zero_add, decide_true, f31_44e, f31_45e, f31_45l]
    refine call_p rfl e_f45 hcl rfl ?_
    generalize (((pClose P).1, 0, false, (pClose P).2.1, (pClose P).2.2) : ChP × Rs) = R at *
    obtain ⟨w1, w2, w3, w4, w5, w6, w7⟩ := itsAV_facts R.2.2.2.1
    simp only [rrAV, refAV, wlAV, rsAV] at hq'
    simp -implicitDefEqProofs (maxSteps := 10000000) (disch := omega) only [seqQ_normal, aC_ret, opsK_eq, retQ_ret, retI, resI, resL, runI_nil, runI_none, putP_eq, o_ext, o_store, extV, boxX, writeX, derefI, takeI_some, wp_ok, bind_ok, bind_req, ofOpt_some, req_tt, ev_r, evOwn_r, disOp_r, putS, Sf.set, Sf.reg, mask_eq, maskR_nil, maskR_cons, getR, setR, maskL, Sf.disAt, Sf.setLoc, look, drop1, dis_agg, own1_lit, own1_sl, cells_agg, solid1_lit, solid1_sl, solid_eq, noL_agg, noL_tup, List.map_cons, List.map_nil, List.length_cons, List.length_nil, List.getElem?_cons_zero, List.getElem?_cons_succ, List.all_cons, List.all_nil, List.drop_zero, List.take_succ_cons, List.take_zero, List.set_cons_zero, List.set_cons_succ, ↓reduceIte, Nat.reduceEqDiff, Nat.reduceAdd, Nat.reduceLeDiff, Bool.true_and, Bool.and_true, and_true, true_and, Nat.zero_add, decide_true, setAt_nil, setAt_cons, rrAV, refAV, wlAV, rsAV, w2, w4]
    exact hq'
end Go.Fx.YtohlpjfhkejjgaaFx

