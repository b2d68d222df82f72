/- What the functions that the statement reaches compute: part 11. -/
import Derived.Test.YtohlpjfhkejjgaaFxW10
namespace Go.Fx.YtohlpjfhkejjgaaFx
open Go Go.Fx
attribute [local irreducible] aC runI headI loopI

set_option maxRecDepth 100000
set_option maxHeartbeats 4000000

/-- A call of the law's: what, task, value. -/
abbrev Ca := Int × Int × Int
def caAV (a : Ca) : AV := .agg [.lit (.int .i64 a.1), .lit (.int .i64 a.2.1), .lit (.int .i64 a.2.2)]
/-- What it comes to: value, done, ended, error. -/
abbrev Rs := Int × Bool × List It × Int
def rsAV (x : Rs) : AV := .agg [.lit (.int .i64 x.1), .lit (.bool x.2.1), itsAV x.2.2.1, .lit (.int .i64 x.2.2.2)]
def pDo (P : ChP) (a : Ca) : ChP × Rs :=
  if a.1 = 0 then ((pSend P a.2.1 a.2.2).1, 0, (pSend P a.2.1 a.2.2).2.1, (pSend P a.2.1 a.2.2).2.2.1, (pSend P a.2.1 a.2.2).2.2.2)
  else if a.1 = 1 then ((pReceive P a.2.1).1, (pReceive P a.2.1).2.1, (pReceive P a.2.1).2.2.1, (pReceive P a.2.1).2.2.2.1, (pReceive P a.2.1).2.2.2.2)
  else if a.1 = 2 then ((pTrySend P a.2.2).1, 0, decide ((pTrySend P a.2.2).2.2 = 0), (pTrySend P a.2.2).2.1, (pTrySend P a.2.2).2.2)
  else if a.1 = 3 then ((pTryReceive P).1, (pTryReceive P).2.1, decide ((pTryReceive P).2.2.2 = 0), (pTryReceive P).2.2.1, (pTryReceive P).2.2.2)
  else if a.1 = 4 then ((pCancel P a.2.1).1, 0, false, [], (pCancel P a.2.1).2)
  else ((pClose P).1, 0, false, (pClose P).2.1, (pClose P).2.2)

section
variable {st : St} {c q0 m0 q1 m1 wid : Nat} {bv : AV} {P : ChP}

theorem cdo_calls (h : ChIs st c P q0 m0 q1 m1 wid bv) (a : Ca) {n : Nat} (hb : Bd P n ∧ n < 3000) :
    ACalls Go.Proofs.Try.prog n_f11 [.ptr c 0, caAV a] st (fun r st' => r = rsAV (pDo P a).2 ∧ ChPost st c (pDo P a).1 q0 m0 q1 m1 wid bv st') := by
  have hbd := hb
  unfold Bd at hb
  obtain ⟨w, t, v⟩ := a
  refine acalls_op hmix k_f11 rfl rfl fun Q hQ => ?_
  unfold aFun c_f11
  generalize hR : pDo P (w, t, v) = R at hQ
  unfold pDo at hR
  simp only at hR
  simp -implicitDefEqProofs (maxSteps := 10000000) (disch := omega) only [seqQ_normal, opsK_eq, runI_nil, runI_none, putP_eq, o_mv, o_bin, o_addr, o_load, o_own, o_newL, o_boxL, loadV, boxX, addA, derefI, takeI_none, n_eql, wp_ok, bind_ok, ofOpt_some, ev_r, ev_c, evOwn_r, putS, Sf.set, Sf.reg, mask_eq, maskR_nil, maskR_cons, getR, setR, maskL, Sf.disAt, Sf.newLoc, look, killR, drop1, regs0, dis_lit, dis_ptr, dis_agg, own1_lit, cells_agg, solid1_lit, solid_eq, kill_ptr, kill_lptr, kill_agg, List.map_cons, List.map_nil, List.length_cons, List.length_nil, List.all_cons, List.all_nil, List.drop_zero, ↓reduceIte, Nat.reduceEqDiff, Nat.reduceAdd, Bool.true_and, Bool.and_true, and_true, true_and, reduceCtorEq, Nat.zero_add, Nat.add_zero, f11_1e, f11_2e, f11_2l, f11_3e, f11_4e, f11_4l, f11_5e, f11_6e, f11_6l, f11_7e, f11_8e, f11_9e, f11_9l, f11_10e, f11_11e, f11_12e, f11_12l, f11_13e, caAV]
  refine cond_split (fun h0 => ?_) (fun h0 => ?_)
  · rw [if_pos h0] at hR
    subst hR
    simp -implicitDefEqProofs (maxSteps := 10000000) (disch := omega) only [runI_none, putP_eq, o_mv, o_addr, o_load, o_call, loadV, addA, derefI, takeI_none, wp_ok, bind_ok, ofOpt_some, ev_r, ev_f, setB_r, putS, Sf.set, Sf.reg, getR, setR, look, id, dis_lit, dis_ptr, List.map_cons, List.map_nil, List.drop_zero, List.drop_succ_cons, ↓reduceIte, Nat.reduceEqDiff, reduceCtorEq, Nat.zero_add, f11_14e, f11_14l]
    refine call_a rfl e_f26 (csend_calls h t v hbd) rfl fun r st1 hr => ?_
    obtain ⟨rfl, h1⟩ := hr
    obtain ⟨w1, w2, w3, w4, w5, w6, w7⟩ := itsAV_facts (pSend P t v).2.2.1
    simp -implicitDefEqProofs (maxSteps := 10000000) (disch := omega) only [seqQ_normal, blockQ_normal, aC_ret, opsK_eq, retQ_ret, retI, resI, runI_nil, runI_none, putP_eq, o_mv, o_ext, o_addr, o_load, o_own, o_store, extV, loadV, boxX, writeX, addA, derefI, takeI_some, wp_ok, bind_ok, bind_req, ofOpt_some, req_tt, ev_r, evOwn_r, disOp_r, putS, Sf.set, Sf.reg, mask_eq, maskR_nil, maskR_cons, getR, setR, maskL, Sf.disAt, Sf.setLoc, look, drop1, dis_lit, dis_agg, dis_tup, own1_lit, own2_lit, cells_lit, cells_agg, solid1_lit, solid_eq, noL_agg, List.map_cons, List.map_nil, List.length_cons, List.length_nil, List.getElem?_cons_zero, List.getElem?_cons_succ, List.all_cons, List.all_nil, List.drop_zero, List.take_succ_cons, List.take_zero, List.set_cons_zero, List.set_cons_succ, ↓reduceIte, Nat.reduceEqDiff, Nat.reduceAdd, Nat.reduceLeDiff, Bool.true_and, Bool.and_true, and_true, true_and, reduceCtorEq, Nat.zero_add, decide_true, setAt_nil, setAt_cons, f11_36e, f11_37e, f11_37l, f11_38e, f11_39e, f11_39l, w1, w2, w3, w4, w6]
    exact hQ _ _ ⟨rfl, h1⟩
  rw [if_neg h0] at hR
  simp -implicitDefEqProofs (maxSteps := 10000000) (disch := omega) only [seqQ_normal, opsK_eq, runI_nil, runI_none, putP_eq, o_bin, o_own, n_eql, wp_ok, ev_r, ev_c, setB_r, putS, Sf.set, Sf.reg, mask_eq, maskR_nil, maskR_cons, getR, setR, maskL, Sf.disAt, look, dis_lit, ↓reduceIte, Nat.reduceEqDiff, reduceCtorEq, f11_15e, f11_16e, f11_16l, f11_17e]
  refine cond_split (fun h1 => ?_) (fun h1 => ?_)
  · rw [if_pos h1] at hR
    subst hR
    simp -implicitDefEqProofs (maxSteps := 10000000) (disch := omega) only [runI_none, putP_eq, o_mv, o_addr, o_load, o_call, loadV, addA, derefI, takeI_none, wp_ok, bind_ok, ofOpt_some, ev_r, ev_f, setB_r, putS, Sf.set, Sf.reg, getR, setR, look, id, dis_lit, dis_ptr, List.map_cons, List.map_nil, List.drop_zero, List.drop_succ_cons, ↓reduceIte, Nat.reduceEqDiff, reduceCtorEq, Nat.zero_add, f11_18e, f11_18l]
    refine call_a rfl e_f27 (creceive_calls h t hbd) rfl fun r st1 hr => ?_
    obtain ⟨rfl, h1⟩ := hr
    obtain ⟨w1, w2, w3, w4, w5, w6, w7⟩ := itsAV_facts (pReceive P t).2.2.2.1
    simp -implicitDefEqProofs (maxSteps := 10000000) (disch := omega) only [seqQ_normal, blockQ_normal, aC_ret, opsK_eq, retQ_ret, retI, resI, runI_nil, runI_none, putP_eq, o_mv, o_ext, o_addr, o_load, o_own, o_store, extV, loadV, boxX, writeX, addA, derefI, takeI_some, wp_ok, bind_ok, bind_req, ofOpt_some, req_tt, ev_r, evOwn_r, disOp_r, putS, Sf.set, Sf.reg, mask_eq, maskR_nil, maskR_cons, getR, setR, maskL, Sf.disAt, Sf.setLoc, look, drop1, dis_lit, dis_agg, dis_tup, own1_lit, own2_lit, cells_lit, cells_agg, solid1_lit, solid_eq, noL_agg, List.map_cons, List.map_nil, List.length_cons, List.length_nil, List.getElem?_cons_zero, List.getElem?_cons_succ, List.all_cons, List.all_nil, List.drop_zero, List.take_succ_cons, List.take_zero, List.set_cons_zero, List.set_cons_succ, ↓reduceIte, Nat.reduceEqDiff, Nat.reduceAdd, Nat.reduceLeDiff, Bool.true_and, Bool.and_true, and_true, true_and, reduceCtorEq, Nat.zero_add, Nat.add_zero, decide_true, setAt_nil, setAt_cons, f11_36e, f11_37e, f11_37l, f11_38e, f11_39e, f11_39l, w1, w2, w3, w4, w6]
    exact hQ _ _ ⟨rfl, h1⟩
  rw [if_neg h1] at hR
  simp -implicitDefEqProofs (maxSteps := 10000000) (disch := omega) only [seqQ_normal, opsK_eq, runI_nil, runI_none, putP_eq, o_bin, o_own, n_eql, wp_ok, ev_r, ev_c, setB_r, putS, Sf.set, Sf.reg, mask_eq, maskR_nil, maskR_cons, getR, setR, maskL, Sf.disAt, look, dis_lit, ↓reduceIte, Nat.reduceEqDiff, reduceCtorEq, f11_19e, f11_20e, f11_20l, f11_21e]
  refine cond_split (fun h2 => ?_) (fun h2 => ?_)
  · rw [if_pos h2] at hR
    subst hR
    simp -implicitDefEqProofs (maxSteps := 10000000) (disch := omega) only [runI_none, putP_eq, o_mv, o_addr, o_load, o_call, loadV, addA, derefI, takeI_none, wp_ok, bind_ok, ofOpt_some, ev_r, ev_f, setB_r, putS, Sf.set, Sf.reg, getR, setR, look, id, dis_lit, dis_ptr, List.map_cons, List.map_nil, List.drop_zero, List.drop_succ_cons, ↓reduceIte, Nat.reduceEqDiff, reduceCtorEq, Nat.zero_add, f11_22e, f11_23e, f11_23l]
    refine call_a rfl e_f21 (ctrysend_calls h v (by omega)) rfl fun r st1 hr => ?_
    obtain ⟨rfl, h1⟩ := hr
    obtain ⟨w1, w2, w3, w4, w5, w6, w7⟩ := itsAV_facts (pTrySend P v).2.1
    simp -implicitDefEqProofs (maxSteps := 10000000) (disch := omega) only [seqQ_normal, blockQ_normal, aC_ret, opsK_eq, retQ_ret, retI, resI, runI_nil, runI_none, putP_eq, o_mv, o_bin, o_ext, o_addr, o_load, o_own, o_store, extV, loadV, boxX, writeX, addA, derefI, takeI_some, n_eql, wp_ok, bind_ok, bind_req, ofOpt_some, req_tt, ev_r, ev_c, evOwn_r, disOp_r, putS, Sf.set, Sf.reg, mask_eq, maskR_nil, maskR_cons, getR, setR, maskL, Sf.disAt, Sf.setLoc, look, drop1, dis_lit, dis_agg, dis_tup, own1_lit, own2_lit, cells_lit, cells_agg, solid1_lit, solid_eq, noL_agg, List.map_cons, List.map_nil, List.length_cons, List.length_nil, List.getElem?_cons_zero, List.getElem?_cons_succ, List.all_cons, List.all_nil, List.drop_zero, List.take_succ_cons, List.take_zero, List.set_cons_zero, List.set_cons_succ, ↓reduceIte, Nat.reduceEqDiff, Nat.reduceAdd, Nat.reduceLeDiff, Bool.true_and, Bool.and_true, and_true, true_and, reduceCtorEq, Nat.zero_add, decide_true, setAt_nil, setAt_cons, f11_24e, f11_24l, f11_36e, f11_37e, f11_37l, f11_38e, f11_39e, f11_39l, w1, w2, w3, w4, w6]
    exact hQ _ _ ⟨rfl, h1⟩
  rw [if_neg h2] at hR
  simp -implicitDefEqProofs (maxSteps := 10000000) (disch := omega) only [seqQ_normal, opsK_eq, runI_nil, runI_none, putP_eq, o_bin, o_own, n_eql, wp_ok, ev_r, ev_c, setB_r, putS, Sf.set, Sf.reg, mask_eq, maskR_nil, maskR_cons, getR, setR, maskL, Sf.disAt, look, dis_lit, ↓reduceIte, Nat.reduceEqDiff, reduceCtorEq, f11_25e, f11_26e, f11_26l, f11_27e]
  refine cond_split (fun h3 => ?_) (fun h3 => ?_)
  · rw [if_pos h3] at hR
    subst hR
    simp -implicitDefEqProofs (maxSteps := 10000000) (disch := omega) only [runI_none, o_mv, o_call, ev_r, ev_f, setB_r, putS, Sf.set, Sf.reg, getR, setR, id, dis_ptr, List.map_cons, List.map_nil, ↓reduceIte, Nat.reduceEqDiff, reduceCtorEq, f11_28e, f11_29e, f11_29l]
    refine call_a rfl e_f20 (ctryreceive_calls h hbd) rfl fun r st1 hr => ?_
    obtain ⟨rfl, h1⟩ := hr
    obtain ⟨w1, w2, w3, w4, w5, w6, w7⟩ := itsAV_facts (pTryReceive P).2.2.1
    simp -implicitDefEqProofs (maxSteps := 10000000) (disch := omega) only [seqQ_normal, blockQ_normal, aC_ret, opsK_eq, retQ_ret, retI, resI, runI_nil, runI_none, putP_eq, o_mv, o_bin, o_ext, o_addr, o_load, o_own, o_store, extV, loadV, boxX, writeX, addA, derefI, takeI_some, n_eql, wp_ok, bind_ok, bind_req, ofOpt_some, req_tt, ev_r, ev_c, evOwn_r, disOp_r, putS, Sf.set, Sf.reg, mask_eq, maskR_nil, maskR_cons, getR, setR, maskL, Sf.disAt, Sf.setLoc, look, drop1, dis_lit, dis_agg, dis_tup, own1_lit, own2_lit, cells_lit, cells_agg, solid1_lit, solid_eq, noL_agg, List.map_cons, List.map_nil, List.length_cons, List.length_nil, List.getElem?_cons_zero, List.getElem?_cons_succ, List.all_cons, List.all_nil, List.drop_zero, List.take_succ_cons, List.take_zero, List.set_cons_zero, List.set_cons_succ, ↓reduceIte, Nat.reduceEqDiff, Nat.reduceAdd, Nat.reduceLeDiff, Bool.true_and, Bool.and_true, and_true, true_and, reduceCtorEq, Nat.zero_add, Nat.add_zero, decide_true, setAt_nil, setAt_cons, f11_30e, f11_30l, f11_36e, f11_37e, f11_37l, f11_38e, f11_39e, f11_39l, w1, w2, w3, w4, w6]
    exact hQ _ _ ⟨rfl, h1⟩
  rw [if_neg h3] at hR
  simp -implicitDefEqProofs (maxSteps := 10000000) (disch := omega) only [seqQ_normal, opsK_eq, runI_nil, runI_none, putP_eq, o_bin, o_own, n_eql, wp_ok, ev_r, ev_c, setB_r, putS, Sf.set, Sf.reg, mask_eq, maskR_nil, maskR_cons, getR, setR, maskL, Sf.disAt, look, dis_lit, ↓reduceIte, Nat.reduceEqDiff, reduceCtorEq, f11_31e, f11_32e, f11_32l, f11_33e]
  refine cond_split (fun h4 => ?_) (fun h4 => ?_)
  · rw [if_pos h4] at hR
    subst hR
    simp -implicitDefEqProofs (maxSteps := 10000000) (disch := omega) only [runI_none, putP_eq, o_mv, o_addr, o_load, o_call, loadV, addA, derefI, takeI_none, wp_ok, bind_ok, ofOpt_some, ev_r, ev_f, setB_r, putS, Sf.set, Sf.reg, getR, setR, look, id, dis_lit, dis_ptr, List.map_cons, List.map_nil, List.drop_zero, List.drop_succ_cons, ↓reduceIte, Nat.reduceEqDiff, reduceCtorEq, Nat.zero_add, f11_34e, f11_34l]
    refine call_a rfl e_f28 (ccancel_calls h t (by omega)) rfl fun r st1 hr => ?_
    obtain ⟨rfl, h1⟩ := hr
    simp -implicitDefEqProofs (maxSteps := 10000000) (disch := omega) only [seqQ_normal, blockQ_normal, aC_ret, opsK_eq, retQ_ret, retI, resI, runI_nil, runI_none, putP_eq, o_mv, o_addr, o_load, o_own, o_store, loadV, boxX, writeX, addA, derefI, takeI_some, wp_ok, bind_ok, bind_req, ofOpt_some, req_tt, ev_r, evOwn_r, disOp_r, putS, Sf.set, Sf.reg, mask_eq, maskR_nil, maskR_cons, getR, setR, maskL, Sf.disAt, Sf.setLoc, look, drop1, dis_lit, dis_agg, own1_lit, cells_lit, cells_agg, solid1_lit, solid_eq, noL_agg, List.map_cons, List.map_nil, List.length_cons, List.length_nil, List.all_cons, List.all_nil, List.drop_zero, List.take_succ_cons, List.take_zero, List.set_cons_zero, List.set_cons_succ, ↓reduceIte, Nat.reduceEqDiff, Nat.reduceAdd, Nat.reduceLeDiff, Bool.true_and, Bool.and_true, and_true, true_and, reduceCtorEq, Nat.zero_add, decide_true, setAt_nil, setAt_cons, f11_36e, f11_37e, f11_37l, f11_38e, f11_39e, f11_39l]
    exact hQ _ _ ⟨rfl, h1⟩
  · rw [if_neg h4] at hR
    subst hR
    simp -implicitDefEqProofs (maxSteps := 10000000) (disch := omega) only [runI_none, o_mv, o_call, ev_r, ev_f, setB_r, putS, Sf.set, Sf.reg, getR, setR, id, dis_ptr, List.map_cons, List.map_nil, ↓reduceIte, Nat.reduceEqDiff, reduceCtorEq, f11_35e, f11_35l]
    refine call_a rfl e_f19 (cclose_calls h hbd) rfl fun r st1 hr => ?_
    obtain ⟨rfl, h1⟩ := hr
    obtain ⟨w1, w2, w3, w4, w5, w6, w7⟩ := itsAV_facts (pClose P).2.1
    simp -implicitDefEqProofs (maxSteps := 10000000) (disch := omega) only [seqQ_normal, blockQ_normal, aC_ret, opsK_eq, retQ_ret, retI, resI, runI_nil, runI_none, putP_eq, o_mv, o_ext, o_addr, o_load, o_own, o_store, extV, loadV, boxX, writeX, addA, derefI, takeI_some, wp_ok, bind_ok, bind_req, ofOpt_some, req_tt, ev_r, evOwn_r, disOp_r, putS, Sf.set, Sf.reg, mask_eq, maskR_nil, maskR_cons, getR, setR, maskL, Sf.disAt, Sf.setLoc, look, drop1, dis_lit, dis_agg, dis_tup, own1_lit, own2_lit, cells_lit, cells_agg, solid1_lit, solid_eq, noL_agg, List.map_cons, List.map_nil, List.length_cons, List.length_nil, List.getElem?_cons_zero, List.getElem?_cons_succ, List.all_cons, List.all_nil, List.drop_zero, List.take_succ_cons, List.take_zero, List.set_cons_zero, List.set_cons_succ, ↓reduceIte, Nat.reduceEqDiff, Nat.reduceAdd, Nat.reduceLeDiff, Bool.true_and, Bool.and_true, and_true, true_and, reduceCtorEq, Nat.zero_add, decide_true, setAt_nil, setAt_cons, f11_36e, f11_37e, f11_37l, f11_38e, f11_39e, f11_39l, w1, w2, w3, w4, w6]
    exact hQ _ _ ⟨rfl, h1⟩
end
end Go.Fx.YtohlpjfhkejjgaaFx

