/- What the functions that the statement reaches compute: part 16. -/
import Derived.Test.YtohlpjfhkejjgaaFxW15
namespace Go.Fx.YtohlpjfhkejjgaaFx
open Go Go.Fx
attribute [local irreducible] aC runI headI loopI

set_option maxRecDepth 100000
set_option maxHeartbeats 4000000

theorem channelNew_law (n : Int) : ACalls Go.Proofs.Try.prog n_f4 [.lit (.int .i64 n)] ⟨[]⟩ (fun v _ => v = .lit (.bool true)) := by
  refine acalls_op hmix k_f4 rfl rfl fun Q hQ => ?_
  unfold aFun c_f4
  simp -implicitDefEqProofs (maxSteps := 10000000) (disch := omega) only [seqQ_normal, opsK_eq, runI_nil, runI_none, o_mv, o_call, ev_r, ev_c, ev_f, putS, Sf.set, Sf.reg, mask_eq, maskR_nil, maskR_cons, getR, setR, maskL, regs0, id, dis_lit, List.map_cons, List.map_nil, ↓reduceIte, reduceCtorEq, f4_1e, f4_2e, f4_2l, f4_3e, f4_4e, f4_4l]
  by_cases hn : n < 0 ∨ 4096 < n
  · refine call_p rfl e_f9 (cnew_err hn _) rfl ?_
    simp -implicitDefEqProofs (maxSteps := 10000000) (disch := omega) only [seqQ_normal, opsK_eq, runI_nil, runI_none, putP_eq, o_mv, o_ext, o_own, o_call, extV, wp_ok, bind_ok, ofOpt_some, ev_r, ev_f, putS, Sf.set, Sf.reg, mask_eq, maskR_nil, maskR_cons, getR, setR, maskL, Sf.disAt, id, dis_lit, dis_tup, own2_lit, List.map_cons, List.map_nil, List.getElem?_cons_zero, List.getElem?_cons_succ, ↓reduceIte, Nat.reduceEqDiff, reduceCtorEq, f4_5e, f4_6e, f4_6l]
    refine call_p rfl e_f14 (refnew_err n hn _) rfl ?_
    simp -implicitDefEqProofs (maxSteps := 10000000) (disch := omega) only [seqQ_normal, aC_skip, opsK_eq, runI_nil, runI_none, runI_some, AI.dst, putP_eq, cond_tt, cond_ff, guard_tt, o_mv, o_bin, o_ext, o_own, o_newL, o_store, o_call, extV, boxX, writeX, n_nileq, eqNilI, isNilI, n_neq, wp_ok, bind_ok, ofOpt_some, ev_r, ev_c, ev_f, evOwn_r, disOp_r, setB_r, putS, Sf.set, Sf.reg, mask_eq, maskR_nil, maskR_cons, getR, setR, maskL, Sf.disAt, Sf.newLoc, Sf.setLoc, look, killR, drop1, id, dis_lit, dis_agg, dis_tup, own1_lit, own1_sl, own2_lit, own2_agg, cells_agg, solid1_lit, solid1_sl, solid_eq, kill_lit, kill_agg, kill_tup, List.map_cons, List.map_nil, List.length_cons, List.length_nil, List.getElem?_cons_zero, List.getElem?_cons_succ, List.all_cons, List.all_nil, List.set_cons_zero, List.set_cons_succ, ↓reduceIte, Nat.reduceEqDiff, Nat.reduceAdd, Nat.reduceLeDiff, Int.reduceEq, Bool.true_and, Bool.and_true, and_true, true_and, reduceCtorEq, Nat.zero_add, not_false_eq_true, not_true_eq_false, decide_true, decide_false, setAt_nil, setAt_cons, f4_7e, f4_8e, f4_9e, f4_9l, f4_10e, f4_13e, f4_14e, f4_15e, f4_15l, f4_16e, f4_17e, f4_18e, f4_18l, refAV, wlAV]
    refine call_a rfl e_f10 (known36 _) rfl fun r st1 hr => ?_
    subst hr
    simp -implicitDefEqProofs (maxSteps := 10000000) (disch := omega) only [seqQ_normal, seqQ_ret, aC_ret, opsK_eq, retQ_ret, retI, runI_nil, runI_none, putP_eq, o_pick, o_own, pick_tt, wp_ok, ev_r, ev_c, putS, Sf.set, Sf.reg, mask_eq, maskR_nil, maskR_cons, getR, setR, maskL, Sf.disAt, dis_lit, noL_lit, ↓reduceIte, Nat.reduceEqDiff, Bool.true_and, true_and]
    exact hQ _ _ rfl
  · obtain ⟨k, rfl⟩ : ∃ k : Nat, n = (k : Int) := ⟨n.toNat, by omega⟩
    have hk : k ≤ 4096 := by omega
    refine call_a rfl e_f9 (cnew_ex hk _) rfl fun r st1 hr => ?_
    obtain ⟨c, q0, m0, q1, m1, wid, bv, rfl, h0⟩ := hr
    have hs := same_pure h0
    simp only [refAV, wlAV] at hs
    simp -implicitDefEqProofs (maxSteps := 10000000) (disch := omega) only [seqQ_normal, opsK_eq, runI_nil, runI_none, putP_eq, o_mv, o_ext, o_own, o_call, extV, wp_ok, bind_ok, ofOpt_some, ev_r, ev_f, putS, Sf.set, Sf.reg, mask_eq, maskR_nil, maskR_cons, getR, setR, maskL, Sf.disAt, id, dis_lit, dis_ptr, dis_tup, own2_lit, own2_ptr, List.map_cons, List.map_nil, List.getElem?_cons_zero, List.getElem?_cons_succ, ↓reduceIte, Nat.reduceEqDiff, reduceCtorEq, f4_5e, f4_6e, f4_6l]
    refine call_p rfl e_f14 (refnew_pure k hk _) rfl ?_
    simp -implicitDefEqProofs (maxSteps := 10000000) (disch := omega) only [seqQ_normal, aC_skip, opsK_eq, runI_nil, runI_none, runI_some, AI.dst, putP_eq, cond_ff, guard_tt, o_mv, o_bin, o_ext, o_load, o_own, o_newL, o_store, o_call, extV, loadV, boxX, writeX, n_nilne, eqNilI, isNilI, derefI, takeI_some, n_neq, wp_ok, bind_ok, bind_req, ofOpt_some, req_tt, ev_r, ev_c, ev_f, evOwn_r, disOp_r, setB_r, putS, Sf.set, Sf.reg, mask_eq, maskR_nil, maskR_cons, getR, setR, maskL, Sf.disAt, Sf.newLoc, Sf.setLoc, look, killR, drop1, id, dis_lit, dis_ptr, dis_agg, dis_tup, own1_lit, own1_sl, own2_lit, own2_agg, cells_agg, solid1_lit, solid1_sl, solid_eq, kill_lit, kill_ptr, kill_agg, kill_tup, List.map_cons, List.map_nil, List.length_cons, List.length_nil, List.getElem?_cons_zero, List.getElem?_cons_succ, List.all_cons, List.all_nil, List.drop_zero, List.take_succ_cons, List.take_zero, List.set_cons_zero, List.set_cons_succ, ↓reduceIte, Nat.reduceEqDiff, Nat.reduceAdd, Nat.reduceLeDiff, Bool.true_and, Bool.and_true, and_true, true_and, reduceCtorEq, Nat.zero_add, not_true_eq_false, decide_true, decide_false, Bool.not_false, setAt_nil, setAt_cons, f4_7e, f4_8e, f4_9e, f4_9l, f4_10e, f4_13e, f4_14e, f4_15e, f4_15l, f4_16e, f4_19e, f4_20e, f4_20l, refAV, wlAV]
    refine call_p rfl e_f15 hs rfl ?_
    simp -implicitDefEqProofs (maxSteps := 10000000) (disch := omega) only [runI_none, runI_some, AI.dst, putP_eq, guard_tt, o_mv, o_pick, o_call, pick_tt, wp_ok, ev_r, ev_c, ev_f, putS, Sf.set, Sf.reg, getR, setR, id, dis_lit, List.map_nil, ↓reduceIte, Nat.reduceEqDiff]
    refine call_a rfl e_f10 (known36 _) rfl fun r st1 hr => ?_
    subst hr
    simp -implicitDefEqProofs (maxSteps := 10000000) (disch := omega) only [seqQ_normal, aC_ret, opsK_eq, retQ_ret, retI, runI_nil, runI_none, putP_eq, o_pick, o_own, pick_tt, wp_ok, ev_r, ev_c, putS, Sf.set, Sf.reg, mask_eq, maskR_nil, maskR_cons, getR, setR, maskL, Sf.disAt, dis_lit, noL_lit, ↓reduceIte, Nat.reduceEqDiff, Bool.true_and, true_and]
    exact hQ _ _ rfl
end Go.Fx.YtohlpjfhkejjgaaFx

