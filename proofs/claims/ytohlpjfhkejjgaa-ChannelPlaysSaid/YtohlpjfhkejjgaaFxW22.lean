/- What the functions that the statement reaches compute: part 22. -/
import Derived.Test.YtohlpjfhkejjgaaFxW21
namespace Go.Fx.YtohlpjfhkejjgaaFx
open Go Go.Fx
attribute [local irreducible] aC runI headI loopI

set_option maxRecDepth 100000
set_option maxHeartbeats 8000000

theorem plays_calls {c q0 m0 q1 m1 wid n0 : Nat} {st : St} {P : ChP} {bv : AV} (h : ChIs st c P q0 m0 q1 m1 wid bv) (hb : Bd P n0) (l : List Ca) (hl : l.length ≤ 100) (hn0 : n0 ≤ 1000) :
    ACalls Go.Proofs.Try.prog n_f16 [.ptr c 0, refAV P, casAV l] st (fun r st' => r = .tup [refAV (pAll P l), .lit (.bool true)] ∧ ChPost st c (pAll P l) q0 m0 q1 m1 wid bv st') := by
  refine acalls_op hmix k_f16 rfl rfl fun Q hQ => ?_
  unfold aFun c_f16
  simp only [refAV, wlAV, casAV]
  simp -implicitDefEqProofs (maxSteps := 10000000) (disch := omega) only [seqQ_normal, opsK_eq, runI_nil, runI_none, o_mv, o_newL, o_boxL, boxX, ev_c, evOwn_r, putS, Sf.set, Sf.reg, mask_eq, maskR_nil, maskR_cons, getR, setR, maskL, Sf.newLoc, look, killR, drop1, regs0, dis_lit, dis_ptr, dis_sl, dis_agg, own1_lit, own1_sl, cells_agg, solid1_lit, solid1_sl, solid_eq, kill_ptr, kill_lptr, kill_sl, kill_agg, List.map_cons, List.map_nil, List.length_cons, List.length_nil, List.all_cons, List.all_nil, ↓reduceIte, Nat.reduceEqDiff, Nat.reduceAdd, Bool.true_and, Bool.and_true, and_true, true_and, reduceCtorEq, Nat.zero_add, f16_1e, f16_2e, f16_2l, f16_3e, f16_4e, f16_5e, f16_5l, f16_6e]
  refine plays_loop h hb l hl hn0 _ fun st1 h1 => ?_
  have hq := hQ (.tup [refAV (pAll P l), .lit (.bool true)]) st1 ⟨rfl, h1⟩
  simp only [ref_cells, refAV, wlAV] at hq ⊢
  simp -implicitDefEqProofs (maxSteps := 10000000) (disch := omega) only [seqQ_normal, blockQ_exit, aC_ret, opsK_eq, retQ_ret, retI, resI, resL, runI_nil, runI_none, putP_eq, o_mv, o_load, o_store, loadV, boxX, writeX, derefI, takeI_some, wp_ok, bind_ok, bind_req, ofOpt_some, req_tt, ev_r, ev_c, evOwn_r, disOp_r, putS, Sf.set, Sf.reg, mask_eq, maskR_nil, maskR_cons, getR, setR, maskL, Sf.disAt, Sf.setLoc, look, drop1, dis_lit, dis_agg, own1_lit, own1_sl, cells_agg, solid1_lit, solid1_sl, solid_eq, noL_lit, noL_agg, noL_tup, List.map_cons, List.map_nil, List.length_cons, List.length_nil, List.all_cons, List.all_nil, List.drop_zero, List.take_succ_cons, List.take_zero, List.set_cons_zero, List.set_cons_succ, ↓reduceIte, Nat.reduceEqDiff, Nat.reduceAdd, Nat.reduceLeDiff, Bool.true_and, Bool.and_true, and_true, true_and, Nat.zero_add, decide_true, setAt_nil, setAt_cons, f16_24e, f16_25e, f16_25l]
  exact hq

theorem channelPlays_law (n : Int) (l : List Ca) : ACalls Go.Proofs.Try.prog n_f5 [.lit (.int .i64 n), casAV l] ⟨[]⟩ (fun v _ => v = .lit (.bool true)) := by
  refine acalls_op hmix k_f5 rfl rfl fun Q hQ => ?_
  unfold aFun c_f5
  by_cases hn : n < 0 ∨ 4096 < n
  · have hr := fun st => refnew_err n hn st
    have hc := fun st => cnew_err hn st
    simp only [refAV, wlAV] at hr
    simp -implicitDefEqProofs (maxSteps := 10000000) (disch := omega) only [seqQ_normal, opsK_eq, runI_nil, runI_none, o_mv, o_call, ev_r, ev_c, ev_f, putS, Sf.set, Sf.reg, mask_eq, maskR_nil, maskR_cons, getR, setR, maskL, regs0, id, dis_lit, dis_sl, List.map_cons, List.map_nil, ↓reduceIte, Nat.reduceEqDiff, reduceCtorEq, Nat.zero_add, f5_1e, f5_2e, f5_2l, f5_3e, f5_4e, f5_4l, casAV]
    refine call_p rfl e_f9 (hc _) rfl ?_
    simp -implicitDefEqProofs (maxSteps := 10000000) (disch := omega) only [seqQ_normal, opsK_eq, runI_nil, runI_none, putP_eq, o_mv, o_ext, o_own, o_call, extV, wp_ok, bind_ok, ofOpt_some, ev_r, ev_f, putS, Sf.set, Sf.reg, mask_eq, maskR_nil, maskR_cons, getR, setR, maskL, Sf.disAt, id, dis_lit, dis_tup, own2_lit, List.map_cons, List.map_nil, List.getElem?_cons_zero, List.getElem?_cons_succ, ↓reduceIte, Nat.reduceEqDiff, reduceCtorEq, f5_5e, f5_6e, f5_6l]
    refine call_p rfl e_f14 (hr _) rfl ?_
    by_cases hl : 60 < l.length
    all_goals
      simp -implicitDefEqProofs (maxSteps := 10000000) (disch := omega) only [seqQ_normal, opsK_eq, runI_nil, runI_none, runI_some, skipI_eq, AI.dst, putP_eq, cond_tt, guard_tt, guard_ff, o_mv, o_pick, o_bin, o_ext, o_len, o_own, o_newL, o_store, o_call, pick_tt, pick_ff, extV, boxX, writeX, lenI, n_eql, n_neq, n_gtr, wp_ok, bind_ok, ofOpt_some, ev_r, ev_c, ev_f, evOwn_r, disOp_r, setB_r, putS, Sf.set, Sf.reg, mask_eq, maskR_nil, maskR_cons, getR, setR, maskL, Sf.disAt, Sf.newLoc, Sf.setLoc, look, killR, drop1, id, dis_lit, dis_sl, dis_agg, dis_tup, own1_lit, own1_sl, own2_lit, own2_agg, cells_agg, solid1_lit, solid1_sl, solid_eq, kill_lit, kill_sl, kill_agg, kill_tup, List.map_cons, List.map_nil, List.length_cons, List.length_nil, List.getElem?_cons_zero, List.getElem?_cons_succ, List.all_cons, List.all_nil, List.set_cons_zero, List.set_cons_succ, ↓reduceIte, Nat.reduceEqDiff, Nat.reduceAdd, Nat.reduceLeDiff, Int.reduceEq, Bool.true_and, Bool.and_true, and_true, true_and, reduceCtorEq, Nat.zero_add, not_false_eq_true, decide_true, Bool.false_eq_true, List.length_map, guard_yes, guard_no, setAt_nil, setAt_cons, f5_7e, f5_8e, f5_9e, f5_9l, f5_10e, f5_11e, f5_12e, f5_12l]
      refine call_a rfl e_f10 (known36 _) rfl fun r st2 hr2 => ?_
      subst hr2
      simp -implicitDefEqProofs (maxSteps := 10000000) (disch := omega) only [seqQ_normal, seqQ_ret, aC_ret, opsK_eq, retQ_ret, retI, runI_nil, runI_none, putP_eq, o_pick, o_own, pick_tt, wp_ok, ev_r, ev_c, putS, Sf.set, Sf.reg, mask_eq, maskR_nil, maskR_cons, getR, setR, maskL, Sf.disAt, dis_lit, noL_lit, ↓reduceIte, Nat.reduceEqDiff, Bool.true_and, true_and]
      exact hQ _ _ rfl
  · obtain ⟨k, rfl⟩ : ∃ k : Nat, n = (k : Int) := ⟨n.toNat, by omega⟩
    have hk : k ≤ 4096 := by omega
    have hr := fun st => refnew_pure k hk st
    simp only [refAV, wlAV] at hr
    simp -implicitDefEqProofs (maxSteps := 10000000) (disch := omega) only [seqQ_normal, opsK_eq, runI_nil, runI_none, o_mv, o_call, ev_r, ev_c, ev_f, putS, Sf.set, Sf.reg, mask_eq, maskR_nil, maskR_cons, getR, setR, maskL, regs0, id, dis_lit, dis_sl, List.map_cons, List.map_nil, ↓reduceIte, Nat.reduceEqDiff, reduceCtorEq, Nat.zero_add, f5_1e, f5_2e, f5_2l, f5_3e, f5_4e, f5_4l, casAV]
    refine call_a rfl e_f9 (cnew_ex hk _) rfl fun r st1 hr1 => ?_
    obtain ⟨c, q0, m0, q1, m1, wid, bv, rfl, h0⟩ := hr1
    simp -implicitDefEqProofs (maxSteps := 10000000) (disch := omega) only [seqQ_normal, opsK_eq, runI_nil, runI_none, putP_eq, o_mv, o_ext, o_own, o_call, extV, wp_ok, bind_ok, ofOpt_some, ev_r, ev_f, putS, Sf.set, Sf.reg, mask_eq, maskR_nil, maskR_cons, getR, setR, maskL, Sf.disAt, id, dis_lit, dis_ptr, dis_tup, own2_lit, own2_ptr, List.map_cons, List.map_nil, List.getElem?_cons_zero, List.getElem?_cons_succ, ↓reduceIte, Nat.reduceEqDiff, reduceCtorEq, f5_5e, f5_6e, f5_6l]
    refine call_p rfl e_f14 (hr _) rfl ?_
    by_cases hl : 60 < l.length
    · simp -implicitDefEqProofs (maxSteps := 10000000) (disch := omega) only [seqQ_normal, opsK_eq, runI_nil, runI_none, runI_some, skipI_eq, AI.dst, putP_eq, cond_tt, guard_tt, o_mv, o_pick, o_bin, o_ext, o_len, o_own, o_newL, o_store, o_call, pick_tt, extV, boxX, writeX, lenI, n_eql, n_gtr, wp_ok, bind_ok, ofOpt_some, ev_r, ev_c, ev_f, evOwn_r, disOp_r, setB_r, putS, Sf.set, Sf.reg, mask_eq, maskR_nil, maskR_cons, getR, setR, maskL, Sf.disAt, Sf.newLoc, Sf.setLoc, look, killR, drop1, id, dis_lit, dis_sl, dis_agg, dis_tup, own1_lit, own1_sl, own2_lit, own2_agg, cells_agg, solid1_lit, solid1_sl, solid_eq, kill_lit, kill_ptr, kill_sl, kill_agg, kill_tup, List.map_cons, List.map_nil, List.length_cons, List.length_nil, List.getElem?_cons_zero, List.getElem?_cons_succ, List.all_cons, List.all_nil, List.set_cons_zero, List.set_cons_succ, ↓reduceIte, Nat.reduceEqDiff, Nat.reduceAdd, Nat.reduceLeDiff, Bool.true_and, Bool.and_true, and_true, true_and, reduceCtorEq, Nat.zero_add, decide_true, Bool.false_eq_true, List.length_map, guard_yes, setAt_nil, setAt_cons, f5_7e, f5_8e, f5_9e, f5_9l, f5_10e, f5_11e, f5_12e, f5_12l]
      refine call_a rfl e_f10 (known36 _) rfl fun r st2 hr2 => ?_
      subst hr2
      simp -implicitDefEqProofs (maxSteps := 10000000) (disch := omega) only [seqQ_normal, seqQ_ret, aC_ret, opsK_eq, retQ_ret, retI, runI_nil, runI_none, putP_eq, o_pick, o_own, pick_tt, wp_ok, ev_r, ev_c, putS, Sf.set, Sf.reg, mask_eq, maskR_nil, maskR_cons, getR, setR, maskL, Sf.disAt, dis_lit, noL_lit, ↓reduceIte, Nat.reduceEqDiff, Bool.true_and, true_and]
      exact hQ _ _ rfl
    · have hp := plays_calls (n0 := 1) h0 (bd_new hk) l (by omega) (by omega)
      simp only [refAV, wlAV, casAV] at hp
      simp -implicitDefEqProofs (maxSteps := 10000000) (disch := omega) only [seqQ_normal, aC_skip, opsK_eq, runI_nil, runI_none, runI_some, AI.dst, putP_eq, cond_ff, guard_ff, o_mv, o_pick, o_bin, o_ext, o_load, o_len, o_own, o_newL, o_store, o_call, pick_ff, extV, loadV, boxX, writeX, n_nileq, eqNilI, isNilI, lenI, derefI, takeI_some, n_neq, n_gtr, wp_ok, bind_ok, bind_req, ofOpt_some, req_tt, ev_r, ev_c, ev_f, evOwn_r, disOp_r, setB_r, putS, Sf.set, Sf.reg, mask_eq, maskR_nil, maskR_cons, getR, setR, maskL, Sf.disAt, Sf.newLoc, Sf.setLoc, look, killR, drop1, id, dis_lit, dis_ptr, dis_sl, dis_agg, dis_tup, own1_lit, own1_sl, own2_lit, own2_agg, cells_agg, solid1_lit, solid1_sl, solid_eq, kill_lit, kill_ptr, kill_sl, kill_agg, kill_tup, List.map_cons, List.map_nil, List.length_cons, List.length_nil, List.getElem?_cons_zero, List.getElem?_cons_succ, List.all_cons, List.all_nil, List.drop_zero, List.take_succ_cons, List.take_zero, List.set_cons_zero, List.set_cons_succ, ↓reduceIte, Nat.reduceEqDiff, Nat.reduceAdd, Nat.reduceLeDiff, Bool.true_and, Bool.and_true, and_true, true_and, reduceCtorEq, Nat.zero_add, not_true_eq_false, decide_true, decide_false, Bool.false_eq_true, List.length_map, guard_no, setAt_nil, setAt_cons, f5_7e, f5_8e, f5_9e, f5_9l, f5_10e, f5_13e, f5_14e, f5_15e, f5_15l, f5_16e, f5_19e, f5_20e, f5_20l]
      refine call_a rfl e_f16 hp rfl fun r st2 hr2 => ?_
      obtain ⟨rfl, _⟩ := hr2
      simp -implicitDefEqProofs (maxSteps := 10000000) (disch := omega) only [seqQ_normal, opsK_eq, runI_nil, runI_none, runI_some, AI.dst, putP_eq, guard_tt, o_mv, o_ext, o_own, o_newL, o_store, o_call, extV, boxX, writeX, wp_ok, bind_ok, ofOpt_some, ev_r, ev_f, evOwn_r, disOp_r, putS, Sf.set, Sf.reg, mask_eq, maskR_nil, maskR_cons, getR, setR, maskL, Sf.disAt, Sf.newLoc, Sf.setLoc, look, killR, drop1, id, dis_lit, dis_agg, dis_tup, own1_lit, own1_sl, own2_lit, own2_agg, cells_agg, solid1_lit, solid1_sl, solid_eq, kill_lit, kill_ptr, kill_lptr, kill_sl, kill_agg, kill_tup, List.map_cons, List.map_nil, List.length_cons, List.length_nil, List.getElem?_cons_zero, List.getElem?_cons_succ, List.all_cons, List.all_nil, ↓reduceIte, Nat.reduceEqDiff, Nat.reduceAdd, Nat.reduceLeDiff, Bool.true_and, Bool.and_true, and_true, true_and, Nat.zero_add, setAt_nil, setAt_cons, f5_21e, f5_22e, f5_22l]
      refine call_a rfl e_f10 (known36 _) rfl fun r st2 hr2 => ?_
      subst hr2
      simp -implicitDefEqProofs (maxSteps := 10000000) (disch := omega) only [seqQ_normal, aC_ret, opsK_eq, retQ_ret, retI, runI_nil, runI_none, putP_eq, o_pick, o_own, pick_tt, wp_ok, ev_r, ev_c, putS, Sf.set, Sf.reg, mask_eq, maskR_nil, maskR_cons, getR, setR, maskL, Sf.disAt, dis_lit, noL_lit, ↓reduceIte, Nat.reduceEqDiff, Bool.true_and, true_and]
      exact hQ _ _ rfl

theorem channelPlays_top {n : Int} {l : List (Int × Int × Int × Unit)} : ACalls Go.Proofs.Try.prog n_f5 [.lit (.int .i64 n), .sl false 3 (l.map fun x => .agg [.lit (.int .i64 x.1), .lit (.int .i64 x.2.1), .lit (.int .i64 x.2.2.1)])] ⟨[]⟩ (fun v _ => v = .lit (.bool true)) := by
  rw [cas_lit]
  exact channelPlays_law n _
end Go.Fx.YtohlpjfhkejjgaaFx

