/- What the functions that the statement reaches compute: part 9. -/
import Derived.Test.YtddifejdkiemgaaFxW8
namespace Go.Fx.YtddifejdkiemgaaFx
open Go Go.Fx
attribute [local irreducible] aC runI headI loopI

set_option maxRecDepth 100000
set_option maxHeartbeats 4000000

theorem known18 (st : St) : ACalls Go.Proofs.Try.prog n_f14 [] st (fun r _ => r = .lit (.bool true)) := by
  refine acalls_op hmix k_f14 rfl rfl fun Q hQ => ?_
  unfold aFun c_f14
  simp -implicitDefEqProofs (maxSteps := 10000000) (disch := omega) only [seqQ_normal, opsK_eq, runI_nil, runI_none, o_mv, o_call, ev_c, ev_f, putS, Sf.set, mask_eq, maskR_nil, setR, maskL, regs0, id, dis_lit, List.map_cons, List.map_nil, f14_1e, f14_2e, f14_2l, f14_3e, f14_4e, f14_4l]
  refine call_a rfl e_f13 (bnew_calls (n := 2) (by omega) st) rfl fun r st0 hr => ?_
  obtain ⟨rfl, h0, _⟩ := hr
  generalize st.boxes.length + 3 = b at *
  generalize st.boxes.length + 1 = q at *
  generalize st.boxes.length + 2 = tid at *
  generalize st.boxes.length = mid at *
  simp -implicitDefEqProofs (maxSteps := 10000000) (disch := omega) only [seqQ_normal, opsK_eq, runI_nil, runI_none, runI_some, AI.dst, putP_eq, guard_ff, o_mv, o_pick, o_bin, o_ext, o_own, o_call, pick_ff, extV, n_nileq, eqNilI, isNilI, n_neq, wp_ok, bind_ok, ofOpt_some, ev_r, ev_c, ev_f, putS, Sf.set, Sf.reg, mask_eq, maskR_nil, maskR_cons, getR, setR, maskL, Sf.disAt, id, dis_lit, dis_ptr, dis_tup, own2_lit, own2_ptr, List.map_cons, List.map_nil, List.getElem?_cons_zero, List.getElem?_cons_succ, ↓reduceIte, Nat.reduceEqDiff, not_true_eq_false, decide_false, Bool.false_eq_true, f14_5e, f14_6e, f14_7e, f14_7l]
  have p1 := bpush_calls h0 (by decide) (by decide) 5
  rw [show bPush 2 false [] 0 5 = ([(1, 5)], 1, 0) from rfl] at p1
  refine call_a rfl e_f16 p1 rfl fun r st1 hr => ?_
  obtain ⟨rfl, h1, _⟩ := hr
  simp -implicitDefEqProofs (maxSteps := 10000000) (disch := omega) only [runI_none, runI_some, AI.dst, putP_eq, guard_ff, o_mv, o_pick, o_bin, o_call, pick_ff, n_neq, wp_ok, ev_r, ev_c, ev_f, putS, Sf.set, Sf.reg, getR, setR, id, dis_lit, dis_ptr, List.map_cons, List.map_nil, ↓reduceIte, Nat.reduceEqDiff, not_true_eq_false, decide_false, Bool.false_eq_true]
  have p2 := bpush_calls h1 (by decide) (by decide) 5
  rw [show bPush 2 false [(1, 5)] 1 5 = ([(1, 5)], 1, 11) from rfl] at p2
  refine call_a rfl e_f16 p2 rfl fun r st2 hr => ?_
  obtain ⟨rfl, h2, _⟩ := hr
  simp -implicitDefEqProofs (maxSteps := 10000000) (disch := omega) only [runI_none, runI_some, AI.dst, putP_eq, guard_ff, o_mv, o_pick, o_bin, o_call, pick_ff, n_neq, wp_ok, ev_r, ev_c, ev_f, putS, Sf.set, Sf.reg, getR, setR, id, dis_lit, dis_ptr, List.map_cons, List.map_nil, ↓reduceIte, Nat.reduceEqDiff, not_true_eq_false, decide_false, Bool.false_eq_true]
  have p3 := bpush_calls h2 (by decide) (by decide) 3
  rw [show bPush 2 false [(1, 5)] 1 3 = ([(1, 5), (2, 3)], 2, 0) from rfl] at p3
  refine call_a rfl e_f16 p3 rfl fun r st3 hr => ?_
  obtain ⟨rfl, h3, _⟩ := hr
  simp -implicitDefEqProofs (maxSteps := 10000000) (disch := omega) only [runI_none, runI_some, AI.dst, putP_eq, guard_ff, o_mv, o_pick, o_bin, o_call, pick_ff, n_neq, wp_ok, ev_r, ev_c, ev_f, putS, Sf.set, Sf.reg, getR, setR, id, dis_lit, dis_ptr, List.map_cons, List.map_nil, ↓reduceIte, Nat.reduceEqDiff, not_true_eq_false, decide_false, Bool.false_eq_true]
  have p4 := bpush_calls h3 (by decide) (by decide) 4
  rw [show bPush 2 false [(1, 5), (2, 3)] 2 4 = ([(1, 5), (2, 3)], 2, 7) from rfl] at p4
  refine call_a rfl e_f16 p4 rfl fun r st4 hr => ?_
  obtain ⟨rfl, h4, _⟩ := hr
  simp -implicitDefEqProofs (maxSteps := 10000000) (disch := omega) only [runI_none, runI_some, AI.dst, putP_eq, guard_ff, o_mv, o_pick, o_bin, o_call, pick_ff, n_neq, wp_ok, ev_r, ev_c, ev_f, putS, Sf.set, Sf.reg, getR, setR, id, dis_lit, dis_ptr, List.map_cons, List.map_nil, ↓reduceIte, Nat.reduceEqDiff, not_true_eq_false, decide_false, Bool.false_eq_true]
  refine call_a rfl e_f19 (bwaiting_calls h4 (by simp)) rfl fun r st5 hr => ?_
  obtain ⟨rfl, hl5, hk5⟩ := hr
  have h5 : BkIs st5 b q mid tid 2 false [(1, 5), (2, 3)] 2 := h4.at fun i hi => hk5 i (h4.lts i hi)
  rw [show lAV (conns [(1, 5), (2, 3)]) = .sl false 1 [.lit (.int .i64 5), .lit (.int .i64 3)] from rfl]
  have s1 := fun st => lsame_pure [5, 3] [5, 3] (by simp) (by simp) st
  simp -implicitDefEqProofs (maxSteps := 10000000) (disch := omega) only [and_self, runI_some, AI.dst, putP_eq, guard_ff, o_bsl, o_call, bslV, List.reduceReplicate, fillA, wp_ok, bind_ok, ev_r, ev_c, ev_f, putS, Sf.set, Sf.reg, getR, setR, id, dis_lit, cells_lit, solid1_lit, solid_eq, List.map_cons, List.map_nil, List.length_cons, List.length_nil, List.all_cons, List.all_nil, List.set_cons_zero, List.set_cons_succ, ↓reduceIte, Nat.reduceEqDiff, Nat.reduceAdd, Nat.reduceLT, Bool.and_true, and_true, Nat.zero_add, Bool.false_eq_true]
  refine call_p rfl e_f25 (s1 _) rfl ?_
  simp -implicitDefEqProofs (maxSteps := 10000000) (disch := omega) only [runI_none, runI_some, AI.dst, putP_eq, guard_ff, o_mv, o_pick, o_un, o_call, pick_ff, unA, wp_ok, ev_r, ev_c, ev_f, putS, Sf.set, Sf.reg, getR, setR, id, dis_lit, dis_ptr, List.map_cons, List.map_nil, ↓reduceIte, Nat.reduceEqDiff, decide_true, Bool.not_true, Bool.false_eq_true]
  refine call_p rfl e_f17 (broom_pure h5 (by omega)) rfl ?_
  simp -implicitDefEqProofs (maxSteps := 10000000) (disch := omega) only [seqQ_normal, aC_skip, opsK_eq, runI_nil, runI_none, runI_some, AI.dst, putP_eq, cond_ff, guard_ff, o_mv, o_pick, o_bin, o_call, pick_ff, n_neq, wp_ok, ev_r, ev_c, ev_f, setB_r, putS, Sf.set, Sf.reg, mask_eq, maskR_nil, maskR_cons, getR, setR, maskL, id, dis_lit, dis_ptr, List.map_cons, List.map_nil, List.length_cons, List.length_nil, Int.cast_ofNat_Int, ↓reduceIte, Nat.reduceEqDiff, Nat.reduceAdd, Nat.reduceSub, Int.reduceNeg, Nat.zero_add, not_true_eq_false, decide_false, Bool.false_eq_true, f14_8e, f14_11e, f14_12e, f14_13e, f14_13l]
  refine call_a rfl e_f18 (bpops_true h5 (by decide) (v := 5) (e := 0) (L' := [(2, 3)]) rfl) rfl fun r st6 hr => ?_
  obtain ⟨rfl, h6, _⟩ := hr
  simp -implicitDefEqProofs (maxSteps := 10000000) (disch := omega) only [runI_none, runI_some, AI.dst, putP_eq, guard_ff, o_mv, o_un, o_call, unA, wp_ok, ev_r, ev_c, ev_f, putS, Sf.set, Sf.reg, getR, setR, id, dis_lit, dis_ptr, List.map_cons, List.map_nil, ↓reduceIte, Nat.reduceEqDiff, Int.reduceNeg, Bool.not_true, Bool.false_eq_true]
  refine call_a rfl e_f22 (bremove_none h6 (c := 5) (by decide) (by decide)) rfl fun r st7 hr => ?_
  obtain ⟨rfl, rfl⟩ := hr
  simp -implicitDefEqProofs (maxSteps := 10000000) (disch := omega) only [runI_none, runI_some, AI.dst, putP_eq, guard_ff, o_mv, o_pick, o_bin, o_call, pick_ff, n_neq, wp_ok, ev_r, ev_c, ev_f, putS, Sf.set, Sf.reg, getR, setR, id, dis_lit, dis_ptr, List.map_cons, List.map_nil, ↓reduceIte, Nat.reduceEqDiff, Int.reduceNeg, not_true_eq_false, decide_false, Bool.false_eq_true]
  refine call_a rfl e_f22 (bremove_calls (A := []) (B := []) (t := 2) (c := 3) h6 (by decide)) rfl fun r st8 hr => ?_
  obtain ⟨rfl, h8, _⟩ := hr
  simp -implicitDefEqProofs (maxSteps := 10000000) (disch := omega) only [runI_none, runI_some, AI.dst, putP_eq, guard_ff, o_mv, o_pick, o_bin, o_call, pick_ff, n_neq, wp_ok, ev_r, ev_c, ev_f, putS, Sf.set, Sf.reg, getR, setR, id, dis_lit, dis_ptr, List.map_cons, List.map_nil, ↓reduceIte, Nat.reduceEqDiff, Int.reduceNeg, not_true_eq_false, decide_false, Bool.false_eq_true]
  refine call_a rfl e_f18 (bpops_true h8 (by decide) (v := 0) (e := 16) (L' := []) rfl) rfl fun r st9 hr => ?_
  obtain ⟨rfl, h9, _⟩ := hr
  simp -implicitDefEqProofs (maxSteps := 10000000) (disch := omega) only [runI_none, runI_some, AI.dst, putP_eq, guard_ff, o_mv, o_pick, o_un, o_call, pick_ff, unA, wp_ok, ev_r, ev_c, ev_f, putS, Sf.set, Sf.reg, getR, setR, id, dis_lit, dis_ptr, List.map_cons, List.map_nil, ↓reduceIte, Nat.reduceEqDiff, Int.reduceNeg, Bool.not_true, Bool.false_eq_true]
  refine call_p rfl e_f17 (broom_pure h9 (by omega)) rfl ?_
  simp -implicitDefEqProofs (maxSteps := 10000000) (disch := omega) only [runI_none, runI_some, AI.dst, putP_eq, guard_ff, o_mv, o_pick, o_bin, o_call, pick_ff, n_neq, wp_ok, ev_r, ev_c, ev_f, putS, Sf.set, Sf.reg, getR, setR, id, dis_lit, dis_ptr, List.map_cons, List.map_nil, List.length_nil, Int.cast_ofNat_Int, ↓reduceIte, Nat.reduceEqDiff, Int.reduceNeg, Nat.sub_zero, not_true_eq_false, decide_false, Bool.false_eq_true]
  have p10 := bpush_calls h9 (by decide) (by decide) (-1)
  rw [show bPush 2 false [] 2 (-1) = ([], 2, 2) from rfl] at p10
  refine call_a rfl e_f16 p10 rfl fun r st10 hr => ?_
  obtain ⟨rfl, h10, _⟩ := hr
  simp -implicitDefEqProofs (maxSteps := 10000000) (disch := omega) only [runI_none, runI_some, AI.dst, putP_eq, guard_ff, o_mv, o_pick, o_bin, o_call, pick_ff, n_neq, wp_ok, ev_r, ev_c, ev_f, putS, Sf.set, Sf.reg, getR, setR, id, dis_lit, dis_ptr, List.map_cons, List.map_nil, ↓reduceIte, Nat.reduceEqDiff, not_true_eq_false, decide_false, Bool.false_eq_true]
  have p11 := bpush_calls h10 (by decide) (by decide) 9
  rw [show bPush 2 false [] 2 9 = ([(3, 9)], 3, 0) from rfl] at p11
  refine call_a rfl e_f16 p11 rfl fun r st11 hr => ?_
  obtain ⟨rfl, h11, _⟩ := hr
  simp -implicitDefEqProofs (maxSteps := 10000000) (disch := omega) only [seqQ_normal, aC_skip, opsK_eq, runI_nil, runI_none, runI_some, AI.dst, putP_eq, cond_ff, guard_ff, o_mv, o_pick, o_bin, o_call, pick_ff, n_neq, wp_ok, ev_r, ev_c, ev_f, setB_r, putS, Sf.set, Sf.reg, mask_eq, maskR_nil, maskR_cons, getR, setR, maskL, id, dis_lit, dis_ptr, List.map_cons, List.map_nil, ↓reduceIte, Nat.reduceEqDiff, not_true_eq_false, decide_false, Bool.false_eq_true, f14_14e, f14_17e, f14_18e, f14_18l]
  refine call_a rfl e_f24 (bclose_calls h11 (by simp)) rfl fun r st12 hr => ?_
  obtain ⟨rfl, q', mid', tid', h12, _⟩ := hr
  rw [show lAV (conns [(3, 9)]) = .sl false 1 [.lit (.int .i64 9)] from rfl]
  have s2 := fun st => lsame_pure [9] [9] (by simp) (by simp) st
  simp -implicitDefEqProofs (maxSteps := 10000000) (disch := omega) only [seqQ_normal, opsK_eq, runI_nil, runI_none, putP_eq, o_mv, o_ext, o_own, o_call, extV, wp_ok, bind_ok, ofOpt_some, ev_r, ev_f, putS, Sf.set, Sf.reg, mask_eq, maskR_nil, maskR_cons, getR, setR, maskL, Sf.disAt, id, dis_lit, dis_ptr, dis_sl, dis_tup, own2_lit, own2_sl, List.map_cons, List.map_nil, List.getElem?_cons_zero, List.getElem?_cons_succ, ↓reduceIte, Nat.reduceEqDiff, f14_19e, f14_20e, f14_20l]
  refine call_a rfl e_f24 (bclose_closed h12) rfl fun r st13 hr => ?_
  obtain ⟨rfl, rfl⟩ := hr
  simp -implicitDefEqProofs (maxSteps := 10000000) (disch := omega) only [and_self, seqQ_normal, opsK_eq, runI_nil, runI_none, putP_eq, o_mv, o_ext, o_bsl, o_own, o_call, extV, bslV, List.reduceReplicate, fillA, wp_ok, bind_ok, ofOpt_some, ev_r, ev_c, ev_f, putS, Sf.set, Sf.reg, mask_eq, maskR_nil, maskR_cons, getR, setR, maskL, Sf.disAt, id, dis_lit, dis_sl, dis_tup, own2_lit, cells_lit, solid1_lit, solid_eq, List.map_cons, List.map_nil, List.length_cons, List.length_nil, List.getElem?_cons_zero, List.getElem?_cons_succ, List.all_cons, List.all_nil, List.set_cons_zero, ↓reduceIte, Nat.reduceEqDiff, Nat.reduceLT, Bool.and_true, and_true, Nat.zero_add, f14_21e, f14_22e, f14_23e, f14_23l]
  refine call_p rfl e_f25 (s2 _) rfl ?_
  simp -implicitDefEqProofs (maxSteps := 10000000) (disch := omega) only [runI_none, runI_some, AI.dst, putP_eq, guard_ff, o_mv, o_pick, o_bin, o_un, o_len, o_call, pick_ff, lenI, unA, n_neq, wp_ok, ev_r, ev_c, ev_f, putS, Sf.set, Sf.reg, getR, setR, id, dis_lit, dis_ptr, List.map_cons, List.map_nil, ↓reduceIte, Nat.reduceEqDiff, not_true_eq_false, decide_true, decide_false, Bool.not_true, Bool.false_eq_true]
  have p14 := bpush_calls h12 (by decide) (by decide) 1
  rw [show bPush 2 true [] 0 1 = ([], 0, 14) from rfl] at p14
  refine call_a rfl e_f16 p14 rfl fun r st14 hr => ?_
  obtain ⟨rfl, h14, _⟩ := hr
  simp -implicitDefEqProofs (maxSteps := 10000000) (disch := omega) only [runI_none, runI_some, AI.dst, putP_eq, guard_ff, o_mv, o_pick, o_bin, o_call, pick_ff, n_neq, wp_ok, ev_r, ev_c, ev_f, putS, Sf.set, Sf.reg, getR, setR, id, dis_lit, dis_ptr, List.map_cons, List.map_nil, ↓reduceIte, Nat.reduceEqDiff, not_true_eq_false, decide_false, Bool.false_eq_true]
  refine call_a rfl e_f18 (bpops_true h14 (by decide) (v := 0) (e := 14) (L' := []) rfl) rfl fun r st15 hr => ?_
  obtain ⟨rfl, h15, _⟩ := hr
  simp -implicitDefEqProofs (maxSteps := 10000000) (disch := omega) only [runI_none, runI_some, AI.dst, putP_eq, guard_ff, o_mv, o_pick, o_un, o_call, pick_ff, unA, wp_ok, ev_r, ev_c, ev_f, putS, Sf.set, Sf.reg, getR, setR, id, dis_lit, dis_ptr, List.map_cons, List.map_nil, ↓reduceIte, Nat.reduceEqDiff, Bool.not_true, Bool.false_eq_true]
  refine call_p rfl e_f17 (broom_pure h15 (by omega)) rfl ?_
  simp -implicitDefEqProofs (maxSteps := 10000000) (disch := omega) only [runI_none, runI_some, AI.dst, putP_eq, guard_ff, o_mv, o_pick, o_bin, o_call, pick_ff, n_neq, wp_ok, ev_r, ev_c, ev_f, putS, Sf.set, Sf.reg, getR, setR, id, dis_lit, dis_ptr, List.map_cons, List.map_nil, Int.cast_ofNat_Int, ↓reduceIte, Nat.reduceEqDiff, not_true_eq_false, decide_false, Bool.false_eq_true]
  refine call_p rfl e_f26 (bmost_pure h15) rfl ?_
  simp -implicitDefEqProofs (maxSteps := 10000000) (disch := omega) only [seqQ_normal, aC_skip, opsK_eq, runI_nil, runI_none, runI_some, AI.dst, putP_eq, cond_ff, guard_ff, o_pick, o_bin, o_call, pick_ff, n_neq, wp_ok, ev_r, ev_c, ev_f, setB_r, putS, Sf.set, Sf.reg, mask_eq, maskR_nil, maskR_cons, getR, setR, maskL, id, dis_lit, List.map_cons, List.map_nil, Int.cast_ofNat_Int, ↓reduceIte, Nat.reduceEqDiff, not_true_eq_false, decide_false, Bool.false_eq_true, f14_24e, f14_27e, f14_28e, f14_28l]
  refine call_p rfl e_f13 (bnew_err (n := 0) (by decide) _) rfl ?_
  simp -implicitDefEqProofs (maxSteps := 10000000) (disch := omega) only [seqQ_normal, opsK_eq, runI_nil, runI_none, putP_eq, o_mv, o_ext, o_own, o_call, extV, wp_ok, bind_ok, ofOpt_some, ev_r, ev_c, ev_f, putS, Sf.set, Sf.reg, mask_eq, maskR_nil, maskR_cons, getR, setR, maskL, Sf.disAt, id, dis_lit, dis_tup, own2_lit, List.map_cons, List.map_nil, List.getElem?_cons_zero, List.getElem?_cons_succ, ↓reduceIte, Nat.reduceEqDiff, f14_29e, f14_30e, f14_30l]
  refine call_p rfl e_f13 (bnew_err (n := 129) (by decide) _) rfl ?_
  simp -implicitDefEqProofs (maxSteps := 10000000) (disch := omega) only [seqQ_normal, aC_ret, opsK_eq, retQ_ret, retI, runI_nil, runI_none, runI_some, AI.dst, putP_eq, guard_tt, o_mv, o_pick, o_bin, o_ext, o_own, pick_tt, extV, n_eql, wp_ok, bind_ok, ofOpt_some, ev_r, ev_c, putS, Sf.set, Sf.reg, mask_eq, maskR_nil, maskR_cons, getR, setR, maskL, Sf.disAt, dis_lit, dis_tup, own2_lit, noL_lit, List.map_cons, List.map_nil, List.getElem?_cons_zero, List.getElem?_cons_succ, ↓reduceIte, Nat.reduceEqDiff, Bool.true_and, true_and, reduceCtorEq, decide_true, f14_31e, f14_32e, f14_32l]
  exact hQ _ _ rfl

theorem backlogNew_law (n : Int) : ACalls Go.Proofs.Try.prog n_f3 [.lit (.int .i64 n)] ⟨[]⟩ (fun v _ => v = .lit (.bool true)) := by
  refine acalls_op hmix k_f3 rfl rfl fun Q hQ => ?_
  unfold aFun c_f3
  simp -implicitDefEqProofs (maxSteps := 10000000) (disch := omega) only [seqQ_normal, opsK_eq, runI_nil, runI_none, o_mv, o_call, ev_r, ev_c, ev_f, putS, Sf.set, Sf.reg, mask_eq, maskR_nil, maskR_cons, getR, setR, maskL, regs0, id, dis_lit, List.map_cons, List.map_nil, ↓reduceIte, reduceCtorEq, f3_1e, f3_2e, f3_2l, f3_3e, f3_4e, f3_4l]
  by_cases hn : n < 1 ∨ 128 < n
  · refine call_p rfl e_f13 (bnew_err hn _) rfl ?_
    by_cases h1 : n < 1
    all_goals
      simp -implicitDefEqProofs (maxSteps := 10000000) (disch := omega) only [seqQ_normal, opsK_eq, runI_nil, runI_none, runI_some, skipI_eq, AI.dst, putP_eq, cond_tt, guard_tt, guard_ff, o_mv, o_pick, o_bin, o_ext, o_own, o_call, pick_tt, pick_ff, extV, n_nileq, eqNilI, isNilI, n_eql, n_lss, n_gtr, wp_ok, bind_ok, ofOpt_some, ev_r, ev_c, ev_f, setB_r, putS, Sf.set, Sf.reg, mask_eq, maskR_nil, maskR_cons, getR, setR, maskL, Sf.disAt, id, dis_lit, dis_tup, own2_lit, List.map_cons, List.map_nil, List.getElem?_cons_zero, List.getElem?_cons_succ, ↓reduceIte, Nat.reduceEqDiff, reduceCtorEq, decide_true, Bool.false_eq_true, cond_yes, guard_yes, guard_no, f3_5e, f3_6e, f3_7e, f3_7l, f3_8e, f3_9e, f3_10e, f3_10l]
      refine call_a rfl e_f14 (known18 _) rfl fun r st1 hr => ?_
      subst hr
      simp -implicitDefEqProofs (maxSteps := 10000000) (disch := omega) only [seqQ_normal, seqQ_ret, aC_ret, opsK_eq, retQ_ret, retI, runI_nil, runI_none, putP_eq, o_pick, o_own, pick_tt, wp_ok, ev_r, ev_c, putS, Sf.set, Sf.reg, mask_eq, maskR_nil, maskR_cons, getR, setR, maskL, Sf.disAt, dis_lit, noL_lit, ↓reduceIte, Nat.reduceEqDiff, Bool.true_and, true_and, reduceCtorEq]
      exact hQ _ _ rfl
  · obtain ⟨k, rfl⟩ : ∃ k : Nat, n = (k : Int) := ⟨n.toNat, by omega⟩
    refine call_a rfl e_f13 (bnew_calls (n := k) (by omega) _) rfl fun r st0 hr => ?_
    obtain ⟨rfl, h0, _⟩ := hr
    have hi := bis_true h0 (by omega) (fun _ => rfl)
    rw [show kAV k (conns []) false = .agg [.lit (.int .i64 (k : Nat)), .lit (.slice none 0 0), .lit (.bool false)] from rfl] at hi
    simp -implicitDefEqProofs (maxSteps := 10000000) (disch := omega) only [and_self, seqQ_normal, aC_skip, opsK_eq, runI_nil, runI_none, runI_some, AI.dst, putP_eq, guard_tt, guard_ff, o_mv, o_pick, o_bin, o_ext, o_bst, o_own, o_call, pick_tt, pick_ff, extV, bstV, n_nilne, eqNilI, isNilI, buildA, n_eql, n_lss, n_gtr, wp_ok, bind_ok, ofOpt_some, ev_r, ev_c, ev_f, setB_r, putS, Sf.set, Sf.reg, mask_eq, maskR_nil, maskR_cons, getR, setR, maskL, Sf.disAt, id, dis_lit, dis_ptr, dis_tup, own2_lit, own2_ptr, cells_lit, cells_agg, solid1_lit, solid_eq, List.map_cons, List.map_nil, List.length_cons, List.length_nil, List.getElem?_cons_zero, List.getElem?_cons_succ, List.all_cons, List.all_nil, List.set_cons_zero, ↓reduceIte, Nat.reduceEqDiff, Nat.reduceAdd, Nat.reduceLeDiff, Bool.and_true, and_true, reduceCtorEq, Nat.zero_add, decide_true, Bool.not_false, Bool.false_eq_true, cond_no, guard_no, setAt_nil, setAt_cons, f3_5e, f3_6e, f3_7e, f3_7l, f3_8e, f3_11e, f3_12e, f3_12l]
    refine call_a rfl e_f15 hi rfl fun r st1 hr => ?_
    obtain ⟨rfl, _⟩ := hr
    simp -implicitDefEqProofs (maxSteps := 10000000) (disch := omega) only [runI_none, runI_some, AI.dst, putP_eq, guard_tt, o_mv, o_pick, o_call, pick_tt, wp_ok, ev_r, ev_c, ev_f, putS, Sf.set, Sf.reg, getR, setR, id, dis_lit, List.map_nil, ↓reduceIte, Nat.reduceEqDiff, reduceCtorEq]
    refine call_a rfl e_f14 (known18 _) rfl fun r st1 hr => ?_
    subst hr
    simp -implicitDefEqProofs (maxSteps := 10000000) (disch := omega) only [seqQ_normal, aC_ret, opsK_eq, retQ_ret, retI, runI_nil, runI_none, putP_eq, o_pick, o_own, pick_tt, wp_ok, ev_r, ev_c, putS, Sf.set, Sf.reg, mask_eq, maskR_nil, maskR_cons, getR, setR, maskL, Sf.disAt, dis_lit, noL_lit, ↓reduceIte, Nat.reduceEqDiff, Bool.true_and, true_and, reduceCtorEq]
    exact hQ _ _ rfl
end Go.Fx.YtddifejdkiemgaaFx

