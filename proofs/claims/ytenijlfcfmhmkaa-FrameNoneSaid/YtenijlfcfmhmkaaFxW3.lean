/- What the functions that the statement reaches compute: part 3. -/
import Derived.Test.YtenijlfcfmhmkaaFxW2
namespace Go.Fx.YtenijlfcfmhmkaaFx
open Go Go.Fx

set_option maxRecDepth 100000
set_option maxHeartbeats 4000000

theorem next_nil (st : St) : PCalls Go.Proofs.Try.prog n_frame_Reader_Next [.lit (.pointer none)] st (.tup [.agg [.lit (.int .u8 0), .lit (.slice none 0 0)], .lit (.bool false), .lit (.int .i64 1)]) :=
  x_pure hmix tabOk primOk 100 12 (by kernel_rfl) rfl rfl st
theorem same_zero (st : St) : PCalls Go.Proofs.Try.prog n_aqueductref43_Same [.agg [.lit (.int .u8 0), .lit (.slice none 0 0)], .agg [.lit (.int .u8 0), .lit (.slice none 0 0)]] st (.lit (.bool true)) :=
  x_pure hmix tabOk primOk 100 12 (by kernel_rfl) rfl rfl st
theorem feed_nil (v : AV) (st : St) : PCalls Go.Proofs.Try.prog n_frame_Reader_Feed [.lit (.pointer none), v] st (.lit (.int .i64 1)) :=
  PCalls.weak (x_pure hmix tabOk primOk 100 12 (vs := [.lit (.pointer none), .any]) (by kernel_rfl) rfl rfl st) ⟨.refl _, .any _, trivial⟩ (.refl _)
theorem pending_nil (st : St) : PCalls Go.Proofs.Try.prog n_frame_Reader_Pending [.lit (.pointer none)] st (.lit (.int .i64 0)) :=
  x_pure hmix tabOk primOk 100 12 (by kernel_rfl) rfl rfl st
theorem err_nil (st : St) : PCalls Go.Proofs.Try.prog n_frame_Reader_Err [.lit (.pointer none)] st (.lit (.int .i64 1)) :=
  x_pure hmix tabOk primOk 100 12 (by kernel_rfl) rfl rfl st
theorem copy_nil (st : St) : PCalls Go.Proofs.Try.prog n_frame_Reader_Copy [.lit (.pointer none)] st (.lit (.pointer none)) :=
  x_pure hmix tabOk primOk 100 12 (by kernel_rfl) rfl rfl st

theorem frameNone_law (l : List AV) : ACalls Go.Proofs.Try.prog n_aqueductlaw43_FrameNone [.sl false 1 l] ⟨[]⟩ (fun v _ => v = .lit (.bool true)) := by
  refine acalls_id hmix k_aqueductlaw43_FrameNone rfl rfl ?_
  unfold aFun c_aqueductlaw43_FrameNone
  simp -implicitDefEqProofs (maxSteps := 10000000) (disch := omega) only [seqQ_normal, opsK_eq, runI_nil, runI_none, putP_eq, o_mv, o_bin, o_len, lenI, n_gtr, wp_ok, ev_r, ev_c, putS, Sf.set, Sf.reg, mask_eq, maskR_nil, maskR_cons, getR, setR, maskL, look, regs0, dis_lit, dis_sl, ↓reduceIte, Nat.reduceEqDiff, reduceCtorEq, eq_self, aqueductlaw43_FrameNone_1e, aqueductlaw43_FrameNone_2e, aqueductlaw43_FrameNone_2l, aqueductlaw43_FrameNone_3e, aqueductlaw43_FrameNone_4e, aqueductlaw43_FrameNone_5e, aqueductlaw43_FrameNone_5l, aqueductlaw43_FrameNone_6e]
  refine cond_split (fun h => ?_) (fun h => ?_)
  · simp -implicitDefEqProofs (maxSteps := 10000000) (disch := omega) only [runI_none, o_call, ev_f, setB_r, Sf.set, setR, id, List.map_nil, ↓reduceIte, reduceCtorEq, eq_self, aqueductlaw43_FrameNone_7e, aqueductlaw43_FrameNone_8e, aqueductlaw43_FrameNone_8l]
    refine call_p rfl e_aqueductlaw43_known (known_pure _) rfl ?_
    simp -implicitDefEqProofs (maxSteps := 10000000) (disch := omega) only [seqQ_normal, seqQ_ret, aC_ret, opsK_eq, retQ_ret, retI, runI_nil, runI_none, o_own, wp_ok, putS, Sf.set, Sf.reg, mask_eq, maskR_nil, maskR_cons, getR, setR, maskL, Sf.disAt, look, dis_lit, noL_lit, ↓reduceIte, Nat.reduceEqDiff, and_true, reduceCtorEq, eq_self]
  · simp -implicitDefEqProofs (maxSteps := 10000000) (disch := omega) only [seqQ_normal, aC_skip, opsK_eq, runI_nil, runI_none, o_mv, o_call, ev_r, ev_c, ev_f, setB_r, putS, Sf.set, Sf.reg, mask_eq, maskR_nil, maskR_cons, getR, setR, maskL, look, id, dis_lit, List.map_cons, List.map_nil, ↓reduceIte, Nat.reduceEqDiff, reduceCtorEq, eq_self, aqueductlaw43_FrameNone_9e, aqueductlaw43_FrameNone_10e, aqueductlaw43_FrameNone_10l, aqueductlaw43_FrameNone_11e, aqueductlaw43_FrameNone_12e, aqueductlaw43_FrameNone_12l]
    refine call_p rfl e_frame_Reader_Next (next_nil _) rfl ?_
    simp -implicitDefEqProofs (maxSteps := 10000000) (disch := omega) only [seqQ_normal, opsK_eq, runI_nil, runI_none, putP_eq, o_mv, o_ext, o_load, o_bst, o_own, o_newL, o_store, o_call, extV, loadV, bstV, boxX, writeX, derefI, takeI_some, buildA, wp_ok, bind_ok, bind_req, ofOpt_some, req_tt, ev_r, ev_f, evOwn_r, disOp_r, putS, Sf.set, Sf.reg, mask_eq, maskR_nil, maskR_cons, getR, setR, maskL, Sf.disAt, Sf.newLoc, Sf.setLoc, look, killR, drop1, id, dis_lit, dis_agg, dis_tup, own1_lit, own2_lit, own2_agg, cells_agg, solid1_lit, solid_eq, kill_lit, kill_sl, kill_agg, kill_tup, List.map_cons, List.map_nil, List.length_cons, List.length_nil, List.getElem?_cons_zero, List.getElem?_cons_succ, List.all_cons, List.all_nil, List.drop_zero, ↓reduceIte, Nat.reduceEqDiff, Nat.reduceAdd, Nat.reduceLeDiff, Bool.and_true, true_and, reduceCtorEq, Nat.zero_add, eq_self, decide_true, len_setAt, aqueductlaw43_FrameNone_13e, aqueductlaw43_FrameNone_14e, aqueductlaw43_FrameNone_14l]
    refine call_p rfl e_aqueductref43_Same (same_zero _) rfl ?_
    simp -implicitDefEqProofs (maxSteps := 10000000) (disch := omega) only [runI_none, runI_some, putP_eq, guard_tt, o_mv, o_pick, o_bin, o_un, o_call, pick_tt, unA, n_eql, wp_ok, ev_r, ev_c, ev_f, putS, Sf.set, Sf.reg, getR, setR, id, dis_lit, dis_sl, List.map_cons, List.map_nil, ↓reduceIte, Nat.reduceEqDiff, reduceCtorEq, eq_self, decide_true, Bool.not_false]
    refine call_p rfl e_frame_Reader_Feed (feed_nil _ _) rfl ?_
    simp -implicitDefEqProofs (maxSteps := 10000000) (disch := omega) only [runI_none, runI_some, putP_eq, guard_tt, o_mv, o_pick, o_bin, o_call, pick_tt, n_eql, wp_ok, ev_r, ev_c, ev_f, putS, Sf.set, Sf.reg, getR, setR, id, dis_lit, List.map_cons, List.map_nil, ↓reduceIte, Nat.reduceEqDiff, reduceCtorEq, eq_self, decide_true]
    refine call_p rfl e_frame_Reader_Pending (pending_nil _) rfl ?_
    simp -implicitDefEqProofs (maxSteps := 10000000) (disch := omega) only [runI_none, runI_some, putP_eq, guard_tt, o_mv, o_pick, o_bin, o_call, pick_tt, n_eql, wp_ok, ev_r, ev_c, ev_f, putS, Sf.set, Sf.reg, getR, setR, id, dis_lit, List.map_cons, List.map_nil, ↓reduceIte, Nat.reduceEqDiff, reduceCtorEq, eq_self, decide_true]
    refine call_p rfl e_frame_Reader_Err (err_nil _) rfl ?_
    simp -implicitDefEqProofs (maxSteps := 10000000) (disch := omega) only [runI_none, runI_some, putP_eq, guard_tt, o_mv, o_pick, o_bin, o_call, pick_tt, n_eql, wp_ok, ev_r, ev_c, ev_f, putS, Sf.set, Sf.reg, getR, setR, id, dis_lit, List.map_cons, List.map_nil, ↓reduceIte, Nat.reduceEqDiff, reduceCtorEq, eq_self, decide_true]
    refine call_p rfl e_frame_Reader_Copy (copy_nil _) rfl ?_
    simp -implicitDefEqProofs (maxSteps := 10000000) (disch := omega) only [runI_none, runI_some, putP_eq, guard_tt, o_mv, o_pick, o_bin, o_call, pick_tt, n_nileq, eqNilI, isNilI, wp_ok, bind_ok, ofOpt_some, ev_r, ev_c, ev_f, putS, Sf.set, Sf.reg, getR, setR, id, dis_lit, List.map_nil, ↓reduceIte, Nat.reduceEqDiff, reduceCtorEq, eq_self]
    refine call_p rfl e_aqueductlaw43_known (known_pure _) rfl ?_
    simp -implicitDefEqProofs (maxSteps := 10000000) (disch := omega) only [seqQ_normal, aC_ret, opsK_eq, retQ_ret, retI, runI_nil, runI_none, putP_eq, o_pick, o_own, pick_tt, wp_ok, ev_r, ev_c, putS, Sf.set, Sf.reg, mask_eq, maskR_nil, maskR_cons, getR, setR, maskL, Sf.disAt, look, dis_lit, noL_lit, ↓reduceIte, Nat.reduceEqDiff, and_true, reduceCtorEq, eq_self]
end Go.Fx.YtenijlfcfmhmkaaFx
