/- What the functions that the statement reaches compute: part 17. -/
import Derived.Test.YtddifejdkiemgaaFxW16
namespace Go.Fx.YtddifejdkiemgaaFx
open Go Go.Fx
attribute [local irreducible] aC runI headI loopI

set_option maxRecDepth 100000
set_option maxHeartbeats 4000000

theorem h0_eq : hR (List.replicate 64 0) [] = [.lit (.int .i64 0), .lit (.int .i64 0), .lit (.int .i64 0), .lit (.int .i64 0), .lit (.int .i64 0), .lit (.int .i64 0), .lit (.int .i64 0), .lit (.int .i64 0), .lit (.int .i64 0), .lit (.int .i64 0), .lit (.int .i64 0), .lit (.int .i64 0), .lit (.int .i64 0), .lit (.int .i64 0), .lit (.int .i64 0), .lit (.int .i64 0), .lit (.int .i64 0), .lit (.int .i64 0), .lit (.int .i64 0), .lit (.int .i64 0), .lit (.int .i64 0), .lit (.int .i64 0), .lit (.int .i64 0), .lit (.int .i64 0), .lit (.int .i64 0), .lit (.int .i64 0), .lit (.int .i64 0), .lit (.int .i64 0), .lit (.int .i64 0), .lit (.int .i64 0), .lit (.int .i64 0), .lit (.int .i64 0), .lit (.int .i64 0), .lit (.int .i64 0), .lit (.int .i64 0), .lit (.int .i64 0), .lit (.int .i64 0), .lit (.int .i64 0), .lit (.int .i64 0), .lit (.int .i64 0), .lit (.int .i64 0), .lit (.int .i64 0), .lit (.int .i64 0), .lit (.int .i64 0), .lit (.int .i64 0), .lit (.int .i64 0), .lit (.int .i64 0), .lit (.int .i64 0), .lit (.int .i64 0), .lit (.int .i64 0), .lit (.int .i64 0), .lit (.int .i64 0), .lit (.int .i64 0), .lit (.int .i64 0), .lit (.int .i64 0), .lit (.int .i64 0), .lit (.int .i64 0), .lit (.int .i64 0), .lit (.int .i64 0), .lit (.int .i64 0), .lit (.int .i64 0), .lit (.int .i64 0), .lit (.int .i64 0), .lit (.int .i64 0), .lit (.slice none 0 0)] := by rfl

theorem rnew_err {sz nw : Int} (h : sz < 1 ∨ 1048576 < sz ∨ nw = nev) (st : St) : PCalls Go.Proofs.Try.prog n_f30 [.lit (.int .i64 sz), .lit (.int .u64 nw)] st (.tup [rfAV 0 0 (List.replicate 64 0) [], .lit (.int .i64 2)]) := by
  refine pcalls_id hmix k_f30 rfl rfl fun Q hQ => ?_
  unfold aFun c_f30
  simp only [rfAV, rfC, h0_eq] at hQ
  by_cases h1 : sz < 1
  · simp -implicitDefEqProofs (maxSteps := 10000000) (disch := omega) only [seqQ_normal, seqQ_ret, aC_ret, opsK_eq, retQ_ret, retI, resI, resL, runI_nil, runI_none, runI_some, skipI_eq, AI.dst, putP_eq, cond_tt, guard_tt, o_mv, o_pick, o_bin, o_bst, o_newL, o_store, pick_tt, bstV, boxX, writeX, derefI, takeI_some, buildA, n_lss, wp_ok, bind_ok, bind_req, ofOpt_some, req_tt, ev_r, ev_c, evOwn_r, disOp_r, setB_r, putS, Sf.set, Sf.reg, mask_eq, maskR_nil, maskR_cons, getR, setR, maskL, Sf.disAt, Sf.newLoc, Sf.setLoc, look, killR, drop1, regs0, dis_lit, dis_agg, own1_lit, cells_agg, solid1_lit, solid_eq, noL_lit, noL_agg, noL_tup, kill_lit, List.map_cons, List.map_nil, List.length_cons, List.length_nil, List.all_cons, List.all_nil, List.drop_zero, List.take_succ_cons, List.take_zero, List.set_cons_zero, List.set_cons_succ, ↓reduceIte, Nat.reduceEqDiff, Nat.reduceAdd, Nat.reduceLeDiff, Bool.true_and, Bool.and_true, and_true, true_and, reduceCtorEq, Nat.zero_add, decide_true, Bool.false_eq_true, guard_yes, setAt_nil, setAt_cons, f30_1e, f30_2e, f30_2l, f30_3e, f30_4e, f30_5e, f30_5l, f30_6e, f30_7e, f30_8e, f30_8l]
    exact hQ _
  by_cases h2 : 1048576 < sz
  · simp -implicitDefEqProofs (maxSteps := 10000000) (disch := omega) only [seqQ_normal, seqQ_ret, aC_ret, opsK_eq, retQ_ret, retI, resI, resL, runI_nil, runI_none, runI_some, skipI_eq, AI.dst, putP_eq, cond_tt, guard_tt, guard_ff, o_mv, o_pick, o_bin, o_bst, o_newL, o_store, pick_tt, pick_ff, bstV, boxX, writeX, derefI, takeI_some, buildA, n_lss, n_gtr, wp_ok, bind_ok, bind_req, ofOpt_some, req_tt, ev_r, ev_c, evOwn_r, disOp_r, setB_r, putS, Sf.set, Sf.reg, mask_eq, maskR_nil, maskR_cons, getR, setR, maskL, Sf.disAt, Sf.newLoc, Sf.setLoc, look, killR, drop1, regs0, dis_lit, dis_agg, own1_lit, cells_agg, solid1_lit, solid_eq, noL_lit, noL_agg, noL_tup, kill_lit, List.map_cons, List.map_nil, List.length_cons, List.length_nil, List.all_cons, List.all_nil, List.drop_zero, List.take_succ_cons, List.take_zero, List.set_cons_zero, List.set_cons_succ, ↓reduceIte, Nat.reduceEqDiff, Nat.reduceAdd, Nat.reduceLeDiff, Bool.true_and, Bool.and_true, and_true, true_and, reduceCtorEq, Nat.zero_add, decide_true, Bool.false_eq_true, guard_yes, guard_no, setAt_nil, setAt_cons, f30_1e, f30_2e, f30_2l, f30_3e, f30_4e, f30_5e, f30_5l, f30_6e, f30_7e, f30_8e, f30_8l]
    exact hQ _
  have h3 : nw = 18446744073709551615 := by rcases h with h | h | h <;> first | omega | exact h
  simp -implicitDefEqProofs (maxSteps := 10000000) (disch := omega) only [seqQ_normal, seqQ_ret, aC_ret, opsK_eq, retQ_ret, retI, resI, resL, runI_nil, runI_none, runI_some, AI.dst, putP_eq, guard_ff, o_mv, o_pick, o_bin, o_bst, o_newL, o_store, pick_ff, bstV, boxX, writeX, derefI, takeI_some, buildA, n_eql, n_lss, n_gtr, wp_ok, bind_ok, bind_req, ofOpt_some, req_tt, ev_r, ev_c, evOwn_r, disOp_r, setB_r, putS, Sf.set, Sf.reg, mask_eq, maskR_nil, maskR_cons, getR, setR, maskL, Sf.disAt, Sf.newLoc, Sf.setLoc, look, killR, drop1, regs0, dis_lit, dis_agg, own1_lit, cells_agg, solid1_lit, solid_eq, noL_lit, noL_agg, noL_tup, kill_lit, List.map_cons, List.map_nil, List.length_cons, List.length_nil, List.all_cons, List.all_nil, List.drop_zero, List.take_succ_cons, List.take_zero, List.set_cons_zero, List.set_cons_succ, ↓reduceIte, Nat.reduceEqDiff, Nat.reduceAdd, Nat.reduceLeDiff, Bool.true_and, Bool.and_true, and_true, true_and, reduceCtorEq, Nat.zero_add, decide_true, Bool.false_eq_true, cond_yes, guard_no, setAt_nil, setAt_cons, f30_1e, f30_2e, f30_2l, f30_3e, f30_4e, f30_5e, f30_5l, f30_6e, f30_7e, f30_8e, f30_8l]
  exact hQ _
theorem rnew_pure {sz nw : Int} (hs : 1 ≤ sz ∧ sz ≤ 1048576) (hn : nw < nev) (st : St) : PCalls Go.Proofs.Try.prog n_f30 [.lit (.int .i64 sz), .lit (.int .u64 nw)] st (.tup [rfAV sz nw (List.replicate 64 0) [], .lit (.int .i64 0)]) := by
  refine pcalls_id hmix k_f30 rfl rfl fun Q hQ => ?_
  unfold aFun c_f30
  simp only [rfAV, rfC, h0_eq] at hQ
  have hnw : ¬ nw = 18446744073709551615 := by unfold nev at hn; omega
  simp -implicitDefEqProofs (maxSteps := 10000000) (disch := omega) only [and_self, seqQ_normal, aC_skip, aC_ret, opsK_eq, retQ_ret, retI, resI, resL, runI_nil, runI_none, runI_some, AI.dst, putP_eq, guard_ff, o_mv, o_pick, o_bin, o_bst, o_newL, o_store, pick_ff, bstV, boxX, writeX, derefI, takeI_some, buildA, n_eql, n_lss, n_gtr, wp_ok, bind_ok, bind_req, ofOpt_some, req_tt, ev_r, ev_c, evOwn_r, disOp_r, setB_r, putS, Sf.set, Sf.reg, mask_eq, maskR_nil, maskR_cons, getR, setR, maskL, Sf.disAt, Sf.newLoc, Sf.setLoc, look, killR, drop1, regs0, dis_lit, dis_agg, own1_lit, cells_lit, cells_agg, solid1_lit, solid_eq, noL_lit, noL_agg, noL_tup, kill_lit, List.map_cons, List.map_nil, List.length_cons, List.length_nil, List.getElem?_cons_zero, List.getElem?_cons_succ, List.all_cons, List.all_nil, List.drop_zero, List.take_succ_cons, List.take_zero, List.set_cons_zero, List.set_cons_succ, ↓reduceIte, Nat.reduceEqDiff, Nat.reduceAdd, Nat.reduceLeDiff, Bool.true_and, Bool.and_true, and_true, true_and, reduceCtorEq, Nat.zero_add, decide_true, Bool.false_eq_true, cond_no, guard_no, setAt_nil, setAt_cons, f30_1e, f30_2e, f30_2l, f30_3e, f30_4e, f30_5e, f30_5l, f30_6e, f30_9e, f30_10e, f30_10l]
  exact hQ _

section
variable {st : St} {b q mid wid g : Nat} {sz nw : Int} {H : List Int} {V : List Vt}
theorem SmIs.sub (h : SmIs st b q mid wid sz nw H V g) {s : St} (hs : St.sub st s) : SmIs s b q mid wid sz nw H V g := by
  have hlt := h.lts
  have key : ∀ i cs, st.get i = some cs → s.boxes[i]? = st.boxes[i]? := fun i cs hg => by
    have hb : st.boxes[i]? = some (some (.cells cs)) := by
      unfold St.get at hg
      split at hg
      · rename_i hb; cases hg; exact hb
      · cases hg
    rw [hs i _ hb, hb]
  have keym : ∀ i es, st.getM i = some es → s.boxes[i]? = st.boxes[i]? := fun i es hg => by
    unfold St.getM at hg
    split at hg
    · rename_i hb; rw [hs i _ hb, hb]
    · cases hg
  obtain ⟨W, h1, h2, m, hm, hl⟩ := h.qi
  obtain ⟨m2, hm2, _⟩ := h2.mp
  refine h.at fun i hi => ?_
  simp only [List.mem_cons, List.not_mem_nil, or_false] at hi
  rcases hi with rfl | rfl | rfl | rfl
  · exact key _ _ h.get
  · exact key _ _ h2.get
  · exact keym _ _ hm2.get
  · exact keym _ _ hm.get

theorem swaiting_g (h : SmIs st b q mid wid sz nw H V g) (s : St) (hs : St.sub st s) (_ : st.boxes.length ≤ s.boxes.length) : ACalls Go.Proofs.Try.prog n_f34 [.ptr b 0] s (Grow (.sl false 1 (ints (vtk V))) s) :=
  (swaiting_calls (h.sub hs)).mono fun r st' ⟨h1, h2, h3⟩ => ⟨h1, St.sub_of h3, h2⟩

theorem rsame_wr (V : List Vt) (hV : V.length ≤ 1000) (st : St) : PCalls Go.Proofs.Try.prog n_f53 [.sl false 1 (ints (vtk V)), lAV (vtk V)] st (.lit (.bool true)) := by
  have hl : (vtk V).length = V.length := by simp [vtk]
  have := (rsame_pure (vtk V) (vtk V) (by omega) (by omega) st).weak (vs := [.sl false 1 (ints (vtk V)), lAV (vtk V)]) ⟨.refl _, lAV_le _, trivial⟩ (.refl _)
  simpa using this

theorem lsame_calls (h : SmIs st b q mid wid sz nw H V g) : ACalls Go.Proofs.Try.prog n_f32 [.ptr b 0, rfAV sz nw H V] st (fun r st' => r = .lit (.bool true) ∧ St.sub st st' ∧ st.boxes.length ≤ st'.boxes.length) := by
  refine acalls_op hmix k_f32 rfl rfl fun Q hQ => ?_
  unfold aFun c_f32
  have hcn := h.cnt
  have hszb := h.szb
  have hs0 := h.sum0
  have hs1 := h.hs
  have f1 := hR_own1 (H := H) (V := V)
  have f2 := hR_solid (H := H) (V := V)
  have f3 := hR_len (V := V) h.hl
  have f6 := hR_take (V := V) h.hl
  simp -implicitDefEqProofs (maxSteps := 10000000) (disch := omega) only [seqQ_normal, opsK_eq, runI_nil, runI_none, o_mv, o_boxL, boxX, ev_c, evOwn_r, putS, Sf.set, Sf.reg, mask_eq, maskR_nil, maskR_cons, getR, setR, maskL, Sf.newLoc, look, killR, drop1, regs0, dis_lit, dis_ptr, dis_agg, own1_lit, cells_agg, solid1_lit, solid_eq, kill_ptr, kill_agg, List.map_cons, List.length_cons, List.all_cons, ↓reduceIte, Nat.reduceEqDiff, Nat.reduceAdd, Bool.true_and, Bool.and_true, and_true, true_and, reduceCtorEq, Nat.zero_add, f32_1e, f32_2e, f32_2l, f32_3e, f32_4e, f32_5e, f32_5l, f32_6e, f1, f2, f3]
  rw [f32_7w]
  refine loop_op (A := Nat) (fun a => 64 - a) (fun a => ⟨[(0, .ptr b 0), (3, .lptr 3 0), (5, .lit (.int .i64 (a : Nat)))], [(3, rfC sz nw H V)]⟩) (fun _ => st) (fun a => a ≤ 64) 0 (by omega) (Sf.le_refl _) rfl ?_
  rintro i h1 K hK hKe hKr
  by_cases hi : i < 64
  · obtain ⟨r, hr⟩ := rfC_at (sz := sz) (nw := nw) (V := V) h.hl (i := (i : Int)) (by omega) (by omega)
    rw [Int.toNat_natCast] at hr
    have hh := sheld_pure h (i : Int)
    rw [if_neg (by omega)] at hh
    simp -implicitDefEqProofs (maxSteps := 10000000) (disch := omega) only [List.contains_nil, h_none, hh_mv, hh_call, val_head, seqQ_normal, aC_skip, opsK_eq, runI_nil, runI_none, putP_eq, o_mv, o_bin, n_lss, wp_ok, ev_r, ev_c, ev_f, setB_r, putS, Sf.set, Sf.reg, mask_eq, maskR_nil, maskR_cons, getR, setR, maskL, look, dropL, id, dis_lit, dis_ptr, List.map_cons, List.map_nil, ↓reduceIte, Nat.reduceEqDiff, reduceCtorEq, Bool.false_eq_true, cond_yes, f32_8e, f32_9e, f32_10e, f32_10l, f32_11e, f32_12e, f32_13e, f32_14e, f32_15e, f32_15h, f32_15l]
    refine call_h rfl e_f40 hh rfl ?_
    simp -implicitDefEqProofs (maxSteps := 10000000) (disch := omega) only [h_nil, h_none, hh_mv, hh_addr, hh_ixA, hh_load, cons_val, val_head, tail_nil, seqQ_normal, blockQ_normal, aC_skip, opsK_eq, runI_nil, runI_none, putP_eq, cond_ff, o_mv, o_bin, o_own, loadV, ixA, addA, derefI, takeI_none, n_add, n_neq, wp_ok, bind_ok, bind_req, ofOpt_some, ev_r, ev_c, setB_r, putS, Sf.set, Sf.reg, mask_eq, maskR_nil, maskR_cons, getR, setR, maskL, Sf.disAt, look, dis_lit, Int.toNat_natCast, Int.cast_ofNat_Int, ↓reduceIte, Nat.reduceEqDiff, reduceCtorEq, Nat.zero_add, not_true_eq_false, decide_false, req_dec, IntWalk.i64_in, up_addL, and_pre, Nat.mul_one, f32_16e, f32_19e, f32_19l, hr]
    exact hK (i + 1) _ (by omega) (by omega) (Sf.le_refl _)
  · simp -implicitDefEqProofs (maxSteps := 10000000) (disch := omega) only [seqQ_normal, seqQ_exit, aC_exit, opsK_eq, runI_nil, runI_none, putP_eq, o_mv, o_bin, n_lss, wp_ok, ev_r, ev_c, setB_r, putS, Sf.set, Sf.reg, mask_eq, maskR_nil, maskR_cons, getR, setR, maskL, look, dis_lit, ↓reduceIte, Nat.reduceEqDiff, reduceCtorEq, cond_no, f32_8e, f32_9e, f32_10e, f32_10l, f32_11e]
    refine hKe _ _ _ ?_
    simp -implicitDefEqProofs (maxSteps := 10000000) (disch := omega) only [List.contains_nil, mm_mv, mm_call, g_none_f, g_val, seqQ_normal, blockQ_exit, ev_r, ev_c, ev_f, putS, Sf.set, Sf.reg, getR, setR, dropL, id, dis_ptr, List.map_cons, List.map_nil, ↓reduceIte, Nat.reduceEqDiff, Int.reduceNeg, Bool.true_and, true_and, reduceCtorEq, Bool.false_eq_true, f32_20e, f32_21e, f32_21h, f32_21l]
    have hh1 := fun s (hs : St.sub st s) => sheld_pure (h.sub hs) (-1)
    have hh2 := fun s (hs : St.sub st s) => sheld_pure (h.sub hs) 64
    rw [if_pos (.inl (by omega))] at hh1
    rw [if_pos (.inr (by omega))] at hh2
    obtain ⟨w1, w2⟩ : (lAV (vtk V)).dis = lAV (vtk V) ∧ (lAV (vtk V)).noL = true := by unfold lAV; split <;> exact ⟨rfl, rfl⟩
    refine call_1 rfl e_f40 hh1 rfl ?_
    simp -implicitDefEqProofs (maxSteps := 10000000) (disch := omega) only [mm_mv, mm_bin, mm_call, g_none_f, g_some_f, g_val, guardH_tt, AI.dst, n_eql, wp_ok, ev_r, ev_c, ev_f, putS, Sf.set, Sf.reg, getR, setR, id, dis_lit, dis_ptr, List.map_cons, List.map_nil, ↓reduceIte, Nat.reduceEqDiff, reduceCtorEq, decide_true]
    refine call_1 rfl e_f40 hh2 rfl ?_
    simp -implicitDefEqProofs (maxSteps := 10000000) (disch := omega) only [mm_mv, mm_pick, mm_bin, mm_call, g_none_f, g_some_f, g_val, guardH_tt, AI.dst, pick_tt, n_eql, wp_ok, ev_r, ev_c, ev_f, putS, Sf.set, Sf.reg, getR, setR, id, dis_lit, dis_ptr, List.map_cons, List.map_nil, ↓reduceIte, Nat.reduceEqDiff, reduceCtorEq, decide_true]
    refine call_1 rfl e_f41 (fun s hs => sleft_pure (h.sub hs)) rfl ?_
    simp -implicitDefEqProofs (maxSteps := 10000000) (disch := omega) only [mm_load, mm_call, g_some_f, g_val, guardH_tt, AI.dst, loadV, derefI, takeI_some, wp_ok, bind_ok, bind_req, ofOpt_some, req_tt, ev_r, ev_f, putS, Sf.set, Sf.reg, getR, setR, look, id, dis_agg, own1_lit, List.map_cons, List.map_nil, List.length_cons, List.drop_zero, List.take_succ_cons, ↓reduceIte, Nat.reduceEqDiff, Nat.reduceAdd, Nat.reduceLeDiff, reduceCtorEq, decide_true, f1, f3, f6]
    refine call_1 (vs := [rfAV sz nw H V]) (by simp only [List.map_cons, List.map_nil, List.nil_append, List.append_nil, dis_agg, own1_lit, f1, f6]) e_f55 (fun s hs => rleft_pure h.hl h.hb h.hs (by omega) s) rfl ?_
    simp -implicitDefEqProofs (maxSteps := 10000000) (disch := omega) only [mm_mv, mm_pick, mm_bin, g_none_f, g_some_f, g_some_t, g_val, g_call, guardH_tt, AI.dst, pick_tt, n_eql, wp_ok, ev_r, ev_c, ev_f, putS, Sf.set, Sf.reg, getR, setR, id, dis_lit, dis_ptr, List.map_cons, List.map_nil, ↓reduceIte, Nat.reduceEqDiff, reduceCtorEq, decide_true]
    refine call_g rfl e_f34 (swaiting_g h) rfl ?_
    simp -implicitDefEqProofs (maxSteps := 10000000) (disch := omega) only [mm_load, mm_call, g_some_f, g_val, g_mkv, guardH_tt, AI.dst, loadV, derefI, takeI_some, wp_ok, bind_ok, bind_req, ofOpt_some, req_tt, ev_r, ev_f, putS, Sf.set, Sf.reg, getR, setR, look, id, dis_agg, own1_lit, List.map_cons, List.map_nil, List.length_cons, List.drop_zero, List.take_succ_cons, ↓reduceIte, Nat.reduceEqDiff, Nat.reduceAdd, Nat.reduceLeDiff, reduceCtorEq, decide_true, f1, f3, f6]
    refine call_1 (vs := [rfAV sz nw H V]) (by simp only [List.map_cons, List.map_nil, List.nil_append, List.append_nil, dis_agg, own1_lit, f1, f6]) e_f56 (fun s hs => rwaiting_pure h.hl (by omega) s) rfl ?_
    simp -implicitDefEqProofs (maxSteps := 10000000) (disch := omega) only [mm_call, g_some_f, g_val, guardH_tt, AI.dst, ev_r, ev_f, putS, Sf.set, Sf.reg, getR, setR, id, List.map_cons, List.map_nil, ↓reduceIte, Nat.reduceEqDiff, reduceCtorEq]
    refine call_1 (by simp only [List.map_cons, List.map_nil, List.nil_append, List.append_nil, dis_sl, w1]) e_f53 (fun s hs => rsame_wr V (by omega) s) (by simp [w2, noL_sl]) ?_
    simp -implicitDefEqProofs (maxSteps := 10000000) (disch := omega) only [mm_mv, mm_pick, mm_call, g_none_f, g_some_f, g_val, guardH_tt, AI.dst, pick_tt, wp_ok, ev_r, ev_c, ev_f, putS, Sf.set, Sf.reg, getR, setR, id, dis_lit, dis_ptr, List.map_cons, List.map_nil, ↓reduceIte, Nat.reduceEqDiff, reduceCtorEq]
    refine call_1 rfl e_f42 (fun s hs => snext_pure (h.sub hs)) rfl ?_
    simp -implicitDefEqProofs (maxSteps := 10000000) (disch := omega) only [mm_load, mm_call, g_some_f, g_val, guardH_tt, AI.dst, loadV, derefI, takeI_some, wp_ok, bind_ok, bind_req, ofOpt_some, req_tt, ev_r, ev_f, putS, Sf.set, Sf.reg, getR, setR, look, id, dis_agg, own1_lit, List.map_cons, List.map_nil, List.length_cons, List.drop_zero, List.take_succ_cons, ↓reduceIte, Nat.reduceEqDiff, Nat.reduceAdd, Nat.reduceLeDiff, reduceCtorEq, decide_true, f1, f3, f6]
    refine call_1 (vs := [rfAV sz nw H V]) (by simp only [List.map_cons, List.map_nil, List.nil_append, List.append_nil, dis_agg, own1_lit, f1, f6]) e_f57 (fun s hs => rnext_pure h.hl (by omega) s) rfl ?_
    simp -implicitDefEqProofs (maxSteps := 10000000) (disch := omega) only [mm_mv, mm_pick, mm_bin, mm_call, g_none_f, g_some_f, g_val, guardH_tt, AI.dst, pick_tt, n_eql, wp_ok, ev_r, ev_c, ev_f, putS, Sf.set, Sf.reg, getR, setR, id, dis_lit, dis_ptr, List.map_cons, List.map_nil, ↓reduceIte, Nat.reduceEqDiff, reduceCtorEq, decide_true]
    refine call_1 rfl e_f43 (fun s hs => snow_pure (h.sub hs)) rfl ?_
    simp -implicitDefEqProofs (maxSteps := 10000000) (disch := omega) only [mm_addr, mm_load, g_nil, g_some_f, g_val, tailG_nil, guardH_tt, seqQ_normal, aC_ret, opsK_eq, retQ_ret, retI, runI_nil, runI_none, runI_some, AI.dst, putP_eq, guard_tt, o_pick, o_bin, o_own, pick_tt, loadV, addA, derefI, takeI_none, n_eql, wp_ok, bind_ok, ofOpt_some, ev_r, ev_c, putS, Sf.set, Sf.reg, mask_eq, maskR_nil, maskR_cons, getR, setR, maskL, Sf.disAt, look, dis_lit, noL_lit, List.drop_zero, List.drop_succ_cons, ↓reduceIte, Nat.reduceEqDiff, Bool.true_and, true_and, reduceCtorEq, Nat.zero_add, decide_true]
    intro s hs1 hs2
    exact hQ _ _ ⟨rfl, hs1, hs2⟩
end

theorem semaphoreNew_law (sz nw : Int) (hn : 0 ≤ nw ∧ nw ≤ nev) : ACalls Go.Proofs.Try.prog n_f8 [.lit (.int .i64 sz), .lit (.int .u64 nw)] ⟨[]⟩ (fun v _ => v = .lit (.bool true)) := by
  refine acalls_op hmix k_f8 rfl rfl fun Q hQ => ?_
  unfold aFun c_f8
  by_cases hb : sz < 1 ∨ 1048576 < sz ∨ nw = nev
  · simp -implicitDefEqProofs (maxSteps := 10000000) (disch := omega) only [seqQ_normal, opsK_eq, runI_nil, runI_none, o_mv, o_call, ev_r, ev_c, ev_f, putS, Sf.set, Sf.reg, mask_eq, maskR_nil, maskR_cons, getR, setR, maskL, regs0, id, dis_lit, List.map_cons, List.map_nil, ↓reduceIte, Nat.reduceEqDiff, reduceCtorEq, Nat.zero_add, f8_1e, f8_2e, f8_2l, f8_3e, f8_4e, f8_4l]
    refine call_p rfl e_f29 (snew_err hb _) rfl ?_
    simp -implicitDefEqProofs (maxSteps := 10000000) (disch := omega) only [seqQ_normal, opsK_eq, runI_nil, runI_none, putP_eq, o_mv, o_ext, o_own, o_call, extV, wp_ok, bind_ok, ofOpt_some, ev_r, ev_f, putS, Sf.set, Sf.reg, mask_eq, maskR_nil, maskR_cons, getR, setR, maskL, Sf.disAt, id, dis_lit, dis_tup, own2_lit, List.map_cons, List.map_nil, List.getElem?_cons_zero, List.getElem?_cons_succ, ↓reduceIte, Nat.reduceEqDiff, reduceCtorEq, f8_5e, f8_6e, f8_6l]
    have hre := rnew_err hb ⟨[]⟩
    simp only [rfAV, rfC, h0_eq] at hre
    refine call_p rfl e_f30 hre rfl ?_
    simp -implicitDefEqProofs (maxSteps := 10000000) (disch := omega) only [seqQ_normal, aC_skip, opsK_eq, runI_nil, runI_none, runI_some, AI.dst, putP_eq, cond_tt, cond_ff, guard_tt, o_mv, o_bin, o_ext, o_own, o_newL, o_store, o_call, extV, boxX, writeX, n_nileq, eqNilI, isNilI, n_neq, wp_ok, bind_ok, ofOpt_some, ev_r, ev_c, ev_f, evOwn_r, disOp_r, setB_r, putS, Sf.set, Sf.reg, mask_eq, maskR_nil, maskR_cons, getR, setR, maskL, Sf.disAt, Sf.newLoc, Sf.setLoc, look, killR, drop1, id, dis_lit, dis_agg, dis_tup, own1_lit, own2_lit, own2_agg, cells_agg, solid1_lit, solid_eq, kill_lit, kill_agg, kill_tup, List.map_cons, List.map_nil, List.length_cons, List.length_nil, List.getElem?_cons_zero, List.getElem?_cons_succ, List.all_cons, List.all_nil, List.set_cons_zero, List.set_cons_succ, ↓reduceIte, Nat.reduceEqDiff, Nat.reduceAdd, Nat.reduceLeDiff, Int.reduceEq, Bool.true_and, Bool.and_true, and_true, true_and, reduceCtorEq, Nat.zero_add, not_false_eq_true, not_true_eq_false, decide_true, decide_false, setAt_nil, setAt_cons, f8_7e, f8_8e, f8_9e, f8_9l, f8_10e, f8_13e, f8_14e, f8_15e, f8_15l, f8_16e, f8_17e, f8_18e, f8_18l]
    refine call_a rfl e_f31 (known35 _) rfl fun r st1 hr => ?_
    subst hr
    simp -implicitDefEqProofs (maxSteps := 10000000) (disch := omega) only [seqQ_normal, seqQ_ret, aC_ret, opsK_eq, retQ_ret, retI, runI_nil, runI_none, putP_eq, o_pick, o_own, pick_tt, wp_ok, ev_r, ev_c, putS, Sf.set, Sf.reg, mask_eq, maskR_nil, maskR_cons, getR, setR, maskL, Sf.disAt, dis_lit, noL_lit, ↓reduceIte, Nat.reduceEqDiff, Bool.true_and, true_and]
    exact hQ _ _ rfl
  · have h1 : 1 ≤ sz ∧ sz ≤ 1048576 := by omega
    have h2 : nw < nev := by unfold nev at *; omega
    simp -implicitDefEqProofs (maxSteps := 10000000) (disch := omega) only [seqQ_normal, opsK_eq, runI_nil, runI_none, o_mv, o_call, ev_r, ev_c, ev_f, putS, Sf.set, Sf.reg, mask_eq, maskR_nil, maskR_cons, getR, setR, maskL, regs0, id, dis_lit, List.map_cons, List.map_nil, ↓reduceIte, Nat.reduceEqDiff, reduceCtorEq, Nat.zero_add, f8_1e, f8_2e, f8_2l, f8_3e, f8_4e, f8_4l]
    refine call_a rfl e_f29 (snew_calls h1 ⟨hn.1, h2⟩ _) rfl fun r st0 hr => ?_
    obtain ⟨rfl, h0, _⟩ := hr
    generalize (St.boxes ⟨[]⟩).length + 3 = b at *
    generalize (St.boxes ⟨[]⟩).length + 1 = q at *
    generalize (St.boxes ⟨[]⟩).length + 2 = wid at *
    simp -implicitDefEqProofs (maxSteps := 10000000) (disch := omega) only [seqQ_normal, opsK_eq, runI_nil, runI_none, putP_eq, o_mv, o_ext, o_own, o_call, extV, wp_ok, bind_ok, ofOpt_some, ev_r, ev_f, putS, Sf.set, Sf.reg, mask_eq, maskR_nil, maskR_cons, getR, setR, maskL, Sf.disAt, id, dis_lit, dis_ptr, dis_tup, own2_lit, own2_ptr, List.map_cons, List.map_nil, List.getElem?_cons_zero, List.getElem?_cons_succ, ↓reduceIte, Nat.reduceEqDiff, reduceCtorEq, f8_5e, f8_6e, f8_6l]
    obtain ⟨H, hH⟩ : ∃ H, H = List.replicate 64 (0 : Int) := ⟨_, rfl⟩
    have hre := rnew_pure h1 h2 st0
    rw [← hH] at h0 hre
    have f1 := hR_own1 (H := H) (V := [])
    have f2 := hR_solid (H := H) (V := [])
    have f3 := hR_len (V := []) h0.hl
    have f6 := hR_take (V := []) h0.hl
    have f7 := set_hR (V := []) h0.hl
    refine call_p rfl e_f30 hre rfl ?_
    simp -implicitDefEqProofs (maxSteps := 10000000) (disch := omega) only [seqQ_normal, aC_skip, opsK_eq, runI_nil, runI_none, runI_some, AI.dst, putP_eq, cond_ff, guard_tt, o_mv, o_bin, o_ext, o_load, o_own, o_newL, o_store, o_call, extV, loadV, boxX, writeX, n_nilne, eqNilI, isNilI, derefI, takeI_some, n_neq, wp_ok, bind_ok, bind_req, ofOpt_some, req_tt, ev_r, ev_c, ev_f, evOwn_r, disOp_r, setB_r, putS, Sf.set, Sf.reg, mask_eq, maskR_nil, maskR_cons, getR, setR, maskL, Sf.disAt, Sf.newLoc, Sf.setLoc, look, killR, drop1, id, dis_lit, dis_ptr, dis_agg, dis_tup, own1_lit, own2_lit, own2_agg, cells_agg, solid1_lit, solid_eq, kill_lit, kill_ptr, kill_agg, kill_tup, List.map_cons, List.map_nil, List.length_cons, List.length_nil, List.getElem?_cons_zero, List.getElem?_cons_succ, List.all_cons, List.drop_zero, List.take_succ_cons, List.set_cons_zero, List.set_cons_succ, ↓reduceIte, Nat.reduceEqDiff, Nat.reduceAdd, Nat.reduceLeDiff, Bool.true_and, Bool.and_true, and_true, true_and, reduceCtorEq, Nat.zero_add, not_true_eq_false, decide_true, decide_false, Bool.not_false, len_setAt, setAt_cons, f8_7e, f8_8e, f8_9e, f8_9l, f8_10e, f8_13e, f8_14e, f8_15e, f8_15l, f8_16e, f8_19e, f8_20e, f8_20l, f1, f2, f3, f6, f7]
    refine call_a (vs := [_, rfAV sz nw H []]) (by simp only [List.map_cons, List.map_nil, List.nil_append, List.append_nil, dis_agg, own1_lit, dis_ptr, f1, f6]) e_f32 (lsame_calls h0) rfl fun r st1 hr => ?_
    obtain ⟨rfl, _, _⟩ := hr
    simp -implicitDefEqProofs (maxSteps := 10000000) (disch := omega) only [runI_none, runI_some, AI.dst, putP_eq, guard_tt, o_mv, o_pick, o_call, pick_tt, wp_ok, ev_r, ev_c, ev_f, putS, Sf.set, Sf.reg, getR, setR, id, dis_lit, List.map_nil, ↓reduceIte, Nat.reduceEqDiff]
    refine call_a rfl e_f31 (known35 _) rfl fun r st1 hr => ?_
    subst hr
    simp -implicitDefEqProofs (maxSteps := 10000000) (disch := omega) only [seqQ_normal, aC_ret, opsK_eq, retQ_ret, retI, runI_nil, runI_none, putP_eq, o_pick, o_own, pick_tt, wp_ok, ev_r, ev_c, putS, Sf.set, Sf.reg, mask_eq, maskR_nil, maskR_cons, getR, setR, maskL, Sf.disAt, dis_lit, noL_lit, ↓reduceIte, Nat.reduceEqDiff, Bool.true_and, true_and]
    exact hQ _ _ rfl
end Go.Fx.YtddifejdkiemgaaFx

