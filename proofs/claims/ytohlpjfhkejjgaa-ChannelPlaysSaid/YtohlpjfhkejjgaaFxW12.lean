/- What the functions that the statement reaches compute: part 12. -/
import Derived.Test.YtohlpjfhkejjgaaFxW11
namespace Go.Fx.YtohlpjfhkejjgaaFx
open Go Go.Fx
attribute [local irreducible] aC runI headI loopI

set_option maxRecDepth 100000
set_option maxHeartbeats 4000000

theorem n_item_neq (x y : It) : binI (.agg (.field 0 1 .int (.field 1 1 .int (.field 2 1 .int (.field 3 1 .int .tt))))) .neq (itAV x) (itAV y) = .ok (.lit (.bool (decide (x ≠ y)))) := by
  obtain ⟨a, b, c⟩ := x
  obtain ⟨a', b', c'⟩ := y
  simp only [itAV, binI, eqI, eqIntA, List.drop, List.take, Res.bind, andA]
  by_cases h1 : a = a'
  · by_cases h2 : b = b'
    · by_cases h3 : c = c'
      · simp [h1, h2, h3, andA, Res.bind]
      · simp [h1, h2, h3, andA, Res.bind]
    · simp [h1, h2, andA, Res.bind]
  · simp [h1, andA, Res.bind]
theorem it_dis (x : It) : (itAV x).cells = [.lit (.int .i64 x.1), .lit (.int .i64 0), .lit (.int .i64 x.2.1), .lit (.int .i64 x.2.2)] := rfl

theorem itsSame_pure (f g : List It) (hf : f.length ≤ 1000000) (hg : g.length ≤ 1000000) (st : St) : PCalls Go.Proofs.Try.prog n_f37 [.sl false 4 (f.map itAV), .sl false 4 (g.map itAV)] st (.lit (.bool (decide (f = g)))) := by
  refine pcalls_id hmix k_f37 rfl rfl fun Q hQ => ?_
  unfold aFun c_f37
  simp -implicitDefEqProofs (maxSteps := 10000000) (disch := omega) only [seqQ_normal, opsK_eq, runI_nil, runI_none, putP_eq, o_mv, o_bin, o_len, lenI, n_neq, wp_ok, ev_r, ev_c, putS, Sf.set, Sf.reg, mask_eq, maskR_nil, maskR_cons, getR, setR, maskL, regs0, dis_lit, dis_sl, ↓reduceIte, Nat.reduceEqDiff, reduceCtorEq, Nat.zero_add, List.length_map, f37_1e, f37_2e, f37_2l, f37_3e, f37_4e, f37_5e, f37_5l, f37_6e]
  refine cond_split (fun h => ?_) (fun h => ?_)
  · simp -implicitDefEqProofs (maxSteps := 10000000) (disch := omega) only [seqQ_normal, seqQ_ret, aC_ret, opsK_eq, retQ_ret, retI, runI_nil, runI_none, o_mv, wp_ok, ev_c, setB_r, putS, Sf.set, Sf.reg, mask_eq, maskR_nil, maskR_cons, getR, setR, maskL, dis_lit, noL_lit, ↓reduceIte, Nat.reduceEqDiff, Bool.true_and, true_and, reduceCtorEq, f37_7e, f37_8e, f37_8l]
    have : false = decide (f = g) := by
      symm; rw [decide_eq_false_iff_not]
      rintro rfl; exact h rfl
    rw [← this] at hQ
    exact hQ _
  · simp -implicitDefEqProofs (maxSteps := 10000000) (disch := omega) only [seqQ_normal, aC_skip, opsK_eq, runI_nil, runI_none, o_mv, ev_c, setB_r, putS, Sf.set, mask_eq, maskR_nil, maskR_cons, getR, setR, maskL, dis_lit, ↓reduceIte, Nat.reduceEqDiff, reduceCtorEq, f37_9e, f37_10e, f37_11e, f37_11l, f37_12e]
    have hfg : f.length = g.length := by omega
    rw [f37_13w]
    refine loop_op (A := Nat) (fun a => f.length - a) (fun a => ⟨[(0, .sl false 4 (f.map itAV)), (1, .sl false 4 (g.map itAV)), (5, .lit (.int .i64 (a : Nat)))], []⟩) (fun _ => st)
      (fun a => a ≤ f.length ∧ f.take a = g.take a) 0 ⟨by omega, rfl⟩ (Sf.le_refl _) rfl ?_
    rintro i ⟨h1, h2⟩ K hK hKe hKr
    by_cases h : i < f.length
    · have hj : i < g.length := by omega
      have e1 : (f.map itAV).getD i .any = itAV f[i] := by simp [List.getD, h]
      have e2 : (g.map itAV).getD i .any = itAV g[i] := by simp [List.getD, hj]
      have hn := n_item_neq f[i] g[i]
      simp only [itAV] at hn
      simp -implicitDefEqProofs (maxSteps := 10000000) (disch := omega) only [h_nil, h_none, hh_mv, hh_ixS, hh_load, val_head, tail_nil, seqQ_normal, aC_skip, opsK_eq, runI_nil, runI_none, putP_eq, o_mv, o_bin, o_len, ixSV, loadV, ixA, lenI, derefI, takeI_some, n_lss, wp_ok, bind_ok, bind_req, req_tt, ev_r, setB_r, putS, Sf.set, Sf.reg, mask_eq, maskR_nil, maskR_cons, getR, setR, maskL, dropL, dis_lit, dis_sl, dis_agg, own1_lit, cells_agg, List.map_cons, List.map_nil, List.length_cons, List.length_nil, List.take_succ_cons, List.take_zero, Int.toNat_natCast, ↓reduceIte, Nat.reduceEqDiff, Nat.reduceAdd, Nat.reduceLeDiff, reduceCtorEq, Nat.zero_add, decide_true, List.length_map, req_dec, cond_yes, and_pre, f37_14e, f37_15e, f37_16e, f37_16l, f37_17e, f37_18e, f37_19e, f37_20e, f37_21e, f37_21h, f37_21l, f37_22e, e1, e2, itAV, hn]
      refine cond_split (fun h3 => ?_) (fun h3 => ?_)
      · simp -implicitDefEqProofs (maxSteps := 10000000) (disch := omega) only [seqQ_normal, seqQ_ret, blockQ_ret, aC_ret, opsK_eq, runI_nil, runI_none, o_mv, ev_c, setB_r, putS, Sf.set, mask_eq, maskR_nil, maskR_cons, getR, setR, maskL, dis_lit, ↓reduceIte, Nat.reduceEqDiff, reduceCtorEq, f37_23e, f37_24e, f37_24l]
        have : false = decide (f = g) := by
          symm; rw [decide_eq_false_iff_not]
          rintro rfl; exact h3 rfl
        rw [← this] at hQ
        refine hKr _ _ ?_
        simp -implicitDefEqProofs (maxSteps := 10000000) (disch := omega) only [seqQ_ret, blockQ_ret, retQ_ret, retI, wp_ok, Sf.reg, getR, noL_lit, ↓reduceIte, Bool.true_and, true_and]
        exact hQ _
      · simp -implicitDefEqProofs (maxSteps := 10000000) (disch := omega) only [seqQ_normal, blockQ_normal, aC_skip, opsK_eq, runI_nil, runI_none, putP_eq, o_mv, o_bin, o_own, n_add, wp_ok, ev_r, ev_c, setB_r, putS, Sf.set, Sf.reg, mask_eq, maskR_nil, maskR_cons, getR, setR, maskL, Sf.disAt, dis_lit, ↓reduceIte, Nat.reduceEqDiff, reduceCtorEq, IntWalk.i64_in, up_addL, f37_25e, f37_25l]
        refine hK (i + 1) _ ⟨by omega, ?_⟩ (by omega) (Sf.le_refl _)
        rw [List.take_succ_eq_append_getElem h, List.take_succ_eq_append_getElem hj, h2, Classical.not_not.1 h3]
    · simp -implicitDefEqProofs (maxSteps := 10000000) (disch := omega) only [seqQ_normal, seqQ_exit, aC_exit, opsK_eq, runI_nil, runI_none, putP_eq, o_mv, o_bin, o_len, lenI, n_lss, wp_ok, ev_r, setB_r, putS, Sf.set, Sf.reg, mask_eq, maskR_nil, maskR_cons, getR, setR, maskL, dis_lit, dis_sl, ↓reduceIte, Nat.reduceEqDiff, reduceCtorEq, List.length_map, cond_no, f37_14e, f37_15e, f37_16e, f37_16l, f37_17e]
      refine hKe _ _ _ ?_
      simp -implicitDefEqProofs (maxSteps := 10000000) (disch := omega) only [seqQ_normal, blockQ_exit, aC_ret, opsK_eq, retQ_ret, retI, runI_nil, runI_none, o_mv, wp_ok, ev_c, putS, Sf.set, Sf.reg, mask_eq, maskR_nil, maskR_cons, getR, setR, maskL, dis_lit, noL_lit, ↓reduceIte, Bool.true_and, true_and, f37_26e, f37_27e, f37_27l]
      have : true = decide (f = g) := by
        symm; rw [decide_eq_true_iff]
        have e : i = f.length := by omega
        rw [e, List.take_length, hfg, List.take_length] at h2
        exact h2
      rw [← this] at hQ
      exact hQ _

theorem its_same (f g : List It) (hf : f.length ≤ 1000000) (hg : g.length ≤ 1000000) (st : St) : PCalls Go.Proofs.Try.prog n_f37 [itsAV f, itsAV g] st (.lit (.bool (decide (f = g)))) := by
  have hle : ∀ l : List It, (itsAV l).le (.sl false 4 (l.map itAV)) := fun l => by
    unfold itsAV
    split
    · rename_i h; subst h; exact .nil _ _
    · exact .refl _
  exact (itsSame_pure f g hf hg st).weak ⟨hle f, hle g, trivial⟩ (.refl _)

theorem requal_pure (x y : Rs) (hf : x.2.2.1.length ≤ 1000000) (hg : y.2.2.1.length ≤ 1000000) (st : St) : PCalls Go.Proofs.Try.prog n_f23 [rsAV x, rsAV y] st (.lit (.bool (decide (x = y)))) := by
  obtain ⟨a, b, c, d⟩ := x
  obtain ⟨a', b', c', d'⟩ := y
  obtain ⟨w1, w2, w3, w4, w5, w6, w7⟩ := itsAV_facts c
  obtain ⟨u1, u2, u3, u4, u5, u6, u7⟩ := itsAV_facts c'
  have hs : ∀ st, PCalls Go.Proofs.Try.prog n_f37 [(itsAV c).dis, (itsAV c').dis] st (.lit (.bool (decide (c = c')))) := fun st => by
    rw [w1, u1]; exact its_same c c' hf hg st
  refine pcalls_id hmix k_f23 rfl rfl fun Q hQ => ?_
  unfold aFun c_f23
  simp -implicitDefEqProofs (maxSteps := 10000000) (disch := omega) only [seqQ_normal, opsK_eq, runI_nil, runI_none, runI_some, AI.dst, putP_eq, o_mv, o_bin, o_addr, o_load, o_boxL, loadV, boxX, addA, derefI, takeI_none, n_eql, wp_ok, bind_ok, ofOpt_some, ev_r, ev_c, evOwn_r, putS, Sf.set, Sf.reg, mask_eq, maskR_nil, maskR_cons, getR, setR, maskL, Sf.newLoc, look, killR, drop1, regs0, dis_lit, dis_agg, own1_lit, cells_agg, solid1_lit, solid_eq, kill_lptr, kill_agg, List.map_cons, List.map_nil, List.length_cons, List.length_nil, List.all_cons, List.all_nil, List.drop_zero, ↓reduceIte, Nat.reduceEqDiff, Nat.reduceAdd, Bool.true_and, Bool.and_true, and_true, true_and, reduceCtorEq, Nat.zero_add, Nat.add_zero, f23_1e, f23_2e, f23_2l, f23_3e, f23_4e, f23_4l, rsAV, w2, w4, u2, u4]
  refine guard_split (fun h1 => ?_) (fun h1 => ?_)
  · simp -implicitDefEqProofs (maxSteps := 10000000) (disch := omega) only [runI_none, runI_some, AI.dst, putP_eq, guard_tt, o_mv, o_pick, o_bin, o_addr, o_load, pick_tt, loadV, b_eql, addA, derefI, takeI_none, wp_ok, bind_ok, ofOpt_some, ev_r, ev_c, putS, Sf.set, Sf.reg, getR, setR, look, dis_lit, List.drop_zero, List.drop_succ_cons, ↓reduceIte, Nat.reduceEqDiff, Nat.zero_add]
    by_cases h2 : b = b'
    · subst h2
      simp -implicitDefEqProofs (maxSteps := 10000000) (disch := omega) only [runI_none, runI_some, AI.dst, putP_eq, guard_tt, o_mv, o_pick, o_bin, o_addr, o_load, pick_tt, loadV, addA, derefI, takeI_none, n_eql, wp_ok, bind_ok, ofOpt_some, ev_r, ev_c, putS, Sf.set, Sf.reg, getR, setR, look, dis_lit, List.drop_zero, List.drop_succ_cons, ↓reduceIte, Nat.reduceEqDiff, Nat.zero_add, beq_self_eq_true]
      refine guard_split (fun h3 => ?_) (fun h3 => ?_)
      · simp -implicitDefEqProofs (maxSteps := 10000000) (disch := omega) only [runI_some, AI.dst, putP_eq, guard_tt, o_addr, o_load, o_call, loadV, addA, derefI, takeI_none, wp_ok, bind_ok, ofOpt_some, ev_r, ev_f, putS, Sf.set, Sf.reg, getR, setR, look, id, List.map_cons, List.map_nil, List.drop_zero, List.drop_succ_cons, ↓reduceIte, Nat.reduceEqDiff, Nat.zero_add, w1, u1]
        refine call_p rfl e_f37 (hs _) (by simp [w5, u5]) ?_
        simp -implicitDefEqProofs (maxSteps := 10000000) (disch := omega) only [seqQ_normal, aC_ret, opsK_eq, retQ_ret, retI, runI_nil, runI_none, putP_eq, o_pick, o_own, pick_tt, wp_ok, ev_r, ev_c, putS, Sf.set, Sf.reg, mask_eq, maskR_nil, maskR_cons, getR, setR, maskL, Sf.disAt, dis_lit, noL_lit, ↓reduceIte, Nat.reduceEqDiff, Bool.true_and, true_and]
        have : decide ((a, b, c, d) = (a', b, c', d')) = decide (c = c') := by simp [h1, h3]
        rw [this] at hQ
        exact hQ _
      · simp -implicitDefEqProofs (maxSteps := 10000000) (disch := omega) only [seqQ_normal, aC_ret, opsK_eq, retQ_ret, retI, runI_nil, runI_none, runI_some, skipI_eq, AI.dst, putP_eq, guard_ff, o_pick, o_own, pick_ff, wp_ok, ev_r, ev_c, putS, Sf.set, Sf.reg, mask_eq, maskR_nil, maskR_cons, getR, setR, maskL, Sf.disAt, dis_lit, noL_lit, ↓reduceIte, Nat.reduceEqDiff, Bool.true_and, true_and]
        have : decide ((a, b, c, d) = (a', b, c', d')) = false := by simp [h3]
        rw [this] at hQ
        exact hQ _
    · have hbb : (b == b') = false := by simpa using h2
      simp -implicitDefEqProofs (maxSteps := 10000000) (disch := omega) only [seqQ_normal, aC_ret, opsK_eq, retQ_ret, retI, runI_nil, runI_none, runI_some, skipI_eq, AI.dst, putP_eq, guard_ff, o_mv, o_pick, o_own, pick_ff, wp_ok, ev_r, ev_c, putS, Sf.set, Sf.reg, mask_eq, maskR_nil, maskR_cons, getR, setR, maskL, Sf.disAt, dis_lit, noL_lit, ↓reduceIte, Nat.reduceEqDiff, Bool.true_and, true_and, hbb]
      have : decide ((a, b, c, d) = (a', b', c', d')) = false := by simp [h2]
      rw [this] at hQ
      exact hQ _
  · simp -implicitDefEqProofs (maxSteps := 10000000) (disch := omega) only [seqQ_normal, aC_ret, opsK_eq, retQ_ret, retI, runI_nil, runI_none, runI_some, skipI_eq, AI.dst, putP_eq, guard_ff, o_mv, o_pick, o_own, pick_ff, wp_ok, ev_r, ev_c, putS, Sf.set, Sf.reg, mask_eq, maskR_nil, maskR_cons, getR, setR, maskL, Sf.disAt, dis_lit, noL_lit, ↓reduceIte, Nat.reduceEqDiff, Bool.true_and, true_and]
    have : decide ((a, b, c, d) = (a', b', c', d')) = false := by simp [h1]
    rw [this] at hQ
    exact hQ _
end Go.Fx.YtohlpjfhkejjgaaFx

