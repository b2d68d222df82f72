/- What the functions that the statement reaches compute: part 5. -/
import Derived.Test.YtenijlfcfmhmkaaFxW4
namespace Go.Fx.YtenijlfcfmhmkaaFx
open Go Go.Fx
attribute [local irreducible] aC runI headI loopI

set_option maxRecDepth 100000
set_option maxHeartbeats 4000000

theorem nxt_le (b : List UInt8) : (nxt b).2.1 ≤ b.length ∧ (¬ (nxt b).2.1 = 0 → 6 ≤ (nxt b).2.1) ∧ (nxt b).2.2 < 100 ∧ (nxt b).2.1 < 100000 ∧ (nxt b).1.2.length ≤ 1024 ∧ (¬ (nxt b).2.2 = 0 → (nxt b).2.1 = 0) := by
  unfold nxt
  have : ∀ m : Nat, (([] : List UInt8).length ≤ 1024) ∧ 0 ≤ m := fun m => ⟨by simp, by omega⟩
  repeat' split
  all_goals simp only [List.length_drop, List.length_take, List.length_nil, Nat.zero_le, not_true_eq_false, not_false_eq_true, true_and, and_true, false_implies, implies_true, Nat.reduceLT, Nat.reduceEqDiff]
  omega

/-- All frames of some bytes. -/
def allF (b : List UInt8) : Nat → Nat → List (UInt8 × List UInt8) → List (UInt8 × List UInt8) × Nat × Nat
  | 0, i, out => (out, i, 0)
  | k + 1, i, out => if ¬ (nxt (b.drop i)).2.2 = 0 then ([], i, (nxt (b.drop i)).2.2) else if (nxt (b.drop i)).2.1 = 0 then (out, i, 0) else allF b k (i + (nxt (b.drop i)).2.1) (out ++ [(nxt (b.drop i)).1])
def allB (b : List UInt8) : List (UInt8 × List UInt8) × Nat × Nat := allF b (b.length + 1) 0 []

def frsAV (l : List (UInt8 × List UInt8)) : AV := .sl false 2 (l.map frAV)
def ownAV (l : List (UInt8 × List UInt8)) : AV := if l = [] then .lit (.slice none 0 0) else .sl true 2 (l.map frAV)
theorem own_le (l : List (UInt8 × List UInt8)) : (ownAV l).le (frsAV l) := by
  unfold ownAV frsAV
  split
  · subst_vars; exact .nil _ _
  · exact .own _ _
theorem own_dis (l : List (UInt8 × List UInt8)) : (ownAV l).dis.le (frsAV l) := by
  unfold ownAV frsAV
  split
  · subst_vars; exact .nil _ _
  · exact .refl _
theorem frs_nb (l : List (UInt8 × List UInt8)) : (frsAV l).NB := .sl _ _ _ (by simp only [List.mem_map]; rintro x ⟨f, _, rfl⟩; exact frAV_nb f)
def allAV (r : List (UInt8 × List UInt8) × Nat × Nat) : AV := .tup [frsAV r.1, .lit (.int .i64 (r.2.1 : Nat)), .lit (.int .i64 (r.2.2 : Nat))]
theorem allAV_nb (r : List (UInt8 × List UInt8) × Nat × Nat) : (allAV r).NB := .tup _ (by simp [AV.NB.lit, frs_nb])

theorem ownAV_nil : ownAV [] = .lit (.slice none 0 0) := rfl
theorem ownAV_cons (x : UInt8 × List UInt8) (l : List (UInt8 × List UInt8)) : ownAV (x :: l) = .sl true 2 (frAV x :: l.map frAV) := rfl

theorem all_pure (b : List UInt8) (hl : b.length ≤ 1000000) (st : St) : PCalls Go.Proofs.Try.prog n_frame_All [.sl false 1 (BB b)] st (allAV (allB b)) := by
  refine pure_eq ?_ (allAV_nb _) (by simp [BB_slnb]) st
  refine acalls_id hmix k_frame_All rfl rfl ?_
  unfold aFun c_frame_All
  simp -implicitDefEqProofs (maxSteps := 10000000) (disch := omega) only [seqQ_normal, opsK_eq, runI_nil, runI_none, o_mv, ev_c, putS, Sf.set, mask_eq, maskR_nil, maskR_cons, getR, setR, maskL, regs0, dis_lit, dis_sl, ↓reduceIte, Nat.reduceEqDiff, reduceCtorEq, frame_All_1e, frame_All_2e, frame_All_2l, frame_All_3e]
  rw [frame_All_4w]
  refine loop_for (A := Nat × Nat × List (UInt8 × List UInt8)) (fun a => a.1) (fun a => ⟨[(0, .sl false 1 (BB b)), (2, ownAV a.2.2), (3, .lit (.int .i64 (a.2.1 : Nat)))], []⟩) (fun _ => ⟨[]⟩)
    (fun a => a.2.1 ≤ b.length ∧ b.length - a.2.1 < a.1 ∧ a.2.2.length ≤ a.2.1 ∧ allF b a.1 a.2.1 a.2.2 = allB b) (b.length + 1, 0, []) ⟨by simp, by simp, by simp, rfl⟩ (Sf.le_refl _) rfl ?_
  rintro ⟨k, i, out⟩ ⟨h1, h2, h3, h4⟩
  simp only at h1 h2 h3 h4
  obtain ⟨k, rfl⟩ : ∃ q, k = q + 1 := ⟨k - 1, by omega⟩
  obtain ⟨n1, n2, n3, n4, n5, n6⟩ := nxt_le (b.drop i)
  have hc := next_pure (b.drop i) (by simp; omega) ⟨[]⟩
  simp only [allF] at h4
  generalize nxt (b.drop i) = r at *
  obtain ⟨⟨fk, fb⟩, n, e⟩ := r
  simp only [List.length_drop] at n1 n2 n3 n4 n5 n6 h4
  simp -implicitDefEqProofs (maxSteps := 10000000) (disch := omega) only [runI_none, putP_eq, o_mv, o_sliOwn, o_call, sliSV, sliOwnX, ixTo, wp_ok, bind_ok, bind_req, ev_r, ev_f, putS, Sf.set, Sf.reg, getR, setR, id, dis_lit, dis_sl, List.map_cons, List.map_nil, Int.toNat_natCast, ↓reduceIte, Nat.reduceEqDiff, reduceCtorEq, List.take_length, BB_len, BB_take, BB_drop, req_dec, and_pre, frame_All_5e, frame_All_6e, frame_All_7e, frame_All_7l]
  refine call_p rfl e_frame_next hc rfl ?_
  rcases out with _ | ⟨x, out⟩
  · simp -implicitDefEqProofs (maxSteps := 10000000) (disch := omega) only [seqQ_normal, opsK_eq, runI_nil, runI_none, putP_eq, o_mv, o_bin, o_ext, o_own, o_newL, o_store, extV, boxX, writeX, n_neq, wp_ok, bind_ok, ofOpt_some, ev_r, ev_c, evOwn_r, disOp_r, putS, Sf.set, Sf.reg, mask_eq, maskR_nil, maskR_cons, getR, setR, maskL, Sf.disAt, Sf.newLoc, Sf.setLoc, look, killR, drop1, dis_lit, dis_agg, dis_tup, own1_lit, own1_sl, own2_lit, own2_agg, cells_agg, solid1_lit, solid1_sl, solid_eq, kill_lit, kill_sl, kill_agg, kill_tup, List.map_cons, List.map_nil, List.length_cons, List.length_nil, List.getElem?_cons_zero, List.getElem?_cons_succ, List.all_cons, List.all_nil, List.set_cons_zero, List.set_cons_succ, ↓reduceIte, Nat.reduceEqDiff, Nat.reduceAdd, Nat.reduceLeDiff, Bool.true_and, Bool.and_true, and_true, true_and, reduceCtorEq, Nat.zero_add, setAt_nil, setAt_cons, frame_All_8e, frame_All_9e, frame_All_10e, frame_All_11e, frame_All_11l, frame_All_12e, resAV, frAV, ownAV_nil]
    refine cond_split (fun h => ?_) (fun h => ?_)
    · simp -implicitDefEqProofs (maxSteps := 10000000) (disch := omega) only [stepQ_ret, seqQ_normal, seqQ_ret, blockQ_ret, aC_ret, opsK_eq, retQ_ret, retI, resI, resL, runI_nil, runI_none, o_mv, o_own, wp_ok, bind_ok, ev_r, ev_c, setB_r, putS, Sf.set, Sf.reg, mask_eq, maskR_nil, maskR_cons, getR, setR, maskL, Sf.disAt, dis_lit, noL_lit, noL_tup, List.all_cons, List.all_nil, ↓reduceIte, Nat.reduceEqDiff, Bool.true_and, Bool.and_true, and_true, true_and, reduceCtorEq, frame_All_13e, frame_All_14e, frame_All_14l]
      rw [if_pos (by omega)] at h4
      rw [← h4]
      exact .tupL ⟨.nil _ _, .refl _, .refl _, trivial⟩
    · simp -implicitDefEqProofs (maxSteps := 10000000) (disch := omega) only [seqQ_normal, opsK_eq, runI_nil, runI_none, putP_eq, o_mv, o_bin, o_own, n_eql, wp_ok, ev_r, ev_c, setB_r, putS, Sf.set, Sf.reg, mask_eq, maskR_nil, maskR_cons, getR, setR, maskL, Sf.disAt, look, dis_lit, ↓reduceIte, Nat.reduceEqDiff, reduceCtorEq, frame_All_15e, frame_All_16e, frame_All_16l, frame_All_17e]
      rw [if_neg (by omega)] at h4
      refine cond_split (fun h => ?_) (fun h => ?_)
      · simp -implicitDefEqProofs (maxSteps := 10000000) (disch := omega) only [stepQ_ret, seqQ_normal, seqQ_ret, blockQ_ret, aC_ret, opsK_eq, retQ_ret, retI, resI, resL, runI_nil, runI_none, o_mv, o_own, wp_ok, bind_ok, ev_r, ev_c, setB_r, putS, Sf.set, Sf.reg, mask_eq, maskR_nil, maskR_cons, getR, setR, maskL, Sf.disAt, dis_lit, noL_lit, noL_tup, List.all_cons, List.all_nil, ↓reduceIte, Nat.reduceEqDiff, Bool.true_and, Bool.and_true, and_true, true_and, reduceCtorEq, frame_All_18e, frame_All_19e, frame_All_19l]
        rw [if_pos (by omega)] at h4
        rw [← h4]
        exact .tupL ⟨.nil _ _, .refl _, .refl _, trivial⟩
      · simp -implicitDefEqProofs (maxSteps := 10000000) (disch := omega) only [stepQ_normal, and_self, seqQ_normal, blockQ_normal, aC_skip, opsK_eq, runI_nil, runI_none, putP_eq, o_mv, o_bin, o_load, o_bsl, o_own, o_appS, loadV, bslV, appSX, List.isEmpty_cons, List.reduceReplicate, derefI, takeI_some, appNewI, srcA, fillA, n_add, wp_ok, bind_ok, bind_req, ofOpt_some, req_tt, ev_r, setB_r, putS, Sf.set, Sf.reg, mask_eq, maskR_nil, maskR_cons, getR, setR, maskL, Sf.disAt, look, dis_lit, dis_sl, dis_agg, own1_lit, own1_sl, cells_agg, solid1_lit, solid1_sl, solid_eq, List.map_cons, List.map_nil, List.length_cons, List.length_nil, List.all_cons, List.all_nil, List.drop_zero, List.take_succ_cons, List.take_zero, List.set_cons_zero, ↓reduceIte, Nat.reduceEqDiff, Nat.reduceAdd, Nat.reduceLT, Nat.reduceLeDiff, Bool.and_true, and_true, reduceCtorEq, Nat.zero_add, decide_true, Bool.false_eq_true, room_of, IntWalk.i64_in, up_add, frame_All_20e, frame_All_20l]
        rw [if_neg (by omega)] at h4
        exact ⟨(k, i + n, [(fk, fb)]), ⟨⟨by simp only; omega, by simp only; omega, by simp; omega, h4⟩, by simp⟩, leR_refl _, trivial⟩
  · simp only [List.length_cons] at h3
    simp -implicitDefEqProofs (maxSteps := 10000000) (disch := omega) only [seqQ_normal, opsK_eq, runI_nil, runI_none, putP_eq, o_mv, o_bin, o_ext, o_own, o_newL, o_store, extV, boxX, writeX, n_neq, wp_ok, bind_ok, ofOpt_some, ev_r, ev_c, evOwn_r, disOp_r, putS, Sf.set, Sf.reg, mask_eq, maskR_nil, maskR_cons, getR, setR, maskL, Sf.disAt, Sf.newLoc, Sf.setLoc, look, killR, drop1, dis_lit, dis_agg, dis_tup, own1_lit, own1_sl, own2_lit, own2_agg, cells_agg, solid1_lit, solid1_sl, solid_eq, kill_lit, kill_sl, kill_agg, kill_tup, List.map_cons, List.map_nil, List.length_cons, List.length_nil, List.getElem?_cons_zero, List.getElem?_cons_succ, List.all_cons, List.all_nil, List.set_cons_zero, List.set_cons_succ, ↓reduceIte, Nat.reduceEqDiff, Nat.reduceAdd, Nat.reduceLeDiff, Bool.true_and, Bool.and_true, and_true, true_and, reduceCtorEq, Nat.zero_add, setAt_nil, setAt_cons, frame_All_8e, frame_All_9e, frame_All_10e, frame_All_11e, frame_All_11l, frame_All_12e, resAV, frAV, ownAV_cons]
    refine cond_split (fun h => ?_) (fun h => ?_)
    · simp -implicitDefEqProofs (maxSteps := 10000000) (disch := omega) only [stepQ_ret, seqQ_normal, seqQ_ret, blockQ_ret, aC_ret, opsK_eq, retQ_ret, retI, resI, resL, runI_nil, runI_none, o_mv, o_own, wp_ok, bind_ok, ev_r, ev_c, setB_r, putS, Sf.set, Sf.reg, mask_eq, maskR_nil, maskR_cons, getR, setR, maskL, Sf.disAt, dis_lit, noL_lit, noL_tup, List.all_cons, List.all_nil, ↓reduceIte, Nat.reduceEqDiff, Bool.true_and, Bool.and_true, and_true, true_and, reduceCtorEq, frame_All_13e, frame_All_14e, frame_All_14l]
      rw [if_pos (by omega)] at h4
      rw [← h4]
      exact .tupL ⟨.nil _ _, .refl _, .refl _, trivial⟩
    · simp -implicitDefEqProofs (maxSteps := 10000000) (disch := omega) only [seqQ_normal, opsK_eq, runI_nil, runI_none, putP_eq, o_mv, o_bin, o_own, n_eql, wp_ok, ev_r, ev_c, setB_r, putS, Sf.set, Sf.reg, mask_eq, maskR_nil, maskR_cons, getR, setR, maskL, Sf.disAt, look, dis_lit, ↓reduceIte, Nat.reduceEqDiff, reduceCtorEq, frame_All_15e, frame_All_16e, frame_All_16l, frame_All_17e]
      rw [if_neg (by omega)] at h4
      refine cond_split (fun h => ?_) (fun h => ?_)
      · simp -implicitDefEqProofs (maxSteps := 10000000) (disch := omega) only [stepQ_ret, seqQ_normal, seqQ_ret, blockQ_ret, aC_ret, opsK_eq, retQ_ret, retI, resI, resL, runI_nil, runI_none, o_mv, o_own, wp_ok, bind_ok, ev_r, ev_c, setB_r, putS, Sf.set, Sf.reg, mask_eq, maskR_nil, maskR_cons, getR, setR, maskL, Sf.disAt, dis_lit, dis_sl, noL_lit, noL_sl, noL_tup, List.all_cons, List.all_nil, ↓reduceIte, Nat.reduceEqDiff, Bool.true_and, Bool.and_true, and_true, true_and, reduceCtorEq, frame_All_18e, frame_All_19e, frame_All_19l]
        rw [if_pos (by omega)] at h4
        rw [← h4]
        exact .tupL ⟨.refl _, .refl _, .refl _, trivial⟩
      · simp -implicitDefEqProofs (maxSteps := 10000000) (disch := omega) only [stepQ_normal, and_self, seqQ_normal, blockQ_normal, aC_skip, opsK_eq, runI_nil, runI_none, putP_eq, o_mv, o_bin, o_load, o_bsl, o_own, o_appS, loadV, bslV, appSX, List.reduceReplicate, derefI, takeI_some, appOwnI, srcA, fillA, n_add, wp_ok, bind_ok, bind_req, ofOpt_some, req_tt, ev_r, setB_r, putS, Sf.set, Sf.reg, mask_eq, maskR_nil, maskR_cons, getR, setR, maskL, Sf.disAt, look, dis_lit, dis_sl, dis_agg, own1_lit, own1_sl, cells_agg, solid1_lit, solid1_sl, solid_eq, List.map_cons, List.map_nil, List.length_cons, List.length_nil, List.all_cons, List.all_nil, List.cons_append, List.drop_zero, List.take_succ_cons, List.take_zero, List.set_cons_zero, ↓reduceIte, Nat.reduceEqDiff, Nat.reduceAdd, Nat.reduceLT, Nat.reduceLeDiff, Bool.and_true, and_true, reduceCtorEq, Nat.zero_add, decide_true, List.length_map, room_of, IntWalk.i64_in, up_add, frame_All_20e, frame_All_20l]
        rw [if_neg (by omega)] at h4
        refine ⟨(k, i + n, x :: out ++ [(fk, fb)]), ⟨⟨by simp only; omega, by simp only; omega, by simp; omega, h4⟩, by simp⟩, ?_, trivial⟩
        simp only [List.cons_append, ownAV_cons, List.map_append, List.map_cons, List.map_nil]
        exact leR_refl _

theorem same_pure (f g : UInt8 × List UInt8) (st : St) : PCalls Go.Proofs.Try.prog n_aqueductref43_Same [frAV f, frAV g] st (.lit (.bool (decide (f = g)))) := by
  refine pure_eq ?_ (.lit _) (by simp [frAV_nb]) st
  refine acalls_id hmix k_aqueductref43_Same rfl rfl ?_
  unfold aFun c_aqueductref43_Same
  obtain ⟨fk, fb⟩ := f
  obtain ⟨gk, gb⟩ := g
  simp -implicitDefEqProofs (maxSteps := 10000000) (disch := omega) only [seqQ_normal, opsK_eq, runI_nil, runI_none, runI_some, AI.dst, putP_eq, o_mv, o_bin, o_addr, o_load, o_boxL, loadV, boxX, addA, derefI, takeI_none, n_eql, wp_ok, bind_ok, ofOpt_some, ev_r, ev_c, evOwn_r, putS, Sf.set, Sf.reg, mask_eq, maskR_nil, maskR_cons, getR, setR, maskL, Sf.newLoc, look, killR, drop1, regs0, dis_lit, dis_agg, own1_lit, own1_sl, cells_agg, solid1_lit, solid1_sl, solid_eq, kill_lptr, kill_agg, List.map_cons, List.map_nil, List.length_cons, List.length_nil, List.all_cons, List.all_nil, List.drop_zero, ↓reduceIte, Nat.reduceEqDiff, Nat.reduceAdd, Bool.true_and, Bool.and_true, and_true, true_and, reduceCtorEq, Nat.zero_add, Nat.add_zero, aqueductref43_Same_1e, aqueductref43_Same_2e, aqueductref43_Same_2l, aqueductref43_Same_3e, aqueductref43_Same_4e, aqueductref43_Same_4l, frAV, eq_byte]
  refine guard_split (fun h => ?_) (fun h => ?_)
  · subst h
    simp -implicitDefEqProofs (maxSteps := 10000000) (disch := omega) only [seqQ_normal, aC_ret, opsK_eq, retQ_ret, retI, runI_nil, runI_none, runI_some, AI.dst, putP_eq, guard_tt, o_pick, o_bin, o_conv, o_addr, o_load, o_own, pick_tt, loadV, addA, convI, derefI, takeI_none, wp_ok, bind_ok, ofOpt_some, ev_r, ev_c, putS, Sf.set, Sf.reg, mask_eq, maskR_nil, maskR_cons, getR, setR, maskL, Sf.disAt, look, dis_lit, dis_sl, noL_lit, List.drop_zero, List.drop_succ_cons, ↓reduceIte, Nat.reduceEqDiff, Bool.true_and, true_and, Nat.zero_add, decide_true, strOf_BB, str_eql]
    have : decide (fb = gb) = decide ((fk, fb) = (fk, gb)) := by simp
    rw [this]
    exact .refl _
  · simp -implicitDefEqProofs (maxSteps := 10000000) (disch := omega) only [seqQ_normal, aC_ret, opsK_eq, retQ_ret, retI, runI_nil, runI_none, runI_some, skipI_eq, AI.dst, putP_eq, guard_ff, o_pick, o_own, pick_ff, wp_ok, ev_r, ev_c, putS, Sf.set, Sf.reg, mask_eq, maskR_nil, maskR_cons, getR, setR, maskL, Sf.disAt, dis_lit, noL_lit, ↓reduceIte, Nat.reduceEqDiff, Bool.true_and, true_and]
    have : false = decide ((fk, fb) = (gk, gb)) := by simp [h]
    rw [this]
    exact .refl _

theorem sameAll_pure (f g : List (UInt8 × List UInt8)) (hf : f.length ≤ 1000000) (hg : g.length ≤ 1000000) (st : St) : PCalls Go.Proofs.Try.prog n_aqueductref43_SameAll [frsAV f, frsAV g] st (.lit (.bool (decide (f = g)))) := by
  refine pure_eq ?_ (.lit _) (by simp [frs_nb]) st
  refine acalls_id hmix k_aqueductref43_SameAll rfl rfl ?_
  unfold aFun c_aqueductref43_SameAll
  simp -implicitDefEqProofs (maxSteps := 10000000) (disch := omega) only [seqQ_normal, opsK_eq, runI_nil, runI_none, putP_eq, o_mv, o_bin, o_len, lenI, n_neq, wp_ok, ev_r, ev_c, putS, Sf.set, Sf.reg, mask_eq, maskR_nil, maskR_cons, getR, setR, maskL, regs0, dis_lit, dis_sl, ↓reduceIte, Nat.reduceEqDiff, reduceCtorEq, Nat.zero_add, List.length_map, aqueductref43_SameAll_1e, aqueductref43_SameAll_2e, aqueductref43_SameAll_2l, aqueductref43_SameAll_3e, aqueductref43_SameAll_4e, aqueductref43_SameAll_5e, aqueductref43_SameAll_5l, aqueductref43_SameAll_6e, frsAV]
  refine cond_split (fun h => ?_) (fun h => ?_)
  · simp -implicitDefEqProofs (maxSteps := 10000000) (disch := omega) only [seqQ_normal, seqQ_ret, aC_ret, opsK_eq, retQ_ret, retI, runI_nil, runI_none, o_mv, wp_ok, ev_c, setB_r, putS, Sf.set, Sf.reg, mask_eq, maskR_nil, maskR_cons, getR, setR, maskL, dis_lit, noL_lit, ↓reduceIte, Nat.reduceEqDiff, Bool.true_and, true_and, reduceCtorEq, aqueductref43_SameAll_7e, aqueductref43_SameAll_8e, aqueductref43_SameAll_8l]
    have : false = decide (f = g) := by
      symm; rw [decide_eq_false_iff_not]
      rintro rfl; exact h rfl
    rw [this]
    exact .refl _
  · simp -implicitDefEqProofs (maxSteps := 10000000) (disch := omega) only [seqQ_normal, aC_skip, opsK_eq, runI_nil, runI_none, o_mv, ev_c, setB_r, putS, Sf.set, mask_eq, maskR_nil, maskR_cons, getR, setR, maskL, dis_lit, ↓reduceIte, Nat.reduceEqDiff, reduceCtorEq, aqueductref43_SameAll_9e, aqueductref43_SameAll_10e, aqueductref43_SameAll_11e, aqueductref43_SameAll_11l, aqueductref43_SameAll_12e]
    have hfg : f.length = g.length := by omega
    rw [aqueductref43_SameAll_13w]
    refine loop_for (A := Nat) (fun a => f.length - a) (fun a => ⟨[(0, .sl false 2 (f.map frAV)), (1, .sl false 2 (g.map frAV)), (5, .lit (.int .i64 (a : Nat)))], []⟩) (fun _ => ⟨[]⟩)
      (fun a => a ≤ f.length ∧ f.take a = g.take a) 0 ⟨by omega, rfl⟩ (Sf.le_refl _) rfl ?_
    rintro i ⟨h1, h2⟩
    simp -implicitDefEqProofs (maxSteps := 10000000) (disch := omega) only [seqQ_normal, opsK_eq, runI_nil, runI_none, putP_eq, o_mv, o_bin, o_len, lenI, n_lss, wp_ok, ev_r, putS, Sf.set, Sf.reg, mask_eq, maskR_nil, maskR_cons, getR, setR, maskL, dis_lit, dis_sl, ↓reduceIte, Nat.reduceEqDiff, reduceCtorEq, List.length_map, aqueductref43_SameAll_14e, aqueductref43_SameAll_15e, aqueductref43_SameAll_16e, aqueductref43_SameAll_16l, aqueductref43_SameAll_17e]
    refine cond_split (fun h => ?_) (fun h => ?_)
    · have hi : i < f.length := by omega
      have hj : i < g.length := by omega
      have e1 : (f.map frAV).getD i .any = frAV f[i] := by simp [List.getD, hi]
      have e2 : (g.map frAV).getD i .any = frAV g[i] := by simp [List.getD, hj]
      simp -implicitDefEqProofs (maxSteps := 10000000) (disch := omega) only [h_nil, h_none, hh_mv, hh_ixS, hh_load, val_head, tail_nil, seqQ_normal, aC_skip, runI_none, o_call, ixSV, loadV, ixA, derefI, takeI_some, wp_ok, bind_ok, bind_req, req_tt, ev_r, ev_f, setB_r, putS, Sf.set, Sf.reg, getR, setR, dropL, id, dis_lit, dis_sl, dis_agg, own1_lit, own1_sl, cells_agg, List.map_cons, List.map_nil, List.length_cons, List.length_nil, List.take_succ_cons, List.take_zero, Int.toNat_natCast, ↓reduceIte, Nat.reduceEqDiff, Nat.reduceAdd, Nat.reduceLeDiff, reduceCtorEq, Nat.zero_add, decide_true, List.length_map, req_dec, and_pre, aqueductref43_SameAll_18e, aqueductref43_SameAll_19e, aqueductref43_SameAll_20e, aqueductref43_SameAll_21e, aqueductref43_SameAll_21h, aqueductref43_SameAll_21l, e1, e2, frAV]
      refine call_p rfl e_aqueductref43_Same (same_pure f[i] g[i] _) rfl ?_
      simp -implicitDefEqProofs (maxSteps := 10000000) (disch := omega) only [seqQ_normal, opsK_eq, runI_nil, runI_none, putP_eq, o_un, unA, wp_ok, ev_r, putS, Sf.set, Sf.reg, mask_eq, maskR_nil, maskR_cons, getR, setR, maskL, ↓reduceIte, Nat.reduceEqDiff, reduceCtorEq, not_dec, aqueductref43_SameAll_22e]
      refine cond_split (fun h3 => ?_) (fun h3 => ?_)
      · simp -implicitDefEqProofs (maxSteps := 10000000) (disch := omega) only [stepQ_ret, seqQ_normal, seqQ_ret, blockQ_ret, aC_ret, opsK_eq, retQ_ret, retI, runI_nil, runI_none, o_mv, wp_ok, ev_c, setB_r, putS, Sf.set, Sf.reg, mask_eq, maskR_nil, maskR_cons, getR, setR, maskL, dis_lit, noL_lit, ↓reduceIte, Nat.reduceEqDiff, Bool.true_and, true_and, reduceCtorEq, aqueductref43_SameAll_23e, aqueductref43_SameAll_24e, aqueductref43_SameAll_24l]
        have : false = decide (f = g) := by
          symm; rw [decide_eq_false_iff_not]
          rintro rfl; exact h3 rfl
        rw [this]
        exact .refl _
      · simp -implicitDefEqProofs (maxSteps := 10000000) (disch := omega) only [stepQ_normal, seqQ_normal, blockQ_normal, aC_skip, opsK_eq, runI_nil, runI_none, putP_eq, o_mv, o_bin, o_own, n_add, wp_ok, ev_r, ev_c, setB_r, putS, Sf.set, Sf.reg, mask_eq, maskR_nil, maskR_cons, getR, setR, maskL, Sf.disAt, dis_lit, ↓reduceIte, Nat.reduceEqDiff, Bool.and_true, and_true, reduceCtorEq, IntWalk.i64_in, up_addL, aqueductref43_SameAll_25e, aqueductref43_SameAll_25l]
        refine ⟨i + 1, ⟨⟨by omega, ?_⟩, by omega⟩, leR_refl _, trivial⟩
        rw [List.take_succ_eq_append_getElem hi, List.take_succ_eq_append_getElem hj, h2, Classical.not_not.1 h3]
    · simp -implicitDefEqProofs (maxSteps := 10000000) (disch := omega) only [stepQ_exit, seqQ_normal, seqQ_exit, blockQ_exit, aC_exit, aC_ret, opsK_eq, retQ_ret, retI, runI_nil, runI_none, o_mv, wp_ok, ev_c, setB_r, putS, Sf.set, Sf.reg, mask_eq, maskR_nil, maskR_cons, getR, setR, maskL, dis_lit, noL_lit, ↓reduceIte, Nat.reduceEqDiff, Bool.true_and, true_and, reduceCtorEq, aqueductref43_SameAll_26e, aqueductref43_SameAll_27e, aqueductref43_SameAll_27l]
      have : true = decide (f = g) := by
        symm; rw [decide_eq_true_iff]
        have e : i = f.length := by omega
        rw [e, List.take_length, hfg, List.take_length] at h2
        exact h2
      rw [this]
      exact .refl _
end Go.Fx.YtenijlfcfmhmkaaFx

