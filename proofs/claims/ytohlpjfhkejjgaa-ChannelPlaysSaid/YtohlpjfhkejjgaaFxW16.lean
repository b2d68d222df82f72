/- What the functions that the statement reaches compute: part 16. -/
import Derived.Test.YtohlpjfhkejjgaaFxW15
namespace Go.Fx.YtohlpjfhkejjgaaFx
open Go Go.Fx
attribute [local irreducible] aC runI headI loopI

set_option maxRecDepth 100000
set_option maxHeartbeats 4000000

/-- Where a task waits, from k on. -/
def atR (t : Int) : List W3 → Nat → Int
  | [], _ => -1
  | x :: r, k => if x.2.1 = t then (k : Int) else atR t r (k + 1)

theorem at_pure (l : List W3) (t : Int) (hl : l.length ≤ 1000000) (st : St) : PCalls Go.Proofs.Try.prog n_f54 [wlAV l, .lit (.int .i64 t)] st (.lit (.int .i64 (atR t l 0))) := by
  refine pcalls_id hmix k_f54 rfl rfl fun Q hQ => ?_
  unfold aFun c_f54
  simp -implicitDefEqProofs (maxSteps := 10000000) (disch := omega) only [seqQ_normal, opsK_eq, runI_nil, runI_none, o_mv, ev_c, putS, Sf.set, mask_eq, maskR_nil, maskR_cons, getR, setR, maskL, regs0, dis_lit, dis_sl, ↓reduceIte, Nat.reduceEqDiff, reduceCtorEq, Nat.zero_add, f54_1e, f54_2e, f54_2l, f54_3e, f54_4e, f54_5e, f54_5l, f54_6e, wlAV]
  rw [f54_7w]
  refine loop_op (A := Nat) (fun a => l.length - a) (fun a => ⟨[(0, .sl false 2 (l.map wAV)), (1, .lit (.int .i64 t)), (5, .lit (.int .i64 (a : Nat)))], []⟩) (fun _ => st)
    (fun a => a ≤ l.length ∧ atR t l 0 = atR t (l.drop a) a) 0 ⟨by omega, rfl⟩ (Sf.le_refl _) rfl ?_
  rintro i ⟨h1, h2⟩ K hK hKe hKr
  by_cases h : i < l.length
  · have e1 : (l.map wAV).getD i .any = wAV l[i] := by simp [List.getD, h]
    rw [List.drop_eq_getElem_cons h] at h2
    simp only [atR] at h2
    simp -implicitDefEqProofs (maxSteps := 10000000) (disch := omega) only [seqQ_normal, aC_skip, opsK_eq, runI_nil, runI_none, putP_eq, o_mv, o_bin, o_addr, o_ixS, o_load, o_len, ixSV, loadV, ixA, lenI, addA, derefI, takeI_none, n_eql, n_lss, wp_ok, bind_ok, bind_req, ev_r, setB_r, putS, Sf.set, Sf.reg, mask_eq, maskR_nil, maskR_cons, getR, setR, maskL, dis_lit, dis_sl, cells_agg, List.drop_zero, Int.toNat_natCast, ↓reduceIte, Nat.reduceEqDiff, reduceCtorEq, List.length_map, req_dec, cond_yes, and_pre, f54_8e, f54_9e, f54_10e, f54_10l, f54_11e, f54_12e, f54_13e, f54_14e, f54_15e, f54_15l, f54_16e, e1, wAV]
    refine cond_split (fun h3 => ?_) (fun h3 => ?_)
    · simp -implicitDefEqProofs (maxSteps := 10000000) (disch := omega) only [seqQ_normal, seqQ_ret, blockQ_ret, aC_ret, opsK_eq, runI_nil, runI_none, o_mv, o_own, ev_r, setB_r, putS, Sf.set, Sf.reg, mask_eq, maskR_nil, maskR_cons, getR, setR, maskL, Sf.disAt, dis_lit, ↓reduceIte, Nat.reduceEqDiff, reduceCtorEq, f54_17e, f54_18e, f54_18l]
      refine hKr _ _ ?_
      simp -implicitDefEqProofs (maxSteps := 10000000) (disch := omega) only [seqQ_ret, blockQ_ret, retQ_ret, retI, wp_ok, Sf.reg, getR, noL_lit, ↓reduceIte, Bool.true_and, true_and]
      rw [if_pos h3] at h2
      rw [h2] at hQ
      exact hQ _
    · simp -implicitDefEqProofs (maxSteps := 10000000) (disch := omega) only [seqQ_normal, blockQ_normal, aC_skip, opsK_eq, runI_nil, runI_none, putP_eq, o_mv, o_bin, o_own, n_add, wp_ok, ev_r, ev_c, setB_r, putS, Sf.set, Sf.reg, mask_eq, maskR_nil, maskR_cons, getR, setR, maskL, Sf.disAt, dis_lit, ↓reduceIte, Nat.reduceEqDiff, reduceCtorEq, IntWalk.i64_in, up_addL, f54_19e, f54_19l]
      rw [if_neg h3] at h2
      exact hK (i + 1) _ ⟨by omega, h2⟩ (by omega) (Sf.le_refl _)
  · have e : i = l.length := by omega
    rw [e, List.drop_length] at h2
    simp only [atR] at h2
    simp -implicitDefEqProofs (maxSteps := 10000000) (disch := omega) only [seqQ_normal, seqQ_exit, aC_exit, opsK_eq, runI_nil, runI_none, putP_eq, o_mv, o_bin, o_len, lenI, n_lss, wp_ok, ev_r, setB_r, putS, Sf.set, Sf.reg, mask_eq, maskR_nil, maskR_cons, getR, setR, maskL, dis_lit, dis_sl, ↓reduceIte, Nat.reduceEqDiff, reduceCtorEq, List.length_map, cond_no, f54_8e, f54_9e, f54_10e, f54_10l, f54_11e]
    refine hKe _ _ _ ?_
    simp -implicitDefEqProofs (maxSteps := 10000000) (disch := omega) only [seqQ_normal, blockQ_exit, aC_ret, opsK_eq, retQ_ret, retI, runI_nil, runI_none, o_mv, wp_ok, ev_c, putS, Sf.set, Sf.reg, mask_eq, maskR_nil, maskR_cons, getR, setR, maskL, dis_lit, noL_lit, ↓reduceIte, Int.reduceNeg, Bool.true_and, true_and, f54_20e, f54_21e, f54_21l]
    rw [h2] at hQ
    exact hQ _

theorem waits_pure (P : ChP) (t : Int) (hl : P.S.length ≤ 1000000 ∧ P.V.length ≤ 1000000) (st : St) : PCalls Go.Proofs.Try.prog n_f49 [refAV P, .lit (.int .i64 t)] st (.lit (.bool (decide (0 ≤ atR t P.S 0 ∨ 0 ≤ atR t P.V 0)))) := by
  have h0 := fun st => at_pure P.S t hl.1 st
  have h1 := fun st => at_pure P.V t hl.2 st
  refine pcalls_id hmix k_f49 rfl rfl fun Q hQ => ?_
  unfold aFun c_f49
  unfold wlAV at *
  simp -implicitDefEqProofs (maxSteps := 10000000) (disch := omega) only [seqQ_normal, opsK_eq, runI_nil, runI_none, putP_eq, o_mv, o_addr, o_load, o_boxL, o_call, loadV, boxX, addA, derefI, takeI_none, wp_ok, bind_ok, ofOpt_some, ev_r, ev_c, ev_f, evOwn_r, putS, Sf.set, Sf.reg, mask_eq, maskR_nil, maskR_cons, getR, setR, maskL, Sf.newLoc, look, killR, drop1, regs0, id, dis_lit, dis_sl, dis_agg, own1_lit, own1_sl, cells_agg, solid1_lit, solid1_sl, solid_eq, kill_lit, kill_agg, List.map_cons, List.map_nil, List.length_cons, List.length_nil, List.all_cons, List.all_nil, List.drop_zero, List.drop_succ_cons, ↓reduceIte, Nat.reduceEqDiff, Nat.reduceAdd, Bool.true_and, Bool.and_true, and_true, true_and, reduceCtorEq, Nat.zero_add, f49_1e, f49_2e, f49_2l, f49_3e, f49_4e, f49_4l, refAV, wlAV]
  refine call_p rfl e_f54 (h0 _) rfl ?_
  simp -implicitDefEqProofs (maxSteps := 10000000) (disch := omega) only [runI_none, runI_some, AI.dst, putP_eq, o_mv, o_bin, n_geq, wp_ok, ev_r, ev_c, putS, Sf.set, Sf.reg, getR, setR, dis_lit, ↓reduceIte, Nat.reduceEqDiff]
  refine guard_split (fun h => ?_) (fun h => ?_)
  · simp -implicitDefEqProofs (maxSteps := 10000000) (disch := omega) only [seqQ_normal, aC_ret, opsK_eq, retQ_ret, retI, runI_nil, runI_none, runI_some, skipI_eq, AI.dst, putP_eq, guard_tt, o_pick, o_own, pick_tt, wp_ok, ev_r, ev_c, putS, Sf.set, Sf.reg, mask_eq, maskR_nil, maskR_cons, getR, setR, maskL, Sf.disAt, dis_lit, noL_lit, ↓reduceIte, Nat.reduceEqDiff, Bool.true_and, true_and, Bool.false_eq_true]
    rw [decide_eq_true (by omega)] at hQ
    exact hQ _
  · simp -implicitDefEqProofs (maxSteps := 10000000) (disch := omega) only [runI_some, AI.dst, putP_eq, guard_ff, o_mv, o_addr, o_load, o_call, loadV, addA, derefI, takeI_none, wp_ok, bind_ok, ofOpt_some, ev_r, ev_f, putS, Sf.set, Sf.reg, getR, setR, look, id, dis_lit, dis_sl, List.map_cons, List.map_nil, List.drop_zero, List.drop_succ_cons, ↓reduceIte, Nat.reduceEqDiff, Nat.zero_add, Bool.false_eq_true]
    refine call_p rfl e_f54 (h1 _) rfl ?_
    simp -implicitDefEqProofs (maxSteps := 10000000) (disch := omega) only [seqQ_normal, aC_ret, opsK_eq, retQ_ret, retI, runI_nil, runI_none, runI_some, AI.dst, putP_eq, guard_ff, o_pick, o_bin, o_own, pick_ff, n_geq, wp_ok, ev_r, ev_c, putS, Sf.set, Sf.reg, mask_eq, maskR_nil, maskR_cons, getR, setR, maskL, Sf.disAt, dis_lit, noL_lit, ↓reduceIte, Nat.reduceEqDiff, Bool.true_and, true_and, Bool.false_eq_true]
    have : decide (0 ≤ atR t P.S 0 ∨ 0 ≤ atR t P.V 0) = decide (0 ≤ atR t P.V 0) := by
      simp only [h, false_or]
    rw [this] at hQ
    exact hQ _

theorem with_pure (l : List W3) (k : Nat) (t v : Int) (hl : l.length ≤ 100000) (st : St) : PCalls Go.Proofs.Try.prog n_f50 [wlAV l, wAV (k, t, v)] st (wlAV (l ++ [(k, t, v)])) := by
  refine pure_le hmix k_f50 rfl rfl (wl_nb _) (by simp [wl_nb, wAV_nb]) (fun Q hQ => ?_) st
  unfold aFun c_f50
  rcases l with _ | ⟨x, l⟩
  · simp -implicitDefEqProofs (maxSteps := 10000000) (disch := omega) only [List.contains_nil, h_nil, h_none, hh_mv, hh_load, hh_bsl, hh_app, val_head, tail_nil, and_self, seqQ_normal, aC_ret, opsK_eq, retQ_ret, retI, runI_nil, runI_none, putP_eq, o_mv, o_own, o_appS, o_boxL, loadV, bslV, appSX, boxX, List.isEmpty_cons, List.isEmpty_nil, List.reduceReplicate, derefI, takeI_some, appNewI, srcA, fillA, wp_ok, bind_ok, bind_req, ofOpt_some, req_tt, ev_r, ev_c, evOwn_r, putS, Sf.set, Sf.reg, mask_eq, maskR_nil, maskR_cons, getR, setR, maskL, Sf.disAt, Sf.newLoc, look, killR, drop1, dropL, regs0, dis_lit, dis_sl, dis_agg, own1_lit, cells_agg, solid1_lit, solid_eq, noL_sl, kill_sl, kill_agg, List.map_cons, List.map_nil, List.length_cons, List.length_nil, List.all_cons, List.all_nil, List.drop_zero, List.take_succ_cons, List.take_zero, List.set_cons_zero, ↓reduceIte, Nat.reduceEqDiff, Nat.reduceAdd, Nat.reduceLT, Nat.reduceLeDiff, Bool.true_and, Bool.and_true, and_true, true_and, reduceCtorEq, Nat.zero_add, decide_true, Bool.false_eq_true, room_of, f50_1e, f50_2e, f50_2l, f50_3e, f50_4e, f50_4h, f50_4l, wlAV, wAV]
    exact hQ _ _ (.own _ _)
  · simp only [List.length_cons] at hl
    simp -implicitDefEqProofs (maxSteps := 10000000) (disch := omega) only [List.contains_nil, h_nil, h_none, hh_mv, hh_load, hh_bsl, hh_app, val_head, tail_nil, and_self, seqQ_normal, aC_ret, opsK_eq, retQ_ret, retI, runI_nil, runI_none, o_mv, o_own, o_appS, o_boxL, loadV, bslV, appSX, boxX, List.isEmpty_cons, List.reduceReplicate, derefI, takeI_some, appNewI, appOwnI, srcA, fillA, wp_ok, bind_ok, bind_req, ofOpt_some, req_tt, ev_r, ev_c, evOwn_r, putS, Sf.set, Sf.reg, mask_eq, maskR_nil, maskR_cons, getR, setR, maskL, Sf.disAt, Sf.newLoc, look, killR, drop1, dropL, regs0, dis_lit, dis_sl, dis_agg, own1_lit, cells_agg, solid1_lit, solid_eq, noL_sl, kill_sl, kill_agg, List.map_cons, List.map_nil, List.length_cons, List.length_nil, List.all_cons, List.all_nil, List.cons_append, List.drop_zero, List.take_succ_cons, List.take_zero, List.set_cons_zero, ↓reduceIte, Nat.reduceEqDiff, Nat.reduceAdd, Nat.reduceLT, Nat.reduceLeDiff, Bool.true_and, Bool.and_true, and_true, true_and, reduceCtorEq, Nat.zero_add, decide_true, Bool.false_eq_true, List.length_map, room_of, f50_1e, f50_2e, f50_2l, f50_3e, f50_4e, f50_4h, f50_4l, wlAV, wAV, wl_dis]
    refine hQ _ _ ?_
    have : wlAV (x :: l ++ [(k, t, v)]) = .sl false 2 (wAV x :: (l.map wAV ++ [wAV (k, t, v)])) := by simp [wlAV]
    rw [this]
    exact .own _ _

theorem atR_none {t : Int} : ∀ {l : List W3} {k : Nat}, t ∉ keysP (wEnt 0 l) → atR t l k = -1
  | [], _, _ => rfl
  | x :: l, k, h => by
    simp only [wEnt, keysP, List.map_cons, List.mem_cons, not_or] at h
    simp only [atR]
    rw [if_neg fun e => h.1 e.symm]
    exact atR_none h.2
theorem atR_some {t : Int} {x : W3} {B : List W3} (hx : x.2.1 = t) : ∀ {A : List W3} {k : Nat}, t ∉ keysP (wEnt 0 A) → atR t (A ++ x :: B) k = ((k + A.length : Nat) : Int)
  | [], k, _ => by simp only [List.nil_append, atR]; rw [if_pos hx]; rfl
  | y :: A, k, h => by
    simp only [wEnt, keysP, List.map_cons, List.mem_cons, not_or] at h
    simp only [List.cons_append, atR]
    rw [if_neg fun e => h.1 e.symm, atR_some hx h.2, List.length_cons]
    congr 1; omega

theorem without_pure (l : List W3) (t : Int) (hl : l.length ≤ 100000) (hnd : (keysP (wEnt 0 l)).Nodup) (st : St) : PCalls Go.Proofs.Try.prog n_f51 [wlAV l, .lit (.int .i64 t)] st (wlAV (l.filter fun x => x.2.1 != t)) := by
  refine pure_le hmix k_f51 rfl rfl (wl_nb _) (by simp [wl_nb, nb_lit]) (fun Q hQ => ?_) st
  unfold aFun c_f51
  have hat := at_pure l t (by omega) ⟨[]⟩
  by_cases hi : t ∈ keysP (wEnt 0 l)
  · obtain ⟨A, k, v, B, rfl⟩ := wEnt_split hi
    have hA : t ∉ keysP (wEnt 0 A) := by
      intro e
      simp only [wEnt, keysP, List.map_append, List.map_cons, List.nodup_append] at hnd e
      exact hnd.2.2 t e t (by simp) rfl
    have hB : t ∉ keysP (wEnt 0 B) := by
      intro e
      simp only [wEnt, keysP, List.map_append, List.map_cons, List.nodup_append, List.nodup_cons] at hnd e
      exact hnd.2.1.1 e
    rw [atR_some (x := (k, t, v)) rfl hA, Nat.zero_add] at hat
    have hf : ((A ++ (k, t, v) :: B).filter fun x => x.2.1 != t) = A ++ B := by
      rw [List.filter_append, List.filter_cons, fil_none (d := 0) hA, fil_none (d := 0) hB]
      simp
    rw [hf] at hQ
    simp only [List.length_append, List.length_cons] at hl
    have hlen : ((A ++ (k, t, v) :: B).map wAV).length = A.length + (B.length + 1) := by simp
    have htk : ((A ++ (k, t, v) :: B).map wAV).take A.length = A.map wAV := by
      rw [← List.map_take]; simp
    have hdr : ((A ++ (k, t, v) :: B).map wAV).drop (A.length + 1) = B.map wAV := by
      rw [← List.map_drop]; simp [List.drop_append]
    simp only [wlAV] at hat
    simp -implicitDefEqProofs (maxSteps := 10000000) (disch := omega) only [seqQ_normal, opsK_eq, runI_nil, runI_none, o_mv, o_call, ev_r, ev_c, ev_f, putS, Sf.set, Sf.reg, mask_eq, maskR_nil, maskR_cons, getR, setR, maskL, regs0, id, dis_lit, dis_sl, List.map_cons, List.map_nil, ↓reduceIte, Nat.reduceEqDiff, reduceCtorEq, Nat.zero_add, f51_1e, f51_2e, f51_2l, f51_3e, f51_4e, f51_4l, wlAV]
    refine call_p rfl e_f54 hat rfl ?_
    have hres : Q (.sl true 2 (A.map wAV ++ B.map wAV)) ⟨[]⟩ := hQ _ _ (by rw [wlAV, List.map_append]; exact .own _ _)
    have hdA := wl_dis A
    have hdB := wl_dis B
    have hnil : A.map wAV = [] → B.map wAV = [] → Q (.lit (.slice none 0 0)) ⟨[]⟩ := fun e1 e2 => hQ _ _ (by
      rw [wlAV, List.map_append, e1, e2]; exact .nil _ _)
    have hlA : (A.map wAV).length = A.length := List.length_map ..
    have hlB : (B.map wAV).length = B.length := List.length_map ..
    have hta : ((A ++ (k, t, v) :: B).map wAV).take (A.length + (B.length + 1)) = (A ++ (k, t, v) :: B).map wAV := List.take_of_length_le (by omega)
    clear hat hQ hf
    generalize ((A ++ (k, t, v) :: B).map wAV) = M at *
    generalize A.map wAV = MA at *
    generalize B.map wAV = MB at *
    rcases MA with _ | ⟨a, MA⟩
    · rcases MB with _ | ⟨b, MB⟩
      · simp -implicitDefEqProofs (maxSteps := 10000000) (disch := omega) only [h_nil, h_none, hh_mv, hh_bin, hh_sliS, hh_app, val_head, tail_nil, seqQ_normal, aC_skip, aC_ret, opsK_eq, retQ_ret, retI, runI_nil, runI_none, putP_eq, o_mv, o_bin, o_own, o_appS, sliSV, appSX, List.isEmpty_nil, ixTo, appNewI, srcA, n_add, n_lss, wp_ok, bind_ok, bind_req, ev_r, ev_c, setB_r, putS, Sf.set, Sf.reg, mask_eq, maskR_nil, maskR_cons, getR, setR, maskL, Sf.disAt, dropL, dis_lit, dis_sl, noL_lit, Option.map_some, Option.map_none, List.drop_zero, Int.toNat_natCast, ↓reduceIte, Nat.reduceEqDiff, Bool.true_and, true_and, reduceCtorEq, req_dec, cond_no, IntWalk.i64_in, up_addL, and_pre, f51_5e, f51_6e, f51_7e, f51_7l, f51_8e, f51_11e, f51_12e, f51_12h, f51_12l, hlen, hta, htk, hdr]
        exact hnil rfl rfl
      · simp only [List.length_cons] at hlB
        simp -implicitDefEqProofs (maxSteps := 10000000) (disch := omega) only [h_nil, h_none, hh_mv, hh_bin, hh_sliS, hh_app, val_head, tail_nil, seqQ_normal, aC_skip, aC_ret, opsK_eq, retQ_ret, retI, runI_nil, runI_none, putP_eq, o_mv, o_bin, o_own, o_appS, sliSV, appSX, List.isEmpty_cons, List.isEmpty_nil, ixTo, appNewI, srcA, n_add, n_lss, wp_ok, bind_ok, bind_req, req_tt, ev_r, ev_c, setB_r, putS, Sf.set, Sf.reg, mask_eq, maskR_nil, maskR_cons, getR, setR, maskL, Sf.disAt, dropL, dis_lit, dis_sl, noL_sl, List.length_cons, Option.map_some, Option.map_none, List.drop_zero, Int.toNat_natCast, ↓reduceIte, Nat.reduceEqDiff, Bool.true_and, true_and, reduceCtorEq, Bool.false_eq_true, req_dec, room_of, cond_no, IntWalk.i64_in, up_addL, and_pre, f51_5e, f51_6e, f51_7e, f51_7l, f51_8e, f51_11e, f51_12e, f51_12h, f51_12l, hlen, hta, htk, hdr, hdB]
        exact hres
    · simp only [List.length_cons] at hlA
      simp -implicitDefEqProofs (maxSteps := 10000000) (disch := omega) only [h_nil, h_none, hh_mv, hh_bin, hh_sliS, hh_app, val_head, tail_nil, seqQ_normal, aC_skip, aC_ret, opsK_eq, retQ_ret, retI, runI_nil, runI_none, putP_eq, o_mv, o_bin, o_own, o_appS, sliSV, appSX, List.isEmpty_cons, ixTo, appNewI, appOwnI, srcA, n_add, n_lss, wp_ok, bind_ok, bind_req, req_tt, ev_r, ev_c, setB_r, putS, Sf.set, Sf.reg, mask_eq, maskR_nil, maskR_cons, getR, setR, maskL, Sf.disAt, dropL, dis_lit, dis_sl, noL_sl, List.length_cons, Option.map_some, Option.map_none, List.cons_append, List.drop_zero, Int.toNat_natCast, ↓reduceIte, Nat.reduceEqDiff, Bool.true_and, true_and, reduceCtorEq, Bool.false_eq_true, req_dec, room_of, cond_no, IntWalk.i64_in, up_addL, and_pre, f51_5e, f51_6e, f51_7e, f51_7l, f51_8e, f51_11e, f51_12e, f51_12h, f51_12l, hlen, hta, htk, hdr, hdA, hdB]
      exact hres
  · rw [atR_none hi] at hat
    have hf : (l.filter fun x => x.2.1 != t) = l := fil_none (d := 0) hi
    rw [hf] at hQ
    simp only [wlAV] at hat
    simp -implicitDefEqProofs (maxSteps := 10000000) (disch := omega) only [seqQ_normal, opsK_eq, runI_nil, runI_none, o_mv, o_call, ev_r, ev_c, ev_f, putS, Sf.set, Sf.reg, mask_eq, maskR_nil, maskR_cons, getR, setR, maskL, regs0, id, dis_lit, dis_sl, List.map_cons, List.map_nil, ↓reduceIte, Nat.reduceEqDiff, reduceCtorEq, Nat.zero_add, f51_1e, f51_2e, f51_2l, f51_3e, f51_4e, f51_4l, wlAV]
    refine call_p rfl e_f54 hat rfl ?_
    simp -implicitDefEqProofs (maxSteps := 10000000) (disch := omega) only [seqQ_normal, seqQ_ret, aC_ret, opsK_eq, retQ_ret, retI, runI_nil, runI_none, putP_eq, cond_tt, o_mv, o_bin, o_own, n_lss, wp_ok, ev_r, ev_c, setB_r, putS, Sf.set, Sf.reg, mask_eq, maskR_nil, maskR_cons, getR, setR, maskL, Sf.disAt, dis_lit, dis_sl, noL_sl, ↓reduceIte, Nat.reduceEqDiff, Int.reduceLT, Int.reduceNeg, Bool.true_and, true_and, reduceCtorEq, decide_true, f51_5e, f51_6e, f51_7e, f51_7l, f51_8e, f51_9e, f51_10e, f51_10l]
    exact hQ _ _ (.refl _)
end Go.Fx.YtohlpjfhkejjgaaFx

