/- What the functions that the statement reaches compute: part 8. -/
import Derived.Test.YtenijlfcfmhmkaaFxW7
namespace Go.Fx.YtenijlfcfmhmkaaFx
open Go Go.Fx
attribute [local irreducible] aC runI headI loopI

set_option maxRecDepth 100000
set_option maxHeartbeats 4000000

def fasAV (l : List Fa) : AV := .sl false 3 (l.map faAV)

theorem fifoPlays_loop {q0 mid0 : Nat} {st0 : St} (h0 : QIs st0 q0 mid0 [] 0) (l : List Fa) (hl : l.length ≤ 60) (Q : Exit → Sf → St → Prop) (hQ : ∀ st, Q (.exit 0) ⟨[], []⟩ st) :
    aC Go.Proofs.Try.prog id false f5_21 ⟨[(3, .ptr q0 0), (4, .lptr 4 0), (22, .sl false 3 (l.map faAV)), (23, .lit (.int .i64 (l.length : Nat))), (24, .lit (.int .i64 0))], [(4, [.lit (.slice none 0 0), .lit (.int .u64 0)])]⟩ st0 Q := by
  rw [f5_21w]
  refine loop_op (A := Nat × QS × Nat × Nat × St) (fun a => l.length - a.1) (fun a => ⟨[(3, .ptr a.2.2.1 0), (4, .lptr 4 0), (22, .sl false 3 (l.map faAV)), (23, .lit (.int .i64 (l.length : Nat))), (24, .lit (.int .i64 (a.1 : Nat)))], [(4, [.sl false 2 (a.2.1.1.map vAV), .lit (.int .u64 (a.2.1.2 : Nat))])]⟩) (fun a => a.2.2.2.2)
    (fun a => a.1 ≤ l.length ∧ QIs a.2.2.2.2 a.2.2.1 a.2.2.2.1 a.2.1.1 a.2.1.2 ∧ a.2.1.1.length ≤ a.1 ∧ a.2.1.2 ≤ a.1) (0, ([], 0), q0, mid0, st0) ⟨by simp, h0, by simp, by simp⟩ ⟨leR_refl _, .inl ⟨rfl, ⟨.nil _ _, .refl _, trivial⟩, trivial⟩⟩ rfl ?_
  rintro ⟨i, ⟨L, g⟩, q, mid, st⟩ ⟨h1, h2, h3, h4⟩ K hK hKe hKr
  simp only at h1 h2 h3 h4
  by_cases hi : i < l.length
  · obtain ⟨⟨w, v, t⟩, hw⟩ : ∃ a, a = l[i] := ⟨_, rfl⟩
    have e1 : (l.map faAV).getD i .any = .agg [.lit (.int .i64 w), .lit (.int .i64 v), .lit (.int .u64 (t : Nat))] := by simp [List.getD, hi, ← hw, faAV]
    have hd := do_calls (L, g) (w, v, t) h2 (by simp only; omega)
    have hle := fDo_le (L, g) (w, v, t) (n := i) (by simp only; omega)
    generalize hs : fDo (L, g) (w, v, t) = s' at hd hle
    obtain ⟨L', g'⟩ := s'
    simp only [rqAV, vsAV, faAV] at hd hle
    simp -implicitDefEqProofs (maxSteps := 10000000) (disch := omega) only [seqQ_normal, aC_skip, opsK_eq, runI_nil, runI_none, putP_eq, o_mv, o_bin, o_ixS, o_load, o_newL, o_store, o_call, ixSV, loadV, boxX, writeX, ixA, derefI, takeI_some, n_lss, wp_ok, bind_ok, bind_req, ofOpt_some, req_tt, ev_r, ev_c, ev_f, evOwn_r, disOp_r, setB_r, putS, Sf.set, Sf.reg, mask_eq, maskR_nil, maskR_cons, getR, setR, maskL, Sf.disAt, Sf.newLoc, Sf.setLoc, look, killR, drop1, id, dis_lit, dis_ptr, dis_agg, own1_lit, own1_sl, cells_agg, solid1_lit, solid_eq, kill_lit, kill_ptr, kill_lptr, kill_cptr, kill_sl, kill_agg, List.map_cons, List.map_nil, List.length_cons, List.length_nil, List.all_cons, List.all_nil, List.drop_zero, List.take_succ_cons, List.take_zero, List.set_cons_zero, List.set_cons_succ, Int.toNat_natCast, ↓reduceIte, Nat.reduceEqDiff, Nat.reduceAdd, Nat.reduceLeDiff, Bool.true_and, Bool.and_true, and_true, true_and, Nat.zero_add, decide_true, List.length_map, req_dec, cond_yes, and_pre, setAt_nil, setAt_cons, f5_22e, f5_23e, f5_23l, f5_24e, f5_25e, f5_26e, f5_27e, f5_28e, f5_29e, f5_29l, f5_30e, f5_31e, f5_31l, f5_32e, f5_33e, f5_33l, e1]
    refine call_a rfl e_f25 hd rfl fun r st1 hr => ?_
    obtain ⟨q', mid', rfl, h5⟩ := hr
    have hf := qfront_pure h5
    have hrf := fun st => rfront_pure (L', g') (by simp only; omega) st
    have hln := qlen_pure h5
    have hall := all_true h5 (by omega)
    simp only [rqAV, vsAV] at hrf hall
    have hnx : ∀ st', (st1.boxes.length ≤ st'.boxes.length ∧ ∀ id, id < st1.boxes.length → st'.boxes[id]? = st1.boxes[id]?) → K .normal ⟨[(3, .ptr q' 0), (4, .lptr 4 0), (22, .sl false 3 (l.map faAV)), (23, .lit (.int .i64 (l.length : Nat))), (24, .lit (.int .i64 ((i + 1 : Nat))))], [(4, [.sl false 2 (L'.map vAV), .lit (.int .u64 (g' : Nat))])]⟩ st' := fun st' hb =>
      hK (i + 1, (L', g'), q', mid', st') _ ⟨by simp only; omega, h5.at (hb.2 _ h5.ltq) (hb.2 _ h5.ltm), by simp only; omega, by simp only; omega⟩ (by simp only; omega) (Sf.le_refl _)
    simp -implicitDefEqProofs (maxSteps := 10000000) (disch := omega) only [seqQ_normal, opsK_eq, runI_nil, runI_none, putP_eq, o_mv, o_ext, o_own, o_store, o_call, extV, boxX, writeX, wp_ok, bind_ok, ofOpt_some, ev_r, ev_f, evOwn_r, disOp_r, putS, Sf.set, Sf.reg, mask_eq, maskR_nil, maskR_cons, getR, setR, maskL, Sf.disAt, Sf.setLoc, look, drop1, id, dis_lit, dis_ptr, dis_agg, dis_tup, own1_lit, own1_sl, own2_lit, own2_ptr, own2_agg, cells_agg, solid1_lit, solid1_sl, solid_eq, List.map_cons, List.map_nil, List.length_cons, List.length_nil, List.getElem?_cons_zero, List.getElem?_cons_succ, List.all_cons, List.all_nil, List.set_cons_zero, List.set_cons_succ, ↓reduceIte, Nat.reduceEqDiff, Nat.reduceAdd, Nat.reduceLeDiff, Bool.true_and, Bool.and_true, and_true, true_and, Nat.zero_add, setAt_nil, setAt_cons, f5_34e, f5_35e, f5_35l]
    rcases L' with _ | ⟨⟨u, y⟩, r⟩
    all_goals
      simp only [List.length_cons, List.length_nil] at hln hle hf hrf
      refine call_p rfl e_f26 hf rfl ?_
      simp -implicitDefEqProofs (maxSteps := 10000000) (disch := omega) only [seqQ_normal, opsK_eq, runI_nil, runI_none, putP_eq, o_mv, o_ext, o_load, o_own, o_call, extV, loadV, derefI, takeI_some, wp_ok, bind_ok, bind_req, ofOpt_some, req_tt, ev_r, ev_f, putS, Sf.set, Sf.reg, mask_eq, maskR_nil, maskR_cons, getR, setR, maskL, Sf.disAt, look, id, dis_lit, dis_agg, dis_tup, own1_lit, own1_sl, own2_lit, List.map_cons, List.map_nil, List.length_cons, List.length_nil, List.getElem?_cons_zero, List.getElem?_cons_succ, List.drop_zero, List.take_succ_cons, List.take_zero, ↓reduceIte, Nat.reduceEqDiff, Nat.reduceAdd, Nat.reduceLeDiff, Nat.zero_add, decide_true, f5_36e, f5_37e, f5_37l]
      refine call_p rfl e_f27 (hrf _) rfl ?_
      simp -implicitDefEqProofs (maxSteps := 10000000) (disch := omega) only [List.contains_nil, h_none, h_some, hh_mv, hh_un, hh_call, guardH_ff, val_head, seqQ_normal, opsK_eq, runI_nil, runI_none, AI.dst, putP_eq, o_mv, o_ext, o_own, extV, unA, wp_ok, bind_ok, ofOpt_some, ev_r, ev_f, putS, Sf.set, Sf.reg, mask_eq, maskR_nil, maskR_cons, getR, setR, maskL, Sf.disAt, look, dropL, id, dis_lit, dis_ptr, dis_tup, own2_lit, List.map_cons, List.map_nil, List.getElem?_cons_zero, List.getElem?_cons_succ, ↓reduceIte, Nat.reduceEqDiff, Bool.not_true, Bool.false_eq_true, f5_38e, f5_39e, f5_39h, f5_39l]
      refine call_h rfl e_f28 hln rfl ?_
      simp -implicitDefEqProofs (maxSteps := 10000000) (disch := omega) only [h_nil, h_none, h_some, hh_mv, hh_pick, hh_bin, hh_addr, hh_load, hh_len, guardH_ff, cons_val, val_head, tail_nil, runI_some, AI.dst, guard_ff, o_call, pick_ff, loadV, lenI, addA, derefI, takeI_none, n_neq, wp_ok, bind_ok, ofOpt_some, ev_r, ev_c, ev_f, putS, Sf.set, Sf.reg, getR, setR, look, id, dis_lit, dis_ptr, dis_sl, List.map_cons, List.map_nil, List.length_cons, List.length_nil, List.drop_zero, Int.cast_ofNat_Int, ↓reduceIte, Nat.reduceEqDiff, Nat.add_zero, not_true_eq_false, decide_false, Bool.false_eq_true, List.length_map]
      refine call_a rfl e_f29 hall rfl fun r st2 hr => ?_
      obtain ⟨rfl, hr⟩ := hr
      simp -implicitDefEqProofs (maxSteps := 10000000) (disch := omega) only [seqQ_normal, blockQ_normal, aC_skip, opsK_eq, runI_nil, runI_none, runI_some, AI.dst, putP_eq, cond_ff, guard_ff, o_mv, o_pick, o_bin, o_un, pick_ff, unA, n_add, wp_ok, ev_r, ev_c, setB_r, putS, Sf.set, Sf.reg, mask_eq, maskR_nil, maskR_cons, getR, setR, maskL, look, dis_lit, ↓reduceIte, Nat.reduceEqDiff, Bool.not_true, Bool.false_eq_true, IntWalk.i64_in, up_addL, f5_40e, f5_43e, f5_43l]
      exact hnx _ hr
  · simp -implicitDefEqProofs (maxSteps := 10000000) (disch := omega) only [seqQ_normal, seqQ_exit, aC_exit, opsK_eq, runI_nil, runI_none, putP_eq, o_bin, n_lss, wp_ok, ev_r, setB_r, putS, Sf.set, Sf.reg, mask_eq, maskR_nil, maskR_cons, getR, setR, maskL, look, ↓reduceIte, Nat.reduceEqDiff, cond_no, f5_22e, f5_23e, f5_23l, f5_24e, f5_25e]
    exact hKe _ _ _ (hQ _)

theorem fifoPlays_law (l : List Fa) : ACalls Go.Proofs.Try.prog n_f5 [fasAV l] ⟨[]⟩ (fun v _ => v = .lit (.bool true)) := by
  refine acalls_op hmix k_f5 rfl rfl fun Q hQ => ?_
  unfold aFun c_f5
  by_cases hl : 60 < l.length
  · simp -implicitDefEqProofs (maxSteps := 10000000) (disch := omega) only [seqQ_normal, opsK_eq, runI_nil, runI_none, putP_eq, o_mv, o_bin, o_len, o_call, lenI, n_gtr, wp_ok, ev_r, ev_c, ev_f, setB_r, putS, Sf.set, Sf.reg, mask_eq, maskR_nil, maskR_cons, getR, setR, maskL, regs0, id, dis_lit, dis_sl, List.map_nil, ↓reduceIte, Nat.reduceEqDiff, reduceCtorEq, List.length_map, cond_yes, f5_1e, f5_2e, f5_2l, f5_3e, f5_4e, f5_5e, f5_5l, f5_6e, f5_7e, f5_8e, f5_8l, fasAV]
    refine call_a rfl e_f23 (known06 _) rfl fun r st1 hr => ?_
    subst hr
    simp -implicitDefEqProofs (maxSteps := 10000000) (disch := omega) only [seqQ_normal, seqQ_ret, aC_ret, opsK_eq, retQ_ret, retI, runI_nil, runI_none, o_own, wp_ok, putS, Sf.set, Sf.reg, mask_eq, maskR_nil, maskR_cons, getR, setR, maskL, Sf.disAt, dis_lit, noL_lit, ↓reduceIte, Nat.reduceEqDiff, Bool.true_and, true_and, reduceCtorEq]
    exact hQ _ _ rfl
  · simp -implicitDefEqProofs (maxSteps := 10000000) (disch := omega) only [seqQ_normal, aC_skip, opsK_eq, runI_nil, runI_none, putP_eq, o_mv, o_bin, o_len, o_call, lenI, n_gtr, wp_ok, ev_r, ev_c, ev_f, setB_r, putS, Sf.set, Sf.reg, mask_eq, maskR_nil, maskR_cons, getR, setR, maskL, regs0, id, dis_lit, dis_sl, List.map_nil, ↓reduceIte, Nat.reduceEqDiff, reduceCtorEq, List.length_map, cond_no, f5_1e, f5_2e, f5_2l, f5_3e, f5_4e, f5_5e, f5_5l, f5_6e, f5_9e, f5_10e, f5_10l, fasAV]
    refine call_a rfl e_f24 (qnew_calls _) rfl fun r st0 hr => ?_
    obtain ⟨rfl, h0, _⟩ := hr
    simp -implicitDefEqProofs (maxSteps := 10000000) (disch := omega) only [seqQ_normal, aC_skip, opsK_eq, runI_nil, runI_none, putP_eq, cond_ff, o_mv, o_bin, o_bst, o_len, o_own, o_newL, o_store, bstV, boxX, writeX, n_nileq, eqNilI, isNilI, lenI, buildA, wp_ok, bind_ok, ofOpt_some, ev_r, ev_c, evOwn_r, disOp_r, setB_r, putS, Sf.set, Sf.reg, mask_eq, maskR_nil, maskR_cons, getR, setR, maskL, Sf.disAt, Sf.newLoc, Sf.setLoc, look, killR, drop1, dis_lit, dis_ptr, dis_sl, dis_agg, own1_lit, cells_agg, solid1_lit, solid_eq, kill_lit, kill_ptr, kill_sl, kill_agg, List.map_cons, List.map_nil, List.length_cons, List.length_nil, List.all_cons, List.all_nil, List.set_cons_zero, List.set_cons_succ, ↓reduceIte, Nat.reduceEqDiff, Nat.reduceAdd, Nat.reduceLeDiff, Bool.true_and, Bool.and_true, and_true, true_and, reduceCtorEq, Nat.zero_add, List.length_map, setAt_nil, setAt_cons, f5_11e, f5_12e, f5_13e, f5_13l, f5_14e, f5_17e, f5_18e, f5_19e, f5_19l, f5_20e]
    refine fifoPlays_loop h0 l (by omega) _ fun st => ?_
    simp -implicitDefEqProofs (maxSteps := 10000000) (disch := omega) only [seqQ_normal, blockQ_exit, runI_none, o_call, ev_f, id, List.map_nil, ↓reduceIte, f5_44e, f5_45e, f5_45l]
    refine call_a rfl e_f23 (known06 _) rfl fun r st1 hr => ?_
    subst hr
    simp -implicitDefEqProofs (maxSteps := 10000000) (disch := omega) only [seqQ_normal, aC_ret, opsK_eq, retQ_ret, retI, runI_nil, runI_none, o_own, wp_ok, putS, Sf.set, Sf.reg, mask_eq, maskR_nil, maskR_cons, getR, setR, maskL, Sf.disAt, dis_lit, noL_lit, ↓reduceIte, Nat.reduceEqDiff, Bool.true_and, true_and]
    exact hQ _ _ rfl

abbrev Fx3 := Int × Int × Int × Unit
def faOf (x : Fx3) : Fa := (x.1, x.2.1, x.2.2.1.toNat)
theorem fas_lit (l : List Fx3) (h : ∀ x ∈ l, 0 ≤ x.2.2.1) : AV.sl false 3 (l.map fun x => .agg [.lit (.int .i64 x.1), .lit (.int .i64 x.2.1), .lit (.int .u64 x.2.2.1)]) = fasAV (l.map faOf) := by
  unfold fasAV
  rw [List.map_map]
  congr 1
  refine List.map_congr_left fun x hx => ?_
  have := h x hx
  simp only [Function.comp, faAV, faOf]
  rw [Int.toNat_of_nonneg this]

theorem fifoPlays_top {l : List Fx3} (h : ∀ x ∈ l, 0 ≤ x.2.2.1) : ACalls Go.Proofs.Try.prog n_f5 [.sl false 3 (l.map fun x => .agg [.lit (.int .i64 x.1), .lit (.int .i64 x.2.1), .lit (.int .u64 x.2.2.1)])] ⟨[]⟩ (fun v _ => v = .lit (.bool true)) := by
  rw [fas_lit l h]
  exact fifoPlays_law _
end Go.Fx.YtenijlfcfmhmkaaFx

