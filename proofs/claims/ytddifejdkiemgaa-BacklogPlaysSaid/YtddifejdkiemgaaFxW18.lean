/- What the functions that the statement reaches compute: part 18. -/
import Derived.Test.YtddifejdkiemgaaFxW17
namespace Go.Fx.YtddifejdkiemgaaFx
open Go Go.Fx
attribute [local irreducible] aC runI headI loopI

set_option maxRecDepth 100000
set_option maxHeartbeats 8000000

theorem lAV_cons (x : Int) (l : List Int) : lAV (x :: l) = .sl false 1 (.lit (.int .i64 x) :: ints l) := by unfold lAV; rw [if_neg (by simp)]; rfl
theorem gAV_own1 (l : List Int) : (gAV l).own1 = lAV l ∧ (gAV l).solid1 = true := by unfold gAV lAV; split <;> exact ⟨rfl, rfl⟩

section
variable {st : St} {b q mid tid n g : Nat} {cl : Bool} {L : Qu}

theorem step_pop (h : BkIs st b q mid tid n cl L g) (hn : n ≤ 128) (hg0 : g ≤ 1000) (hcl : cl = true → L = []) (c : Int) :
    ACalls Go.Proofs.Try.prog n_f27 [.ptr b 0, kAV n (conns L) cl, bcAV (1, c)] st (StepPost n g) := by
  have hlen := h.len
  have hcl2 : (conns L).length = L.length := by simp [conns]
  refine acalls_op hmix k_f27 rfl rfl fun Q hQ => ?_
  have hres : ∀ st' L' g', BkIs st' b q mid tid n cl L' g' → (g' ≤ g + 1 ∨ g' ≤ 128) → (cl = true → L' = []) → Q (.tup [.ptr b 0, kAV n (conns L') cl, .lit (.bool true)]) st' := fun st' L' g' a1 a2 a3 => hQ _ _ ⟨b, q, mid, tid, L', g', cl, rfl, a1, a2, a3⟩
  clear hQ
  unfold aFun c_f27
  unfold kAV at hres ⊢
  cases cl
  case true =>
    have hL := hcl rfl
    subst hL
    have hp := bpops_true h (by omega) (v := 0) (e := 14) (L' := []) rfl
    rw [show lAV (conns []) = .lit (.slice none 0 0) from rfl]
    simp -implicitDefEqProofs (maxSteps := 10000000) (disch := omega) only [seqQ_normal, opsK_eq, runI_nil, runI_none, putP_eq, cond_tt, cond_ff, o_mv, o_bin, o_addr, o_load, o_own, o_newL, o_boxL, loadV, boxX, addA, derefI, takeI_none, n_eql, wp_ok, bind_ok, ofOpt_some, ev_r, ev_c, evOwn_r, setB_r, putS, Sf.set, Sf.reg, mask_eq, maskR_nil, maskR_cons, getR, setR, maskL, Sf.disAt, Sf.newLoc, look, killR, drop1, regs0, dis_lit, dis_ptr, dis_agg, own1_lit, cells_agg, solid1_lit, solid_eq, kill_lit, kill_ptr, kill_lptr, kill_agg, List.map_cons, List.map_nil, List.length_cons, List.length_nil, List.all_cons, List.all_nil, List.drop_zero, List.drop_succ_cons, ↓reduceIte, Nat.reduceEqDiff, Nat.reduceAdd, Int.reduceEq, Bool.true_and, Bool.and_true, and_true, true_and, reduceCtorEq, Nat.zero_add, Nat.add_zero, decide_true, decide_false, f27_1e, f27_2e, f27_2l, f27_3e, f27_4e, f27_5e, f27_5l, f27_6e, f27_7e, f27_8e, f27_8l, f27_9e, f27_38e, f27_39e, f27_39l, f27_40e, f27_41e, f27_42e, f27_43e, f27_43l, f27_44e, f27_45e, f27_46e, f27_46h, f27_46p, f27_46l, bcAV]
    refine draw_m ⟨[]⟩ (St.sub_nil _) ?_
    simp -implicitDefEqProofs (maxSteps := 10000000) (disch := omega) only [List.contains_nil, m_nil, m_none, m_val, mm_mv, mm_load, atM_eq, dropM, dropP, dropQ, aiDrop, loadV, derefI, takeI_some, wp_ok, bind_ok, bind_req, ofOpt_some, req_tt, ev_r, ev_c, ev_f, putS, Sf.set, Sf.reg, getR, setR, look, dropL, id, dis_ptr, dis_agg, own1_lit, List.map_cons, List.map_nil, List.length_cons, List.length_nil, List.append_nil, List.nil_append, List.cons_append, List.drop_zero, List.take_succ_cons, List.take_zero, ↓reduceIte, Nat.reduceEqDiff, Nat.reduceAdd, Nat.reduceLeDiff, reduceCtorEq, Nat.zero_add, decide_true, Bool.false_eq_true]
    refine call_m rfl e_f18 hp rfl ?_
    simp -implicitDefEqProofs (maxSteps := 10000000) (disch := omega) only [List.contains_nil, ksB, storesOf, newsOf, appsOf, distinctB, nstB, nstsOf, hm_nil, hm_hole, holeK_eq, AI.dst, putS, Sf.set, setR, List.all_nil, List.nil_append, List.cons_append, ↓reduceIte, Nat.reduceEqDiff, Bool.true_and, Bool.and_true, and_true, true_and, reduceCtorEq, Bool.not_false]
    rintro r st1 ⟨rfl, a1, _⟩
    refine ⟨St.sub_nil _, ?_⟩
    have hf := hres st1 [] g a1 (.inl (by omega)) hcl
    rw [show lAV (conns []) = .lit (.slice none 0 0) from rfl] at hf
    simp -implicitDefEqProofs (maxSteps := 10000000) (disch := omega) only [List.contains_nil, ksB, storesOf, newsOf, appsOf, distinctB, finSS, finNN, nstB, nstsOf, m_nil, m_none, m_val, mm_mv, postM_eq, compM_nil, compM_t, tailM_eq, finK_eq, seqQ_normal, seqQ_ret, blockQ_ret, aC_ret, opsK_eq, retQ_ret, retI, resI, resL, runI_nil, runI_none, o_own, o_store, boxX, writeX, derefI, takeI_some, wp_ok, bind_ok, bind_req, ofOpt_some, req_tt, ev_r, evOwn_r, disOp_r, putS, Sf.set, Sf.reg, mask_eq, maskR_nil, maskR_cons, getR, setR, maskL, Sf.disAt, Sf.setLoc, look, drop1, dis_lit, dis_ptr, dis_agg, own1_lit, cells_agg, solid1_lit, solid_eq, noL_lit, noL_ptr, noL_agg, noL_tup, List.map_cons, List.map_nil, List.length_cons, List.length_nil, List.all_cons, List.all_nil, List.nil_append, List.cons_append, List.drop_zero, List.take_succ_cons, List.take_zero, List.set_cons_zero, List.set_cons_succ, ↓reduceIte, Nat.reduceEqDiff, Nat.reduceAdd, Nat.reduceLeDiff, Bool.true_and, Bool.and_true, and_true, true_and, reduceCtorEq, Nat.zero_add, decide_true, Bool.not_false, setAt_nil, setAt_cons]
    exact hf
  rcases L with _ | ⟨⟨t, v⟩, B⟩
  · have hp := bpops_true h (by omega) (v := 0) (e := 16) (L' := []) rfl
    rw [show lAV (conns []) = .lit (.slice none 0 0) from rfl]
    simp -implicitDefEqProofs (maxSteps := 10000000) (disch := omega) only [seqQ_normal, aC_skip, opsK_eq, runI_nil, runI_none, putP_eq, cond_tt, cond_ff, o_mv, o_bin, o_addr, o_load, o_len, o_own, o_newL, o_boxL, loadV, boxX, lenI, addA, derefI, takeI_none, n_eql, wp_ok, bind_ok, ofOpt_some, ev_r, ev_c, evOwn_r, setB_r, putS, Sf.set, Sf.reg, mask_eq, maskR_nil, maskR_cons, getR, setR, maskL, Sf.disAt, Sf.newLoc, look, killR, drop1, regs0, dis_lit, dis_ptr, dis_agg, own1_lit, cells_agg, solid1_lit, solid_eq, kill_lit, kill_ptr, kill_lptr, kill_agg, List.map_cons, List.map_nil, List.length_cons, List.length_nil, List.all_cons, List.all_nil, List.drop_zero, List.drop_succ_cons, ↓reduceIte, Nat.reduceEqDiff, Nat.reduceAdd, Int.reduceEq, Bool.true_and, Bool.and_true, and_true, true_and, reduceCtorEq, Nat.zero_add, Nat.add_zero, decide_true, decide_false, f27_1e, f27_2e, f27_2l, f27_3e, f27_4e, f27_5e, f27_5l, f27_6e, f27_7e, f27_8e, f27_8l, f27_9e, f27_38e, f27_39e, f27_39l, f27_40e, f27_41e, f27_42e, f27_43e, f27_43l, f27_44e, f27_47e, f27_48e, f27_49e, f27_49l, f27_50e, f27_51e, f27_52e, f27_52h, f27_52p, f27_52l, bcAV]
    refine draw_m ⟨[]⟩ (St.sub_nil _) ?_
    simp -implicitDefEqProofs (maxSteps := 10000000) (disch := omega) only [List.contains_nil, m_nil, m_none, m_val, mm_mv, mm_load, atM_eq, dropM, dropP, dropQ, aiDrop, loadV, derefI, takeI_some, wp_ok, bind_ok, bind_req, ofOpt_some, req_tt, ev_r, ev_c, ev_f, putS, Sf.set, Sf.reg, getR, setR, look, dropL, id, dis_ptr, dis_agg, own1_lit, List.map_cons, List.map_nil, List.length_cons, List.length_nil, List.append_nil, List.nil_append, List.cons_append, List.drop_zero, List.take_succ_cons, List.take_zero, ↓reduceIte, Nat.reduceEqDiff, Nat.reduceAdd, Nat.reduceLeDiff, reduceCtorEq, Nat.zero_add, decide_true, Bool.false_eq_true]
    refine call_m rfl e_f18 hp rfl ?_
    simp -implicitDefEqProofs (maxSteps := 10000000) (disch := omega) only [List.contains_nil, ksB, storesOf, newsOf, appsOf, distinctB, nstB, nstsOf, hm_nil, hm_hole, holeK_eq, AI.dst, putS, Sf.set, setR, List.all_nil, List.nil_append, List.cons_append, ↓reduceIte, Nat.reduceEqDiff, Bool.true_and, Bool.and_true, and_true, true_and, reduceCtorEq, Bool.not_false]
    rintro r st1 ⟨rfl, a1, _⟩
    refine ⟨St.sub_nil _, ?_⟩
    have hf := hres st1 [] g a1 (.inl (by omega)) hcl
    rw [show lAV (conns []) = .lit (.slice none 0 0) from rfl] at hf
    simp -implicitDefEqProofs (maxSteps := 10000000) (disch := omega) only [List.contains_nil, ksB, storesOf, newsOf, appsOf, distinctB, finSS, finNN, nstB, nstsOf, m_nil, m_none, m_val, mm_mv, postM_eq, compM_nil, compM_t, tailM_eq, finK_eq, seqQ_normal, seqQ_ret, blockQ_ret, aC_ret, opsK_eq, retQ_ret, retI, resI, resL, runI_nil, runI_none, o_own, o_store, boxX, writeX, derefI, takeI_some, wp_ok, bind_ok, bind_req, ofOpt_some, req_tt, ev_r, evOwn_r, disOp_r, putS, Sf.set, Sf.reg, mask_eq, maskR_nil, maskR_cons, getR, setR, maskL, Sf.disAt, Sf.setLoc, look, drop1, dis_lit, dis_ptr, dis_agg, own1_lit, cells_agg, solid1_lit, solid_eq, noL_lit, noL_ptr, noL_agg, noL_tup, List.map_cons, List.map_nil, List.length_cons, List.length_nil, List.all_cons, List.all_nil, List.nil_append, List.cons_append, List.drop_zero, List.take_succ_cons, List.take_zero, List.set_cons_zero, List.set_cons_succ, ↓reduceIte, Nat.reduceEqDiff, Nat.reduceAdd, Nat.reduceLeDiff, Bool.true_and, Bool.and_true, and_true, true_and, reduceCtorEq, Nat.zero_add, decide_true, Bool.not_false, setAt_nil, setAt_cons]
    exact hf
  · have hp := bpops_true h (by omega) (v := v) (e := 0) (L' := B) rfl
    rw [show conns ((t, v) :: B) = v :: conns B from rfl, lAV_cons]
    have hbl := ints_len (conns B)
    have hbc : (conns B).length = B.length := by simp [conns]
    simp only [List.length_cons] at hlen
    have hwo := fun st => without_pure [] (conns B) v (by simp) (by omega) st
    simp only [List.nil_append, List.length_nil] at hwo
    obtain ⟨o1, o2⟩ := gAV_own1 (conns B)
    simp -implicitDefEqProofs (maxSteps := 10000000) (disch := omega) only [seqQ_normal, aC_skip, opsK_eq, runI_nil, runI_none, putP_eq, cond_tt, cond_ff, o_mv, o_bin, o_addr, o_ixS, o_load, o_len, o_own, o_newL, o_boxL, o_call, ixSV, loadV, boxX, ixA, lenI, addA, derefI, takeI_none, n_eql, wp_ok, bind_ok, bind_req, ofOpt_some, ev_r, ev_c, ev_f, evOwn_r, setB_r, putS, Sf.set, Sf.reg, mask_eq, maskR_nil, maskR_cons, getR, setR, maskL, Sf.disAt, Sf.newLoc, look, killR, drop1, regs0, id, dis_lit, dis_ptr, dis_sl, dis_agg, own1_lit, own1_sl, cells_lit, cells_agg, solid1_lit, solid1_sl, solid_eq, kill_lit, kill_ptr, kill_lptr, kill_agg, List.map_cons, List.map_nil, List.length_cons, List.length_nil, List.getD_cons_zero, List.all_cons, List.all_nil, List.drop_zero, List.drop_succ_cons, Int.toNat_zero, ↓reduceIte, Nat.reduceEqDiff, Nat.reduceAdd, Int.reduceLE, Int.reduceEq, Bool.true_and, Bool.and_true, and_true, true_and, reduceCtorEq, Nat.zero_add, Nat.add_zero, decide_true, decide_false, req_dec, cond_no, f27_1e, f27_2e, f27_2l, f27_3e, f27_4e, f27_5e, f27_5l, f27_6e, f27_7e, f27_8e, f27_8l, f27_9e, f27_38e, f27_39e, f27_39l, f27_40e, f27_41e, f27_42e, f27_43e, f27_43l, f27_44e, f27_47e, f27_48e, f27_49e, f27_49l, f27_50e, f27_53e, f27_54e, f27_54l, f27_55e, f27_56e, f27_56l, bcAV, hbl, hbc]
    refine call_p rfl e_f21 (hwo _) rfl ?_
    have hfr := fun st1 a1 => hres st1 B g a1 (.inl (by omega)) (fun e => by cases e)
    rcases gAV_cases (conns B) with ⟨e, hz⟩ | ⟨e, hz⟩
    all_goals
      have e2 : lAV (conns B) = (gAV (conns B)).dis := (gAV_dis _).symm
      rw [e] at e2 ⊢
      rw [e2] at hfr
      simp -implicitDefEqProofs (maxSteps := 10000000) (disch := omega) only [seqQ_normal, opsK_eq, runI_nil, runI_none, putP_eq, o_addr, o_store, boxX, writeX, addA, wp_ok, ofOpt_some, ev_r, evOwn_r, disOp_r, putS, Sf.set, Sf.reg, mask_eq, maskR_nil, maskR_cons, getR, setR, maskL, Sf.disAt, Sf.setLoc, look, drop1, dis_lit, dis_sl, cells_lit, cells_sl, solid1_lit, solid1_sl, solid_eq, List.length_cons, List.length_nil, List.all_cons, List.all_nil, List.set_cons_zero, List.set_cons_succ, ↓reduceIte, Nat.reduceEqDiff, Nat.reduceAdd, Nat.reduceLeDiff, Bool.true_and, Bool.and_true, and_true, true_and, reduceCtorEq, Nat.zero_add, setAt_nil, setAt_cons, f27_57e, f27_58e, f27_58h, f27_58p, f27_58l]
      refine draw_m ⟨[]⟩ (St.sub_nil _) ?_
      simp -implicitDefEqProofs (maxSteps := 10000000) (disch := omega) only [List.contains_nil, m_nil, m_none, m_val, mm_mv, mm_load, atM_eq, dropM, dropP, dropQ, aiDrop, loadV, derefI, takeI_some, wp_ok, bind_ok, bind_req, ofOpt_some, req_tt, ev_r, ev_c, ev_f, putS, Sf.set, Sf.reg, getR, setR, look, dropL, id, dis_lit, dis_ptr, dis_agg, own1_lit, own1_sl, List.map_cons, List.map_nil, List.length_cons, List.length_nil, List.append_nil, List.nil_append, List.cons_append, List.drop_zero, List.take_succ_cons, List.take_zero, ↓reduceIte, Nat.reduceEqDiff, Nat.reduceAdd, Nat.reduceLeDiff, reduceCtorEq, Nat.zero_add, decide_true, Bool.false_eq_true]
      refine call_m rfl e_f18 hp rfl ?_
      simp -implicitDefEqProofs (maxSteps := 10000000) (disch := omega) only [List.contains_nil, ksB, storesOf, newsOf, appsOf, distinctB, nstB, nstsOf, hm_nil, hm_hole, holeK_eq, AI.dst, putS, Sf.set, setR, List.all_nil, List.nil_append, List.cons_append, ↓reduceIte, Nat.reduceEqDiff, Bool.true_and, Bool.and_true, and_true, true_and, reduceCtorEq, Bool.not_false]
      rintro r st1 ⟨rfl, a1, _⟩
      refine ⟨St.sub_nil _, ?_⟩
      have hf := hfr st1 a1
      simp -implicitDefEqProofs (maxSteps := 10000000) (disch := omega) only [List.contains_nil, ksB, storesOf, newsOf, appsOf, distinctB, finSS, finNN, nstB, nstsOf, m_nil, m_none, m_val, mm_mv, postM_eq, compM_nil, compM_t, tailM_eq, finK_eq, seqQ_normal, seqQ_ret, blockQ_ret, aC_ret, opsK_eq, retQ_ret, retI, resI, resL, runI_nil, runI_none, o_own, o_store, boxX, writeX, derefI, takeI_some, wp_ok, bind_ok, bind_req, ofOpt_some, req_tt, ev_r, evOwn_r, disOp_r, putS, Sf.set, Sf.reg, mask_eq, maskR_nil, maskR_cons, getR, setR, maskL, Sf.disAt, Sf.setLoc, look, drop1, dis_lit, dis_ptr, dis_agg, own1_lit, own1_sl, cells_agg, solid1_lit, solid1_sl, solid_eq, noL_lit, noL_ptr, noL_agg, noL_tup, List.map_cons, List.map_nil, List.length_cons, List.length_nil, List.all_cons, List.all_nil, List.nil_append, List.cons_append, List.drop_zero, List.take_succ_cons, List.take_zero, List.set_cons_zero, List.set_cons_succ, ↓reduceIte, Nat.reduceEqDiff, Nat.reduceAdd, Nat.reduceLeDiff, Bool.true_and, Bool.and_true, and_true, true_and, reduceCtorEq, Nat.zero_add, decide_true, Bool.not_false, setAt_nil, setAt_cons]
      exact hf

theorem step_remove (h : BkIs st b q mid tid n cl L g) (hn : n ≤ 128) (hg0 : g ≤ 1000) (hcl : cl = true → L = []) (c : Int) :
    ACalls Go.Proofs.Try.prog n_f27 [.ptr b 0, kAV n (conns L) cl, bcAV (2, c)] st (StepPost n g) := by
  have hlen := h.len
  have hcl2 : (conns L).length = L.length := by simp [conns]
  refine acalls_op hmix k_f27 rfl rfl fun Q hQ => ?_
  have hres : ∀ st' L' g', BkIs st' b q mid tid n cl L' g' → (g' ≤ g + 1 ∨ g' ≤ 128) → (cl = true → L' = []) → Q (.tup [.ptr b 0, kAV n (conns L') cl, .lit (.bool true)]) st' := fun st' L' g' a1 a2 a3 => hQ _ _ ⟨b, q, mid, tid, L', g', cl, rfl, a1, a2, a3⟩
  clear hQ
  unfold aFun c_f27
  unfold kAV at hres ⊢
  have hself := hres st L g h (.inl (by omega)) hcl
  by_cases h1 : c < 0
  · rcases lAV_cases (conns L) with ⟨e, hz⟩ | ⟨e, hz⟩
    all_goals
      rw [e] at hself ⊢
      simp -implicitDefEqProofs (maxSteps := 10000000) (disch := omega) only [seqQ_normal, opsK_eq, runI_nil, runI_none, putP_eq, cond_tt, cond_ff, o_mv, o_bin, o_addr, o_load, o_own, o_newL, o_boxL, o_call, loadV, boxX, addA, derefI, takeI_none, n_eql, wp_ok, bind_ok, ofOpt_some, ev_r, ev_c, ev_f, evOwn_r, setB_r, putS, Sf.set, Sf.reg, mask_eq, maskR_nil, maskR_cons, getR, setR, maskL, Sf.disAt, Sf.newLoc, look, killR, drop1, regs0, id, dis_lit, dis_ptr, dis_agg, own1_lit, own1_sl, cells_agg, solid1_lit, solid1_sl, solid_eq, kill_lit, kill_ptr, kill_lptr, kill_agg, List.map_cons, List.map_nil, List.length_cons, List.length_nil, List.all_cons, List.all_nil, List.drop_zero, List.drop_succ_cons, ↓reduceIte, Nat.reduceEqDiff, Nat.reduceAdd, Int.reduceEq, Bool.true_and, Bool.and_true, and_true, true_and, reduceCtorEq, Nat.zero_add, Nat.add_zero, decide_true, decide_false, f27_1e, f27_2e, f27_2l, f27_3e, f27_4e, f27_5e, f27_5l, f27_6e, f27_7e, f27_8e, f27_8l, f27_9e, f27_38e, f27_39e, f27_39l, f27_40e, f27_59e, f27_60e, f27_60l, f27_61e, f27_62e, f27_63e, f27_63l, bcAV]
      refine call_a rfl e_f22 (bremove_neg h h1) rfl fun r st1 hr => ?_
      obtain ⟨rfl, rfl⟩ := hr
      simp -implicitDefEqProofs (maxSteps := 10000000) (disch := omega) only [List.contains_nil, List.contains_cons, Nat.reduceBEq, Bool.or_false, ksB, storesOf, newsOf, appsOf, distinctB, finSS, finNN, nstB, nstsOf, h_nil, h_none, hh_mv, hh_bin, hh_load, hh_store, headAddr_eq, headStore_eq, val_head, tail_eq, cons_store, seqQ_normal, seqQ_ret, blockQ_ret, aC_ret, opsK_eq, retQ_ret, retI, resI, resL, runI_nil, runI_none, putP_eq, o_bin, o_addr, o_load, o_own, loadV, addA, derefI, takeI_none, takeI_some, n_eql, n_lss, wp_ok, bind_ok, bind_req, ofOpt_some, req_tt, ev_r, ev_c, setB_r, putS, Sf.set, Sf.reg, mask_eq, maskR_nil, maskR_cons, getR, setR, maskL, Sf.disAt, Sf.setLoc, look, drop1, dropL, dis_lit, dis_ptr, dis_agg, own1_lit, own1_sl, cells_agg, solid1_lit, solid1_sl, solid_eq, noL_lit, noL_ptr, noL_agg, noL_tup, List.map_cons, List.map_nil, List.length_cons, List.length_nil, List.all_cons, List.all_nil, List.nil_append, List.drop_zero, List.drop_succ_cons, List.take_succ_cons, List.take_zero, ↓reduceIte, Nat.reduceEqDiff, Nat.reduceAdd, Nat.reduceLeDiff, Bool.true_and, Bool.and_true, and_true, true_and, reduceCtorEq, Nat.zero_add, or_false, decide_true, Bool.not_false, Bool.false_eq_true, cond_yes, f27_64e, f27_65e, f27_66e, f27_66l, f27_67e, f27_68e, f27_69e, f27_69h, f27_69l]
      exact hself
  by_cases h2 : c ∈ conns L
  · obtain ⟨⟨t, v⟩, hmem, hv⟩ := List.mem_map.1 h2
    simp only at hv
    subst hv
    obtain ⟨A, B, rfl⟩ := List.append_of_mem hmem
    have hcon : conns (A ++ (t, v) :: B) = conns A ++ v :: conns B := by simp [conns]
    have hAn : v ∉ conns A := fun hA => by
      have := h.nd
      rw [hcon] at this
      exact (List.nodup_append.1 this).2.2 v hA v List.mem_cons_self rfl
    have hal : (conns A).length = A.length := by simp [conns]
    have hbl : (conns B).length = B.length := by simp [conns]
    simp only [List.length_append, List.length_cons] at hlen
    have hfi := fun st => find_some (conns A) (conns B) v hAn (by omega) st
    have hwo := fun st => without_pure (conns A) (conns B) v (by omega) (by omega) st
    have hlt : lAV (conns A ++ v :: conns B) = .sl false 1 (ints (conns A ++ v :: conns B)) := by unfold lAV; rw [if_neg (by simp)]
    rw [hcon, hlt]
    simp -implicitDefEqProofs (maxSteps := 10000000) (disch := omega) only [seqQ_normal, opsK_eq, runI_nil, runI_none, putP_eq, cond_tt, cond_ff, o_mv, o_bin, o_addr, o_load, o_own, o_newL, o_boxL, o_call, loadV, boxX, addA, derefI, takeI_none, n_eql, wp_ok, bind_ok, ofOpt_some, ev_r, ev_c, ev_f, evOwn_r, setB_r, putS, Sf.set, Sf.reg, mask_eq, maskR_nil, maskR_cons, getR, setR, maskL, Sf.disAt, Sf.newLoc, look, killR, drop1, regs0, id, dis_lit, dis_ptr, dis_agg, own1_lit, own1_sl, cells_agg, solid1_lit, solid1_sl, solid_eq, kill_lit, kill_ptr, kill_lptr, kill_agg, List.map_cons, List.map_nil, List.length_cons, List.length_nil, List.all_cons, List.all_nil, List.drop_zero, List.drop_succ_cons, ↓reduceIte, Nat.reduceEqDiff, Nat.reduceAdd, Int.reduceEq, Bool.true_and, Bool.and_true, and_true, true_and, reduceCtorEq, Nat.zero_add, Nat.add_zero, decide_true, decide_false, f27_1e, f27_2e, f27_2l, f27_3e, f27_4e, f27_5e, f27_5l, f27_6e, f27_7e, f27_8e, f27_8l, f27_9e, f27_38e, f27_39e, f27_39l, f27_40e, f27_59e, f27_60e, f27_60l, f27_61e, f27_62e, f27_63e, f27_63l, bcAV]
    refine call_a rfl e_f22 (bremove_calls h (by omega)) rfl fun r st1 hr => ?_
    obtain ⟨rfl, a1, _⟩ := hr
    have hf := hres st1 (A ++ B) g a1 (.inl (by omega)) (fun e => absurd (hcl e) (by simp))
    rw [conns_app] at hf
    simp -implicitDefEqProofs (maxSteps := 10000000) (disch := omega) only [seqQ_normal, aC_skip, opsK_eq, runI_nil, runI_none, putP_eq, o_bin, o_addr, o_load, o_own, o_call, loadV, addA, derefI, takeI_none, n_lss, wp_ok, bind_ok, ofOpt_some, ev_r, ev_c, ev_f, setB_r, putS, Sf.set, Sf.reg, mask_eq, maskR_nil, maskR_cons, getR, setR, maskL, Sf.disAt, look, id, dis_lit, dis_sl, List.map_cons, List.map_nil, List.drop_zero, List.drop_succ_cons, ↓reduceIte, Nat.reduceEqDiff, reduceCtorEq, Nat.zero_add, cond_no, f27_64e, f27_65e, f27_66e, f27_66l, f27_67e, f27_70e, f27_71e, f27_71l]
    refine call_p rfl e_f23 (hfi _) rfl ?_
    simp -implicitDefEqProofs (maxSteps := 10000000) (disch := omega) only [seqQ_normal, aC_skip, opsK_eq, runI_nil, runI_none, putP_eq, o_mv, o_bin, o_addr, o_load, o_own, o_call, loadV, addA, derefI, takeI_none, n_lss, wp_ok, bind_ok, ofOpt_some, ev_r, ev_c, ev_f, setB_r, putS, Sf.set, Sf.reg, mask_eq, maskR_nil, maskR_cons, getR, setR, maskL, Sf.disAt, look, id, dis_lit, dis_sl, List.map_cons, List.map_nil, List.drop_zero, List.drop_succ_cons, ↓reduceIte, Nat.reduceEqDiff, reduceCtorEq, Nat.zero_add, cond_no, f27_72e, f27_73e, f27_74e, f27_74l, f27_75e, f27_78e, f27_79e, f27_79l]
    refine call_p rfl e_f21 (hwo _) rfl ?_
    rcases gAV_cases (conns A ++ conns B) with ⟨e, hz⟩ | ⟨e, hz⟩
    all_goals
      have e2 : lAV (conns A ++ conns B) = (gAV (conns A ++ conns B)).dis := (gAV_dis _).symm
      rw [e] at e2 ⊢
      rw [e2] at hf
      simp -implicitDefEqProofs (maxSteps := 10000000) (disch := omega) only [List.contains_nil, List.contains_cons, Nat.reduceBEq, Bool.or_false, ksB, storesOf, newsOf, appsOf, distinctB, finSS, finNN, nstB, nstsOf, h_nil, h_none, hh_mv, hh_bin, hh_load, hh_store, headAddr_eq, headStore_eq, val_head, tail_eq, cons_store, seqQ_normal, seqQ_ret, blockQ_ret, aC_ret, opsK_eq, retQ_ret, retI, resI, resL, runI_nil, runI_none, putP_eq, o_addr, o_own, o_store, loadV, boxX, writeX, addA, derefI, takeI_some, n_eql, wp_ok, bind_ok, bind_req, ofOpt_some, req_tt, ev_r, ev_c, evOwn_r, disOp_r, putS, Sf.set, Sf.reg, mask_eq, maskR_nil, maskR_cons, getR, setR, maskL, Sf.disAt, Sf.setLoc, look, drop1, dropL, dis_lit, dis_ptr, dis_sl, dis_agg, own1_lit, own1_sl, cells_lit, cells_sl, cells_agg, solid1_lit, solid1_sl, solid_eq, noL_lit, noL_ptr, noL_agg, noL_tup, List.map_cons, List.map_nil, List.length_cons, List.length_nil, List.all_cons, List.all_nil, List.nil_append, List.drop_zero, List.take_succ_cons, List.take_zero, List.set_cons_zero, List.set_cons_succ, ↓reduceIte, Nat.reduceEqDiff, Nat.reduceAdd, Nat.reduceLeDiff, Bool.true_and, Bool.and_true, and_true, true_and, reduceCtorEq, Nat.zero_add, or_false, decide_true, Bool.not_false, Bool.false_eq_true, setAt_nil, setAt_cons, f27_80e, f27_81e, f27_81h, f27_81l]
      exact hf
  · have hfn := fun st => find_l (conns L) c h2 (by omega) st
    rcases lAV_cases (conns L) with ⟨e, hz⟩ | ⟨e, hz⟩
    all_goals
      rw [e] at hself hfn ⊢
      simp -implicitDefEqProofs (maxSteps := 10000000) (disch := omega) only [seqQ_normal, opsK_eq, runI_nil, runI_none, putP_eq, cond_tt, cond_ff, o_mv, o_bin, o_addr, o_load, o_own, o_newL, o_boxL, o_call, loadV, boxX, addA, derefI, takeI_none, n_eql, wp_ok, bind_ok, ofOpt_some, ev_r, ev_c, ev_f, evOwn_r, setB_r, putS, Sf.set, Sf.reg, mask_eq, maskR_nil, maskR_cons, getR, setR, maskL, Sf.disAt, Sf.newLoc, look, killR, drop1, regs0, id, dis_lit, dis_ptr, dis_agg, own1_lit, own1_sl, cells_agg, solid1_lit, solid1_sl, solid_eq, kill_lit, kill_ptr, kill_lptr, kill_agg, List.map_cons, List.map_nil, List.length_cons, List.length_nil, List.all_cons, List.all_nil, List.drop_zero, List.drop_succ_cons, ↓reduceIte, Nat.reduceEqDiff, Nat.reduceAdd, Int.reduceEq, Bool.true_and, Bool.and_true, and_true, true_and, reduceCtorEq, Nat.zero_add, Nat.add_zero, decide_true, decide_false, f27_1e, f27_2e, f27_2l, f27_3e, f27_4e, f27_5e, f27_5l, f27_6e, f27_7e, f27_8e, f27_8l, f27_9e, f27_38e, f27_39e, f27_39l, f27_40e, f27_59e, f27_60e, f27_60l, f27_61e, f27_62e, f27_63e, f27_63l, bcAV]
      refine call_a rfl e_f22 (bremove_none h (by omega) h2) rfl fun r st1 hr => ?_
      obtain ⟨rfl, rfl⟩ := hr
      simp -implicitDefEqProofs (maxSteps := 10000000) (disch := omega) only [seqQ_normal, aC_skip, opsK_eq, runI_nil, runI_none, putP_eq, o_bin, o_addr, o_load, o_own, o_call, loadV, addA, derefI, takeI_none, n_lss, wp_ok, bind_ok, ofOpt_some, ev_r, ev_c, ev_f, setB_r, putS, Sf.set, Sf.reg, mask_eq, maskR_nil, maskR_cons, getR, setR, maskL, Sf.disAt, look, id, dis_lit, dis_sl, List.map_cons, List.map_nil, List.drop_zero, List.drop_succ_cons, ↓reduceIte, Nat.reduceEqDiff, reduceCtorEq, Nat.zero_add, cond_no, f27_64e, f27_65e, f27_66e, f27_66l, f27_67e, f27_70e, f27_71e, f27_71l]
      refine call_p rfl e_f23 (hfn _) rfl ?_
      simp -implicitDefEqProofs (maxSteps := 10000000) (disch := omega) only [List.contains_nil, List.contains_cons, Nat.reduceBEq, Bool.or_false, ksB, storesOf, newsOf, appsOf, distinctB, finSS, finNN, nstB, nstsOf, h_nil, h_none, hh_mv, hh_bin, hh_load, hh_store, headAddr_eq, headStore_eq, val_head, tail_eq, cons_store, seqQ_normal, seqQ_ret, blockQ_ret, aC_ret, opsK_eq, retQ_ret, retI, resI, resL, runI_nil, runI_none, putP_eq, cond_tt, o_mv, o_bin, o_own, loadV, derefI, takeI_some, n_eql, n_lss, wp_ok, bind_ok, bind_req, ofOpt_some, req_tt, ev_r, ev_c, setB_r, putS, Sf.set, Sf.reg, mask_eq, maskR_nil, maskR_cons, getR, setR, maskL, Sf.disAt, Sf.setLoc, look, drop1, dropL, dis_lit, dis_ptr, dis_agg, own1_lit, own1_sl, cells_agg, solid1_lit, solid1_sl, solid_eq, noL_lit, noL_ptr, noL_agg, noL_tup, List.map_cons, List.map_nil, List.length_cons, List.length_nil, List.all_cons, List.all_nil, List.nil_append, List.drop_zero, List.take_succ_cons, List.take_zero, ↓reduceIte, Nat.reduceEqDiff, Nat.reduceAdd, Nat.reduceLeDiff, Int.reduceLT, Int.reduceNeg, Bool.true_and, Bool.and_true, and_true, true_and, reduceCtorEq, Nat.zero_add, or_false, decide_true, Bool.not_false, Bool.false_eq_true, f27_72e, f27_73e, f27_74e, f27_74l, f27_75e, f27_76e, f27_77e, f27_77h, f27_77l]
      exact hself
end
end Go.Fx.YtddifejdkiemgaaFx

