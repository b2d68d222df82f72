/- What the functions that the statement reaches compute: part 12. -/
import Derived.Test.YtenijlfcfmhmkaaFxW11
namespace Go.Fx.YtenijlfcfmhmkaaFx
open Go Go.Fx
attribute [local irreducible] aC runI headI loopI

set_option maxRecDepth 100000
set_option maxHeartbeats 4000000

theorem holds_loop1 {q mid : Nat} {st0 : St} (h0 : QIs st0 q mid [] 0) (l : List Fa) (hl : l.length ≤ 60) (Q : Exit → Sf → St → Prop)
    (hQ : ∀ L n p G st, QIs st q mid L n → HInv L n p G → n ≤ 60 → Q (.exit 0) ⟨[(3, .ptr q 0), (4, .lptr 4 0), (5, .lit (.int .u64 (n : Nat)))], [(4, boolsC G)]⟩ st) :
    aC Go.Proofs.Try.prog id false f9_25 ⟨[(3, .ptr q 0), (4, .lptr 4 0), (5, .lit (.int .u64 0)), (6, .lit (.int .u64 0)), (29, .sl false 3 (l.map faAV)), (30, .lit (.int .i64 (l.length : Nat))), (31, .lit (.int .i64 0))], [(4, boolsC (List.replicate 64 false))]⟩ st0 Q := by
  rw [f9_25w]
  refine loop_op (A := Nat × Qu × Nat × Nat × List Bool × St) (fun a => l.length - a.1) (fun a => ⟨[(3, .ptr q 0), (4, .lptr 4 0), (5, .lit (.int .u64 (a.2.2.1 : Nat))), (6, .lit (.int .u64 (a.2.2.2.1 : Nat))), (29, .sl false 3 (l.map faAV)), (30, .lit (.int .i64 (l.length : Nat))), (31, .lit (.int .i64 (a.1 : Nat)))], [(4, boolsC a.2.2.2.2.1)]⟩) (fun a => a.2.2.2.2.2)
    (fun a => a.1 ≤ l.length ∧ QIs a.2.2.2.2.2 q mid a.2.1 a.2.2.1 ∧ HInv a.2.1 a.2.2.1 a.2.2.2.1 a.2.2.2.2.1 ∧ a.2.2.1 ≤ a.1) (0, [], 0, 0, List.replicate 64 false, st0)
    ⟨by simp, h0, ⟨by simp, by simp, by simp [ticks], by intro t h1 h2; simp at h2; omega, fun t _ h2 => by rw [List.getElem?_replicate, if_pos h2], by simp [ticks], Nat.le_refl _⟩, by simp⟩ (Sf.le_refl _) rfl ?_
  rintro ⟨i, L, n, p, G, st⟩ ⟨h1, h2, h3, h4⟩ K hK hKe hKr
  simp only at h1 h2 h3 h4
  have hG := h3.len
  have hpn := h3.pn
  have hGl := boolsC_len G
  by_cases hi : i < l.length
  · obtain ⟨⟨w, v, t⟩, hw⟩ : ∃ a, a = l[i] := ⟨_, rfl⟩
    have e1 : (l.map faAV).getD i .any = .agg [.lit (.int .i64 w), .lit (.int .i64 v), .lit (.int .u64 (t : Nat))] := by simp [List.getD, hi, ← hw, faAV]
    have hLn : L.length ≤ n := qis_len h2
    have hnx : ∀ L' n' p' G' st', QIs st' q mid L' n' → HInv L' n' p' G' → n' ≤ i + 1 → K .normal ⟨[(3, .ptr q 0), (4, .lptr 4 0), (5, .lit (.int .u64 (n' : Nat))), (6, .lit (.int .u64 (p' : Nat))), (29, .sl false 3 (l.map faAV)), (30, .lit (.int .i64 (l.length : Nat))), (31, .lit (.int .i64 ((i + 1 : Nat))))], [(4, boolsC G')]⟩ st' := fun L' n' p' G' st' a b c =>
      hK (i + 1, L', n', p', G', st') _ ⟨by simp only; omega, a, b, c⟩ (by simp only; omega) (Sf.le_refl _)
    by_cases hw0 : w = 0
    · subst hw0
      simp -implicitDefEqProofs (maxSteps := 10000000) (disch := omega) only [seqQ_normal, aC_skip, opsK_eq, runI_nil, runI_none, putP_eq, cond_tt, o_mv, o_bin, o_conv, o_addr, o_ixS, o_load, o_own, o_newL, o_store, o_call, ixSV, loadV, boxX, writeX, ixA, addA, convI, derefI, takeI_none, takeI_some, n_add, n_eql, n_lss, wp_ok, bind_ok, bind_req, ofOpt_some, req_tt, ev_r, ev_c, ev_f, evOwn_r, disOp_r, setB_r, putS, Sf.set, Sf.reg, mask_eq, maskR_nil, maskR_cons, getR, setR, maskL, Sf.disAt, Sf.newLoc, Sf.setLoc, look, killR, drop1, id, dis_lit, dis_ptr, dis_agg, own1_lit, cells_agg, solid1_lit, solid_eq, kill_lit, kill_ptr, kill_lptr, kill_cptr, kill_sl, kill_agg, List.map_cons, List.map_nil, List.length_cons, List.length_nil, List.all_cons, List.all_nil, List.drop_zero, List.take_succ_cons, List.take_zero, List.set_cons_zero, List.set_cons_succ, Int.toNat_natCast, ↓reduceIte, Nat.reduceEqDiff, Nat.reduceAdd, Nat.reduceLeDiff, Bool.true_and, Bool.and_true, and_true, true_and, Nat.zero_add, Nat.add_zero, decide_true, List.length_map, req_dec, cond_yes, IntWalk.i64_in, up_addL, and_pre, setAt_nil, setAt_cons, f9_26e, f9_27e, f9_27l, f9_28e, f9_29e, f9_30e, f9_31e, f9_32e, f9_33e, f9_33l, f9_34e, f9_35e, f9_36e, f9_36l, f9_37e, f9_38e, f9_39e, f9_39l, f9_40e, f9_41e, f9_42e, f9_42l, e1]
      refine call_a rfl e_f32 (qpush_calls (v := ((n + 1 : Nat) : Int)) h2 (by omega) (by omega)) rfl fun r st1 hr => ?_
      obtain ⟨rfl, hX, _⟩ := hr
      have hI := h3.push (by omega)
      have hn' : n + 1 ≤ i + 1 := by omega
      have hlen : (L ++ [(n + 1, ((n + 1 : Nat) : Int))]).length < 1000000 := by simp; omega
      simp -implicitDefEqProofs (maxSteps := 10000000) (disch := omega) only [seqQ_normal, blockQ_normal, aC_skip, opsK_eq, runI_nil, runI_none, runI_some, AI.dst, putP_eq, cond_ff, guard_ff, o_mv, o_pick, o_bin, o_ext, o_own, o_call, pick_ff, extV, n_add, n_neq, wp_ok, bind_ok, ofOpt_some, ev_r, ev_c, ev_f, setB_r, putS, Sf.set, Sf.reg, mask_eq, maskR_nil, maskR_cons, getR, setR, maskL, Sf.disAt, look, id, dis_lit, dis_ptr, dis_tup, own2_lit, List.map_cons, List.map_nil, List.getElem?_cons_zero, List.getElem?_cons_succ, ↓reduceIte, Nat.reduceEqDiff, not_true_eq_false, decide_false, Bool.false_eq_true, IntWalk.u64_in, up_addL, f9_43e, f9_44e, f9_45e, f9_45l, f9_46e, f9_49e, f9_49l, f9_82e, f9_83e, f9_83l]
      generalize L ++ [(n + 1, ((n + 1 : Nat) : Int))] = LL at *
      rcases LL with _ | ⟨⟨u, y⟩, r⟩
      · have hf := qfront_nil hX
        refine call_p rfl e_f26 hf rfl ?_
        simp -implicitDefEqProofs (maxSteps := 10000000) (disch := omega) only [seqQ_normal, blockQ_normal, aC_skip, opsK_eq, runI_nil, runI_none, putP_eq, cond_ff, o_mv, o_bin, o_ext, o_own, extV, n_add, n_eql, wp_ok, bind_ok, ofOpt_some, ev_r, ev_c, setB_r, putS, Sf.set, Sf.reg, mask_eq, maskR_nil, maskR_cons, getR, setR, maskL, Sf.disAt, look, dis_lit, dis_tup, own2_lit, List.map_cons, List.map_nil, List.getElem?_cons_zero, List.getElem?_cons_succ, ↓reduceIte, Nat.reduceEqDiff, Int.reduceEq, decide_false, IntWalk.i64_in, up_addL, f9_84e, f9_85e, f9_85l, f9_86e, f9_94e, f9_94l]
        exact hnx _ _ _ _ _ hX hI hn'
      · have hf := qfront_cons hX
        have hp := qplace_at hX (i := 0) (by simp) hlen
        simp only [List.getElem_cons_zero] at hp
        refine call_p rfl e_f26 hf rfl ?_
        simp -implicitDefEqProofs (maxSteps := 10000000) (disch := omega) only [seqQ_normal, opsK_eq, runI_nil, runI_none, putP_eq, cond_tt, o_mv, o_bin, o_ext, o_own, o_call, extV, n_eql, wp_ok, bind_ok, ofOpt_some, ev_r, ev_c, ev_f, setB_r, putS, Sf.set, Sf.reg, mask_eq, maskR_nil, maskR_cons, getR, setR, maskL, Sf.disAt, look, id, dis_lit, dis_ptr, dis_tup, own2_lit, List.map_cons, List.map_nil, List.getElem?_cons_zero, List.getElem?_cons_succ, ↓reduceIte, Nat.reduceEqDiff, decide_true, f9_84e, f9_85e, f9_85l, f9_86e, f9_87e, f9_88e, f9_88l]
        refine call_p rfl e_f36 hp rfl ?_
        simp -implicitDefEqProofs (maxSteps := 10000000) (disch := omega) only [seqQ_normal, blockQ_normal, aC_skip, opsK_eq, runI_nil, runI_none, runI_some, AI.dst, putP_eq, cond_ff, guard_ff, o_mv, o_pick, o_bin, o_ext, o_own, pick_ff, extV, n_add, n_neq, wp_ok, bind_ok, ofOpt_some, ev_r, ev_c, setB_r, putS, Sf.set, Sf.reg, mask_eq, maskR_nil, maskR_cons, getR, setR, maskL, Sf.disAt, look, dis_lit, dis_tup, own2_lit, List.map_cons, List.map_nil, List.getElem?_cons_zero, List.getElem?_cons_succ, Int.cast_ofNat_Int, ↓reduceIte, Nat.reduceEqDiff, not_true_eq_false, decide_false, Bool.false_eq_true, IntWalk.i64_in, up_addL, f9_89e, f9_90e, f9_90l, f9_91e, f9_94e, f9_94l]
        exact hnx _ _ _ _ _ hX hI hn'
    by_cases hw1 : w = 1
    · subst hw1
      rcases L with _ | ⟨⟨k, x⟩, LL⟩
      · simp -implicitDefEqProofs (maxSteps := 10000000) (disch := omega) only [seqQ_normal, aC_skip, opsK_eq, runI_nil, runI_none, putP_eq, cond_tt, cond_ff, o_mv, o_bin, o_addr, o_ixS, o_load, o_own, o_newL, o_store, o_call, ixSV, loadV, boxX, writeX, ixA, addA, derefI, takeI_none, takeI_some, n_eql, n_lss, wp_ok, bind_ok, bind_req, ofOpt_some, req_tt, ev_r, ev_c, ev_f, evOwn_r, disOp_r, setB_r, putS, Sf.set, Sf.reg, mask_eq, maskR_nil, maskR_cons, getR, setR, maskL, Sf.disAt, Sf.newLoc, Sf.setLoc, look, killR, drop1, id, dis_lit, dis_ptr, dis_agg, own1_lit, cells_agg, solid1_lit, solid_eq, kill_lit, kill_ptr, kill_lptr, kill_cptr, kill_sl, kill_agg, List.map_cons, List.map_nil, List.length_cons, List.length_nil, List.all_cons, List.all_nil, List.drop_zero, List.take_succ_cons, List.take_zero, List.set_cons_zero, List.set_cons_succ, Int.toNat_natCast, ↓reduceIte, Nat.reduceEqDiff, Nat.reduceAdd, Nat.reduceLeDiff, Int.reduceEq, Bool.true_and, Bool.and_true, and_true, true_and, Nat.zero_add, Nat.add_zero, decide_true, decide_false, List.length_map, req_dec, cond_yes, and_pre, setAt_nil, setAt_cons, f9_26e, f9_27e, f9_27l, f9_28e, f9_29e, f9_30e, f9_31e, f9_32e, f9_33e, f9_33l, f9_34e, f9_35e, f9_36e, f9_36l, f9_37e, f9_38e, f9_39e, f9_39l, f9_40e, f9_50e, f9_51e, f9_51l, f9_52e, f9_53e, f9_54e, f9_54l, e1]
        refine call_a rfl e_f31 (qpop_nil h2) rfl fun r st1 hr => ?_
        obtain ⟨rfl, rfl⟩ := hr
        simp -implicitDefEqProofs (maxSteps := 10000000) (disch := omega) only [seqQ_normal, seqQ_exit, blockQ_exit, aC_exit, opsK_eq, runI_nil, runI_none, putP_eq, cond_tt, o_mv, o_bin, o_ext, o_own, extV, n_add, n_neq, wp_ok, bind_ok, ofOpt_some, ev_r, ev_c, setB_r, putS, Sf.set, Sf.reg, mask_eq, maskR_nil, maskR_cons, getR, setR, maskL, Sf.disAt, look, dis_lit, dis_tup, own2_lit, List.map_cons, List.map_nil, List.getElem?_cons_zero, List.getElem?_cons_succ, ↓reduceIte, Nat.reduceEqDiff, Int.reduceEq, not_false_eq_true, decide_true, IntWalk.i64_in, up_addL, f9_55e, f9_56e, f9_57e, f9_57l, f9_58e, f9_94e, f9_94l]
        exact hnx _ _ _ _ _ h2 h3 (by omega)
      · have hx := h3.val _ List.mem_cons_self
        simp only at hx
        subst hx
        have hkp := h3.lt k (by simp [ticks])
        have hkn := (h2.pos k (by simp [ticks])).2
        have hgk := boolsC_drop (h3.yes k (by simp [ticks]))
        have hI := h3.pop h2.srt hkn
        have hn' : n ≤ i + 1 := by omega
        have hlen : LL.length < 1000000 := by rw [List.length_cons] at hLn; omega
        simp -implicitDefEqProofs (maxSteps := 10000000) (disch := omega) only [seqQ_normal, aC_skip, opsK_eq, runI_nil, runI_none, putP_eq, cond_tt, cond_ff, o_mv, o_bin, o_addr, o_ixS, o_load, o_own, o_newL, o_store, o_call, ixSV, loadV, boxX, writeX, ixA, addA, derefI, takeI_none, takeI_some, n_eql, n_lss, wp_ok, bind_ok, bind_req, ofOpt_some, req_tt, ev_r, ev_c, ev_f, evOwn_r, disOp_r, setB_r, putS, Sf.set, Sf.reg, mask_eq, maskR_nil, maskR_cons, getR, setR, maskL, Sf.disAt, Sf.newLoc, Sf.setLoc, look, killR, drop1, id, dis_lit, dis_ptr, dis_agg, own1_lit, cells_agg, solid1_lit, solid_eq, kill_lit, kill_ptr, kill_lptr, kill_cptr, kill_sl, kill_agg, List.map_cons, List.map_nil, List.length_cons, List.length_nil, List.all_cons, List.all_nil, List.drop_zero, List.take_succ_cons, List.take_zero, List.set_cons_zero, List.set_cons_succ, Int.toNat_natCast, ↓reduceIte, Nat.reduceEqDiff, Nat.reduceAdd, Nat.reduceLeDiff, Int.reduceEq, Bool.true_and, Bool.and_true, and_true, true_and, Nat.zero_add, Nat.add_zero, decide_true, decide_false, List.length_map, req_dec, cond_yes, and_pre, setAt_nil, setAt_cons, f9_26e, f9_27e, f9_27l, f9_28e, f9_29e, f9_30e, f9_31e, f9_32e, f9_33e, f9_33l, f9_34e, f9_35e, f9_36e, f9_36l, f9_37e, f9_38e, f9_39e, f9_39l, f9_40e, f9_50e, f9_51e, f9_51l, f9_52e, f9_53e, f9_54e, f9_54l, e1]
        refine call_a rfl e_f31 (qpop_calls h2 (by omega)) rfl fun r st1 hr => ?_
        obtain ⟨rfl, hX, _⟩ := hr
        simp -implicitDefEqProofs (maxSteps := 10000000) (disch := omega) only [seqQ_normal, blockQ_normal, aC_skip, opsK_eq, runI_nil, runI_none, runI_some, AI.dst, putP_eq, cond_ff, guard_ff, o_mv, o_pick, o_bin, o_conv, o_ext, o_ixA, o_load, o_own, o_store, o_call, pick_ff, extV, loadV, boxX, writeX, ixA, addA, convI, derefI, takeI_none, n_neq, n_leq, n_gtr, wp_ok, bind_ok, bind_req, ofOpt_some, ev_r, ev_c, ev_f, evOwn_c, disOp_c, setB_r, putS, Sf.set, Sf.reg, mask_eq, maskR_nil, maskR_cons, getR, setR, maskL, Sf.disAt, Sf.setLoc, look, drop1, id, dis_lit, dis_ptr, dis_tup, own2_lit, cells_lit, solid1_lit, solid_eq, List.map_cons, List.map_nil, List.length_cons, List.length_nil, List.getElem?_cons_zero, List.getElem?_cons_succ, List.all_cons, List.all_nil, Int.toNat_natCast, Int.cast_ofNat_Int, ↓reduceIte, Nat.reduceEqDiff, Bool.true_and, Bool.and_true, and_true, true_and, Nat.zero_add, not_true_eq_false, decide_false, Bool.false_eq_true, req_dec, guard_no, IntWalk.i64_in, and_pre, setAt_nil, setAt_cons, Nat.mul_one, f9_55e, f9_56e, f9_57e, f9_57l, f9_58e, f9_59e, f9_60e, f9_61e, f9_61l, f9_62e, f9_65e, f9_65l, f9_82e, f9_83e, f9_83l, hgk, boolsC_set]
        generalize G.set k true = G' at *
        rcases LL with _ | ⟨⟨u, y⟩, r⟩
        · have hf := qfront_nil hX
          refine call_p rfl e_f26 hf rfl ?_
          simp -implicitDefEqProofs (maxSteps := 10000000) (disch := omega) only [seqQ_normal, blockQ_normal, aC_skip, opsK_eq, runI_nil, runI_none, putP_eq, cond_ff, o_mv, o_bin, o_ext, o_own, extV, n_add, n_eql, wp_ok, bind_ok, ofOpt_some, ev_r, ev_c, setB_r, putS, Sf.set, Sf.reg, mask_eq, maskR_nil, maskR_cons, getR, setR, maskL, Sf.disAt, look, dis_lit, dis_tup, own2_lit, List.map_cons, List.map_nil, List.getElem?_cons_zero, List.getElem?_cons_succ, ↓reduceIte, Nat.reduceEqDiff, Int.reduceEq, decide_false, IntWalk.i64_in, up_addL, f9_84e, f9_85e, f9_85l, f9_86e, f9_94e, f9_94l]
          exact hnx _ _ _ _ _ hX hI hn'
        · have hf := qfront_cons hX
          have hp := qplace_at hX (i := 0) (by simp) hlen
          simp only [List.getElem_cons_zero] at hp
          refine call_p rfl e_f26 hf rfl ?_
          simp -implicitDefEqProofs (maxSteps := 10000000) (disch := omega) only [seqQ_normal, opsK_eq, runI_nil, runI_none, putP_eq, cond_tt, o_mv, o_bin, o_ext, o_own, o_call, extV, n_eql, wp_ok, bind_ok, ofOpt_some, ev_r, ev_c, ev_f, setB_r, putS, Sf.set, Sf.reg, mask_eq, maskR_nil, maskR_cons, getR, setR, maskL, Sf.disAt, look, id, dis_lit, dis_ptr, dis_tup, own2_lit, List.map_cons, List.map_nil, List.getElem?_cons_zero, List.getElem?_cons_succ, ↓reduceIte, Nat.reduceEqDiff, decide_true, f9_84e, f9_85e, f9_85l, f9_86e, f9_87e, f9_88e, f9_88l]
          refine call_p rfl e_f36 hp rfl ?_
          simp -implicitDefEqProofs (maxSteps := 10000000) (disch := omega) only [seqQ_normal, blockQ_normal, aC_skip, opsK_eq, runI_nil, runI_none, runI_some, AI.dst, putP_eq, cond_ff, guard_ff, o_mv, o_pick, o_bin, o_ext, o_own, pick_ff, extV, n_add, n_neq, wp_ok, bind_ok, ofOpt_some, ev_r, ev_c, setB_r, putS, Sf.set, Sf.reg, mask_eq, maskR_nil, maskR_cons, getR, setR, maskL, Sf.disAt, look, dis_lit, dis_tup, own2_lit, List.map_cons, List.map_nil, List.getElem?_cons_zero, List.getElem?_cons_succ, Int.cast_ofNat_Int, ↓reduceIte, Nat.reduceEqDiff, not_true_eq_false, decide_false, Bool.false_eq_true, IntWalk.i64_in, up_addL, f9_89e, f9_90e, f9_90l, f9_91e, f9_94e, f9_94l]
          exact hnx _ _ _ _ _ hX hI hn'
    by_cases hw2 : w = 2
    · subst hw2
      by_cases hm : t ∈ ticks L
      · obtain ⟨⟨k, x⟩, hkx, hkt⟩ := List.mem_map.mp hm
        simp only at hkt
        subst hkt
        obtain ⟨A, B, rfl⟩ := List.append_of_mem hkx
        have hx := h3.val _ hkx
        simp only at hx
        subst hx
        have hkn := (h2.pos k hm).2
        have hgk := boolsC_drop (h3.yes k hm)
        have hI := h3.cut hkn h2.srt
        have hn' : n ≤ i + 1 := by omega
        have hlen : (A ++ B).length < 1000000 := by simp only [List.length_append, List.length_cons] at hLn ⊢; omega
        simp -implicitDefEqProofs (maxSteps := 10000000) (disch := omega) only [seqQ_normal, aC_skip, opsK_eq, runI_nil, runI_none, putP_eq, cond_tt, cond_ff, o_mv, o_bin, o_addr, o_ixS, o_load, o_own, o_newL, o_store, o_call, ixSV, loadV, boxX, writeX, ixA, addA, derefI, takeI_none, takeI_some, n_eql, n_lss, wp_ok, bind_ok, bind_req, ofOpt_some, req_tt, ev_r, ev_c, ev_f, evOwn_r, disOp_r, setB_r, putS, Sf.set, Sf.reg, mask_eq, maskR_nil, maskR_cons, getR, setR, maskL, Sf.disAt, Sf.newLoc, Sf.setLoc, look, killR, drop1, id, dis_lit, dis_ptr, dis_agg, own1_lit, cells_agg, solid1_lit, solid_eq, kill_lit, kill_ptr, kill_lptr, kill_cptr, kill_sl, kill_agg, List.map_cons, List.map_nil, List.length_cons, List.length_nil, List.all_cons, List.all_nil, List.drop_zero, List.drop_succ_cons, List.take_succ_cons, List.take_zero, List.set_cons_zero, List.set_cons_succ, Int.toNat_natCast, ↓reduceIte, Nat.reduceEqDiff, Nat.reduceAdd, Nat.reduceLeDiff, Int.reduceEq, Bool.true_and, Bool.and_true, and_true, true_and, Nat.zero_add, Nat.add_zero, decide_true, decide_false, List.length_map, req_dec, cond_yes, and_pre, setAt_nil, setAt_cons, f9_26e, f9_27e, f9_27l, f9_28e, f9_29e, f9_30e, f9_31e, f9_32e, f9_33e, f9_33l, f9_34e, f9_35e, f9_36e, f9_36l, f9_37e, f9_38e, f9_39e, f9_39l, f9_40e, f9_50e, f9_51e, f9_51l, f9_52e, f9_66e, f9_67e, f9_67l, f9_68e, f9_69e, f9_70e, f9_70l, e1]
        refine call_a rfl e_f35 (qremove_calls h2 (by omega)) rfl fun r st1 hr => ?_
        obtain ⟨rfl, hX, _⟩ := hr
        simp -implicitDefEqProofs (maxSteps := 10000000) (disch := omega) only [seqQ_normal, blockQ_normal, aC_skip, opsK_eq, runI_nil, runI_none, runI_some, AI.dst, putP_eq, cond_ff, guard_ff, o_mv, o_pick, o_bin, o_conv, o_ext, o_addr, o_ixA, o_load, o_own, o_store, o_call, pick_ff, extV, loadV, boxX, writeX, ixA, addA, convI, derefI, takeI_none, n_neq, n_gtr, wp_ok, bind_ok, bind_req, ofOpt_some, ev_r, ev_c, ev_f, evOwn_c, disOp_c, setB_r, putS, Sf.set, Sf.reg, mask_eq, maskR_nil, maskR_cons, getR, setR, maskL, Sf.disAt, Sf.setLoc, look, drop1, id, dis_lit, dis_ptr, dis_tup, own2_lit, cells_lit, solid1_lit, solid_eq, List.map_cons, List.map_nil, List.length_cons, List.length_nil, List.getElem?_cons_zero, List.getElem?_cons_succ, List.all_cons, List.all_nil, List.drop_zero, List.drop_succ_cons, Int.toNat_natCast, Int.cast_ofNat_Int, ↓reduceIte, Nat.reduceEqDiff, Bool.true_and, Bool.and_true, and_true, true_and, Nat.zero_add, not_true_eq_false, decide_false, Bool.false_eq_true, req_dec, guard_no, IntWalk.i64_in, and_pre, setAt_nil, setAt_cons, Nat.mul_one, f9_71e, f9_72e, f9_73e, f9_73l, f9_74e, f9_75e, f9_76e, f9_77e, f9_77l, f9_78e, f9_81e, f9_81l, f9_82e, f9_83e, f9_83l, hgk, boolsC_set]
        generalize G.set k true = G' at *
        generalize A ++ B = LL at *
        rcases LL with _ | ⟨⟨u, y⟩, r⟩
        · have hf := qfront_nil hX
          refine call_p rfl e_f26 hf rfl ?_
          simp -implicitDefEqProofs (maxSteps := 10000000) (disch := omega) only [seqQ_normal, blockQ_normal, aC_skip, opsK_eq, runI_nil, runI_none, putP_eq, cond_ff, o_mv, o_bin, o_ext, o_own, extV, n_add, n_eql, wp_ok, bind_ok, ofOpt_some, ev_r, ev_c, setB_r, putS, Sf.set, Sf.reg, mask_eq, maskR_nil, maskR_cons, getR, setR, maskL, Sf.disAt, look, dis_lit, dis_tup, own2_lit, List.map_cons, List.map_nil, List.getElem?_cons_zero, List.getElem?_cons_succ, ↓reduceIte, Nat.reduceEqDiff, Int.reduceEq, decide_false, IntWalk.i64_in, up_addL, f9_84e, f9_85e, f9_85l, f9_86e, f9_94e, f9_94l]
          exact hnx _ _ _ _ _ hX hI hn'
        · have hf := qfront_cons hX
          have hp := qplace_at hX (i := 0) (by simp) hlen
          simp only [List.getElem_cons_zero] at hp
          refine call_p rfl e_f26 hf rfl ?_
          simp -implicitDefEqProofs (maxSteps := 10000000) (disch := omega) only [seqQ_normal, opsK_eq, runI_nil, runI_none, putP_eq, cond_tt, o_mv, o_bin, o_ext, o_own, o_call, extV, n_eql, wp_ok, bind_ok, ofOpt_some, ev_r, ev_c, ev_f, setB_r, putS, Sf.set, Sf.reg, mask_eq, maskR_nil, maskR_cons, getR, setR, maskL, Sf.disAt, look, id, dis_lit, dis_ptr, dis_tup, own2_lit, List.map_cons, List.map_nil, List.getElem?_cons_zero, List.getElem?_cons_succ, ↓reduceIte, Nat.reduceEqDiff, decide_true, f9_84e, f9_85e, f9_85l, f9_86e, f9_87e, f9_88e, f9_88l]
          refine call_p rfl e_f36 hp rfl ?_
          simp -implicitDefEqProofs (maxSteps := 10000000) (disch := omega) only [seqQ_normal, blockQ_normal, aC_skip, opsK_eq, runI_nil, runI_none, runI_some, AI.dst, putP_eq, cond_ff, guard_ff, o_mv, o_pick, o_bin, o_ext, o_own, pick_ff, extV, n_add, n_neq, wp_ok, bind_ok, ofOpt_some, ev_r, ev_c, setB_r, putS, Sf.set, Sf.reg, mask_eq, maskR_nil, maskR_cons, getR, setR, maskL, Sf.disAt, look, dis_lit, dis_tup, own2_lit, List.map_cons, List.map_nil, List.getElem?_cons_zero, List.getElem?_cons_succ, Int.cast_ofNat_Int, ↓reduceIte, Nat.reduceEqDiff, not_true_eq_false, decide_false, Bool.false_eq_true, IntWalk.i64_in, up_addL, f9_89e, f9_90e, f9_90l, f9_91e, f9_94e, f9_94l]
          exact hnx _ _ _ _ _ hX hI hn'
      · simp -implicitDefEqProofs (maxSteps := 10000000) (disch := omega) only [seqQ_normal, aC_skip, opsK_eq, runI_nil, runI_none, putP_eq, cond_tt, cond_ff, o_mv, o_bin, o_addr, o_ixS, o_load, o_own, o_newL, o_store, o_call, ixSV, loadV, boxX, writeX, ixA, addA, derefI, takeI_none, takeI_some, n_eql, n_lss, wp_ok, bind_ok, bind_req, ofOpt_some, req_tt, ev_r, ev_c, ev_f, evOwn_r, disOp_r, setB_r, putS, Sf.set, Sf.reg, mask_eq, maskR_nil, maskR_cons, getR, setR, maskL, Sf.disAt, Sf.newLoc, Sf.setLoc, look, killR, drop1, id, dis_lit, dis_ptr, dis_agg, own1_lit, cells_agg, solid1_lit, solid_eq, kill_lit, kill_ptr, kill_lptr, kill_cptr, kill_sl, kill_agg, List.map_cons, List.map_nil, List.length_cons, List.length_nil, List.all_cons, List.all_nil, List.drop_zero, List.drop_succ_cons, List.take_succ_cons, List.take_zero, List.set_cons_zero, List.set_cons_succ, Int.toNat_natCast, ↓reduceIte, Nat.reduceEqDiff, Nat.reduceAdd, Nat.reduceLeDiff, Int.reduceEq, Bool.true_and, Bool.and_true, and_true, true_and, Nat.zero_add, Nat.add_zero, decide_true, decide_false, List.length_map, req_dec, cond_yes, and_pre, setAt_nil, setAt_cons, f9_26e, f9_27e, f9_27l, f9_28e, f9_29e, f9_30e, f9_31e, f9_32e, f9_33e, f9_33l, f9_34e, f9_35e, f9_36e, f9_36l, f9_37e, f9_38e, f9_39e, f9_39l, f9_40e, f9_50e, f9_51e, f9_51l, f9_52e, f9_66e, f9_67e, f9_67l, f9_68e, f9_69e, f9_70e, f9_70l, e1]
        refine call_a rfl e_f35 (qremove_none h2 hm) rfl fun r st1 hr => ?_
        obtain ⟨rfl, rfl⟩ := hr
        simp -implicitDefEqProofs (maxSteps := 10000000) (disch := omega) only [seqQ_normal, seqQ_exit, blockQ_exit, aC_exit, opsK_eq, runI_nil, runI_none, putP_eq, cond_tt, o_mv, o_bin, o_ext, o_own, extV, n_add, n_neq, wp_ok, bind_ok, ofOpt_some, ev_r, ev_c, setB_r, putS, Sf.set, Sf.reg, mask_eq, maskR_nil, maskR_cons, getR, setR, maskL, Sf.disAt, look, dis_lit, dis_tup, own2_lit, List.map_cons, List.map_nil, List.getElem?_cons_zero, List.getElem?_cons_succ, ↓reduceIte, Nat.reduceEqDiff, Int.reduceEq, not_false_eq_true, decide_true, IntWalk.i64_in, up_addL, f9_71e, f9_72e, f9_73e, f9_73l, f9_74e, f9_94e, f9_94l]
        exact hnx _ _ _ _ _ h2 h3 (by omega)
    · have hX := h2
      have hI := h3
      have hn' : n ≤ i + 1 := by omega
      have hlen : L.length < 1000000 := by omega
      simp -implicitDefEqProofs (maxSteps := 10000000) (disch := omega) only [seqQ_normal, blockQ_normal, aC_skip, opsK_eq, runI_nil, runI_none, putP_eq, o_mv, o_bin, o_addr, o_ixS, o_load, o_own, o_newL, o_store, o_call, ixSV, loadV, boxX, writeX, ixA, addA, derefI, takeI_none, takeI_some, n_eql, n_lss, wp_ok, bind_ok, bind_req, ofOpt_some, req_tt, ev_r, ev_c, ev_f, evOwn_r, disOp_r, setB_r, putS, Sf.set, Sf.reg, mask_eq, maskR_nil, maskR_cons, getR, setR, maskL, Sf.disAt, Sf.newLoc, Sf.setLoc, look, killR, drop1, id, dis_lit, dis_ptr, dis_agg, own1_lit, cells_agg, solid1_lit, solid_eq, kill_lit, kill_ptr, kill_lptr, kill_cptr, kill_sl, kill_agg, List.map_cons, List.map_nil, List.length_cons, List.length_nil, List.all_cons, List.all_nil, List.drop_zero, List.take_succ_cons, List.take_zero, List.set_cons_zero, List.set_cons_succ, Int.toNat_natCast, ↓reduceIte, Nat.reduceEqDiff, Nat.reduceAdd, Nat.reduceLeDiff, Bool.true_and, Bool.and_true, and_true, true_and, Nat.zero_add, Nat.add_zero, decide_true, List.length_map, req_dec, cond_yes, cond_no, and_pre, setAt_nil, setAt_cons, f9_26e, f9_27e, f9_27l, f9_28e, f9_29e, f9_30e, f9_31e, f9_32e, f9_33e, f9_33l, f9_34e, f9_35e, f9_36e, f9_36l, f9_37e, f9_38e, f9_39e, f9_39l, f9_40e, f9_50e, f9_51e, f9_51l, f9_52e, f9_66e, f9_67e, f9_67l, f9_68e, f9_82e, f9_83e, f9_83l, e1]
      generalize L = LL at *
      rcases LL with _ | ⟨⟨u, y⟩, r⟩
      · have hf := qfront_nil hX
        refine call_p rfl e_f26 hf rfl ?_
        simp -implicitDefEqProofs (maxSteps := 10000000) (disch := omega) only [seqQ_normal, blockQ_normal, aC_skip, opsK_eq, runI_nil, runI_none, putP_eq, cond_ff, o_mv, o_bin, o_ext, o_own, extV, n_add, n_eql, wp_ok, bind_ok, ofOpt_some, ev_r, ev_c, setB_r, putS, Sf.set, Sf.reg, mask_eq, maskR_nil, maskR_cons, getR, setR, maskL, Sf.disAt, look, dis_lit, dis_tup, own2_lit, List.map_cons, List.map_nil, List.getElem?_cons_zero, List.getElem?_cons_succ, ↓reduceIte, Nat.reduceEqDiff, Int.reduceEq, decide_false, IntWalk.i64_in, up_addL, f9_84e, f9_85e, f9_85l, f9_86e, f9_94e, f9_94l]
        exact hnx _ _ _ _ _ hX hI hn'
      · have hf := qfront_cons hX
        have hp := qplace_at hX (i := 0) (by simp) hlen
        simp only [List.getElem_cons_zero] at hp
        refine call_p rfl e_f26 hf rfl ?_
        simp -implicitDefEqProofs (maxSteps := 10000000) (disch := omega) only [seqQ_normal, opsK_eq, runI_nil, runI_none, putP_eq, cond_tt, o_mv, o_bin, o_ext, o_own, o_call, extV, n_eql, wp_ok, bind_ok, ofOpt_some, ev_r, ev_c, ev_f, setB_r, putS, Sf.set, Sf.reg, mask_eq, maskR_nil, maskR_cons, getR, setR, maskL, Sf.disAt, look, id, dis_lit, dis_ptr, dis_tup, own2_lit, List.map_cons, List.map_nil, List.getElem?_cons_zero, List.getElem?_cons_succ, ↓reduceIte, Nat.reduceEqDiff, decide_true, f9_84e, f9_85e, f9_85l, f9_86e, f9_87e, f9_88e, f9_88l]
        refine call_p rfl e_f36 hp rfl ?_
        simp -implicitDefEqProofs (maxSteps := 10000000) (disch := omega) only [seqQ_normal, blockQ_normal, aC_skip, opsK_eq, runI_nil, runI_none, runI_some, AI.dst, putP_eq, cond_ff, guard_ff, o_mv, o_pick, o_bin, o_ext, o_own, pick_ff, extV, n_add, n_neq, wp_ok, bind_ok, ofOpt_some, ev_r, ev_c, setB_r, putS, Sf.set, Sf.reg, mask_eq, maskR_nil, maskR_cons, getR, setR, maskL, Sf.disAt, look, dis_lit, dis_tup, own2_lit, List.map_cons, List.map_nil, List.getElem?_cons_zero, List.getElem?_cons_succ, Int.cast_ofNat_Int, ↓reduceIte, Nat.reduceEqDiff, not_true_eq_false, decide_false, Bool.false_eq_true, IntWalk.i64_in, up_addL, f9_89e, f9_90e, f9_90l, f9_91e, f9_94e, f9_94l]
        exact hnx _ _ _ _ _ hX hI hn'
  · simp -implicitDefEqProofs (maxSteps := 10000000) (disch := omega) only [seqQ_normal, seqQ_exit, aC_exit, opsK_eq, runI_nil, runI_none, putP_eq, o_bin, n_lss, wp_ok, ev_r, setB_r, putS, Sf.set, Sf.reg, mask_eq, maskR_nil, maskR_cons, getR, setR, maskL, look, ↓reduceIte, Nat.reduceEqDiff, cond_no, f9_26e, f9_27e, f9_27l, f9_28e, f9_29e]
    exact hKe _ _ _ (hQ _ _ _ _ _ h2 h3 (by omega))
end Go.Fx.YtenijlfcfmhmkaaFx

