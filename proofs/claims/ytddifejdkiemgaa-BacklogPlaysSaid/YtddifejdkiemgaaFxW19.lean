/- What the functions that the statement reaches compute: part 19. -/
import Derived.Test.YtddifejdkiemgaaFxW18
namespace Go.Fx.YtddifejdkiemgaaFx
open Go Go.Fx
attribute [local irreducible] aC runI headI loopI

set_option maxRecDepth 100000
set_option maxHeartbeats 8000000

section
variable {st : St} {b q mid tid n g : Nat} {cl : Bool} {L : Qu}

theorem step_close (h : BkIs st b q mid tid n cl L g) (hn : n ≤ 128) (hcl : cl = true → L = []) (c : Int) :
    ACalls Go.Proofs.Try.prog n_f27 [.ptr b 0, kAV n (conns L) cl, bcAV (3, c)] st (StepPost n g) := by
  have hlen := h.len
  have hcl2 : (conns L).length = L.length := by simp [conns]
  refine acalls_op hmix k_f27 rfl rfl fun Q hQ => ?_
  unfold aFun c_f27
  cases cl
  case true =>
    have hL := hcl rfl
    subst hL
    have hf := hQ _ _ ⟨b, q, mid, tid, [], g, true, rfl, h, .inl (by omega), hcl⟩
    unfold kAV at hf ⊢
    rw [show lAV (conns []) = .lit (.slice none 0 0) from rfl] at hf ⊢
    simp -implicitDefEqProofs (maxSteps := 10000000) (disch := omega) only [seqQ_normal, opsK_eq, runI_nil, runI_none, putP_eq, cond_tt, cond_ff, o_mv, o_bin, o_addr, o_load, o_own, o_newL, o_boxL, o_call, loadV, boxX, addA, derefI, takeI_none, n_eql, wp_ok, bind_ok, ofOpt_some, ev_r, ev_c, ev_f, evOwn_r, setB_r, putS, Sf.set, Sf.reg, mask_eq, maskR_nil, maskR_cons, getR, setR, maskL, Sf.disAt, Sf.newLoc, look, killR, drop1, regs0, id, dis_lit, dis_ptr, dis_agg, own1_lit, cells_agg, solid1_lit, solid_eq, kill_lit, kill_ptr, kill_lptr, kill_agg, List.map_cons, List.map_nil, List.length_cons, List.length_nil, List.all_cons, List.all_nil, List.drop_zero, ↓reduceIte, Nat.reduceEqDiff, Nat.reduceAdd, Int.reduceEq, Bool.true_and, Bool.and_true, and_true, true_and, reduceCtorEq, Nat.zero_add, Nat.add_zero, decide_true, decide_false, f27_1e, f27_2e, f27_2l, f27_3e, f27_4e, f27_5e, f27_5l, f27_6e, f27_7e, f27_8e, f27_8l, f27_9e, f27_38e, f27_39e, f27_39l, f27_40e, f27_59e, f27_60e, f27_60l, f27_61e, f27_82e, f27_83e, f27_83l, f27_84e, f27_85e, f27_86e, f27_86l, bcAV]
    refine call_a rfl e_f24 (bclose_closed h) rfl fun r st1 hr => ?_
    obtain ⟨rfl, rfl⟩ := hr
    simp -implicitDefEqProofs (maxSteps := 10000000) (disch := omega) only [List.contains_nil, List.contains_cons, Nat.reduceBEq, Bool.or_false, ksB, storesOf, newsOf, appsOf, distinctB, finSS, finNN, nstB, nstsOf, h_nil, h_none, h_some, hh_mv, hh_pick, hh_bin, hh_load, hh_len, hh_store, headAddr_eq, headStore_eq, guardH_tt, val_head, tail_eq, cons_store, seqQ_normal, seqQ_ret, blockQ_ret, aC_ret, opsK_eq, retQ_ret, retI, resI, resL, runI_nil, runI_none, AI.dst, putP_eq, cond_tt, o_mv, o_ext, o_addr, o_load, o_own, pick_tt, extV, loadV, lenI, addA, derefI, takeI_none, takeI_some, n_eql, wp_ok, bind_ok, bind_req, ofOpt_some, req_tt, ev_r, ev_c, setB_r, putS, Sf.set, Sf.reg, mask_eq, maskR_nil, maskR_cons, getR, setR, maskL, Sf.disAt, Sf.setLoc, look, drop1, dropL, dis_lit, dis_ptr, dis_agg, dis_tup, own1_lit, own2_lit, cells_agg, solid1_lit, solid_eq, noL_lit, noL_ptr, noL_agg, noL_tup, List.map_cons, List.map_nil, List.length_cons, List.length_nil, List.getElem?_cons_zero, List.getElem?_cons_succ, List.all_cons, List.all_nil, List.nil_append, List.drop_zero, List.drop_succ_cons, List.take_succ_cons, List.take_zero, ↓reduceIte, Nat.reduceEqDiff, Nat.reduceAdd, Nat.reduceLeDiff, Bool.true_and, Bool.and_true, and_true, true_and, reduceCtorEq, Nat.zero_add, or_false, decide_true, Bool.not_false, Bool.false_eq_true, f27_87e, f27_88e, f27_89e, f27_89l, f27_90e, f27_91e, f27_92e, f27_92h, f27_92l]
    exact hf
  have hs : ∀ st, PCalls Go.Proofs.Try.prog n_f25 [lAV (conns L), lAV (conns L)] st (.lit (.bool true)) := fun st => by have := lsame_l (conns L) (conns L) (by omega) (by omega) st; simpa using this
  have hcc := bclose_calls h (by omega)
  unfold kAV
  rcases lAV_cases (conns L) with ⟨e, hz⟩ | ⟨e, hz⟩
  all_goals
    rw [e] at hs hcc ⊢
    simp -implicitDefEqProofs (maxSteps := 10000000) (disch := omega) only [seqQ_normal, opsK_eq, runI_nil, runI_none, putP_eq, cond_tt, cond_ff, o_mv, o_bin, o_addr, o_load, o_own, o_newL, o_boxL, o_call, loadV, boxX, addA, derefI, takeI_none, n_eql, wp_ok, bind_ok, ofOpt_some, ev_r, ev_c, ev_f, evOwn_r, setB_r, putS, Sf.set, Sf.reg, mask_eq, maskR_nil, maskR_cons, getR, setR, maskL, Sf.disAt, Sf.newLoc, look, killR, drop1, regs0, id, dis_lit, dis_ptr, dis_agg, own1_lit, own1_sl, cells_agg, solid1_lit, solid1_sl, solid_eq, kill_lit, kill_ptr, kill_lptr, kill_agg, List.map_cons, List.map_nil, List.length_cons, List.length_nil, List.all_cons, List.all_nil, List.drop_zero, ↓reduceIte, Nat.reduceEqDiff, Nat.reduceAdd, Int.reduceEq, Bool.true_and, Bool.and_true, and_true, true_and, reduceCtorEq, Nat.zero_add, Nat.add_zero, decide_true, decide_false, f27_1e, f27_2e, f27_2l, f27_3e, f27_4e, f27_5e, f27_5l, f27_6e, f27_7e, f27_8e, f27_8l, f27_9e, f27_38e, f27_39e, f27_39l, f27_40e, f27_59e, f27_60e, f27_60l, f27_61e, f27_82e, f27_83e, f27_83l, f27_84e, f27_85e, f27_86e, f27_86l, bcAV]
    refine call_a rfl e_f24 hcc rfl fun r st1 hr => ?_
    obtain ⟨rfl, q', mid', tid', a1, _⟩ := hr
    have hf := hQ _ _ ⟨b, q', mid', tid', [], 0, true, rfl, a1, .inl (by omega), fun _ => rfl⟩
    unfold kAV at hf
    rw [show lAV (conns []) = .lit (.slice none 0 0) from rfl] at hf
    simp -implicitDefEqProofs (maxSteps := 10000000) (disch := omega) only [seqQ_normal, aC_skip, opsK_eq, runI_nil, runI_none, putP_eq, cond_ff, o_mv, o_ext, o_addr, o_load, o_own, o_call, extV, loadV, addA, derefI, takeI_none, wp_ok, bind_ok, ofOpt_some, ev_r, ev_f, setB_r, putS, Sf.set, Sf.reg, mask_eq, maskR_nil, maskR_cons, getR, setR, maskL, Sf.disAt, look, id, dis_lit, dis_sl, dis_tup, own2_lit, own2_sl, List.map_cons, List.map_nil, List.getElem?_cons_zero, List.getElem?_cons_succ, List.drop_zero, List.drop_succ_cons, ↓reduceIte, Nat.reduceEqDiff, reduceCtorEq, Nat.zero_add, f27_87e, f27_88e, f27_89e, f27_89l, f27_90e, f27_93e, f27_94e, f27_94l]
    refine call_p rfl e_f25 (hs _) rfl ?_
    simp -implicitDefEqProofs (maxSteps := 10000000) (disch := omega) only [List.contains_nil, List.contains_cons, Nat.reduceBEq, Bool.or_false, ksB, storesOf, newsOf, appsOf, distinctB, finSS, finNN, nstB, nstsOf, h_nil, h_none, hh_mv, hh_load, hh_store, headAddr_eq, headStore_eq, val_head, tail_eq, cons_store, seqQ_normal, seqQ_ret, blockQ_ret, aC_ret, opsK_eq, retQ_ret, retI, resI, resL, runI_nil, runI_none, runI_some, AI.dst, putP_eq, guard_tt, o_mv, o_pick, o_bin, o_addr, o_own, o_store, pick_tt, loadV, boxX, writeX, addA, derefI, takeI_some, n_eql, wp_ok, bind_ok, bind_req, ofOpt_some, req_tt, ev_r, ev_c, evOwn_c, disOp_c, putS, Sf.set, Sf.reg, mask_eq, maskR_nil, maskR_cons, getR, setR, maskL, Sf.disAt, Sf.setLoc, look, drop1, dropL, dis_lit, dis_ptr, dis_agg, own1_lit, cells_lit, cells_agg, solid1_lit, solid_eq, noL_lit, noL_ptr, noL_agg, noL_tup, List.map_cons, List.map_nil, List.length_cons, List.length_nil, List.all_cons, List.all_nil, List.nil_append, List.drop_zero, List.take_succ_cons, List.take_zero, List.set_cons_zero, List.set_cons_succ, ↓reduceIte, Nat.reduceEqDiff, Nat.reduceAdd, Nat.reduceLeDiff, Bool.true_and, Bool.and_true, and_true, true_and, reduceCtorEq, Nat.zero_add, or_false, decide_true, Bool.not_false, Bool.false_eq_true, setAt_nil, setAt_cons, f27_95e, f27_96e, f27_96l, f27_97e, f27_98e, f27_98h, f27_98l, beq_self_eq_true]
    exact hf

theorem bclose_any (h : BkIs st b q mid tid n cl L g) (hb : L.length < 100000) : ACalls Go.Proofs.Try.prog n_f24 [.ptr b 0] st (fun r st' => (∃ x e, r = .tup [x, e] ∧ x.noL = true) ∧ st.boxes.length ≤ st'.boxes.length ∧ ∀ i, i < st.boxes.length → i ≠ b → st'.boxes[i]? = st.boxes[i]?) := by
  cases cl
  · refine (bclose_calls h hb).mono fun r st' hr => ?_
    obtain ⟨rfl, _, _, _, _, _, _, _, a, b⟩ := hr
    exact ⟨⟨_, _, rfl, (lAV_facts _).2.1⟩, a, b⟩
  · refine (bclose_closed h).mono fun r st' hr => ?_
    obtain ⟨rfl, rfl⟩ := hr
    exact ⟨⟨_, _, rfl, rfl⟩, Nat.le_refl _, fun _ _ _ => rfl⟩

theorem step_copy (h : BkIs st b q mid tid n cl L g) (hn : 1 ≤ n ∧ n ≤ 128) (hg0 : g ≤ 1000) (hcl : cl = true → L = []) (w c : Int) (w0 : w ≠ 0) (w1 : w ≠ 1) (w2 : w ≠ 2) (w3 : w ≠ 3) :
    ACalls Go.Proofs.Try.prog n_f27 [.ptr b 0, kAV n (conns L) cl, bcAV (w, c)] st (StepPost n g) := by
  have hlen := h.len
  have hcl2 : (conns L).length = L.length := by simp [conns]
  refine acalls_op hmix k_f27 rfl rfl fun Q hQ => ?_
  unfold aFun c_f27
  have hlts := h.lts
  have hfin : ∀ x, x = lAV (conns L) → (x = .lit (.slice none 0 0) ∨ x = .sl false 1 (ints (conns L))) := fun x hx => by
    subst hx
    rcases lAV_cases (conns L) with ⟨e, _⟩ | ⟨e, _⟩ <;> simp [e]
  obtain ⟨x, hx⟩ : ∃ x, x = lAV (conns L) := ⟨_, rfl⟩
  unfold kAV
  rw [← hx]
  rcases hfin x hx with rfl | rfl
  all_goals
    simp -implicitDefEqProofs (maxSteps := 10000000) (disch := omega) only [seqQ_normal, blockQ_normal, aC_skip, opsK_eq, runI_nil, runI_none, putP_eq, cond_ff, o_mv, o_bin, o_addr, o_load, o_own, o_newL, o_boxL, o_call, loadV, boxX, addA, derefI, takeI_none, n_eql, wp_ok, bind_ok, ofOpt_some, ev_r, ev_c, ev_f, evOwn_r, setB_r, putS, Sf.set, Sf.reg, mask_eq, maskR_nil, maskR_cons, getR, setR, maskL, Sf.disAt, Sf.newLoc, look, killR, drop1, regs0, id, dis_lit, dis_ptr, dis_agg, own1_lit, own1_sl, cells_agg, solid1_lit, solid1_sl, solid_eq, kill_lit, kill_ptr, kill_lptr, kill_agg, List.map_cons, List.map_nil, List.length_cons, List.length_nil, List.all_cons, List.all_nil, List.drop_zero, ↓reduceIte, Nat.reduceEqDiff, Nat.reduceAdd, Bool.true_and, Bool.and_true, and_true, true_and, reduceCtorEq, Nat.zero_add, Nat.add_zero, decide_false, f27_1e, f27_2e, f27_2l, f27_3e, f27_4e, f27_5e, f27_5l, f27_6e, f27_7e, f27_8e, f27_8l, f27_9e, f27_38e, f27_39e, f27_39l, f27_40e, f27_59e, f27_60e, f27_60l, f27_61e, f27_82e, f27_83e, f27_83l, f27_84e, f27_99e, f27_100e, f27_100l, bcAV, w0, w1, w2, w3]
    refine call_a rfl e_f28 (bcopy_calls h hn hcl) rfl fun r st1 hr => ?_
    obtain ⟨d, q', mid', tid', L', g', rfl, a1, a2, a3, a4, a5, a6, a7, a8, a9⟩ := hr
    have h1 : BkIs st1 b q mid tid n cl L g := h.at fun i hi => a9 i (hlts i hi)
    simp -implicitDefEqProofs (maxSteps := 10000000) (disch := omega) only [seqQ_normal, opsK_eq, runI_nil, runI_none, o_mv, o_own, o_call, ev_r, ev_c, ev_f, putS, Sf.set, Sf.reg, mask_eq, maskR_nil, maskR_cons, getR, setR, maskL, Sf.disAt, look, id, dis_ptr, List.map_cons, List.map_nil, ↓reduceIte, Nat.reduceEqDiff, reduceCtorEq, f27_101e, f27_102e, f27_102l]
    refine call_a rfl e_f16 (bpush_calls h1 (by omega) (by omega) 77) rfl fun r st2 hr => ?_
    obtain ⟨rfl, h2, f2⟩ := hr
    simp -implicitDefEqProofs (maxSteps := 10000000) (disch := omega) only [seqQ_normal, opsK_eq, runI_nil, runI_none, o_mv, o_call, ev_r, ev_f, putS, Sf.set, Sf.reg, mask_eq, maskR_nil, maskR_cons, getR, setR, maskL, look, id, dis_ptr, List.map_cons, List.map_nil, ↓reduceIte, Nat.reduceEqDiff, reduceCtorEq, f27_103e, f27_104e, f27_104l]
    refine call_a rfl e_f20 (bpop_calls h2 (by rcases bPush_cases n cl L g 77 with ⟨e, _, hb⟩ | ⟨_, hb⟩ <;> rw [hb] <;> simp only <;> omega)) rfl fun r st3 hr => ?_
    obtain ⟨rfl, h3, f3⟩ := hr
    simp -implicitDefEqProofs (maxSteps := 10000000) (disch := omega) only [seqQ_normal, opsK_eq, runI_nil, runI_none, o_mv, o_call, ev_r, ev_f, putS, Sf.set, Sf.reg, mask_eq, maskR_nil, maskR_cons, getR, setR, maskL, look, id, dis_ptr, List.map_cons, List.map_nil, ↓reduceIte, Nat.reduceEqDiff, reduceCtorEq, f27_105e, f27_106e, f27_106l]
    refine call_a rfl e_f24 (bclose_any h3 (by have := h3.len; omega)) rfl fun r st4 hr => ?_
    obtain ⟨⟨y, z, rfl, _⟩, f4, f5⟩ := hr
    have hlt4 := a1.lts
    have hat : ∀ i ∈ [d, q', mid', tid'], st4.boxes[i]? = st1.boxes[i]? := fun i hi => by
      have b1 : b < st.boxes.length := hlts b (by simp)
      have b2 : q < st.boxes.length := hlts q (by simp)
      have b3 : mid < st.boxes.length := hlts mid (by simp)
      have b4 : tid < st.boxes.length := hlts tid (by simp)
      have hi1 := hlt4 i hi
      have hi2 : st.boxes.length ≤ i := by
        simp only [List.mem_cons, List.not_mem_nil, or_false] at hi
        rcases hi with rfl | rfl | rfl | rfl <;> assumption
      have hni : i ∉ [b, q, mid, tid] := by simp only [List.mem_cons, List.not_mem_nil, or_false]; omega
      rw [f5 i (by have := f2.1; have := f3.1; omega) (by omega), f3.2 i (by have := f2.1; omega) hni, f2.2 i hi1 hni]
    have hf := hQ _ _ ⟨d, q', mid', tid', L', g', cl, rfl, a1.at hat, .inr (by omega), fun e => by
      have h9 := hcl e
      subst h9
      have : (conns L').length = L'.length := by simp [conns]
      rw [a2] at this
      exact List.length_eq_zero_iff.1 this.symm⟩
    rw [a2] at hf
    unfold kAV at hf
    rw [← hx] at hf
    simp -implicitDefEqProofs (maxSteps := 10000000) (disch := omega) only [List.contains_nil, List.contains_cons, Nat.reduceBEq, Bool.or_false, ksB, storesOf, newsOf, appsOf, distinctB, finSS, finNN, nstB, nstsOf, h_nil, h_none, hh_mv, hh_bin, hh_load, hh_store, headAddr_eq, headStore_eq, val_head, tail_eq, cons_store, seqQ_normal, aC_ret, opsK_eq, retQ_ret, retI, resI, resL, runI_nil, runI_none, o_own, loadV, n_nilne, eqNilI, isNilI, derefI, takeI_some, wp_ok, bind_ok, bind_req, ofOpt_some, req_tt, ev_r, ev_c, putS, Sf.set, Sf.reg, mask_eq, maskR_nil, maskR_cons, getR, setR, maskL, Sf.disAt, Sf.setLoc, look, drop1, dropL, dis_lit, dis_ptr, dis_agg, own1_lit, own1_sl, cells_agg, solid1_lit, solid1_sl, solid_eq, noL_lit, noL_ptr, noL_agg, noL_tup, List.map_cons, List.map_nil, List.length_cons, List.length_nil, List.all_cons, List.all_nil, List.nil_append, List.drop_zero, List.take_succ_cons, List.take_zero, ↓reduceIte, Nat.reduceEqDiff, Nat.reduceAdd, Nat.reduceLeDiff, Bool.true_and, Bool.and_true, and_true, true_and, reduceCtorEq, Nat.zero_add, or_false, decide_true, Bool.not_false, Bool.false_eq_true, f27_107e, f27_108e, f27_108h, f27_108l]
    exact hf

theorem step_any (h : BkIs st b q mid tid n cl L g) (hn : 1 ≤ n ∧ n ≤ 128) (hg0 : g ≤ 1000) (hcl : cl = true → L = []) (a : Bc) :
    ACalls Go.Proofs.Try.prog n_f27 [.ptr b 0, kAV n (conns L) cl, bcAV a] st (StepPost n g) := by
  obtain ⟨w, c⟩ := a
  by_cases w0 : w = 0
  · subst w0; exact step_push h hn.2 hg0 hcl c
  by_cases w1 : w = 1
  · subst w1; exact step_pop h hn.2 hg0 hcl c
  by_cases w2 : w = 2
  · subst w2; exact step_remove h hn.2 hg0 hcl c
  by_cases w3 : w = 3
  · subst w3; exact step_close h hn.2 hcl c
  · exact step_copy h hn hg0 hcl w c w0 w1 w2 w3
end
end Go.Fx.YtddifejdkiemgaaFx

