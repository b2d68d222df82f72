/- What the functions that the statement reaches compute: part 17. -/
import Derived.Test.YtddifejdkiemgaaFxW16
namespace Go.Fx.YtddifejdkiemgaaFx
open Go Go.Fx
attribute [local irreducible] aC runI headI loopI

set_option maxRecDepth 100000
set_option maxHeartbeats 8000000

theorem find_none (l : List Int) (c : Int) (hA : c ∉ l) (hl : l.length ≤ 1000000) (st : St) : PCalls Go.Proofs.Try.prog n_f23 [.sl false 1 (ints l), .lit (.int .i64 c)] st (.lit (.int .i64 (-1))) := by
  refine pcalls_id hmix k_f23 rfl rfl fun Q hQ => ?_
  unfold aFun c_f23
  have hll : (ints l).length = l.length := ints_len l
  simp -implicitDefEqProofs (maxSteps := 10000000) (disch := omega) only [seqQ_normal, opsK_eq, runI_nil, runI_none, o_mv, ev_c, putS, Sf.set, mask_eq, maskR_nil, maskR_cons, getR, setR, maskL, regs0, dis_lit, dis_sl, ↓reduceIte, Nat.reduceEqDiff, reduceCtorEq, Nat.zero_add, f23_1e, f23_2e, f23_2l, f23_3e, f23_4e, f23_5e, f23_5l, f23_6e]
  rw [f23_7w]
  refine loop_op (A := Nat) (fun a => l.length - a) (fun a => ⟨[(0, .sl false 1 (ints l)), (1, .lit (.int .i64 c)), (5, .lit (.int .i64 (a : Nat)))], []⟩) (fun _ => st)
    (fun a => a ≤ l.length) 0 (by omega) (Sf.le_refl _) rfl ?_
  rintro i h1 K hK hKe hKr
  by_cases h : i < l.length
  · have e1 : (ints l).getD i .any = .lit (.int .i64 l[i]) := by simp [ints, List.getD, h]
    have hne : ¬ l[i] = c := fun e => hA (e ▸ List.getElem_mem h)
    simp -implicitDefEqProofs (maxSteps := 10000000) (disch := omega) only [seqQ_normal, blockQ_normal, aC_skip, opsK_eq, runI_nil, runI_none, putP_eq, o_mv, o_bin, o_ixS, o_load, o_len, o_own, ixSV, loadV, ixA, lenI, derefI, takeI_none, n_add, n_eql, n_lss, wp_ok, bind_ok, bind_req, ev_r, ev_c, setB_r, putS, Sf.set, Sf.reg, mask_eq, maskR_nil, maskR_cons, getR, setR, maskL, Sf.disAt, dis_lit, dis_sl, cells_lit, Int.toNat_natCast, ↓reduceIte, Nat.reduceEqDiff, reduceCtorEq, req_dec, cond_yes, cond_no, IntWalk.i64_in, up_addL, and_pre, f23_8e, f23_9e, f23_10e, f23_10l, f23_11e, f23_12e, f23_13e, f23_14e, f23_15e, f23_15l, f23_16e, f23_19e, f23_19l, e1, hll]
    exact hK (i + 1) _ (by omega) (by omega) (Sf.le_refl _)
  · simp -implicitDefEqProofs (maxSteps := 10000000) (disch := omega) only [seqQ_normal, seqQ_exit, aC_exit, opsK_eq, runI_nil, runI_none, putP_eq, o_mv, o_bin, o_len, lenI, n_lss, wp_ok, ev_r, setB_r, putS, Sf.set, Sf.reg, mask_eq, maskR_nil, maskR_cons, getR, setR, maskL, dis_lit, dis_sl, ↓reduceIte, Nat.reduceEqDiff, reduceCtorEq, cond_no, f23_8e, f23_9e, f23_10e, f23_10l, f23_11e, hll]
    refine hKe _ _ _ ?_
    simp -implicitDefEqProofs (maxSteps := 10000000) (disch := omega) only [seqQ_normal, blockQ_exit, aC_ret, opsK_eq, retQ_ret, retI, runI_nil, runI_none, o_mv, wp_ok, ev_c, putS, Sf.set, Sf.reg, mask_eq, maskR_nil, maskR_cons, getR, setR, maskL, dis_lit, noL_lit, ↓reduceIte, Int.reduceNeg, Bool.true_and, true_and, f23_20e, f23_21e, f23_21l]
    exact hQ _
theorem find_l (l : List Int) (c : Int) (hA : c ∉ l) (hl : l.length ≤ 1000000) (st : St) : PCalls Go.Proofs.Try.prog n_f23 [lAV l, .lit (.int .i64 c)] st (.lit (.int .i64 (-1))) :=
  (find_none l c hA hl st).weak ⟨lAV_le l, .refl _, trivial⟩ (.refl _)
theorem lAV_snoc (l : List Int) (x : Int) : lAV (l ++ [x]) = .sl false 1 (ints l ++ [.lit (.int .i64 x)]) := by unfold lAV; rw [if_neg (by simp), ints_app]; rfl
theorem lAV_cases (l : List Int) : (lAV l = .lit (.slice none 0 0) ∧ l = []) ∨ (lAV l = .sl false 1 (ints l) ∧ l ≠ []) := by
  unfold lAV
  by_cases h : l = []
  · rw [if_pos h]; exact .inl ⟨rfl, h⟩
  · rw [if_neg h]; exact .inr ⟨rfl, h⟩

section
variable {st : St} {b q mid tid n g : Nat} {cl : Bool} {L : Qu}

def StepPost (n g : Nat) (r : AV) (st' : St) : Prop :=
  ∃ c q' mid' tid' L' g' cl', r = .tup [.ptr c 0, kAV n (conns L') cl', .lit (.bool true)] ∧ BkIs st' c q' mid' tid' n cl' L' g' ∧ (g' ≤ g + 1 ∨ g' ≤ 128) ∧ (cl' = true → L' = [])

theorem step_push (h : BkIs st b q mid tid n cl L g) (hn : n ≤ 128) (hg0 : g ≤ 1000) (hcl : cl = true → L = []) (c : Int) :
    ACalls Go.Proofs.Try.prog n_f27 [.ptr b 0, kAV n (conns L) cl, bcAV (0, c)] st (StepPost n g) := by
  have hlen := h.len
  have hcl2 : (conns L).length = L.length := by simp [conns]
  refine acalls_op hmix k_f27 rfl rfl fun Q hQ => ?_
  have hres : ∀ st' L' g', BkIs st' b q mid tid n cl L' g' → (g' ≤ g + 1 ∨ g' ≤ 128) → (cl = true → L' = []) → Q (.tup [.ptr b 0, kAV n (conns L') cl, .lit (.bool true)]) st' := fun st' L' g' a1 a2 a3 => hQ _ _ ⟨b, q, mid, tid, L', g', cl, rfl, a1, a2, a3⟩
  clear hQ
  unfold aFun c_f27
  have hp := bpush_calls h (by omega) (by omega) c
  have hil := ints_len (conns L)
  have hfn := fun hc st => find_l (conns L) c hc (by omega) st
  unfold bPush at hp
  unfold kAV at hres ⊢
  rcases lAV_cases (conns L) with ⟨e, hz⟩ | ⟨e, hz⟩
  all_goals
    rw [e] at hfn ⊢
    by_cases h1 : c < 0
    · rw [if_pos h1] at hp
      simp -implicitDefEqProofs (maxSteps := 10000000) (disch := omega) only [seqQ_normal, opsK_eq, runI_nil, runI_none, putP_eq, cond_tt, o_mv, o_bin, o_addr, o_load, o_own, o_newL, o_boxL, o_call, loadV, boxX, addA, derefI, takeI_none, n_eql, wp_ok, bind_ok, ofOpt_some, ev_r, ev_c, ev_f, evOwn_r, setB_r, putS, Sf.set, Sf.reg, mask_eq, maskR_nil, maskR_cons, getR, setR, maskL, Sf.disAt, Sf.newLoc, look, killR, drop1, regs0, id, dis_lit, dis_ptr, dis_agg, own1_lit, own1_sl, cells_agg, solid1_lit, solid1_sl, solid_eq, kill_lit, kill_ptr, kill_lptr, kill_agg, List.map_cons, List.map_nil, List.length_cons, List.length_nil, List.all_cons, List.all_nil, List.drop_zero, List.drop_succ_cons, ↓reduceIte, Nat.reduceEqDiff, Nat.reduceAdd, Bool.true_and, Bool.and_true, and_true, true_and, reduceCtorEq, Nat.zero_add, Nat.add_zero, decide_true, f27_1e, f27_2e, f27_2l, f27_3e, f27_4e, f27_5e, f27_5l, f27_6e, f27_7e, f27_8e, f27_8l, f27_9e, f27_10e, f27_11e, f27_11l, bcAV]
      refine call_a rfl e_f16 hp rfl fun r st1 hr => ?_
      obtain ⟨rfl, a1, _⟩ := hr
      have hf := hres st1 L g a1 (.inl (by omega)) hcl
      rw [e] at hf
      simp -implicitDefEqProofs (maxSteps := 10000000) (disch := omega) only [List.contains_nil, List.contains_cons, Nat.reduceBEq, Bool.or_false, ksB, storesOf, newsOf, appsOf, distinctB, finSS, finNN, nstB, nstsOf, h_nil, h_none, hh_mv, hh_bin, hh_load, hh_store, headAddr_eq, headStore_eq, val_head, tail_eq, cons_store, seqQ_normal, seqQ_ret, blockQ_ret, aC_ret, opsK_eq, retQ_ret, retI, resI, resL, runI_nil, runI_none, putP_eq, o_bin, o_addr, o_load, o_own, loadV, addA, derefI, takeI_none, takeI_some, n_eql, n_lss, wp_ok, bind_ok, bind_req, ofOpt_some, req_tt, ev_r, ev_c, setB_r, putS, Sf.set, Sf.reg, mask_eq, maskR_nil, maskR_cons, getR, setR, maskL, Sf.disAt, Sf.setLoc, look, drop1, dropL, dis_lit, dis_ptr, dis_agg, own1_lit, own1_sl, cells_agg, solid1_lit, solid1_sl, solid_eq, noL_lit, noL_ptr, noL_agg, noL_tup, List.map_cons, List.map_nil, List.length_cons, List.length_nil, List.all_cons, List.all_nil, List.nil_append, List.drop_zero, List.drop_succ_cons, List.take_succ_cons, List.take_zero, ↓reduceIte, Nat.reduceEqDiff, Nat.reduceAdd, Nat.reduceLeDiff, Bool.true_and, Bool.and_true, and_true, true_and, reduceCtorEq, Nat.zero_add, or_false, decide_true, Bool.not_false, Bool.false_eq_true, cond_yes, f27_12e, f27_13e, f27_14e, f27_15e, f27_15l, f27_16e, f27_17e, f27_18e, f27_18h, f27_18l]
      exact hf
    rw [if_neg h1] at hp
    cases cl
    case true =>
      rw [if_pos rfl] at hp
      simp -implicitDefEqProofs (maxSteps := 10000000) (disch := omega) only [seqQ_normal, opsK_eq, runI_nil, runI_none, putP_eq, cond_tt, o_mv, o_bin, o_addr, o_load, o_own, o_newL, o_boxL, o_call, loadV, boxX, addA, derefI, takeI_none, n_eql, wp_ok, bind_ok, ofOpt_some, ev_r, ev_c, ev_f, evOwn_r, setB_r, putS, Sf.set, Sf.reg, mask_eq, maskR_nil, maskR_cons, getR, setR, maskL, Sf.disAt, Sf.newLoc, look, killR, drop1, regs0, id, dis_lit, dis_ptr, dis_agg, own1_lit, own1_sl, cells_agg, solid1_lit, solid1_sl, solid_eq, kill_lit, kill_ptr, kill_lptr, kill_agg, List.map_cons, List.map_nil, List.length_cons, List.length_nil, List.all_cons, List.all_nil, List.drop_zero, List.drop_succ_cons, ↓reduceIte, Nat.reduceEqDiff, Nat.reduceAdd, Bool.true_and, Bool.and_true, and_true, true_and, reduceCtorEq, Nat.zero_add, Nat.add_zero, decide_true, f27_1e, f27_2e, f27_2l, f27_3e, f27_4e, f27_5e, f27_5l, f27_6e, f27_7e, f27_8e, f27_8l, f27_9e, f27_10e, f27_11e, f27_11l, bcAV]
      refine call_a rfl e_f16 hp rfl fun r st1 hr => ?_
      obtain ⟨rfl, a1, _⟩ := hr
      have hf := hres st1 L g a1 (.inl (by omega)) hcl
      rw [e] at hf
      simp -implicitDefEqProofs (maxSteps := 10000000) (disch := omega) only [List.contains_nil, List.contains_cons, Nat.reduceBEq, Bool.or_false, ksB, storesOf, newsOf, appsOf, distinctB, finSS, finNN, nstB, nstsOf, h_nil, h_none, hh_mv, hh_bin, hh_load, hh_store, headAddr_eq, headStore_eq, val_head, tail_eq, cons_store, seqQ_normal, seqQ_ret, blockQ_ret, aC_ret, opsK_eq, retQ_ret, retI, resI, resL, runI_nil, runI_none, putP_eq, cond_tt, o_bin, o_addr, o_load, o_own, loadV, addA, derefI, takeI_none, takeI_some, n_eql, n_lss, wp_ok, bind_ok, bind_req, ofOpt_some, req_tt, ev_r, ev_c, setB_r, putS, Sf.set, Sf.reg, mask_eq, maskR_nil, maskR_cons, getR, setR, maskL, Sf.disAt, Sf.setLoc, look, drop1, dropL, dis_lit, dis_ptr, dis_agg, own1_lit, own1_sl, cells_agg, solid1_lit, solid1_sl, solid_eq, noL_lit, noL_ptr, noL_agg, noL_tup, List.map_cons, List.map_nil, List.length_cons, List.length_nil, List.all_cons, List.all_nil, List.nil_append, List.drop_zero, List.drop_succ_cons, List.take_succ_cons, List.take_zero, ↓reduceIte, Nat.reduceEqDiff, Nat.reduceAdd, Nat.reduceLeDiff, Bool.true_and, Bool.and_true, and_true, true_and, reduceCtorEq, Nat.zero_add, or_false, decide_true, Bool.not_false, Bool.false_eq_true, cond_no, f27_12e, f27_13e, f27_14e, f27_15e, f27_15l, f27_16e, f27_19e, f27_20e, f27_20l, f27_21e, f27_22e, f27_23e, f27_23h, f27_23l]
      exact hf
    simp only [Bool.false_eq_true, if_false] at hp
    by_cases h2 : c ∈ conns L
    · rw [if_pos h2] at hp
      first
        | exact absurd h2 (by rw [hz]; simp)
        | have hfs : ∃ k : Nat, ∀ st, PCalls Go.Proofs.Try.prog n_f23 [.sl false 1 (ints (conns L)), .lit (.int .i64 c)] st (.lit (.int .i64 (k : Nat))) := by
            obtain ⟨A, B, hAB⟩ := List.append_of_mem h2
            have hnd := h.nd
            rw [hAB] at hnd
            have hlA : A.length ≤ 1000000 := by have := congrArg List.length hAB; simp only [List.length_append, List.length_cons] at this; omega
            exact ⟨A.length, fun st => by rw [hAB]; exact find_some A B c (fun hA => (List.nodup_append.1 hnd).2.2 c hA c List.mem_cons_self rfl) hlA st⟩
          obtain ⟨k, hfs⟩ := hfs
          simp -implicitDefEqProofs (maxSteps := 10000000) (disch := omega) only [seqQ_normal, opsK_eq, runI_nil, runI_none, putP_eq, cond_tt, o_mv, o_bin, o_addr, o_load, o_own, o_newL, o_boxL, o_call, loadV, boxX, addA, derefI, takeI_none, n_eql, wp_ok, bind_ok, ofOpt_some, ev_r, ev_c, ev_f, evOwn_r, setB_r, putS, Sf.set, Sf.reg, mask_eq, maskR_nil, maskR_cons, getR, setR, maskL, Sf.disAt, Sf.newLoc, look, killR, drop1, regs0, id, dis_lit, dis_ptr, dis_agg, own1_lit, own1_sl, cells_agg, solid1_lit, solid1_sl, solid_eq, kill_lit, kill_ptr, kill_lptr, kill_agg, List.map_cons, List.map_nil, List.length_cons, List.length_nil, List.all_cons, List.all_nil, List.drop_zero, List.drop_succ_cons, ↓reduceIte, Nat.reduceEqDiff, Nat.reduceAdd, Bool.true_and, Bool.and_true, and_true, true_and, reduceCtorEq, Nat.zero_add, Nat.add_zero, decide_true, f27_1e, f27_2e, f27_2l, f27_3e, f27_4e, f27_5e, f27_5l, f27_6e, f27_7e, f27_8e, f27_8l, f27_9e, f27_10e, f27_11e, f27_11l, bcAV]
          refine call_a rfl e_f16 hp rfl fun r st1 hr => ?_
          obtain ⟨rfl, a1, _⟩ := hr
          have hf := hres st1 L g a1 (.inl (by omega)) hcl
          rw [e] at hf
          simp -implicitDefEqProofs (maxSteps := 10000000) (disch := omega) only [seqQ_normal, opsK_eq, runI_nil, runI_none, putP_eq, cond_ff, o_bin, o_addr, o_load, o_own, o_call, loadV, addA, derefI, takeI_none, n_lss, wp_ok, bind_ok, ofOpt_some, ev_r, ev_c, ev_f, setB_r, putS, Sf.set, Sf.reg, mask_eq, maskR_nil, maskR_cons, getR, setR, maskL, Sf.disAt, look, id, dis_lit, dis_sl, List.map_cons, List.map_nil, List.drop_zero, List.drop_succ_cons, ↓reduceIte, Nat.reduceEqDiff, reduceCtorEq, Nat.zero_add, cond_no, f27_12e, f27_13e, f27_14e, f27_15e, f27_15l, f27_16e, f27_19e, f27_20e, f27_20l, f27_21e, f27_24e, f27_25e, f27_25l]
          refine call_p rfl e_f23 (hfs _) rfl ?_
          simp -implicitDefEqProofs (maxSteps := 10000000) (disch := omega) only [List.contains_nil, List.contains_cons, Nat.reduceBEq, Bool.or_false, ksB, storesOf, newsOf, appsOf, distinctB, finSS, finNN, nstB, nstsOf, h_nil, h_none, hh_mv, hh_bin, hh_load, hh_store, headAddr_eq, headStore_eq, val_head, tail_eq, cons_store, seqQ_normal, seqQ_ret, blockQ_ret, aC_ret, opsK_eq, retQ_ret, retI, resI, resL, runI_nil, runI_none, putP_eq, o_bin, o_own, loadV, derefI, takeI_some, n_eql, n_geq, wp_ok, bind_ok, bind_req, ofOpt_some, req_tt, ev_r, ev_c, setB_r, putS, Sf.set, Sf.reg, mask_eq, maskR_nil, maskR_cons, getR, setR, maskL, Sf.disAt, Sf.setLoc, look, drop1, dropL, dis_lit, dis_ptr, dis_agg, own1_lit, own1_sl, cells_agg, solid1_lit, solid1_sl, solid_eq, noL_lit, noL_ptr, noL_agg, noL_tup, List.map_cons, List.map_nil, List.length_cons, List.length_nil, List.all_cons, List.all_nil, List.nil_append, List.drop_zero, List.take_succ_cons, List.take_zero, ↓reduceIte, Nat.reduceEqDiff, Nat.reduceAdd, Nat.reduceLeDiff, Bool.true_and, Bool.and_true, and_true, true_and, reduceCtorEq, Nat.zero_add, or_false, decide_true, Bool.not_false, Bool.false_eq_true, cond_yes, f27_26e, f27_27e, f27_28e, f27_28h, f27_28l]
          exact hf
    rw [if_neg h2] at hp
    have hfn := hfn h2
    by_cases h3 : L.length = n
    · rw [if_pos h3] at hp
      simp -implicitDefEqProofs (maxSteps := 10000000) (disch := omega) only [seqQ_normal, opsK_eq, runI_nil, runI_none, putP_eq, cond_tt, o_mv, o_bin, o_addr, o_load, o_own, o_newL, o_boxL, o_call, loadV, boxX, addA, derefI, takeI_none, n_eql, wp_ok, bind_ok, ofOpt_some, ev_r, ev_c, ev_f, evOwn_r, setB_r, putS, Sf.set, Sf.reg, mask_eq, maskR_nil, maskR_cons, getR, setR, maskL, Sf.disAt, Sf.newLoc, look, killR, drop1, regs0, id, dis_lit, dis_ptr, dis_agg, own1_lit, own1_sl, cells_agg, solid1_lit, solid1_sl, solid_eq, kill_lit, kill_ptr, kill_lptr, kill_agg, List.map_cons, List.map_nil, List.length_cons, List.length_nil, List.all_cons, List.all_nil, List.drop_zero, List.drop_succ_cons, ↓reduceIte, Nat.reduceEqDiff, Nat.reduceAdd, Bool.true_and, Bool.and_true, and_true, true_and, reduceCtorEq, Nat.zero_add, Nat.add_zero, decide_true, f27_1e, f27_2e, f27_2l, f27_3e, f27_4e, f27_5e, f27_5l, f27_6e, f27_7e, f27_8e, f27_8l, f27_9e, f27_10e, f27_11e, f27_11l, bcAV]
      refine call_a rfl e_f16 hp rfl fun r st1 hr => ?_
      obtain ⟨rfl, a1, _⟩ := hr
      have hf := hres st1 L g a1 (.inl (by omega)) hcl
      rw [e] at hf
      simp -implicitDefEqProofs (maxSteps := 10000000) (disch := omega) only [seqQ_normal, opsK_eq, runI_nil, runI_none, putP_eq, cond_ff, o_bin, o_addr, o_load, o_own, o_call, loadV, addA, derefI, takeI_none, n_lss, wp_ok, bind_ok, ofOpt_some, ev_r, ev_c, ev_f, setB_r, putS, Sf.set, Sf.reg, mask_eq, maskR_nil, maskR_cons, getR, setR, maskL, Sf.disAt, look, id, dis_lit, dis_sl, List.map_cons, List.map_nil, List.drop_zero, List.drop_succ_cons, ↓reduceIte, Nat.reduceEqDiff, reduceCtorEq, Nat.zero_add, cond_no, f27_12e, f27_13e, f27_14e, f27_15e, f27_15l, f27_16e, f27_19e, f27_20e, f27_20l, f27_21e, f27_24e, f27_25e, f27_25l]
      refine call_p rfl e_f23 (hfn _) rfl ?_
      have hz2 : conns L = [] → n = 0 := fun e => by rw [e] at hcl2; simp at hcl2; omega
      first
        | have hn0 := hz2 hz
          subst hn0
          simp -implicitDefEqProofs (maxSteps := 10000000) (disch := omega) only [List.contains_nil, List.contains_cons, Nat.reduceBEq, Bool.or_false, ksB, storesOf, newsOf, appsOf, distinctB, finSS, finNN, nstB, nstsOf, h_nil, h_none, hh_mv, hh_bin, hh_load, hh_store, headAddr_eq, headStore_eq, val_head, tail_eq, cons_store, seqQ_normal, seqQ_ret, blockQ_ret, aC_ret, opsK_eq, retQ_ret, retI, resI, resL, runI_nil, runI_none, putP_eq, cond_tt, o_bin, o_addr, o_load, o_len, o_own, loadV, lenI, addA, derefI, takeI_none, takeI_some, n_eql, n_geq, wp_ok, bind_ok, bind_req, ofOpt_some, req_tt, ev_r, ev_c, setB_r, putS, Sf.set, Sf.reg, mask_eq, maskR_nil, maskR_cons, getR, setR, maskL, Sf.disAt, Sf.setLoc, look, drop1, dropL, dis_lit, dis_ptr, dis_agg, own1_lit, cells_agg, solid1_lit, solid_eq, noL_lit, noL_ptr, noL_agg, noL_tup, List.map_cons, List.map_nil, List.length_cons, List.length_nil, List.all_cons, List.all_nil, List.nil_append, List.drop_zero, List.drop_succ_cons, List.take_succ_cons, List.take_zero, Int.cast_ofNat_Int, ↓reduceIte, Nat.reduceEqDiff, Nat.reduceAdd, Nat.reduceLeDiff, Int.reduceNeg, Bool.true_and, Bool.and_true, and_true, true_and, reduceCtorEq, Nat.zero_add, Nat.add_zero, or_false, decide_true, Bool.not_false, Bool.false_eq_true, cond_no, f27_26e, f27_29e, f27_30e, f27_30l, f27_31e, f27_32e, f27_33e, f27_33h, f27_33l]
          exact hf
        | simp -implicitDefEqProofs (maxSteps := 10000000) (disch := omega) only [List.contains_nil, List.contains_cons, Nat.reduceBEq, Bool.or_false, ksB, storesOf, newsOf, appsOf, distinctB, finSS, finNN, nstB, nstsOf, h_nil, h_none, hh_mv, hh_bin, hh_load, hh_store, headAddr_eq, headStore_eq, val_head, tail_eq, cons_store, seqQ_normal, seqQ_ret, blockQ_ret, aC_ret, opsK_eq, retQ_ret, retI, resI, resL, runI_nil, runI_none, putP_eq, o_bin, o_addr, o_load, o_len, o_own, loadV, lenI, addA, derefI, takeI_none, takeI_some, n_eql, n_geq, wp_ok, bind_ok, bind_req, ofOpt_some, req_tt, ev_r, ev_c, setB_r, putS, Sf.set, Sf.reg, mask_eq, maskR_nil, maskR_cons, getR, setR, maskL, Sf.disAt, Sf.setLoc, look, drop1, dropL, dis_lit, dis_ptr, dis_sl, dis_agg, own1_lit, own1_sl, cells_agg, solid1_lit, solid1_sl, solid_eq, noL_lit, noL_ptr, noL_agg, noL_tup, List.map_cons, List.map_nil, List.length_cons, List.length_nil, List.all_cons, List.all_nil, List.nil_append, List.drop_zero, List.drop_succ_cons, List.take_succ_cons, List.take_zero, ↓reduceIte, Nat.reduceEqDiff, Nat.reduceAdd, Nat.reduceLeDiff, Int.reduceNeg, Bool.true_and, Bool.and_true, and_true, true_and, reduceCtorEq, Nat.zero_add, Nat.add_zero, or_false, decide_true, Bool.not_false, Bool.false_eq_true, cond_yes, cond_no, f27_26e, f27_29e, f27_30e, f27_30l, f27_31e, f27_32e, f27_33e, f27_33h, f27_33l, hil, hcl2]
          exact hf
    · rw [if_neg h3] at hp
      simp -implicitDefEqProofs (maxSteps := 10000000) (disch := omega) only [seqQ_normal, opsK_eq, runI_nil, runI_none, putP_eq, cond_tt, o_mv, o_bin, o_addr, o_load, o_own, o_newL, o_boxL, o_call, loadV, boxX, addA, derefI, takeI_none, n_eql, wp_ok, bind_ok, ofOpt_some, ev_r, ev_c, ev_f, evOwn_r, setB_r, putS, Sf.set, Sf.reg, mask_eq, maskR_nil, maskR_cons, getR, setR, maskL, Sf.disAt, Sf.newLoc, look, killR, drop1, regs0, id, dis_lit, dis_ptr, dis_agg, own1_lit, own1_sl, cells_agg, solid1_lit, solid1_sl, solid_eq, kill_lit, kill_ptr, kill_lptr, kill_agg, List.map_cons, List.map_nil, List.length_cons, List.length_nil, List.all_cons, List.all_nil, List.drop_zero, List.drop_succ_cons, ↓reduceIte, Nat.reduceEqDiff, Nat.reduceAdd, Bool.true_and, Bool.and_true, and_true, true_and, reduceCtorEq, Nat.zero_add, Nat.add_zero, decide_true, f27_1e, f27_2e, f27_2l, f27_3e, f27_4e, f27_5e, f27_5l, f27_6e, f27_7e, f27_8e, f27_8l, f27_9e, f27_10e, f27_11e, f27_11l, bcAV]
      refine call_a rfl e_f16 hp rfl fun r st1 hr => ?_
      obtain ⟨rfl, a1, _⟩ := hr
      have hf := hres st1 _ _ a1 (.inl (by simp)) (fun e => by cases e)
      simp only at hf
      rw [conns_app, show conns [(g + 1, c)] = [c] from rfl, lAV_snoc] at hf
      simp -implicitDefEqProofs (maxSteps := 10000000) (disch := omega) only [seqQ_normal, opsK_eq, runI_nil, runI_none, putP_eq, cond_ff, o_bin, o_addr, o_load, o_own, o_call, loadV, addA, derefI, takeI_none, n_lss, wp_ok, bind_ok, ofOpt_some, ev_r, ev_c, ev_f, setB_r, putS, Sf.set, Sf.reg, mask_eq, maskR_nil, maskR_cons, getR, setR, maskL, Sf.disAt, look, id, dis_lit, dis_sl, List.map_cons, List.map_nil, List.drop_zero, List.drop_succ_cons, ↓reduceIte, Nat.reduceEqDiff, reduceCtorEq, Nat.zero_add, cond_no, f27_12e, f27_13e, f27_14e, f27_15e, f27_15l, f27_16e, f27_19e, f27_20e, f27_20l, f27_21e, f27_24e, f27_25e, f27_25l]
      refine call_p rfl e_f23 (hfn _) rfl ?_
      have hdis : (ints (conns L)).map AV.dis = ints (conns L) := by simp only [ints, List.map_map]; rfl
      have hemp : conns L ≠ [] → (ints (conns L)).isEmpty = false := fun hz => by
        cases hcc : conns L with
        | nil => exact absurd hcc hz
        | cons x y => rfl
      have hn1 : conns L = [] → 0 < n := fun e => by rw [e] at hcl2; simp at hcl2; omega
      first
        | have hn2 := hn1 hz
          rw [hz, show ints ([] : List Int) = [] from rfl] at hf
          simp -implicitDefEqProofs (maxSteps := 10000000) (disch := omega) only [List.contains_nil, List.contains_cons, Nat.reduceBEq, Bool.or_false, ksB, storesOf, newsOf, appsOf, distinctB, finSS, finNN, nstB, nstsOf, h_nil, h_none, hh_mv, hh_bin, hh_addr, hh_load, hh_bsl, hh_app, hh_store, headAddr_eq, headStore_eq, val_head, tail_nil, tail_eq, cons_store, and_self, seqQ_normal, seqQ_ret, blockQ_normal, blockQ_ret, aC_skip, aC_ret, opsK_eq, retQ_ret, retI, resI, resL, runI_nil, runI_none, putP_eq, o_bin, o_addr, o_load, o_len, o_own, o_appS, o_store, loadV, bslV, appSX, boxX, writeX, List.isEmpty_cons, List.isEmpty_nil, List.reduceReplicate, lenI, addA, derefI, takeI_none, takeI_some, appNewI, srcA, fillA, n_eql, n_geq, wp_ok, bind_ok, bind_req, ofOpt_some, req_tt, ev_r, ev_c, evOwn_r, disOp_r, setB_r, putS, Sf.set, Sf.reg, mask_eq, maskR_nil, maskR_cons, getR, setR, maskL, Sf.disAt, Sf.setLoc, look, drop1, dropL, dis_lit, dis_ptr, dis_sl, dis_agg, own1_lit, own1_sl, cells_lit, cells_sl, cells_agg, solid1_lit, solid1_sl, solid_eq, noL_lit, noL_ptr, noL_agg, noL_tup, List.map_cons, List.map_nil, List.length_cons, List.length_nil, List.all_cons, List.all_nil, List.nil_append, List.drop_zero, List.drop_succ_cons, List.take_succ_cons, List.take_zero, List.set_cons_zero, List.set_cons_succ, ↓reduceIte, Nat.reduceEqDiff, Nat.reduceAdd, Nat.reduceLT, Nat.reduceLeDiff, Int.reduceNeg, Bool.true_and, Bool.and_true, and_true, true_and, reduceCtorEq, Nat.zero_add, Nat.add_zero, or_false, decide_true, Bool.not_false, Bool.false_eq_true, room_of, cond_no, setAt_nil, setAt_cons, f27_26e, f27_29e, f27_30e, f27_30l, f27_31e, f27_34e, f27_35e, f27_35h, f27_35l, f27_36e, f27_37e, f27_37h, f27_37l, beq_self_eq_true]
          exact hf
        | have hem := hemp hz
          simp -implicitDefEqProofs (maxSteps := 10000000) (disch := omega) only [List.contains_nil, List.contains_cons, Nat.reduceBEq, Bool.or_false, ksB, storesOf, newsOf, appsOf, distinctB, finSS, finNN, nstB, nstsOf, h_nil, h_none, hh_mv, hh_bin, hh_addr, hh_load, hh_bsl, hh_app, hh_store, headAddr_eq, headStore_eq, val_head, tail_nil, tail_eq, cons_store, and_self, seqQ_normal, seqQ_ret, blockQ_normal, blockQ_ret, aC_skip, aC_ret, opsK_eq, retQ_ret, retI, resI, resL, runI_nil, runI_none, putP_eq, o_bin, o_addr, o_load, o_len, o_own, o_appS, o_store, loadV, bslV, appSX, boxX, writeX, List.reduceReplicate, lenI, addA, derefI, takeI_none, takeI_some, appNewI, appOwnI, srcA, fillA, n_eql, n_geq, wp_ok, bind_ok, bind_req, ofOpt_some, req_tt, ev_r, ev_c, evOwn_r, disOp_r, setB_r, putS, Sf.set, Sf.reg, mask_eq, maskR_nil, maskR_cons, getR, setR, maskL, Sf.disAt, Sf.setLoc, look, drop1, dropL, dis_lit, dis_ptr, dis_sl, dis_agg, own1_lit, own1_sl, cells_lit, cells_sl, cells_agg, solid1_lit, solid1_sl, solid_eq, noL_lit, noL_ptr, noL_agg, noL_tup, List.map_cons, List.map_nil, List.length_cons, List.length_nil, List.all_cons, List.all_nil, List.nil_append, List.drop_zero, List.drop_succ_cons, List.take_succ_cons, List.take_zero, List.set_cons_zero, List.set_cons_succ, ↓reduceIte, Nat.reduceEqDiff, Nat.reduceAdd, Nat.reduceLT, Nat.reduceLeDiff, Int.reduceNeg, Bool.true_and, Bool.and_true, and_true, true_and, reduceCtorEq, Nat.zero_add, Nat.add_zero, or_false, decide_true, Bool.not_false, Bool.false_eq_true, List.length_map, room_of, cond_no, len_setAt, setAt_nil, setAt_cons, f27_26e, f27_29e, f27_30e, f27_30l, f27_31e, f27_34e, f27_35e, f27_35h, f27_35l, f27_36e, f27_37e, f27_37h, f27_37l, hil, hcl2, hdis, hem]
          exact hf
end
end Go.Fx.YtddifejdkiemgaaFx

