/- What the functions that the statement reaches compute: part 7. -/
import Derived.Test.YtenijlfcfmhmkaaFxW6
namespace Go.Fx.YtenijlfcfmhmkaaFx
open Go Go.Fx
attribute [local irreducible] aC runI headI loopI

set_option maxRecDepth 100000
set_option maxHeartbeats 4000000

theorem fDo_le (s : QS) (a : Fa) {n : Nat} (h : s.1.length ≤ n ∧ s.2 ≤ n) : (fDo s a).1.length ≤ n + 1 ∧ (fDo s a).2 ≤ n + 1 := by
  unfold fDo
  split
  · simp; omega
  split
  · simp; omega
  split
  · split
    · simp; omega
    · omega
  · omega

/-- What lay there before lies there still. -/
def Keep (st st' : St) : Prop := st.boxes.length ≤ st'.boxes.length ∧ ∀ id, id < st.boxes.length → st'.boxes[id]? = st.boxes[id]?
def Behind (st : St) (q : Nat) : Prop := st.boxes.length ≤ q
theorem Keep.refl (st : St) : Keep st st := ⟨Nat.le_refl _, fun _ _ => rfl⟩
theorem Keep.trans {a b c : St} (h : Keep a b) (k : Keep b c) : Keep a c := ⟨Nat.le_trans h.1 k.1, fun id hid => (k.2 id (Nat.lt_of_lt_of_le hid h.1)).trans (h.2 id hid)⟩
theorem Keep.oth {a b c : St} {q mid : Nat} (h : Keep a b) (k : Oth b c [q, mid]) (hq : Behind a q) (hm : Behind a mid) : Keep a c :=
  ⟨by rw [k.1]; exact h.1, fun id hid => (k.2 id (by unfold Behind at hq hm; simp; omega)).trans (h.2 id hid)⟩

theorem pushes_calls2 {q mid g : Nat} {L : Qu} {v : Int} {st : St} (h : QIs st q mid L g) (hlen : L.length < 4096) (hgb : g < 1000000) (t : Nat) (ht : t = g + 1) :
    ACalls Go.Proofs.Try.prog n_f34 [.ptr q 0, .lit (.int .i64 v), .lit (.int .u64 (t : Nat))] st (fun r st' => r = .lit (.bool true) ∧ QIs st' q mid (L ++ [(t, v)]) t ∧ Oth st st' [q, mid]) := by
  subst ht
  refine acalls_op hmix k_f34 rfl rfl fun Q hQ => ?_
  unfold aFun c_f34
  simp -implicitDefEqProofs (maxSteps := 10000000) (disch := omega) only [seqQ_normal, opsK_eq, runI_nil, runI_none, o_mv, o_call, ev_r, ev_c, ev_f, putS, Sf.set, Sf.reg, mask_eq, maskR_nil, maskR_cons, getR, setR, maskL, regs0, id, dis_lit, dis_ptr, List.map_cons, List.map_nil, ↓reduceIte, Nat.reduceEqDiff, Nat.reduceAdd, reduceCtorEq, Nat.zero_add, f34_1e, f34_2e, f34_2l, f34_3e, f34_4e, f34_4l]
  refine call_a rfl e_f32 (qpush_calls (v := v) h (by omega) (by omega)) rfl fun r st1 hr => ?_
  obtain ⟨rfl, h1, ho⟩ := hr
  simp -implicitDefEqProofs (maxSteps := 10000000) (disch := omega) only [seqQ_normal, aC_ret, opsK_eq, retQ_ret, retI, runI_nil, runI_none, runI_some, AI.dst, putP_eq, guard_tt, o_mv, o_pick, o_bin, o_ext, o_own, pick_tt, extV, n_eql, wp_ok, bind_ok, ofOpt_some, ev_r, ev_c, putS, Sf.set, Sf.reg, mask_eq, maskR_nil, maskR_cons, getR, setR, maskL, Sf.disAt, dis_lit, dis_tup, own2_lit, noL_lit, List.map_cons, List.map_nil, List.getElem?_cons_zero, List.getElem?_cons_succ, ↓reduceIte, Nat.reduceEqDiff, Bool.true_and, true_and, reduceCtorEq, decide_true, f34_5e, f34_6e, f34_6l]
  exact hQ _ _ ⟨rfl, h1, ho⟩

theorem pushes_calls {q mid g : Nat} {L : Qu} {v : Int} {st : St} (h : QIs st q mid L g) (hlen : L.length < 4096) (hgb : g < 1000000) (t : Nat) (ht : t = g + 1) :
    ACalls Go.Proofs.Try.prog n_f34 [.ptr q 0, .lit (.int .i64 v), .lit (.int .u64 (t : Nat))] st (fun r st' => r = .lit (.bool true) ∧ QIs st' q mid (L ++ [(t, v)]) t) :=
  (pushes_calls2 h hlen hgb t ht).mono fun _ _ ⟨a, b, _⟩ => ⟨a, b⟩

theorem pops_calls2 {q mid g t : Nat} {v : Int} {B : Qu} {st : St} (h : QIs st q mid ((t, v) :: B) g) (hgb : g < 1000000) :
    ACalls Go.Proofs.Try.prog n_f33 [.ptr q 0, .lit (.int .i64 v), .lit (.int .u64 (t : Nat))] st (fun r st' => r = .lit (.bool true) ∧ QIs st' q mid B g ∧ Oth st st' [q, mid]) := by
  refine acalls_op hmix k_f33 rfl rfl fun Q hQ => ?_
  unfold aFun c_f33
  simp -implicitDefEqProofs (maxSteps := 10000000) (disch := omega) only [seqQ_normal, opsK_eq, runI_nil, runI_none, o_mv, o_call, ev_r, ev_c, ev_f, putS, Sf.set, Sf.reg, mask_eq, maskR_nil, maskR_cons, getR, setR, maskL, regs0, id, dis_lit, dis_ptr, List.map_cons, List.map_nil, ↓reduceIte, Nat.reduceEqDiff, Nat.reduceAdd, reduceCtorEq, Nat.zero_add, f33_1e, f33_2e, f33_2l, f33_3e, f33_4e, f33_4l]
  refine call_a rfl e_f31 (qpop_calls (B := B) h (by omega)) rfl fun r st1 hr => ?_
  obtain ⟨rfl, h1, ho⟩ := hr
  simp -implicitDefEqProofs (maxSteps := 10000000) (disch := omega) only [seqQ_normal, aC_ret, opsK_eq, retQ_ret, retI, runI_nil, runI_none, runI_some, AI.dst, putP_eq, guard_tt, o_mv, o_pick, o_bin, o_ext, o_own, pick_tt, extV, n_eql, wp_ok, bind_ok, ofOpt_some, ev_r, ev_c, putS, Sf.set, Sf.reg, mask_eq, maskR_nil, maskR_cons, getR, setR, maskL, Sf.disAt, dis_lit, dis_tup, own2_lit, noL_lit, List.map_cons, List.map_nil, List.getElem?_cons_zero, List.getElem?_cons_succ, ↓reduceIte, Nat.reduceEqDiff, Bool.true_and, true_and, reduceCtorEq, decide_true, f33_5e, f33_6e, f33_6l]
  exact hQ _ _ ⟨rfl, h1, ho⟩

theorem pops_calls {q mid g t : Nat} {v : Int} {B : Qu} {st : St} (h : QIs st q mid ((t, v) :: B) g) (hgb : g < 1000000) :
    ACalls Go.Proofs.Try.prog n_f33 [.ptr q 0, .lit (.int .i64 v), .lit (.int .u64 (t : Nat))] st (fun r st' => r = .lit (.bool true) ∧ QIs st' q mid B g) :=
  (pops_calls2 h hgb).mono fun _ _ ⟨a, b, _⟩ => ⟨a, b⟩

theorem places_pure {q mid g : Nat} {L : Qu} {st : St} (h : QIs st q mid L g) (i t : Nat) (hi : i < L.length) (hb : L.length < 1000000) (ht : L[i].1 = t) :
    PCalls Go.Proofs.Try.prog n_f49 [.ptr q 0, .lit (.int .u64 (t : Nat)), .lit (.int .i64 (i : Nat))] st (.lit (.bool true)) := by
  have hp := qplace_at h hi hb
  rw [ht] at hp
  refine pcalls_id hmix k_f49 rfl rfl fun Q hQ => ?_
  unfold aFun c_f49
  simp -implicitDefEqProofs (maxSteps := 10000000) (disch := omega) only [seqQ_normal, opsK_eq, runI_nil, runI_none, o_mv, o_call, ev_r, ev_c, ev_f, putS, Sf.set, Sf.reg, mask_eq, maskR_nil, maskR_cons, getR, setR, maskL, regs0, id, dis_lit, dis_ptr, List.map_cons, List.map_nil, ↓reduceIte, Nat.reduceEqDiff, Nat.reduceAdd, reduceCtorEq, Nat.zero_add, f49_1e, f49_2e, f49_2l, f49_3e, f49_4e, f49_4l]
  refine call_p rfl e_f36 hp rfl ?_
  simp -implicitDefEqProofs (maxSteps := 10000000) (disch := omega) only [seqQ_normal, aC_ret, opsK_eq, retQ_ret, retI, runI_nil, runI_none, runI_some, AI.dst, putP_eq, guard_tt, o_mv, o_pick, o_bin, o_ext, o_own, pick_tt, extV, n_eql, wp_ok, bind_ok, ofOpt_some, ev_r, ev_c, putS, Sf.set, Sf.reg, mask_eq, maskR_nil, maskR_cons, getR, setR, maskL, Sf.disAt, dis_lit, dis_tup, own2_lit, noL_lit, List.map_cons, List.map_nil, List.getElem?_cons_zero, List.getElem?_cons_succ, ↓reduceIte, Nat.reduceEqDiff, Bool.true_and, true_and, reduceCtorEq, decide_true, f49_5e, f49_6e, f49_6l]
  exact hQ _

theorem known06f (st : St) : ACalls Go.Proofs.Try.prog n_f23 [] st (fun r st' => r = .lit (.bool true) ∧ Keep st st') := by
  refine acalls_op hmix k_f23 rfl rfl fun Q hQ => ?_
  unfold aFun c_f23
  simp -implicitDefEqProofs (maxSteps := 10000000) (disch := omega) only [seqQ_normal, opsK_eq, runI_nil, runI_none, o_mv, o_call, ev_c, ev_f, putS, Sf.set, mask_eq, maskR_nil, setR, maskL, regs0, id, dis_lit, List.map_nil, f23_1e, f23_2e, f23_2l, f23_3e, f23_4e, f23_4l]
  refine call_a rfl e_f24 (qnew_calls st) rfl fun r st0 hr => ?_
  obtain ⟨rfl, h0, hl0, hold⟩ := hr
  have k0 : Keep st st0 := ⟨by omega, hold⟩
  have bq : Behind st (st.boxes.length + 1) := Nat.le_succ _
  have bm : Behind st st.boxes.length := Nat.le_refl _
  clear hl0 hold
  generalize st.boxes.length + 1 = q at *
  generalize st.boxes.length = mid at *
  simp -implicitDefEqProofs (maxSteps := 10000000) (disch := omega) only [seqQ_normal, aC_skip, opsK_eq, runI_nil, runI_none, putP_eq, cond_ff, o_mv, o_bin, o_own, o_call, n_nileq, eqNilI, isNilI, wp_ok, bind_ok, ofOpt_some, ev_r, ev_c, ev_f, setB_r, putS, Sf.set, Sf.reg, mask_eq, maskR_nil, maskR_cons, getR, setR, maskL, Sf.disAt, id, dis_ptr, List.map_cons, List.map_nil, ↓reduceIte, Nat.reduceEqDiff, f23_5e, f23_6e, f23_7e, f23_7l, f23_8e, f23_11e, f23_12e, f23_12l]
  refine call_a rfl e_f31 (qpop_nil h0) rfl fun r st1 hr => ?_
  obtain ⟨rfl, rfl⟩ := hr
  simp -implicitDefEqProofs (maxSteps := 10000000) (disch := omega) only [seqQ_normal, opsK_eq, runI_nil, runI_none, runI_some, AI.dst, putP_eq, guard_ff, o_mv, o_bin, o_ext, o_own, o_call, extV, n_neq, wp_ok, bind_ok, ofOpt_some, ev_r, ev_c, ev_f, putS, Sf.set, Sf.reg, mask_eq, maskR_nil, maskR_cons, getR, setR, maskL, Sf.disAt, id, dis_lit, dis_ptr, dis_tup, own2_lit, List.map_cons, List.map_nil, List.getElem?_cons_zero, List.getElem?_cons_succ, ↓reduceIte, Nat.reduceEqDiff, not_true_eq_false, decide_false, Bool.false_eq_true, f23_13e, f23_14e, f23_15e, f23_15l]
  refine call_a rfl e_f34 (pushes_calls2 (v := 7) h0 (by simp) (by omega) 1 rfl) rfl fun r st1 hr => ?_
  obtain ⟨rfl, h1, ho⟩ := hr
  have k1 := k0.oth ho bq bm
  simp -implicitDefEqProofs (maxSteps := 10000000) (disch := omega) only [runI_none, runI_some, AI.dst, putP_eq, guard_ff, o_mv, o_pick, o_un, o_call, pick_ff, unA, wp_ok, ev_r, ev_c, ev_f, putS, Sf.set, Sf.reg, getR, setR, id, dis_lit, dis_ptr, List.map_cons, List.map_nil, ↓reduceIte, Nat.reduceEqDiff, Bool.not_true, Bool.false_eq_true]
  refine call_a rfl e_f34 (pushes_calls2 (v := 8) h1 (by simp) (by omega) 2 rfl) rfl fun r st2 hr => ?_
  obtain ⟨rfl, h2, ho⟩ := hr
  have k2 := k1.oth ho bq bm
  simp -implicitDefEqProofs (maxSteps := 10000000) (disch := omega) only [runI_none, runI_some, AI.dst, putP_eq, guard_ff, o_mv, o_pick, o_un, o_call, pick_ff, unA, wp_ok, ev_r, ev_c, ev_f, putS, Sf.set, Sf.reg, getR, setR, id, dis_lit, dis_ptr, List.map_cons, List.map_nil, ↓reduceIte, Nat.reduceEqDiff, Bool.not_true, Bool.false_eq_true]
  refine call_a rfl e_f34 (pushes_calls2 (v := 9) h2 (by simp) (by omega) 3 rfl) rfl fun r st3 hr => ?_
  obtain ⟨rfl, h3, ho⟩ := hr
  have k3 := k2.oth ho bq bm
  simp only [List.nil_append, List.cons_append] at h3
  have hf := qfront_pure h3
  simp only at hf
  simp -implicitDefEqProofs (maxSteps := 10000000) (disch := omega) only [seqQ_normal, aC_skip, opsK_eq, runI_nil, runI_none, runI_some, AI.dst, putP_eq, cond_ff, guard_ff, o_mv, o_pick, o_un, o_call, pick_ff, unA, wp_ok, ev_r, ev_c, ev_f, setB_r, putS, Sf.set, Sf.reg, mask_eq, maskR_nil, maskR_cons, getR, setR, maskL, id, dis_lit, dis_ptr, List.map_cons, List.map_nil, ↓reduceIte, Nat.reduceEqDiff, Bool.not_true, Bool.false_eq_true, f23_16e, f23_19e, f23_20e, f23_20l]
  refine call_p rfl e_f26 hf rfl ?_
  simp -implicitDefEqProofs (maxSteps := 10000000) (disch := omega) only [seqQ_normal, opsK_eq, runI_nil, runI_none, runI_some, AI.dst, putP_eq, guard_ff, o_mv, o_pick, o_bin, o_ext, o_own, o_call, pick_ff, extV, n_neq, wp_ok, bind_ok, ofOpt_some, ev_r, ev_c, ev_f, putS, Sf.set, Sf.reg, mask_eq, maskR_nil, maskR_cons, getR, setR, maskL, Sf.disAt, id, dis_lit, dis_ptr, dis_tup, own2_lit, List.map_cons, List.map_nil, List.getElem?_cons_zero, List.getElem?_cons_succ, Int.cast_ofNat_Int, ↓reduceIte, Nat.reduceEqDiff, not_true_eq_false, decide_false, Bool.false_eq_true, f23_21e, f23_22e, f23_23e, f23_23l]
  refine call_p rfl e_f49 (places_pure h3 2 3 (by simp) (by simp) rfl) rfl ?_
  simp -implicitDefEqProofs (maxSteps := 10000000) (disch := omega) only [seqQ_normal, aC_skip, opsK_eq, runI_nil, runI_none, runI_some, AI.dst, putP_eq, cond_ff, guard_ff, o_mv, o_pick, o_un, o_call, pick_ff, unA, wp_ok, ev_r, ev_c, ev_f, setB_r, putS, Sf.set, Sf.reg, mask_eq, maskR_nil, maskR_cons, getR, setR, maskL, id, dis_lit, dis_ptr, List.map_cons, List.map_nil, ↓reduceIte, Nat.reduceEqDiff, Bool.not_true, Bool.false_eq_true, f23_24e, f23_27e, f23_28e, f23_28l]
  refine call_a rfl e_f35 (qremove_calls (A := [(1, 7)]) (B := [(3, 9)]) (t := 2) (v := 8) h3 (by omega)) rfl fun r st4 hr => ?_
  obtain ⟨rfl, h4, ho⟩ := hr
  have k4 := k3.oth ho bq bm
  simp only [List.nil_append, List.cons_append] at h4
  simp -implicitDefEqProofs (maxSteps := 10000000) (disch := omega) only [seqQ_normal, opsK_eq, runI_nil, runI_none, runI_some, AI.dst, putP_eq, guard_ff, o_mv, o_pick, o_bin, o_ext, o_own, o_call, pick_ff, extV, n_neq, wp_ok, bind_ok, ofOpt_some, ev_r, ev_c, ev_f, putS, Sf.set, Sf.reg, mask_eq, maskR_nil, maskR_cons, getR, setR, maskL, Sf.disAt, id, dis_lit, dis_ptr, dis_tup, own2_lit, List.map_cons, List.map_nil, List.getElem?_cons_zero, List.getElem?_cons_succ, ↓reduceIte, Nat.reduceEqDiff, not_true_eq_false, decide_false, Bool.false_eq_true, f23_29e, f23_30e, f23_31e, f23_31l]
  refine call_p rfl e_f49 (places_pure h4 1 3 (by simp) (by simp) rfl) rfl ?_
  simp -implicitDefEqProofs (maxSteps := 10000000) (disch := omega) only [seqQ_normal, aC_skip, opsK_eq, runI_nil, runI_none, runI_some, AI.dst, putP_eq, cond_ff, guard_ff, o_mv, o_pick, o_un, o_call, pick_ff, unA, wp_ok, ev_r, ev_c, ev_f, setB_r, putS, Sf.set, Sf.reg, mask_eq, maskR_nil, maskR_cons, getR, setR, maskL, id, dis_lit, dis_ptr, List.map_cons, List.map_nil, ↓reduceIte, Nat.reduceEqDiff, Bool.not_true, Bool.false_eq_true, f23_32e, f23_35e, f23_36e, f23_36l]
  refine call_a rfl e_f35 (qremove_none (t := 2) h4 (by simp [ticks])) rfl fun r st5 hr => ?_
  obtain ⟨rfl, rfl⟩ := hr
  simp -implicitDefEqProofs (maxSteps := 10000000) (disch := omega) only [seqQ_normal, opsK_eq, runI_nil, runI_none, runI_some, AI.dst, putP_eq, guard_tt, o_mv, o_bin, o_ext, o_own, o_call, extV, n_eql, wp_ok, bind_ok, ofOpt_some, ev_r, ev_c, ev_f, putS, Sf.set, Sf.reg, mask_eq, maskR_nil, maskR_cons, getR, setR, maskL, Sf.disAt, id, dis_lit, dis_ptr, dis_tup, own2_lit, List.map_cons, List.map_nil, List.getElem?_cons_zero, List.getElem?_cons_succ, ↓reduceIte, Nat.reduceEqDiff, decide_true, f23_37e, f23_38e, f23_38l]
  refine call_a rfl e_f33 (pops_calls2 h4 (by omega)) rfl fun r st6 hr => ?_
  obtain ⟨rfl, h6, ho⟩ := hr
  have k6 := k4.oth ho bq bm
  simp -implicitDefEqProofs (maxSteps := 10000000) (disch := omega) only [runI_none, runI_some, AI.dst, putP_eq, guard_tt, o_mv, o_pick, o_call, pick_tt, wp_ok, ev_r, ev_c, ev_f, putS, Sf.set, Sf.reg, getR, setR, id, dis_lit, dis_ptr, List.map_cons, List.map_nil, ↓reduceIte, Nat.reduceEqDiff]
  refine call_a rfl e_f34 (pushes_calls2 (v := 5) h6 (by simp) (by omega) 4 rfl) rfl fun r st7 hr => ?_
  obtain ⟨rfl, h7, ho⟩ := hr
  have k7 := k6.oth ho bq bm
  simp only [List.cons_append, List.nil_append] at h7
  simp -implicitDefEqProofs (maxSteps := 10000000) (disch := omega) only [runI_none, runI_some, AI.dst, putP_eq, guard_tt, o_mv, o_pick, o_call, pick_tt, wp_ok, ev_r, ev_c, ev_f, putS, Sf.set, Sf.reg, getR, setR, id, dis_lit, dis_ptr, List.map_cons, List.map_nil, ↓reduceIte, Nat.reduceEqDiff]
  refine call_p rfl e_f28 (qlen_pure h7) rfl ?_
  simp -implicitDefEqProofs (maxSteps := 10000000) (disch := omega) only [and_self, runI_none, runI_some, AI.dst, putP_eq, guard_tt, o_mv, o_pick, o_bin, o_bsl, o_bst, o_call, pick_tt, bslV, bstV, List.reduceReplicate, fillA, buildA, n_eql, wp_ok, bind_ok, ev_r, ev_c, ev_f, putS, Sf.set, Sf.reg, getR, setR, id, dis_lit, dis_ptr, dis_agg, own1_lit, cells_lit, cells_agg, solid1_lit, solid_eq, List.map_cons, List.map_nil, List.length_cons, List.length_nil, List.getElem?_cons_zero, List.getElem?_cons_succ, List.all_cons, List.all_nil, List.set_cons_zero, List.set_cons_succ, Int.cast_ofNat_Int, ↓reduceIte, Nat.reduceEqDiff, Nat.reduceAdd, Nat.reduceLT, Nat.reduceLeDiff, Bool.and_true, and_true, Nat.zero_add, decide_true, setAt_nil, setAt_cons]
  have ha := all_true h7 (by simp)
  simp only [vsAV, vAV, List.map_cons, List.map_nil] at ha
  refine call_a rfl e_f29 ha rfl fun r st8 hr => ?_
  obtain ⟨rfl, k8⟩ := hr
  simp -implicitDefEqProofs (maxSteps := 10000000) (disch := omega) only [seqQ_normal, aC_ret, opsK_eq, retQ_ret, retI, runI_nil, runI_none, putP_eq, o_pick, o_own, pick_tt, wp_ok, ev_r, ev_c, putS, Sf.set, Sf.reg, mask_eq, maskR_nil, maskR_cons, getR, setR, maskL, Sf.disAt, dis_lit, noL_lit, ↓reduceIte, Nat.reduceEqDiff, Bool.true_and, true_and, reduceCtorEq]
  exact hQ _ _ ⟨rfl, k7.trans k8⟩

theorem known06 (st : St) : ACalls Go.Proofs.Try.prog n_f23 [] st (fun r _ => r = .lit (.bool true)) := (known06f st).mono fun _ _ h => h.1
end Go.Fx.YtenijlfcfmhmkaaFx

