/- What the functions that the statement reaches compute: part 3. -/
import Derived.Test.YtddifejdkiemgaaFxW2
namespace Go.Fx.YtddifejdkiemgaaFx
open Go Go.Fx
attribute [local irreducible] aC runI headI loopI

set_option maxRecDepth 100000
set_option maxHeartbeats 4000000

theorem mclone_calls {mid : Nat} {m : List (Int × Nd)} {st : St} (h : MapIs st mid .u64 ndAV m) : ACalls Go.Proofs.Try.prog n_f77 [.map mid] st (fun r st' => r = .map st.boxes.length ∧ st' = st.push (.mp (encM .u64 ndAV m) (st.getB mid).1 (st.getB mid).2)) := by
  refine acalls_op hmix k_f77 rfl rfl fun Q hQ => ?_
  unfold aFun c_f77
  have hg := h.get
  simp -implicitDefEqProofs (maxSteps := 10000000) (disch := omega) only [seqQ_normal, aC_skip, aC_ret, opsK_eq, retQ_ret, retI, runI_nil, runI_none, putP_eq, putK_eq, cond_ff, o_mv, o_bin, o_mkif, o_tas, o_own, o_x, tasV, mkifV, stepX, n_nileq, eqNilI, isNilI, wp_ok, bind_ok, ofOpt_some, ev_r, ev_c, setB_r, putS, Sf.set, Sf.reg, mask_eq, maskR_nil, maskR_cons, getR, setR, maskL, Sf.disAt, regs0, dis_lit, dis_map, solid1_map, noL_map, ↓reduceIte, Nat.reduceEqDiff, Bool.true_and, true_and, reduceCtorEq, f77_1e, f77_2e, f77_2l, f77_3e, f77_4e, f77_5e, f77_5l, f77_6e, f77_9e, f77_10e, f77_10l, mcloneX, hg]
  exact hQ _ _ ⟨rfl, rfl⟩

/-- A copy of a queue: new boxes only. -/
theorem qcopy_calls {q mid g : Nat} {L : Qu} {st : St} (h : QIs st q mid L g) : ACalls Go.Proofs.Try.prog n_f67 [.ptr q 0] st
    (fun r st' => r = .ptr (st.boxes.length + 1) 0 ∧ QIs st' (st.boxes.length + 1) st.boxes.length L g ∧ st'.boxes.length = st.boxes.length + 2 ∧ ∀ id, id < st.boxes.length → st'.boxes[id]? = st.boxes[id]?) := by
  refine acalls_op hmix k_f67 rfl rfl fun Q hQ => ?_
  unfold aFun c_f67
  have hg := h.get
  obtain ⟨m, hm, hl, hml⟩ := h.mp
  simp -implicitDefEqProofs (maxSteps := 10000000) (disch := omega) only [seqQ_normal, opsK_eq, runI_nil, runI_none, o_mv, o_call, ev_r, ev_c, ev_f, putS, Sf.set, Sf.reg, mask_eq, maskR_nil, maskR_cons, getR, setR, maskL, regs0, id, dis_lit, dis_ptr, List.map_cons, List.map_nil, ↓reduceIte, reduceCtorEq, f67_1e, f67_2e, f67_2l, f67_3e, f67_4e, f67_5e, f67_5l]
  refine call_p rfl e_f68 (qzero_pure hg) rfl ?_
  simp -implicitDefEqProofs (maxSteps := 10000000) (disch := omega) only [seqQ_normal, aC_skip, opsK_eq, runI_nil, cond_ff, ev_r, setB_r, putS, Sf.set, Sf.reg, mask_eq, maskR_nil, maskR_cons, getR, setR, maskL, ↓reduceIte, Nat.reduceEqDiff, Bool.true_and, true_and, reduceCtorEq, f67_6e, f67_9e, f67_10e, f67_10h, f67_10p, f67_10l]
  refine draw_s ?_
  simp -implicitDefEqProofs (maxSteps := 10000000) (disch := omega) only [m_nil, m_none, m_val, mm_mv, mm_addr, mm_load, mm_nilck, atM_eq, dropM, dropP, dropQ, aiDrop, loadV, nilckV, addA, derefI, takeI_none, takeI_some, wp_ok, bind_ok, bind_req, ofOpt_some, req_tt, ev_r, ev_f, putS, Sf.set, Sf.reg, getR, setR, dropL, id, dis_ptr, dis_map, dis_agg, own1_lit, List.map_cons, List.map_nil, List.length_cons, List.length_nil, List.append_nil, List.nil_append, List.cons_append, List.drop_zero, List.drop_succ_cons, List.take_succ_cons, List.take_zero, ↓reduceIte, Nat.reduceEqDiff, Nat.reduceAdd, Nat.reduceLeDiff, reduceCtorEq, Nat.zero_add, Nat.add_zero, decide_true, hg]
  refine call_m rfl e_f77 (mclone_calls hm) rfl ?_
  simp -implicitDefEqProofs (maxSteps := 10000000) (disch := omega) only [List.contains_nil, ksB, storesOf, newsOf, appsOf, distinctB, nstB, nstsOf, hm_nil, holeK_eq, putS, Sf.set, setR, List.all_nil, List.append_nil, ↓reduceIte, Nat.reduceEqDiff, Bool.true_and, Bool.and_true, and_true, true_and, reduceCtorEq, Bool.not_false]
  rintro r st1 ⟨rfl, rfl⟩
  refine ⟨St.sub_push _ _, ?_⟩
  simp -implicitDefEqProofs (maxSteps := 10000000) (disch := omega) only [List.contains_nil, ksB, storesOf, newsOf, appsOf, distinctB, finSS, finNN, nstB, nstsOf, m_nil, postM_eq, compM_nil, tailM_eq, finK_eq, and_self, seqQ_normal, aC_ret, opsK_eq, retQ_ret, retI, runI_nil, runI_none, putP_eq, o_bst, o_own, o_boxB, bstV, boxX, buildA, wp_ok, bind_ok, ev_r, evOwn_r, disOp_r, putS, Sf.set, Sf.reg, mask_eq, maskR_nil, maskR_cons, getR, setR, maskL, Sf.disAt, dis_ptr, dis_map, dis_agg, own1_lit, own1_map, cells_map, cells_agg, solid1_lit, solid1_map, solid_eq, noL_ptr, List.map_cons, List.map_nil, List.length_cons, List.length_nil, List.getElem?_cons_zero, List.getElem?_cons_succ, List.all_cons, List.all_nil, List.append_nil, List.set_cons_zero, List.set_cons_succ, ↓reduceIte, Nat.reduceEqDiff, Nat.reduceAdd, Nat.reduceLeDiff, Bool.true_and, Bool.and_true, and_true, true_and, reduceCtorEq, Nat.zero_add, Bool.not_false, len_push, setAt_nil, setAt_cons]
  refine hQ _ _ ⟨by simp [len_push], h.clone ?_ fun m' hm' => ?_, by simp [len_push], fun id hid => ?_⟩
  · have := get_push (st.push (.mp (encM .u64 ndAV m) (st.getB mid).1 (st.getB mid).2)) [.lit (.int .u64 (nxtOf L 0 : Nat)), .lit (.int .u64 (lastT 0 L : Nat)), .lit (.int .u64 (g : Nat)), .map st.boxes.length]
    rw [len_push] at this
    exact this
  · have e : encM .u64 ndAV m' = encM .u64 ndAV m := by
      have := hm'.get.symm.trans hm.get
      exact Option.some.inj this
    have := hm'.clone
    rw [e] at this
    exact this.push _
  · rw [push_at (by rw [len_push]; omega), push_at hid]

/-- The iterator over a queue that is not changed. -/
theorem iter_calls {o q mid g : Nat} {L : Qu} (y : Nat) (J : Nat → St → Prop) (Jx : St → Prop) (hkeep : ∀ i st', J i st' → st'.get o = some [.ptr q 0] ∧ QIs st' q mid L g)
    (hround : ∀ (i : Nat) (hi : i < L.length) (st' : St), J i st' → YCalls Go.Proofs.Try.prog y [.lit (.int .u64 (L[i].1 : Nat)), .lit (.int .i64 L[i].2)] st' (fun t st'' => (t = true ∧ J (i + 1) st'') ∨ (t = false ∧ Jx st''))) {st : St} (h0 : J 0 st) :
    ACalls Go.Proofs.Try.prog n_f69 [.yld y, .ptr o 0] st (fun _ st' => J L.length st' ∨ Jx st') := by
  refine acalls_op hmix k_f69 rfl rfl fun Q hQ => ?_
  unfold aFun c_f69
  obtain ⟨ho, hq⟩ := hkeep 0 st h0
  have hg := hq.get
  simp -implicitDefEqProofs (maxSteps := 10000000) (disch := omega) only [seqQ_normal, aC_skip, opsK_eq, runI_nil, runI_none, putP_eq, cond_ff, o_bin, o_addr, o_load, o_nilck, o_own, loadV, nilckV, n_nileq, eqNilI, isNilI, addA, derefI, takeI_none, wp_ok, bind_ok, ofOpt_some, ev_r, ev_c, setB_r, putS, Sf.set, Sf.reg, mask_eq, maskR_nil, maskR_cons, getR, setR, maskL, Sf.disAt, regs0, dis_yld, dis_lit, dis_ptr, List.drop_zero, ↓reduceIte, Nat.reduceEqDiff, reduceCtorEq, Nat.zero_add, Nat.add_zero, f69_1e, f69_2e, f69_3e, f69_3l, f69_4e, f69_5e, f69_6e, f69_6l, f69_7e, ho, hg]
  rw [f69_8w]
  refine loop_op (A := Nat × St) (fun a => L.length - a.1) (fun a => ⟨[(0, .yld y), (1, .ptr o 0), (3, .lit (.int .u64 (nxtOf (L.drop a.1) 0 : Nat)))], []⟩) (fun a => a.2) (fun a => a.1 ≤ L.length ∧ J a.1 a.2) (0, st) ⟨by simp, h0⟩ (by rw [List.drop_zero]; exact Sf.le_refl _) rfl ?_
  rintro ⟨i, st⟩ ⟨h1, h2⟩ K hK hKe hKr
  simp only at h1 h2
  obtain ⟨ho, hq⟩ := hkeep i st h2
  have hg := hq.get
  obtain ⟨m, hm, hl, hml⟩ := hq.mp
  by_cases hi : i < L.length
  · have ht := nxt_drop hi
    have hp := (hq.pos _ (tick_get hi)).1
    have hn := nodeA_get hq.nd hi
    have hk : ∀ z, lookupI (.int .u64) z false st (.map mid) (.lit (.int .u64 (L[i].1 : Nat))) = .ok (ndAV (L[i].2, lastT 0 (L.take i), nxtOf (L.drop (i + 1)) 0)) := fun z => by
      rw [lookI_enc hm, hl, hn]; rfl
    rw [ht]
    have hne : ((L[i].1 : Nat) : Int) ≠ 0 := by omega
    simp -implicitDefEqProofs (maxSteps := 10000000) (disch := omega) only [seqQ_normal, aC_skip, opsK_eq, runI_nil, runI_none, putP_eq, cond_tt, o_mv, o_bin, o_field, o_addr, o_load, o_nilck, o_lookup, o_call, fieldV, loadV, nilckV, addA, derefI, takeI_none, n_neq, wp_ok, bind_ok, ofOpt_some, ev_r, ev_c, setB_r, putS, Sf.set, Sf.reg, mask_eq, maskR_nil, maskR_cons, getR, setR, maskL, dis_yld, dis_lit, dis_ptr, dis_map, List.map_cons, List.map_nil, List.drop_zero, List.drop_succ_cons, ↓reduceIte, Nat.reduceEqDiff, reduceCtorEq, Nat.zero_add, not_false_eq_true, decide_true, f69_9e, f69_10e, f69_11e, f69_11l, f69_12e, f69_13e, f69_14e, f69_15e, f69_16e, f69_16l, ho, hg, hk, ndAV, hne]
    refine call_y rfl (hround i hi st h2) rfl fun t st1 hr => ?_
    rcases hr with ⟨rfl, hJ⟩ | ⟨rfl, hJ⟩
    · obtain ⟨ho1, hq1⟩ := hkeep (i + 1) st1 hJ
      have hg1 := hq1.get
      obtain ⟨m1, hm1, hl1, hml1⟩ := hq1.mp
      have hk1 : ∀ z, lookupI (.int .u64) z false st1 (.map mid) (.lit (.int .u64 (L[i].1 : Nat))) = .ok (ndAV (L[i].2, lastT 0 (L.take i), nxtOf (L.drop (i + 1)) 0)) := fun z => by
        rw [lookI_enc hm1, hl1, hn]; rfl
      simp -implicitDefEqProofs (maxSteps := 10000000) (disch := omega) only [seqQ_normal, blockQ_normal, aC_skip, opsK_eq, runI_nil, runI_none, putP_eq, cond_ff, o_mv, o_un, o_field, o_addr, o_load, o_nilck, o_lookup, o_own, fieldV, loadV, nilckV, addA, derefI, takeI_none, unA, wp_ok, bind_ok, ofOpt_some, ev_r, setB_r, putS, Sf.set, Sf.reg, mask_eq, maskR_nil, maskR_cons, getR, setR, maskL, Sf.disAt, dis_lit, dis_ptr, dis_map, List.drop_zero, List.drop_succ_cons, ↓reduceIte, Nat.reduceEqDiff, reduceCtorEq, Nat.zero_add, Bool.not_true, f69_17e, f69_18e, f69_18l, ho1, hg1, hk1, ndAV]
      exact hK (i + 1, st1) _ ⟨by simp only; omega, hJ⟩ (by simp only; omega) (Sf.le_refl _)
    · simp -implicitDefEqProofs (maxSteps := 10000000) (disch := omega) only [seqQ_normal, seqQ_ret, blockQ_ret, aC_ret, opsK_eq, runI_nil, runI_none, putP_eq, cond_tt, o_un, unA, wp_ok, ev_r, setB_r, putS, Sf.set, Sf.reg, mask_eq, maskR_nil, maskR_cons, getR, setR, maskL, ↓reduceIte, Nat.reduceEqDiff, reduceCtorEq, Bool.not_false, f69_17e]
      exact hKr _ _ (by simp -implicitDefEqProofs (maxSteps := 10000000) (disch := omega) only [blockQ_ret, retQ_ret, retI, resL, wp_ok, bind_ok, noL_tup, List.all_nil, ↓reduceIte, Bool.true_and, true_and]; exact hQ _ _ (.inr hJ))
  · have hiL : i = L.length := by omega
    subst hiL
    rw [List.drop_length]
    simp -implicitDefEqProofs (maxSteps := 10000000) (disch := omega) only [seqQ_normal, seqQ_exit, aC_exit, opsK_eq, runI_nil, runI_none, putP_eq, cond_ff, o_mv, o_bin, n_neq, wp_ok, ev_r, ev_c, setB_r, putS, Sf.set, Sf.reg, mask_eq, maskR_nil, maskR_cons, getR, setR, maskL, dis_lit, Int.cast_ofNat_Int, ↓reduceIte, Nat.reduceEqDiff, reduceCtorEq, not_true_eq_false, decide_false, f69_9e, f69_10e, f69_11e, f69_11l, f69_12e, nxtOf]
    exact hKe _ _ _ (by simp -implicitDefEqProofs (maxSteps := 10000000) (disch := omega) only [blockQ_exit, retQ_normal, retI, resL, wp_ok, bind_ok, noL_tup, List.all_nil, ↓reduceIte, Bool.true_and, true_and]; exact hQ _ _ (.inl h2))

/-- An iterator over no queue. -/
theorem iter_nil {o : Nat} (y : Nat) {st : St} (ho : st.get o = some [.lit (.pointer none)]) : ACalls Go.Proofs.Try.prog n_f69 [.yld y, .ptr o 0] st (fun _ st' => st' = st) := by
  refine acalls_op hmix k_f69 rfl rfl fun Q hQ => ?_
  unfold aFun c_f69
  simp -implicitDefEqProofs (maxSteps := 10000000) (disch := omega) only [seqQ_normal, seqQ_ret, aC_ret, opsK_eq, retQ_ret, retI, resL, runI_nil, runI_none, putP_eq, cond_tt, o_bin, o_load, loadV, n_nileq, eqNilI, isNilI, derefI, takeI_none, wp_ok, bind_ok, ofOpt_some, ev_r, ev_c, setB_r, putS, Sf.set, Sf.reg, mask_eq, maskR_nil, maskR_cons, getR, setR, maskL, regs0, dis_yld, dis_lit, dis_ptr, noL_tup, List.all_nil, List.drop_zero, ↓reduceIte, Nat.reduceEqDiff, Bool.true_and, true_and, reduceCtorEq, Nat.zero_add, f69_1e, f69_2e, f69_3e, f69_3l, f69_4e, ho]
  exact hQ _ _ rfl

/-- The place of a value. -/
theorem qall_calls {q mid g : Nat} {L : Qu} {st : St} (h : QIs st q mid L g) : ACalls Go.Proofs.Try.prog n_f49 [.ptr q 0] st
    (fun r st' => ∃ o q' mid', r = .fn (.func n_f69) [] [.ptr o 0] ∧ st'.get o = some [.ptr q' 0] ∧ QIs st' q' mid' L g ∧ st.boxes.length ≤ o ∧ st.boxes.length ≤ q' ∧ st.boxes.length ≤ mid' ∧ st.boxes.length ≤ st'.boxes.length ∧ ∀ id, id < st.boxes.length → st'.boxes[id]? = st.boxes[id]?) := by
  refine acalls_op hmix k_f49 rfl rfl fun Q hQ => ?_
  unfold aFun c_f49
  simp -implicitDefEqProofs (maxSteps := 10000000) (disch := omega) only [seqQ_normal, opsK_eq, runI_nil, runI_none, o_mv, o_call, ev_r, ev_c, ev_f, putS, Sf.set, Sf.reg, mask_eq, maskR_nil, maskR_cons, getR, setR, maskL, regs0, id, dis_lit, dis_ptr, List.map_cons, List.map_nil, ↓reduceIte, reduceCtorEq, f49_1e, f49_2e, f49_2l, f49_3e, f49_4e, f49_4l]
  refine call_a rfl e_f67 (qcopy_calls h) rfl fun r st1 hr => ?_
  obtain ⟨rfl, hq, hlen, hold⟩ := hr
  simp -implicitDefEqProofs (maxSteps := 10000000) (disch := omega) only [seqQ_normal, aC_ret, opsK_eq, retQ_ret, retI, runI_nil, runI_none, putP_eq, o_mkfn, o_own, o_newB, o_store, mkfnV, boxX, writeX, wp_ok, ofOpt_some, ev_r, evOwn_r, disOp_r, putS, Sf.set, Sf.reg, mask_eq, maskR_nil, maskR_cons, getR, setR, maskL, Sf.disAt, id, dis_ptr, dis_fn, cells_ptr, solid1_ptr, solid_eq, noL_fn, List.map_cons, List.map_nil, List.length_cons, List.length_nil, List.all_cons, List.all_nil, List.nil_append, List.set_cons_zero, ↓reduceIte, Nat.reduceEqDiff, Nat.reduceLeDiff, Bool.true_and, Bool.and_true, and_true, true_and, reduceCtorEq, Nat.zero_add, get_push, set_push, setAt_nil, setAt_cons, f49_5e, f49_6e, f49_6l]
  refine hQ _ _ ⟨st1.boxes.length, _, _, rfl, get_push .., hq.at (push_at (by omega)) (push_at (by omega)), by omega, by omega, by omega, by rw [len_push]; omega, fun id hid => ?_⟩
  rw [push_at (by omega), hold id hid]

theorem qfront_nil {q mid g : Nat} {st : St} (h : QIs st q mid [] g) : PCalls Go.Proofs.Try.prog n_f70 [.ptr q 0] st (.tup [.lit (.int .i64 0), .lit (.int .u64 0), .lit (.int .i64 9)]) := qfront_pure h
theorem qfront_cons {q mid g u : Nat} {y : Int} {r : Qu} {st : St} (h : QIs st q mid ((u, y) :: r) g) : PCalls Go.Proofs.Try.prog n_f70 [.ptr q 0] st (.tup [.lit (.int .i64 y), .lit (.int .u64 (u : Nat)), .lit (.int .i64 0)]) := qfront_pure h

theorem srt_len {n : Nat} : ∀ (l : List Nat) (a : Nat), l.Pairwise (· < ·) → (∀ x ∈ l, a < x ∧ x ≤ n) → l.length ≤ n - a
  | [], _, _, _ => Nat.zero_le _
  | x :: l, a, hp, hx => by
    have h1 := srt_len l x (List.pairwise_cons.mp hp).2 fun y hy => ⟨(List.pairwise_cons.mp hp).1 y hy, (hx y (by simp [hy])).2⟩
    have h2 := hx x (by simp)
    rw [List.length_cons]; omega
theorem qis_len {st : St} {q mid g : Nat} {L : Qu} (h : QIs st q mid L g) : L.length ≤ g := by
  have := srt_len (ticks L) 0 h.srt h.pos
  simpa [ticks] using this

end Go.Fx.YtddifejdkiemgaaFx

