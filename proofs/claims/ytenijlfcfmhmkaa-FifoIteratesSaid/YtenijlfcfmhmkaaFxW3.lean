/- What the functions that the statement reaches compute: part 3. -/
import Derived.Test.YtenijlfcfmhmkaaFxW2
namespace Go.Fx.YtenijlfcfmhmkaaFx
open Go Go.Fx
attribute [local irreducible] aC runI headI loopI

set_option maxRecDepth 100000
set_option maxHeartbeats 4000000

theorem mclone_calls {mid : Nat} {m : List (Int × Nd)} {st : St} (h : MapIs st mid .u64 ndAV m) : ACalls Go.Proofs.Try.prog n_f56 [.map mid] st (fun r st' => r = .map st.boxes.length ∧ st' = st.push (.mp (encM .u64 ndAV m) (st.getB mid).1 (st.getB mid).2)) := by
  refine acalls_op hmix k_f56 rfl rfl fun Q hQ => ?_
  unfold aFun c_f56
  have hg := h.get
  simp -implicitDefEqProofs (maxSteps := 10000000) (disch := omega) only [seqQ_normal, aC_skip, aC_ret, opsK_eq, retQ_ret, retI, runI_nil, runI_none, putP_eq, putK_eq, cond_ff, o_mv, o_bin, o_mkif, o_tas, o_own, o_x, tasV, mkifV, stepX, n_nileq, eqNilI, isNilI, wp_ok, bind_ok, ofOpt_some, ev_r, ev_c, setB_r, putS, Sf.set, Sf.reg, mask_eq, maskR_nil, maskR_cons, getR, setR, maskL, Sf.disAt, regs0, dis_lit, dis_map, solid1_map, noL_map, ↓reduceIte, Nat.reduceEqDiff, Bool.true_and, true_and, reduceCtorEq, f56_1e, f56_2e, f56_2l, f56_3e, f56_4e, f56_5e, f56_5l, f56_6e, f56_9e, f56_10e, f56_10l, mcloneX, hg]
  exact hQ _ _ ⟨rfl, rfl⟩

/-- A copy of a queue: new boxes only. -/
theorem qcopy_calls {q mid g : Nat} {L : Qu} {st : St} (h : QIs st q mid L g) : ACalls Go.Proofs.Try.prog n_f37 [.ptr q 0] st
    (fun r st' => r = .ptr (st.boxes.length + 1) 0 ∧ QIs st' (st.boxes.length + 1) st.boxes.length L g ∧ st'.boxes.length = st.boxes.length + 2 ∧ ∀ id, id < st.boxes.length → st'.boxes[id]? = st.boxes[id]?) := by
  refine acalls_op hmix k_f37 rfl rfl fun Q hQ => ?_
  unfold aFun c_f37
  have hg := h.get
  obtain ⟨m, hm, hl, hml⟩ := h.mp
  simp -implicitDefEqProofs (maxSteps := 10000000) (disch := omega) only [seqQ_normal, opsK_eq, runI_nil, runI_none, o_mv, o_call, ev_r, ev_c, ev_f, putS, Sf.set, Sf.reg, mask_eq, maskR_nil, maskR_cons, getR, setR, maskL, regs0, id, dis_lit, dis_ptr, List.map_cons, List.map_nil, ↓reduceIte, reduceCtorEq, f37_1e, f37_2e, f37_2l, f37_3e, f37_4e, f37_5e, f37_5l]
  refine call_p rfl e_f54 (qzero_pure hg) rfl ?_
  simp -implicitDefEqProofs (maxSteps := 10000000) (disch := omega) only [seqQ_normal, aC_skip, opsK_eq, runI_nil, cond_ff, ev_r, setB_r, putS, Sf.set, Sf.reg, mask_eq, maskR_nil, maskR_cons, getR, setR, maskL, ↓reduceIte, Nat.reduceEqDiff, Bool.true_and, true_and, reduceCtorEq, f37_6e, f37_9e, f37_10e, f37_10h, f37_10p, f37_10l]
  refine draw_s ?_
  simp -implicitDefEqProofs (maxSteps := 10000000) (disch := omega) only [m_nil, m_none, m_val, mm_mv, mm_addr, mm_load, mm_nilck, atM_eq, loadV, nilckV, addA, derefI, takeI_none, takeI_some, wp_ok, bind_ok, bind_req, ofOpt_some, req_tt, ev_r, ev_f, putS, Sf.set, Sf.reg, getR, setR, id, dis_ptr, dis_map, dis_agg, own1_lit, List.map_cons, List.map_nil, List.length_cons, List.length_nil, List.nil_append, List.cons_append, List.drop_zero, List.drop_succ_cons, List.take_succ_cons, List.take_zero, ↓reduceIte, Nat.reduceEqDiff, Nat.reduceAdd, Nat.reduceLeDiff, reduceCtorEq, Nat.zero_add, Nat.add_zero, decide_true, hg]
  refine call_m rfl e_f56 (mclone_calls hm) rfl ?_
  simp -implicitDefEqProofs (maxSteps := 10000000) (disch := omega) only [hm_nil, putS, Sf.set, setR, ↓reduceIte, Nat.reduceEqDiff, reduceCtorEq]
  rintro r st1 ⟨rfl, rfl⟩
  refine ⟨St.sub_push _ _, ?_⟩
  simp -implicitDefEqProofs (maxSteps := 10000000) (disch := omega) only [m_nil, postM_eq, compM_nil, tailM_eq, and_self, seqQ_normal, aC_ret, opsK_eq, retQ_ret, retI, runI_nil, runI_none, putP_eq, o_bst, o_own, o_boxB, bstV, boxX, buildA, wp_ok, bind_ok, ev_r, evOwn_r, disOp_r, putS, Sf.set, Sf.reg, mask_eq, maskR_nil, maskR_cons, getR, setR, maskL, Sf.disAt, dis_ptr, dis_map, dis_agg, own1_lit, own1_map, cells_map, cells_agg, solid1_lit, solid1_map, solid_eq, noL_ptr, List.map_cons, List.map_nil, List.length_cons, List.length_nil, List.getElem?_cons_zero, List.getElem?_cons_succ, List.all_cons, List.all_nil, List.set_cons_zero, List.set_cons_succ, ↓reduceIte, Nat.reduceEqDiff, Nat.reduceAdd, Nat.reduceLeDiff, Bool.true_and, Bool.and_true, and_true, true_and, reduceCtorEq, Nat.zero_add, len_push, setAt_nil, setAt_cons]
  refine hQ _ _ ⟨by simp [len_push], h.clone ?_ fun m' hm' => ?_, by simp [len_push], fun id hid => ?_⟩
  · have := get_push (st.push (.mp (encM .u64 ndAV m) (st.getB mid).1 (st.getB mid).2)) [.lit (.int .u64 (nxtOf L 0 : Nat)), .lit (.int .u64 (lastT 0 L : Nat)), .lit (.int .u64 (g : Nat)), .map st.boxes.length]
    rw [len_push] at this
    exact this
  · have e : encM .u64 ndAV m' = encM .u64 ndAV m := by
      have := hm'.get.symm.trans hm.get
      exact Option.some.inj this
    have := hm'.clone
    rw [e] at this
    exact this.push _
  · rw [push_at (by rw [len_push]; omega), push_at hid]

/-- The iterator over a queue that is not changed. -/
theorem iter_calls {o q mid g : Nat} {L : Qu} (y : Nat) (J : Nat → St → Prop) (Jx : St → Prop) (hkeep : ∀ i st', J i st' → st'.get o = some [.ptr q 0] ∧ QIs st' q mid L g)
    (hround : ∀ (i : Nat) (hi : i < L.length) (st' : St), J i st' → YCalls Go.Proofs.Try.prog y [.lit (.int .u64 (L[i].1 : Nat)), .lit (.int .i64 L[i].2)] st' (fun t st'' => (t = true ∧ J (i + 1) st'') ∨ (t = false ∧ Jx st''))) {st : St} (h0 : J 0 st) :
    ACalls Go.Proofs.Try.prog n_f55 [.yld y, .ptr o 0] st (fun _ st' => J L.length st' ∨ Jx st') := by
  refine acalls_op hmix k_f55 rfl rfl fun Q hQ => ?_
  unfold aFun c_f55
  obtain ⟨ho, hq⟩ := hkeep 0 st h0
  have hg := hq.get
  simp -implicitDefEqProofs (maxSteps := 10000000) (disch := omega) only [seqQ_normal, aC_skip, opsK_eq, runI_nil, runI_none, putP_eq, cond_ff, o_bin, o_addr, o_load, o_nilck, o_own, loadV, nilckV, n_nileq, eqNilI, isNilI, addA, derefI, takeI_none, wp_ok, bind_ok, ofOpt_some, ev_r, ev_c, setB_r, putS, Sf.set, Sf.reg, mask_eq, maskR_nil, maskR_cons, getR, setR, maskL, Sf.disAt, regs0, dis_yld, dis_lit, dis_ptr, List.drop_zero, ↓reduceIte, Nat.reduceEqDiff, reduceCtorEq, Nat.zero_add, Nat.add_zero, f55_1e, f55_2e, f55_3e, f55_3l, f55_4e, f55_5e, f55_6e, f55_6l, f55_7e, ho, hg]
  rw [f55_8w]
  refine loop_op (A := Nat × St) (fun a => L.length - a.1) (fun a => ⟨[(0, .yld y), (1, .ptr o 0), (3, .lit (.int .u64 (nxtOf (L.drop a.1) 0 : Nat)))], []⟩) (fun a => a.2) (fun a => a.1 ≤ L.length ∧ J a.1 a.2) (0, st) ⟨by simp, h0⟩ (by rw [List.drop_zero]; exact Sf.le_refl _) rfl ?_
  rintro ⟨i, st⟩ ⟨h1, h2⟩ K hK hKe hKr
  simp only at h1 h2
  obtain ⟨ho, hq⟩ := hkeep i st h2
  have hg := hq.get
  obtain ⟨m, hm, hl, hml⟩ := hq.mp
  by_cases hi : i < L.length
  · have ht := nxt_drop hi
    have hp := (hq.pos _ (tick_get hi)).1
    have hn := nodeA_get hq.nd hi
    have hk : ∀ z, lookupI (.int .u64) z false st (.map mid) (.lit (.int .u64 (L[i].1 : Nat))) = .ok (ndAV (L[i].2, lastT 0 (L.take i), nxtOf (L.drop (i + 1)) 0)) := fun z => by
      rw [lookI_enc hm, hl, hn]; rfl
    rw [ht]
    have hne : ((L[i].1 : Nat) : Int) ≠ 0 := by omega
    simp -implicitDefEqProofs (maxSteps := 10000000) (disch := omega) only [seqQ_normal, aC_skip, opsK_eq, runI_nil, runI_none, putP_eq, cond_tt, o_mv, o_bin, o_field, o_addr, o_load, o_nilck, o_lookup, o_call, fieldV, loadV, nilckV, addA, derefI, takeI_none, n_neq, wp_ok, bind_ok, ofOpt_some, ev_r, ev_c, setB_r, putS, Sf.set, Sf.reg, mask_eq, maskR_nil, maskR_cons, getR, setR, maskL, dis_yld, dis_lit, dis_ptr, dis_map, List.map_cons, List.map_nil, List.drop_zero, List.drop_succ_cons, ↓reduceIte, Nat.reduceEqDiff, reduceCtorEq, Nat.zero_add, not_false_eq_true, decide_true, f55_9e, f55_10e, f55_11e, f55_11l, f55_12e, f55_13e, f55_14e, f55_15e, f55_16e, f55_16l, ho, hg, hk, ndAV, hne]
    refine call_y rfl (hround i hi st h2) rfl fun t st1 hr => ?_
    rcases hr with ⟨rfl, hJ⟩ | ⟨rfl, hJ⟩
    · obtain ⟨ho1, hq1⟩ := hkeep (i + 1) st1 hJ
      have hg1 := hq1.get
      obtain ⟨m1, hm1, hl1, hml1⟩ := hq1.mp
      have hk1 : ∀ z, lookupI (.int .u64) z false st1 (.map mid) (.lit (.int .u64 (L[i].1 : Nat))) = .ok (ndAV (L[i].2, lastT 0 (L.take i), nxtOf (L.drop (i + 1)) 0)) := fun z => by
        rw [lookI_enc hm1, hl1, hn]; rfl
      simp -implicitDefEqProofs (maxSteps := 10000000) (disch := omega) only [seqQ_normal, blockQ_normal, aC_skip, opsK_eq, runI_nil, runI_none, putP_eq, cond_ff, o_mv, o_un, o_field, o_addr, o_load, o_nilck, o_lookup, o_own, fieldV, loadV, nilckV, addA, derefI, takeI_none, unA, wp_ok, bind_ok, ofOpt_some, ev_r, setB_r, putS, Sf.set, Sf.reg, mask_eq, maskR_nil, maskR_cons, getR, setR, maskL, Sf.disAt, dis_lit, dis_ptr, dis_map, List.drop_zero, List.drop_succ_cons, ↓reduceIte, Nat.reduceEqDiff, reduceCtorEq, Nat.zero_add, Bool.not_true, f55_17e, f55_18e, f55_18l, ho1, hg1, hk1, ndAV]
      exact hK (i + 1, st1) _ ⟨by simp only; omega, hJ⟩ (by simp only; omega) (Sf.le_refl _)
    · simp -implicitDefEqProofs (maxSteps := 10000000) (disch := omega) only [seqQ_normal, seqQ_ret, blockQ_ret, aC_ret, opsK_eq, runI_nil, runI_none, putP_eq, cond_tt, o_un, unA, wp_ok, ev_r, setB_r, putS, Sf.set, Sf.reg, mask_eq, maskR_nil, maskR_cons, getR, setR, maskL, ↓reduceIte, Nat.reduceEqDiff, reduceCtorEq, Bool.not_false, f55_17e]
      exact hKr _ _ (by simp -implicitDefEqProofs (maxSteps := 10000000) (disch := omega) only [blockQ_ret, retQ_ret, retI, resL, wp_ok, bind_ok, noL_tup, List.all_nil, ↓reduceIte, Bool.true_and, true_and]; exact hQ _ _ (.inr hJ))
  · have hiL : i = L.length := by omega
    subst hiL
    rw [List.drop_length]
    simp -implicitDefEqProofs (maxSteps := 10000000) (disch := omega) only [seqQ_normal, seqQ_exit, aC_exit, opsK_eq, runI_nil, runI_none, putP_eq, cond_ff, o_mv, o_bin, n_neq, wp_ok, ev_r, ev_c, setB_r, putS, Sf.set, Sf.reg, mask_eq, maskR_nil, maskR_cons, getR, setR, maskL, dis_lit, Int.cast_ofNat_Int, ↓reduceIte, Nat.reduceEqDiff, reduceCtorEq, not_true_eq_false, decide_false, f55_9e, f55_10e, f55_11e, f55_11l, f55_12e, nxtOf]
    exact hKe _ _ _ (by simp -implicitDefEqProofs (maxSteps := 10000000) (disch := omega) only [blockQ_exit, retQ_normal, retI, resL, wp_ok, bind_ok, noL_tup, List.all_nil, ↓reduceIte, Bool.true_and, true_and]; exact hQ _ _ (.inl h2))

/-- An iterator over no queue. -/
theorem iter_nil {o : Nat} (y : Nat) {st : St} (ho : st.get o = some [.lit (.pointer none)]) : ACalls Go.Proofs.Try.prog n_f55 [.yld y, .ptr o 0] st (fun _ st' => st' = st) := by
  refine acalls_op hmix k_f55 rfl rfl fun Q hQ => ?_
  unfold aFun c_f55
  simp -implicitDefEqProofs (maxSteps := 10000000) (disch := omega) only [seqQ_normal, seqQ_ret, aC_ret, opsK_eq, retQ_ret, retI, resL, runI_nil, runI_none, putP_eq, cond_tt, o_bin, o_load, loadV, n_nileq, eqNilI, isNilI, derefI, takeI_none, wp_ok, bind_ok, ofOpt_some, ev_r, ev_c, setB_r, putS, Sf.set, Sf.reg, mask_eq, maskR_nil, maskR_cons, getR, setR, maskL, regs0, dis_yld, dis_lit, dis_ptr, noL_tup, List.all_nil, List.drop_zero, ↓reduceIte, Nat.reduceEqDiff, Bool.true_and, true_and, reduceCtorEq, Nat.zero_add, f55_1e, f55_2e, f55_3e, f55_3l, f55_4e, ho]
  exact hQ _ _ rfl

/-- The place of a value. -/
theorem qplace_none {q mid g t : Nat} {L : Qu} {st : St} (h : QIs st q mid L g) (ht : t ∉ ticks L) :
    PCalls Go.Proofs.Try.prog n_f36 [.ptr q 0, .lit (.int .u64 (t : Nat))] st (.tup [.lit (.int .i64 0), .lit (.int .i64 9)]) := by
  refine pcalls_id hmix k_f36 rfl rfl fun Q hQ => ?_
  unfold aFun c_f36
  obtain ⟨m, hm, hl, hml⟩ := h.mp
  have hg := h.get
  have hk : ∀ z, lookupI (.int .u64) z true st (.map mid) (.lit (.int .u64 (t : Nat))) = .ok (.tup [z, .lit (.bool false)]) := fun z => by
    rw [lookI_enc hm, hl, nodeA_none ht]; rfl
  simp -implicitDefEqProofs (maxSteps := 10000000) (disch := omega) only [seqQ_normal, opsK_eq, runI_nil, runI_none, o_mv, o_call, ev_r, ev_c, ev_f, putS, Sf.set, Sf.reg, mask_eq, maskR_nil, maskR_cons, getR, setR, maskL, regs0, id, dis_lit, dis_ptr, List.map_cons, List.map_nil, ↓reduceIte, Nat.reduceEqDiff, reduceCtorEq, Nat.zero_add, f36_1e, f36_2e, f36_2l, f36_3e, f36_4e, f36_5e, f36_5l]
  refine call_p rfl e_f54 (qzero_pure hg) rfl ?_
  simp -implicitDefEqProofs (maxSteps := 10000000) (disch := omega) only [seqQ_normal, seqQ_ret, aC_skip, aC_ret, opsK_eq, retQ_ret, retI, resI, resL, runI_nil, runI_none, putP_eq, cond_tt, cond_ff, o_mv, o_un, o_ext, o_addr, o_load, o_nilck, o_lookup, o_own, o_newL, o_store, extV, loadV, nilckV, boxX, writeX, addA, derefI, takeI_none, unA, wp_ok, bind_ok, ofOpt_some, ev_r, ev_c, evOwn_r, disOp_r, setB_r, putS, Sf.set, Sf.reg, mask_eq, maskR_nil, maskR_cons, getR, setR, maskL, Sf.disAt, Sf.newLoc, Sf.setLoc, look, killR, drop1, dis_lit, dis_ptr, dis_map, dis_agg, dis_tup, own1_lit, own2_lit, own2_agg, cells_agg, solid1_lit, solid_eq, noL_lit, noL_tup, kill_lit, kill_ptr, kill_map, kill_agg, kill_tup, List.map_cons, List.map_nil, List.length_cons, List.length_nil, List.getElem?_cons_zero, List.getElem?_cons_succ, List.all_cons, List.all_nil, List.drop_zero, List.drop_succ_cons, ↓reduceIte, Nat.reduceEqDiff, Nat.reduceAdd, Nat.reduceLeDiff, Bool.true_and, Bool.and_true, and_true, true_and, reduceCtorEq, Nat.zero_add, Bool.not_false, setAt_nil, setAt_cons, f36_6e, f36_9e, f36_10e, f36_10l, f36_11e, f36_12e, f36_13e, f36_13l, f36_14e, f36_15e, f36_16e, f36_16l, hg, hk]
  exact hQ _

theorem qplace_at {q mid g i : Nat} {L : Qu} {st : St} (h : QIs st q mid L g) (hi : i < L.length) (hb : L.length < 1000000) :
    PCalls Go.Proofs.Try.prog n_f36 [.ptr q 0, .lit (.int .u64 (L[i].1 : Nat))] st (.tup [.lit (.int .i64 (i : Nat)), .lit (.int .i64 0)]) := by
  refine pcalls_id hmix k_f36 rfl rfl fun Q hQ => ?_
  unfold aFun c_f36
  obtain ⟨m, hm, hl, hml⟩ := h.mp
  have hg := h.get
  have hk : ∀ (ok : Bool) (z : AV) (j : Nat) (hj : j < L.length), lookupI (.int .u64) z ok st (.map mid) (.lit (.int .u64 (L[j].1 : Nat))) = .ok (if ok then .tup [ndAV (L[j].2, lastT 0 (L.take j), nxtOf (L.drop (j + 1)) 0), .lit (.bool true)] else ndAV (L[j].2, lastT 0 (L.take j), nxtOf (L.drop (j + 1)) 0)) := fun ok z j hj => by
    rw [lookI_enc hm, hl, nodeA_get h.nd hj]; rfl
  have hk0 := fun z => hk true z i hi
  simp -implicitDefEqProofs (maxSteps := 10000000) (disch := omega) only [seqQ_normal, opsK_eq, runI_nil, runI_none, o_mv, o_call, ev_r, ev_c, ev_f, putS, Sf.set, Sf.reg, mask_eq, maskR_nil, maskR_cons, getR, setR, maskL, regs0, id, dis_lit, dis_ptr, List.map_cons, List.map_nil, ↓reduceIte, Nat.reduceEqDiff, reduceCtorEq, Nat.zero_add, f36_1e, f36_2e, f36_2l, f36_3e, f36_4e, f36_5e, f36_5l]
  refine call_p rfl e_f54 (qzero_pure hg) rfl ?_
  simp -implicitDefEqProofs (maxSteps := 10000000) (disch := omega) only [seqQ_normal, aC_skip, opsK_eq, runI_nil, runI_none, putP_eq, cond_ff, o_mv, o_un, o_ext, o_addr, o_load, o_nilck, o_lookup, o_own, o_newL, o_store, extV, loadV, nilckV, boxX, writeX, addA, derefI, takeI_none, unA, wp_ok, bind_ok, ofOpt_some, ev_r, ev_c, evOwn_r, disOp_r, setB_r, putS, Sf.set, Sf.reg, mask_eq, maskR_nil, maskR_cons, getR, setR, maskL, Sf.disAt, Sf.newLoc, Sf.setLoc, look, killR, drop1, dis_lit, dis_ptr, dis_map, dis_agg, dis_tup, own1_lit, own2_lit, own2_agg, cells_agg, solid1_lit, solid_eq, kill_lit, kill_ptr, kill_map, kill_agg, kill_tup, List.map_cons, List.map_nil, List.length_cons, List.length_nil, List.getElem?_cons_zero, List.getElem?_cons_succ, List.all_cons, List.all_nil, List.drop_zero, List.drop_succ_cons, List.set_cons_zero, List.set_cons_succ, ↓reduceIte, Nat.reduceEqDiff, Nat.reduceAdd, Nat.reduceLeDiff, Bool.true_and, Bool.and_true, and_true, true_and, reduceCtorEq, Nat.zero_add, Bool.not_true, setAt_nil, setAt_cons, f36_6e, f36_9e, f36_10e, f36_10l, f36_11e, f36_12e, f36_13e, f36_13l, f36_14e, f36_17e, f36_18e, f36_18l, f36_19e, f36_20e, hg, hk0, ndAV]
  rw [f36_21w]
  refine loop_op (A := Nat × Nd) (fun a => a.1) (fun a => ⟨[(0, .ptr q 0), (6, .lptr 6 0), (8, .lit (.int .i64 ((i - a.1 : Nat))))], [(6, [.lit (.int .i64 a.2.1), .lit (.int .u64 (a.2.2.1 : Nat)), .lit (.int .u64 (a.2.2.2 : Nat))])]⟩) (fun _ => st)
    (fun a => a.1 ≤ i ∧ a.2.2.1 = lastT 0 (L.take a.1)) (i, (L[i].2, lastT 0 (L.take i), nxtOf (L.drop (i + 1)) 0)) ⟨Nat.le_refl _, rfl⟩ (by simp only [Nat.sub_self]; exact Sf.le_refl _) rfl ?_
  rintro ⟨j, x1, x2, x3⟩ ⟨h1, h2⟩ K hK hKe hKr
  simp only at h1 h2
  cases j with
  | zero =>
    have e : x2 = 0 := by rw [h2]; rfl
    subst e
    simp -implicitDefEqProofs (maxSteps := 10000000) (disch := omega) only [seqQ_normal, seqQ_exit, aC_exit, opsK_eq, runI_nil, runI_none, putP_eq, cond_ff, o_bin, o_addr, o_load, loadV, addA, derefI, takeI_none, n_neq, wp_ok, bind_ok, ofOpt_some, ev_r, ev_c, setB_r, putS, Sf.set, Sf.reg, mask_eq, maskR_nil, maskR_cons, getR, setR, maskL, look, dis_lit, List.drop_zero, List.drop_succ_cons, Int.cast_ofNat_Int, ↓reduceIte, Nat.reduceEqDiff, reduceCtorEq, Nat.zero_add, Nat.sub_zero, not_true_eq_false, decide_false, f36_22e, f36_23e, f36_24e, f36_24l, f36_25e]
    refine hKe _ _ _ ?_
    simp -implicitDefEqProofs (maxSteps := 10000000) (disch := omega) only [seqQ_normal, blockQ_exit, aC_ret, opsK_eq, retQ_ret, retI, resI, resL, runI_nil, runI_none, o_mv, o_own, wp_ok, bind_ok, ev_r, ev_c, putS, Sf.set, Sf.reg, mask_eq, maskR_nil, maskR_cons, getR, setR, maskL, Sf.disAt, dis_lit, noL_lit, noL_tup, List.all_cons, List.all_nil, ↓reduceIte, Nat.reduceEqDiff, Bool.true_and, Bool.and_true, and_true, true_and, f36_30e, f36_31e, f36_31l]
    exact hQ _
  | succ j =>
    have hj : j < L.length := by omega
    have e : x2 = L[j].1 := by rw [h2, List.take_succ_eq_append_getElem hj, last_app]; rfl
    subst e
    have hp := (h.pos _ (tick_get hj)).1
    have hne : ((L[j].1 : Nat) : Int) ≠ 0 := by omega
    have hk1 := fun z => hk false z j hj
    simp -implicitDefEqProofs (maxSteps := 10000000) (disch := omega) only [List.contains_nil, h_nil, h_none, hh_mv, hh_addr, hh_load, hh_nilck, val_head, tail_nil, seqQ_normal, blockQ_normal, aC_skip, opsK_eq, runI_nil, runI_none, putP_eq, cond_tt, o_mv, o_bin, o_addr, o_load, o_lookup, o_own, o_store, loadV, nilckV, boxX, writeX, addA, derefI, takeI_none, n_add, n_neq, wp_ok, bind_ok, ofOpt_some, ev_r, ev_c, evOwn_r, disOp_r, setB_r, putS, Sf.set, Sf.reg, mask_eq, maskR_nil, maskR_cons, getR, setR, maskL, Sf.disAt, Sf.setLoc, look, drop1, dropL, dis_lit, dis_ptr, dis_map, dis_agg, own1_lit, cells_agg, solid1_lit, solid_eq, List.map_cons, List.map_nil, List.length_cons, List.length_nil, List.all_cons, List.all_nil, List.drop_zero, List.drop_succ_cons, List.set_cons_zero, List.set_cons_succ, ↓reduceIte, Nat.reduceEqDiff, Nat.reduceAdd, Nat.reduceLeDiff, Bool.true_and, Bool.and_true, and_true, true_and, reduceCtorEq, Nat.zero_add, not_false_eq_true, decide_true, Bool.false_eq_true, IntWalk.i64_in, up_addL, setAt_nil, setAt_cons, f36_22e, f36_23e, f36_24e, f36_24l, f36_25e, f36_26e, f36_27e, f36_28e, f36_28h, f36_28l, f36_29e, f36_29l, hg, hne, hk1, ndAV]
    refine hK (j, (L[j].2, lastT 0 (L.take j), nxtOf (L.drop (j + 1)) 0)) _ ⟨by simp only; omega, rfl⟩ (by simp only; omega) ?_
    simp only
    rw [show i - j = i - (j + 1) + 1 by omega]
    exact Sf.le_refl _
end Go.Fx.YtenijlfcfmhmkaaFx

