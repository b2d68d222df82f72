/- What the functions that the statement reaches compute: part 9. -/
import Derived.Test.YtenijlfcfmhmkaaFxW8
namespace Go.Fx.YtenijlfcfmhmkaaFx
open Go Go.Fx
attribute [local irreducible] aC runI headI loopI

set_option maxRecDepth 100000
set_option maxHeartbeats 4000000

/-! Nil and zero queues. -/
def Zq (st : St) (v : AV) : Prop := v = .lit (.pointer none) ∨ ∃ id, v = .ptr id 0 ∧ st.get id = some [.lit (.int .u64 0), .lit (.int .u64 0), .lit (.int .u64 0), .lit (.map none)]
theorem Zq.facts {st : St} {v : AV} (h : Zq st v) : v.dis = v ∧ v.noL = true := by
  rcases h with rfl | ⟨id, rfl, _⟩ <;> exact ⟨rfl, rfl⟩

theorem zzero_pure {st : St} {v : AV} (h : Zq st v) : PCalls Go.Proofs.Try.prog n_f54 [v] st (.lit (.bool true)) := by
  rcases h with rfl | ⟨zi, rfl, hg⟩
  · refine pcalls_id hmix k_f54 rfl rfl fun Q hQ => ?_
    unfold aFun c_f54
    simp -implicitDefEqProofs (maxSteps := 10000000) (disch := omega) only [seqQ_normal, aC_ret, opsK_eq, retQ_ret, retI, runI_nil, runI_none, runI_some, skipI_eq, AI.dst, putP_eq, guard_tt, o_mv, o_pick, o_bin, o_own, pick_tt, n_nileq, eqNilI, isNilI, wp_ok, bind_ok, ofOpt_some, ev_r, ev_c, putS, Sf.set, Sf.reg, mask_eq, maskR_nil, maskR_cons, getR, setR, maskL, Sf.disAt, regs0, dis_lit, noL_lit, ↓reduceIte, Nat.reduceEqDiff, Bool.true_and, true_and, reduceCtorEq, Bool.false_eq_true, f54_1e, f54_2e, f54_2l, f54_3e, f54_4e, f54_4l]
    exact hQ _
  · refine pcalls_id hmix k_f54 rfl rfl fun Q hQ => ?_
    unfold aFun c_f54
    simp -implicitDefEqProofs (maxSteps := 10000000) (disch := omega) only [seqQ_normal, aC_ret, opsK_eq, retQ_ret, retI, runI_nil, runI_none, runI_some, AI.dst, putP_eq, guard_ff, o_mv, o_pick, o_bin, o_addr, o_load, o_nilck, o_own, pick_ff, loadV, nilckV, n_nileq, eqNilI, isNilI, addA, derefI, takeI_none, wp_ok, bind_ok, ofOpt_some, ev_r, ev_c, putS, Sf.set, Sf.reg, mask_eq, maskR_nil, maskR_cons, getR, setR, maskL, Sf.disAt, regs0, dis_lit, dis_ptr, noL_lit, List.drop_zero, List.drop_succ_cons, ↓reduceIte, Nat.reduceEqDiff, Bool.true_and, true_and, reduceCtorEq, Nat.zero_add, Bool.false_eq_true, f54_1e, f54_2e, f54_2l, f54_3e, f54_4e, f54_4l, hg]
    exact hQ _

theorem zpush_pure {st : St} {v : AV} (h : Zq st v) (x : Int) : PCalls Go.Proofs.Try.prog n_f32 [v, .lit (.int .i64 x)] st (.tup [.lit (.int .u64 0), .lit (.int .i64 1)]) := by
  obtain ⟨h1, h2⟩ := h.facts
  refine pcalls_id hmix k_f32 rfl rfl fun Q hQ => ?_
  unfold aFun c_f32
  simp -implicitDefEqProofs (maxSteps := 10000000) (disch := omega) only [seqQ_normal, opsK_eq, runI_nil, runI_none, o_mv, o_call, ev_r, ev_c, ev_f, putS, Sf.set, Sf.reg, mask_eq, maskR_nil, maskR_cons, getR, setR, maskL, regs0, id, dis_lit, List.map_cons, List.map_nil, ↓reduceIte, Nat.reduceEqDiff, reduceCtorEq, Nat.zero_add, f32_1e, f32_2e, f32_2l, f32_3e, f32_4e, f32_5e, f32_6e, f32_6l, h1]
  refine call_p (vs := [v]) (by simp [h1]) e_f54 (zzero_pure h) (by simp [h2]) ?_
  simp -implicitDefEqProofs (maxSteps := 10000000) (disch := omega) only [seqQ_normal, seqQ_ret, blockQ_ret, aC_ret, opsK_eq, retQ_ret, retI, resI, resL, runI_nil, runI_none, cond_tt, o_mv, o_own, wp_ok, bind_ok, ev_r, ev_c, setB_r, putS, Sf.set, Sf.reg, mask_eq, maskR_nil, maskR_cons, getR, setR, maskL, Sf.disAt, dis_lit, noL_lit, noL_tup, List.all_cons, List.all_nil, ↓reduceIte, Nat.reduceEqDiff, Bool.true_and, Bool.and_true, and_true, true_and, reduceCtorEq, f32_7e, f32_8e, f32_9e, f32_9l]
  exact hQ _

theorem zfront_pure {st : St} {v : AV} (h : Zq st v) : PCalls Go.Proofs.Try.prog n_f26 [v] st (.tup [.lit (.int .i64 0), .lit (.int .u64 0), .lit (.int .i64 1)]) := by
  obtain ⟨h1, h2⟩ := h.facts
  refine pcalls_id hmix k_f26 rfl rfl fun Q hQ => ?_
  unfold aFun c_f26
  simp -implicitDefEqProofs (maxSteps := 10000000) (disch := omega) only [seqQ_normal, opsK_eq, runI_nil, runI_none, o_mv, o_call, ev_r, ev_c, ev_f, putS, Sf.set, Sf.reg, mask_eq, maskR_nil, maskR_cons, getR, setR, maskL, regs0, id, dis_lit, List.map_cons, List.map_nil, ↓reduceIte, Nat.reduceEqDiff, reduceCtorEq, f26_1e, f26_2e, f26_2l, f26_3e, f26_4e, f26_5e, f26_6e, f26_6l, h1]
  refine call_p (vs := [v]) (by simp [h1]) e_f54 (zzero_pure h) (by simp [h2]) ?_
  simp -implicitDefEqProofs (maxSteps := 10000000) (disch := omega) only [seqQ_normal, seqQ_ret, blockQ_ret, aC_ret, opsK_eq, retQ_ret, retI, resI, resL, runI_nil, runI_none, cond_tt, o_mv, o_own, wp_ok, bind_ok, ev_r, ev_c, setB_r, putS, Sf.set, Sf.reg, mask_eq, maskR_nil, maskR_cons, getR, setR, maskL, Sf.disAt, dis_lit, noL_lit, noL_tup, List.all_cons, List.all_nil, ↓reduceIte, Nat.reduceEqDiff, Bool.true_and, Bool.and_true, and_true, true_and, reduceCtorEq, f26_7e, f26_8e, f26_9e, f26_9l]
  exact hQ _

theorem zpop_pure {st : St} {v : AV} (h : Zq st v) : PCalls Go.Proofs.Try.prog n_f31 [v] st (.tup [.lit (.int .i64 0), .lit (.int .u64 0), .lit (.int .i64 1)]) := by
  obtain ⟨h1, h2⟩ := h.facts
  refine pcalls_id hmix k_f31 rfl rfl fun Q hQ => ?_
  unfold aFun c_f31
  simp -implicitDefEqProofs (maxSteps := 10000000) (disch := omega) only [seqQ_normal, opsK_eq, runI_nil, runI_none, o_mv, o_call, ev_r, ev_c, ev_f, putS, Sf.set, Sf.reg, mask_eq, maskR_nil, maskR_cons, getR, setR, maskL, regs0, id, dis_lit, List.map_cons, List.map_nil, ↓reduceIte, Nat.reduceEqDiff, reduceCtorEq, f31_1e, f31_2e, f31_2l, f31_3e, f31_4e, f31_4l, h1]
  refine call_p (vs := [v]) (by simp [h1]) e_f26 (zfront_pure h) (by simp [h2]) ?_
  simp -implicitDefEqProofs (maxSteps := 10000000) (disch := omega) only [seqQ_normal, aC_skip, aC_ret, opsK_eq, retQ_ret, retI, resI, resL, runI_nil, runI_none, putP_eq, cond_ff, o_mv, o_bin, o_ext, o_own, extV, n_eql, wp_ok, bind_ok, ofOpt_some, ev_r, ev_c, setB_r, putS, Sf.set, Sf.reg, mask_eq, maskR_nil, maskR_cons, getR, setR, maskL, Sf.disAt, dis_lit, dis_tup, own2_lit, noL_lit, noL_tup, List.map_cons, List.map_nil, List.getElem?_cons_zero, List.getElem?_cons_succ, List.all_cons, List.all_nil, ↓reduceIte, Nat.reduceEqDiff, Int.reduceEq, Bool.true_and, Bool.and_true, and_true, true_and, reduceCtorEq, decide_false, f31_5e, f31_6e, f31_7e, f31_7l, f31_8e, f31_10e, f31_11e, f31_11l]
  exact hQ _

theorem zremove_pure {st : St} {v : AV} (h : Zq st v) (x : Int) : PCalls Go.Proofs.Try.prog n_f35 [v, .lit (.int .u64 x)] st (.tup [.lit (.int .i64 0), .lit (.int .i64 1)]) := by
  obtain ⟨h1, h2⟩ := h.facts
  refine pcalls_id hmix k_f35 rfl rfl fun Q hQ => ?_
  unfold aFun c_f35
  simp -implicitDefEqProofs (maxSteps := 10000000) (disch := omega) only [seqQ_normal, opsK_eq, runI_nil, runI_none, o_mv, o_call, ev_r, ev_c, ev_f, putS, Sf.set, Sf.reg, mask_eq, maskR_nil, maskR_cons, getR, setR, maskL, regs0, id, dis_lit, List.map_cons, List.map_nil, ↓reduceIte, Nat.reduceEqDiff, reduceCtorEq, Nat.zero_add, f35_1e, f35_2e, f35_2l, f35_3e, f35_4e, f35_5e, f35_5l, h1]
  refine call_p (vs := [v]) (by simp [h1]) e_f54 (zzero_pure h) (by simp [h2]) ?_
  simp -implicitDefEqProofs (maxSteps := 10000000) (disch := omega) only [seqQ_normal, seqQ_ret, aC_ret, opsK_eq, retQ_ret, retI, resI, resL, runI_nil, runI_none, cond_tt, o_mv, wp_ok, bind_ok, ev_r, ev_c, setB_r, putS, Sf.set, Sf.reg, mask_eq, maskR_nil, maskR_cons, getR, setR, maskL, dis_lit, noL_lit, noL_tup, List.all_cons, List.all_nil, ↓reduceIte, Nat.reduceEqDiff, Bool.true_and, Bool.and_true, and_true, true_and, reduceCtorEq, f35_6e, f35_7e, f35_8e, f35_8l]
  exact hQ _

theorem zplace_pure {st : St} {v : AV} (h : Zq st v) (x : Int) : PCalls Go.Proofs.Try.prog n_f36 [v, .lit (.int .u64 x)] st (.tup [.lit (.int .i64 0), .lit (.int .i64 1)]) := by
  obtain ⟨h1, h2⟩ := h.facts
  refine pcalls_id hmix k_f36 rfl rfl fun Q hQ => ?_
  unfold aFun c_f36
  simp -implicitDefEqProofs (maxSteps := 10000000) (disch := omega) only [seqQ_normal, opsK_eq, runI_nil, runI_none, o_mv, o_call, ev_r, ev_c, ev_f, putS, Sf.set, Sf.reg, mask_eq, maskR_nil, maskR_cons, getR, setR, maskL, regs0, id, dis_lit, List.map_cons, List.map_nil, ↓reduceIte, Nat.reduceEqDiff, reduceCtorEq, Nat.zero_add, f36_1e, f36_2e, f36_2l, f36_3e, f36_4e, f36_5e, f36_5l, h1]
  refine call_p (vs := [v]) (by simp [h1]) e_f54 (zzero_pure h) (by simp [h2]) ?_
  simp -implicitDefEqProofs (maxSteps := 10000000) (disch := omega) only [seqQ_normal, seqQ_ret, aC_ret, opsK_eq, retQ_ret, retI, resI, resL, runI_nil, runI_none, cond_tt, o_mv, wp_ok, bind_ok, ev_r, ev_c, setB_r, putS, Sf.set, Sf.reg, mask_eq, maskR_nil, maskR_cons, getR, setR, maskL, dis_lit, noL_lit, noL_tup, List.all_cons, List.all_nil, ↓reduceIte, Nat.reduceEqDiff, Bool.true_and, Bool.and_true, and_true, true_and, reduceCtorEq, f36_6e, f36_7e, f36_8e, f36_8l]
  exact hQ _

theorem zlen_pure {st : St} {v : AV} (h : Zq st v) : PCalls Go.Proofs.Try.prog n_f28 [v] st (.lit (.int .i64 0)) := by
  obtain ⟨h1, h2⟩ := h.facts
  refine pcalls_id hmix k_f28 rfl rfl fun Q hQ => ?_
  unfold aFun c_f28
  simp -implicitDefEqProofs (maxSteps := 10000000) (disch := omega) only [seqQ_normal, opsK_eq, runI_nil, runI_none, o_mv, o_call, ev_r, ev_c, ev_f, putS, Sf.set, Sf.reg, mask_eq, maskR_nil, maskR_cons, getR, setR, maskL, regs0, id, dis_lit, List.map_cons, List.map_nil, ↓reduceIte, reduceCtorEq, f28_1e, f28_2e, f28_2l, f28_3e, f28_4e, f28_5e, f28_5l, h1]
  refine call_p (vs := [v]) (by simp [h1]) e_f54 (zzero_pure h) (by simp [h2]) ?_
  simp -implicitDefEqProofs (maxSteps := 10000000) (disch := omega) only [seqQ_normal, seqQ_ret, aC_ret, opsK_eq, retQ_ret, retI, runI_nil, runI_none, cond_tt, o_mv, wp_ok, ev_r, ev_c, setB_r, putS, Sf.set, Sf.reg, mask_eq, maskR_nil, maskR_cons, getR, setR, maskL, dis_lit, noL_lit, ↓reduceIte, Nat.reduceEqDiff, Bool.true_and, true_and, reduceCtorEq, f28_6e, f28_7e, f28_8e, f28_8l]
  exact hQ _

theorem zcopy_pure {st : St} {v : AV} (h : Zq st v) : PCalls Go.Proofs.Try.prog n_f37 [v] st (.lit (.pointer none)) := by
  obtain ⟨h1, h2⟩ := h.facts
  refine pcalls_id hmix k_f37 rfl rfl fun Q hQ => ?_
  unfold aFun c_f37
  simp -implicitDefEqProofs (maxSteps := 10000000) (disch := omega) only [seqQ_normal, opsK_eq, runI_nil, runI_none, o_mv, o_call, ev_r, ev_c, ev_f, putS, Sf.set, Sf.reg, mask_eq, maskR_nil, maskR_cons, getR, setR, maskL, regs0, id, dis_lit, List.map_cons, List.map_nil, ↓reduceIte, reduceCtorEq, f37_1e, f37_2e, f37_2l, f37_3e, f37_4e, f37_5e, f37_5l, h1]
  refine call_p (vs := [v]) (by simp [h1]) e_f54 (zzero_pure h) (by simp [h2]) ?_
  simp -implicitDefEqProofs (maxSteps := 10000000) (disch := omega) only [seqQ_normal, seqQ_ret, aC_ret, opsK_eq, retQ_ret, retI, runI_nil, runI_none, cond_tt, o_mv, wp_ok, ev_r, ev_c, setB_r, putS, Sf.set, Sf.reg, mask_eq, maskR_nil, maskR_cons, getR, setR, maskL, dis_lit, noL_lit, ↓reduceIte, Nat.reduceEqDiff, Bool.true_and, true_and, reduceCtorEq, f37_6e, f37_7e, f37_8e, f37_8l]
  exact hQ _

theorem zall_calls {st : St} {v : AV} (h : Zq st v) : ACalls Go.Proofs.Try.prog n_f30 [v] st
    (fun r st' => ∃ o, r = .fn (.func n_f55) [] [.ptr o 0] ∧ st'.get o = some [.lit (.pointer none)] ∧ st.boxes.length ≤ o ∧ st.boxes.length ≤ st'.boxes.length ∧ ∀ id, id < st.boxes.length → st'.boxes[id]? = st.boxes[id]?) := by
  obtain ⟨h1, h2⟩ := h.facts
  refine acalls_op hmix k_f30 rfl rfl fun Q hQ => ?_
  unfold aFun c_f30
  simp -implicitDefEqProofs (maxSteps := 10000000) (disch := omega) only [seqQ_normal, opsK_eq, runI_nil, runI_none, o_mv, o_call, ev_r, ev_c, ev_f, putS, Sf.set, Sf.reg, mask_eq, maskR_nil, maskR_cons, getR, setR, maskL, regs0, id, dis_lit, List.map_cons, List.map_nil, ↓reduceIte, reduceCtorEq, f30_1e, f30_2e, f30_2l, f30_3e, f30_4e, f30_4l, h1]
  refine call_p (vs := [v]) (by simp [h1]) e_f37 (zcopy_pure h) (by simp [h2]) ?_
  simp -implicitDefEqProofs (maxSteps := 10000000) (disch := omega) only [seqQ_normal, aC_ret, opsK_eq, retQ_ret, retI, runI_nil, runI_none, putP_eq, o_mkfn, o_own, o_newB, o_store, mkfnV, boxX, writeX, wp_ok, ofOpt_some, ev_r, evOwn_r, disOp_r, putS, Sf.set, Sf.reg, mask_eq, maskR_nil, maskR_cons, getR, setR, maskL, Sf.disAt, id, dis_lit, dis_fn, cells_lit, solid1_lit, solid1_ptr, solid_eq, noL_fn, List.map_cons, List.map_nil, List.length_cons, List.length_nil, List.all_cons, List.all_nil, List.nil_append, List.set_cons_zero, ↓reduceIte, Nat.reduceEqDiff, Nat.reduceLeDiff, Bool.true_and, Bool.and_true, and_true, true_and, reduceCtorEq, Nat.zero_add, get_push, set_push, setAt_nil, setAt_cons, f30_5e, f30_6e, f30_6l]
  exact hQ _ _ ⟨st.boxes.length, rfl, get_push .., by omega, by rw [len_push]; omega, fun id hid => push_at hid⟩

/-- Nothing to go over. -/
theorem all_zero {st0 : St} {v : AV} (h : Zq st0 v) : ACalls Go.Proofs.Try.prog n_f29 [v, .lit (.slice none 0 0)] st0
    (fun r st' => r = .lit (.bool true) ∧ st0.boxes.length ≤ st'.boxes.length ∧ ∀ id, id < st0.boxes.length → st'.boxes[id]? = st0.boxes[id]?) := by
  obtain ⟨h1, h2⟩ := h.facts
  refine acalls_op hmix k_f29 rfl rfl fun Q hQ => ?_
  unfold aFun c_f29
  simp -implicitDefEqProofs (maxSteps := 10000000) (disch := omega) only [seqQ_normal, opsK_eq, runI_nil, runI_none, o_mv, o_newB, o_boxB, o_call, boxX, ev_r, ev_f, evOwn_r, disOp_r, putS, Sf.set, Sf.reg, mask_eq, maskR_nil, maskR_cons, getR, setR, maskL, Sf.disAt, regs0, id, dis_lit, cells_lit, solid1_lit, solid_eq, List.map_cons, List.map_nil, List.length_cons, List.length_nil, List.all_cons, List.all_nil, ↓reduceIte, Nat.reduceEqDiff, Bool.true_and, Bool.and_true, and_true, true_and, reduceCtorEq, Nat.zero_add, len_push, f29_1e, f29_2e, f29_2l, f29_3e, f29_4e, f29_4l, h1]
  have hz : Zq ((st0.push (.cells [.lit (.slice none 0 0)])).push (.cells [.lit (.bool false)])) v := by
    rcases h with rfl | ⟨zi, rfl, hg⟩
    · exact .inl rfl
    · have := get_lt hg
      exact .inr ⟨zi, rfl, by rw [get_push_old (by rw [len_push]; omega), get_push_old this]; exact hg⟩
  refine call_a (vs := [v]) (by simp [h1]) e_f30 (zall_calls hz) (by simp [h2]) fun x st1 hx => ?_
  obtain ⟨o, rfl, ho, l1, l4, hold⟩ := hx
  simp only [len_push] at l1 l4 hold
  have hw : st1.get st0.boxes.length = some [.lit (.slice none 0 0)] := (get_at (hold _ (by omega))).trans (by
    rw [get_push_old (by rw [len_push]; omega)]; exact get_push ..)
  have hr : st1.get (st0.boxes.length + 1) = some [.lit (.bool false)] := (get_at (hold _ (by omega))).trans (by
    have := get_push (st0.push (.cells [.lit (.slice none 0 0)])) [.lit (.bool false)]
    rw [len_push] at this; exact this)
  have hol : ∀ id, id < st0.boxes.length → st1.boxes[id]? = st0.boxes[id]? := fun id hid => by rw [hold id (by omega), push_at (by rw [len_push]; omega), push_at hid]
  have hoL := get_lt ho
  simp -implicitDefEqProofs (maxSteps := 10000000) (disch := omega) only [seqQ_normal, aC_skip, opsK_eq, runI_nil, runI_none, putP_eq, cond_ff, o_mv, o_bin, o_own, o_newB, o_store, boxX, writeX, n_nileq, eqNilI, isNilI, wp_ok, bind_ok, ofOpt_some, ev_r, ev_c, evOwn_c, disOp_c, setB_r, putS, Sf.set, Sf.reg, mask_eq, maskR_nil, maskR_cons, getR, setR, maskL, Sf.disAt, dis_lit, dis_fn, cells_lit, solid1_lit, solid_eq, List.length_cons, List.length_nil, List.all_cons, List.all_nil, List.set_cons_zero, ↓reduceIte, Nat.reduceEqDiff, Nat.reduceLeDiff, Bool.true_and, Bool.and_true, and_true, true_and, reduceCtorEq, Nat.zero_add, get_push, set_push, setAt_nil, setAt_cons, f29_5e, f29_6e, f29_7e, f29_7l, f29_8e, f29_11e, f29_12e, f29_12l, f29_13e, f29_14e, f29_15e, f29_15l, f29_16e]
  rw [f29_17w]
  refine ⟨rfl, range_a e_f55 fun r hy => ?_⟩
  clear hy
  generalize hst2 : st1.push (.cells [.lit (.int .i64 0)]) = st2
  have e2 : st2.boxes.length = st1.boxes.length + 1 := by rw [← hst2, len_push]
  have b2 : ∀ id, id < st1.boxes.length → st2.boxes[id]? = st1.boxes[id]? := fun id hid => by rw [← hst2]; exact push_at hid
  have i2 : st2.get st1.boxes.length = some [.lit (.int .i64 0)] := by rw [← hst2]; exact get_push ..
  generalize regsB _ _ = rs
  have b3 : ∀ id, id < st2.boxes.length → (st2.push (.lp r rs)).boxes[id]? = st2.boxes[id]? := fun id hid => push_at hid
  refine ⟨_, iter_nil (o := o) st2.boxes.length (by rw [get_at (b3 _ (by omega)), get_at (b2 _ (by omega))]; exact ho), fun v st' hs => ?_⟩
  subst hs
  left
  refine ⟨push_isLp .., ?_⟩
  have b4 : ∀ id, id < st2.boxes.length → ((st2.push (.lp r rs)).drop st2.boxes.length).boxes[id]? = st2.boxes[id]? := fun id hid => by rw [drop_box_ne (by omega), b3 id hid]
  have gw : ((st2.push (.lp r rs)).drop st2.boxes.length).get st0.boxes.length = some [.lit (.slice none 0 0)] := by rw [get_at (b4 _ (by omega)), get_at (b2 _ (by omega))]; exact hw
  have gi : ((st2.push (.lp r rs)).drop st2.boxes.length).get st1.boxes.length = some [.lit (.int .i64 0)] := by rw [get_at (b4 _ (by omega))]; exact i2
  have gr : ((st2.push (.lp r rs)).drop st2.boxes.length).get (st0.boxes.length + 1) = some [.lit (.bool false)] := by rw [get_at (b4 _ (by omega)), get_at (b2 _ (by omega))]; exact hr
  have glt := get_lt gr
  generalize (st2.push (.lp r rs)).drop st2.boxes.length = st4 at *
  simp -implicitDefEqProofs (maxSteps := 10000000) (disch := omega) only [seqQ_normal, blockQ_normal, aC_ret, opsK_eq, retQ_ret, retI, resI, runI_nil, runI_none, putP_eq, o_bin, o_load, o_len, o_store, loadV, boxX, writeX, lenI, derefI, takeI_none, n_eql, wp_ok, bind_ok, ofOpt_some, ev_r, evOwn_r, disOp_r, putS, Sf.set, Sf.reg, mask_eq, maskR_nil, maskR_cons, getR, setR, maskL, Sf.disAt, dis_lit, cells_lit, solid1_lit, solid_eq, noL_lit, List.length_cons, List.length_nil, List.all_cons, List.all_nil, List.drop_zero, List.set_cons_zero, ↓reduceIte, Nat.reduceEqDiff, Nat.reduceLeDiff, Bool.true_and, Bool.and_true, and_true, true_and, Nat.zero_add, decide_true, get_set, setAt_nil, setAt_cons, f29_29e, f29_30e, f29_30l, gw, gi, gr]
  refine hQ _ _ ⟨rfl, ?_, fun id hid => ?_⟩
  · rw [len_set]; omega
  · rw [set_at (by omega), b4 id (by omega), b2 id (by omega)]
    exact hol id hid

theorem fifoNil_law (x t : Int) : ACalls Go.Proofs.Try.prog n_f8 [.lit (.int .i64 x), .lit (.int .u64 t)] ⟨[]⟩ (fun v _ => v = .lit (.bool true)) := by
  refine acalls_op hmix k_f8 rfl rfl fun Q hQ => ?_
  unfold aFun c_f8
  simp -implicitDefEqProofs (maxSteps := 10000000) (disch := omega) only [and_self, seqQ_normal, opsK_eq, runI_nil, runI_none, putP_eq, o_mv, o_bsl, o_bst, o_len, o_boxB, bslV, bstV, boxX, List.reduceReplicate, lenI, fillA, buildA, wp_ok, bind_ok, ev_r, ev_c, evOwn_r, disOp_r, putS, Sf.set, Sf.reg, mask_eq, maskR_nil, maskR_cons, getR, setR, maskL, Sf.disAt, regs0, dis_lit, dis_ptr, dis_agg, own1_lit, cells_lit, cells_ptr, cells_agg, solid1_lit, solid1_ptr, solid_eq, List.map_cons, List.map_nil, List.length_cons, List.length_nil, List.all_cons, List.all_nil, List.set_cons_zero, List.set_cons_succ, Int.cast_ofNat_Int, ↓reduceIte, Nat.reduceEqDiff, Nat.reduceAdd, Nat.reduceLT, Bool.true_and, Bool.and_true, and_true, true_and, reduceCtorEq, Nat.zero_add, f8_1e, f8_2e, f8_2l, f8_3e, f8_4e, f8_4l, f8_5e, f8_6e, f8_7e, f8_7l, f8_8e]
  generalize hst : (St.push ⟨[]⟩ (.cells [.lit (.int .u64 0), .lit (.int .u64 0), .lit (.int .u64 0), .lit (.map none)])) = st1
  have hg : st1.get 0 = some [.lit (.int .u64 0), .lit (.int .u64 0), .lit (.int .u64 0), .lit (.map none)] := by rw [← hst]; exact get_push ..
  have hz1 : Zq st1 (.lit (.pointer none)) := .inl rfl
  have hz2 : ∀ st2 : St, st2.boxes[0]? = st1.boxes[0]? → Zq st2 (.ptr 0 0) := fun st2 hb => .inr ⟨0, rfl, (get_at hb).trans hg⟩
  have hl := get_lt hg
  rw [f8_9w]
  refine loop_rounds 3 ?_
  simp -implicitDefEqProofs (maxSteps := 10000000) (disch := omega) only [and_self, seqQ_normal, aC_skip, opsK_eq, runI_nil, runI_none, putP_eq, cond_tt, o_mv, o_bin, o_ixS, o_load, o_own, o_call, ixSV, loadV, ixA, derefI, takeI_none, n_lss, wp_ok, bind_ok, bind_req, req_tt, ev_r, ev_f, setB_r, putS, Sf.set, Sf.reg, mask_eq, maskR_nil, maskR_cons, getR, setR, maskL, Sf.disAt, id, dis_lit, cells_lit, List.map_cons, List.map_nil, List.length_cons, List.length_nil, List.getD_cons_zero, Int.toNat_zero, Int.cast_ofNat_Int, ↓reduceIte, Nat.reduceEqDiff, Nat.reduceAdd, Int.reduceLT, Int.reduceLE, reduceCtorEq, Nat.zero_add, decide_true, f8_10e, f8_11e, f8_11l, f8_12e, f8_13e, f8_14e, f8_15e, f8_16e, f8_17e, f8_17l, f8_18e, f8_19e, f8_19l, loopN_succ]
  refine call_p rfl e_f32 (zpush_pure hz1 _) rfl ?_
  simp -implicitDefEqProofs (maxSteps := 10000000) (disch := omega) only [seqQ_normal, opsK_eq, runI_nil, runI_none, putP_eq, o_mv, o_ext, o_own, o_call, extV, wp_ok, bind_ok, ofOpt_some, ev_r, ev_f, putS, Sf.set, Sf.reg, mask_eq, maskR_nil, maskR_cons, getR, setR, maskL, Sf.disAt, id, dis_lit, dis_tup, own2_lit, List.map_cons, List.map_nil, List.getElem?_cons_zero, List.getElem?_cons_succ, ↓reduceIte, Nat.reduceEqDiff, reduceCtorEq, f8_20e, f8_21e, f8_21l]
  refine call_p rfl e_f31 (zpop_pure hz1) rfl ?_
  simp -implicitDefEqProofs (maxSteps := 10000000) (disch := omega) only [seqQ_normal, opsK_eq, runI_nil, runI_none, putP_eq, o_mv, o_ext, o_own, o_call, extV, wp_ok, bind_ok, ofOpt_some, ev_r, ev_f, putS, Sf.set, Sf.reg, mask_eq, maskR_nil, maskR_cons, getR, setR, maskL, Sf.disAt, id, dis_lit, dis_tup, own2_lit, List.map_cons, List.map_nil, List.getElem?_cons_zero, List.getElem?_cons_succ, ↓reduceIte, Nat.reduceEqDiff, reduceCtorEq, f8_22e, f8_23e, f8_23l]
  refine call_p rfl e_f26 (zfront_pure hz1) rfl ?_
  simp -implicitDefEqProofs (maxSteps := 10000000) (disch := omega) only [seqQ_normal, opsK_eq, runI_nil, runI_none, putP_eq, o_mv, o_ext, o_own, o_call, extV, wp_ok, bind_ok, ofOpt_some, ev_r, ev_f, putS, Sf.set, Sf.reg, mask_eq, maskR_nil, maskR_cons, getR, setR, maskL, Sf.disAt, id, dis_lit, dis_tup, own2_lit, List.map_cons, List.map_nil, List.getElem?_cons_zero, List.getElem?_cons_succ, ↓reduceIte, Nat.reduceEqDiff, reduceCtorEq, f8_24e, f8_25e, f8_25l]
  refine call_p rfl e_f35 (zremove_pure hz1 _) rfl ?_
  simp -implicitDefEqProofs (maxSteps := 10000000) (disch := omega) only [seqQ_normal, opsK_eq, runI_nil, runI_none, putP_eq, o_mv, o_ext, o_own, o_call, extV, wp_ok, bind_ok, ofOpt_some, ev_r, ev_f, putS, Sf.set, Sf.reg, mask_eq, maskR_nil, maskR_cons, getR, setR, maskL, Sf.disAt, id, dis_lit, dis_tup, own2_lit, List.map_cons, List.map_nil, List.getElem?_cons_zero, List.getElem?_cons_succ, ↓reduceIte, Nat.reduceEqDiff, reduceCtorEq, f8_26e, f8_27e, f8_27l]
  refine call_p rfl e_f36 (zplace_pure hz1 _) rfl ?_
  simp -implicitDefEqProofs (maxSteps := 10000000) (disch := omega) only [seqQ_normal, opsK_eq, runI_nil, runI_none, runI_some, AI.dst, putP_eq, guard_ff, o_mv, o_pick, o_bin, o_ext, o_own, o_call, pick_ff, extV, n_neq, wp_ok, bind_ok, ofOpt_some, ev_r, ev_c, ev_f, putS, Sf.set, Sf.reg, mask_eq, maskR_nil, maskR_cons, getR, setR, maskL, Sf.disAt, id, dis_lit, dis_tup, own2_lit, List.map_cons, List.map_nil, List.getElem?_cons_zero, List.getElem?_cons_succ, ↓reduceIte, Nat.reduceEqDiff, reduceCtorEq, not_true_eq_false, decide_false, Bool.false_eq_true, f8_28e, f8_29e, f8_29l]
  refine call_p rfl e_f28 (zlen_pure hz1) rfl ?_
  simp -implicitDefEqProofs (maxSteps := 10000000) (disch := omega) only [runI_none, runI_some, AI.dst, putP_eq, guard_ff, o_mv, o_pick, o_bin, o_call, pick_ff, n_neq, wp_ok, ev_r, ev_c, ev_f, putS, Sf.set, Sf.reg, getR, setR, id, dis_lit, List.map_cons, List.map_nil, ↓reduceIte, Nat.reduceEqDiff, reduceCtorEq, not_true_eq_false, decide_false, Bool.false_eq_true]
  refine call_p rfl e_f37 (zcopy_pure hz1) rfl ?_
  simp -implicitDefEqProofs (maxSteps := 10000000) (disch := omega) only [runI_none, runI_some, AI.dst, putP_eq, guard_ff, o_mv, o_pick, o_bin, o_call, pick_ff, n_nilne, eqNilI, isNilI, wp_ok, bind_ok, ofOpt_some, ev_r, ev_c, ev_f, putS, Sf.set, Sf.reg, getR, setR, id, dis_lit, List.map_cons, List.map_nil, ↓reduceIte, Nat.reduceEqDiff, reduceCtorEq, Bool.not_true, Bool.false_eq_true]
  refine call_a rfl e_f29 (all_zero hz1) rfl fun r st2 hr => ?_
  obtain ⟨rfl, hl2, hb⟩ := hr
  have hz := hz2 st2 (hb 0 hl)
  simp -implicitDefEqProofs (maxSteps := 10000000) (disch := omega) only [and_self, seqQ_normal, blockQ_normal, aC_skip, opsK_eq, runI_nil, runI_none, runI_some, AI.dst, putP_eq, cond_tt, cond_ff, unrQ_normal, guard_ff, o_mv, o_pick, o_bin, o_un, o_ixS, o_load, o_own, o_call, pick_ff, ixSV, loadV, ixA, derefI, takeI_none, unA, n_add, n_lss, wp_ok, bind_ok, bind_req, req_tt, ev_r, ev_c, ev_f, setB_r, putS, Sf.set, Sf.reg, mask_eq, maskR_nil, maskR_cons, getR, setR, maskL, Sf.disAt, id, dis_lit, dis_ptr, cells_ptr, List.map_cons, List.map_nil, List.length_cons, List.length_nil, List.getD_cons_zero, List.getD_cons_succ, Int.toNat_one, Int.cast_ofNat_Int, ↓reduceIte, Nat.reduceEqDiff, Nat.reduceAdd, Int.reduceLT, Int.reduceLE, reduceCtorEq, Nat.zero_add, decide_true, Bool.not_true, Bool.false_eq_true, IntWalk.i64_in, Int.zero_add, f8_10e, f8_11e, f8_11l, f8_12e, f8_13e, f8_14e, f8_15e, f8_16e, f8_17e, f8_17l, f8_18e, f8_19e, f8_19l, f8_30e, f8_33e, f8_33l, loopN_succ]
  refine call_p rfl e_f32 (zpush_pure hz _) rfl ?_
  simp -implicitDefEqProofs (maxSteps := 10000000) (disch := omega) only [seqQ_normal, opsK_eq, runI_nil, runI_none, putP_eq, o_mv, o_ext, o_own, o_call, extV, wp_ok, bind_ok, ofOpt_some, ev_r, ev_f, putS, Sf.set, Sf.reg, mask_eq, maskR_nil, maskR_cons, getR, setR, maskL, Sf.disAt, id, dis_lit, dis_ptr, dis_tup, own2_lit, List.map_cons, List.map_nil, List.getElem?_cons_zero, List.getElem?_cons_succ, ↓reduceIte, Nat.reduceEqDiff, reduceCtorEq, f8_20e, f8_21e, f8_21l]
  refine call_p rfl e_f31 (zpop_pure hz) rfl ?_
  simp -implicitDefEqProofs (maxSteps := 10000000) (disch := omega) only [seqQ_normal, opsK_eq, runI_nil, runI_none, putP_eq, o_mv, o_ext, o_own, o_call, extV, wp_ok, bind_ok, ofOpt_some, ev_r, ev_f, putS, Sf.set, Sf.reg, mask_eq, maskR_nil, maskR_cons, getR, setR, maskL, Sf.disAt, id, dis_lit, dis_ptr, dis_tup, own2_lit, List.map_cons, List.map_nil, List.getElem?_cons_zero, List.getElem?_cons_succ, ↓reduceIte, Nat.reduceEqDiff, reduceCtorEq, f8_22e, f8_23e, f8_23l]
  refine call_p rfl e_f26 (zfront_pure hz) rfl ?_
  simp -implicitDefEqProofs (maxSteps := 10000000) (disch := omega) only [seqQ_normal, opsK_eq, runI_nil, runI_none, putP_eq, o_mv, o_ext, o_own, o_call, extV, wp_ok, bind_ok, ofOpt_some, ev_r, ev_f, putS, Sf.set, Sf.reg, mask_eq, maskR_nil, maskR_cons, getR, setR, maskL, Sf.disAt, id, dis_lit, dis_ptr, dis_tup, own2_lit, List.map_cons, List.map_nil, List.getElem?_cons_zero, List.getElem?_cons_succ, ↓reduceIte, Nat.reduceEqDiff, reduceCtorEq, f8_24e, f8_25e, f8_25l]
  refine call_p rfl e_f35 (zremove_pure hz _) rfl ?_
  simp -implicitDefEqProofs (maxSteps := 10000000) (disch := omega) only [seqQ_normal, opsK_eq, runI_nil, runI_none, putP_eq, o_mv, o_ext, o_own, o_call, extV, wp_ok, bind_ok, ofOpt_some, ev_r, ev_f, putS, Sf.set, Sf.reg, mask_eq, maskR_nil, maskR_cons, getR, setR, maskL, Sf.disAt, id, dis_lit, dis_ptr, dis_tup, own2_lit, List.map_cons, List.map_nil, List.getElem?_cons_zero, List.getElem?_cons_succ, ↓reduceIte, Nat.reduceEqDiff, reduceCtorEq, f8_26e, f8_27e, f8_27l]
  refine call_p rfl e_f36 (zplace_pure hz _) rfl ?_
  simp -implicitDefEqProofs (maxSteps := 10000000) (disch := omega) only [seqQ_normal, opsK_eq, runI_nil, runI_none, runI_some, AI.dst, putP_eq, guard_ff, o_mv, o_pick, o_bin, o_ext, o_own, o_call, pick_ff, extV, n_neq, wp_ok, bind_ok, ofOpt_some, ev_r, ev_c, ev_f, putS, Sf.set, Sf.reg, mask_eq, maskR_nil, maskR_cons, getR, setR, maskL, Sf.disAt, id, dis_lit, dis_ptr, dis_tup, own2_lit, List.map_cons, List.map_nil, List.getElem?_cons_zero, List.getElem?_cons_succ, ↓reduceIte, Nat.reduceEqDiff, reduceCtorEq, not_true_eq_false, decide_false, Bool.false_eq_true, f8_28e, f8_29e, f8_29l]
  refine call_p rfl e_f28 (zlen_pure hz) rfl ?_
  simp -implicitDefEqProofs (maxSteps := 10000000) (disch := omega) only [runI_none, runI_some, AI.dst, putP_eq, guard_ff, o_mv, o_pick, o_bin, o_call, pick_ff, n_neq, wp_ok, ev_r, ev_c, ev_f, putS, Sf.set, Sf.reg, getR, setR, id, dis_lit, dis_ptr, List.map_cons, List.map_nil, ↓reduceIte, Nat.reduceEqDiff, reduceCtorEq, not_true_eq_false, decide_false, Bool.false_eq_true]
  refine call_p rfl e_f37 (zcopy_pure hz) rfl ?_
  simp -implicitDefEqProofs (maxSteps := 10000000) (disch := omega) only [runI_none, runI_some, AI.dst, putP_eq, guard_ff, o_mv, o_pick, o_bin, o_call, pick_ff, n_nilne, eqNilI, isNilI, wp_ok, bind_ok, ofOpt_some, ev_r, ev_c, ev_f, putS, Sf.set, Sf.reg, getR, setR, id, dis_lit, dis_ptr, List.map_cons, List.map_nil, ↓reduceIte, Nat.reduceEqDiff, reduceCtorEq, Bool.not_true, Bool.false_eq_true]
  refine call_a rfl e_f29 (all_zero hz) rfl fun r st3 hr => ?_
  obtain ⟨rfl, hl3, hb3⟩ := hr
  simp -implicitDefEqProofs (maxSteps := 10000000) (disch := omega) only [seqQ_normal, seqQ_exit, blockQ_normal, blockQ_exit, aC_skip, aC_exit, opsK_eq, runI_nil, runI_none, runI_some, AI.dst, putP_eq, cond_ff, unrQ_normal, unrQ_exit, guard_ff, o_mv, o_pick, o_bin, o_un, o_call, pick_ff, unA, n_add, n_lss, wp_ok, ev_r, ev_c, ev_f, setB_r, putS, Sf.set, Sf.reg, mask_eq, maskR_nil, maskR_cons, getR, setR, maskL, id, dis_lit, List.map_nil, ↓reduceIte, Nat.reduceEqDiff, Int.reduceLT, Int.reduceAdd, reduceCtorEq, decide_false, Bool.not_true, Bool.false_eq_true, IntWalk.i64_in, f8_10e, f8_11e, f8_11l, f8_12e, f8_13e, f8_30e, f8_33e, f8_33l, f8_34e, f8_35e, f8_35l, loopN_succ]
  refine call_a rfl e_f23 (known06 _) rfl fun r st1 hr => ?_
  subst hr
  simp -implicitDefEqProofs (maxSteps := 10000000) (disch := omega) only [seqQ_normal, aC_ret, opsK_eq, retQ_ret, retI, runI_nil, runI_none, o_own, wp_ok, putS, Sf.set, Sf.reg, mask_eq, maskR_nil, maskR_cons, getR, setR, maskL, Sf.disAt, dis_lit, noL_lit, ↓reduceIte, Nat.reduceEqDiff, Bool.true_and, true_and]
  exact hQ _ _ rfl

/-! As many as there may be. -/
def ordQ (n : Nat) : Qu := (List.range n).map fun i => (i + 1, ((i + 1 : Nat) : Int))
theorem ordQ_succ (n : Nat) : ordQ (n + 1) = ordQ n ++ [(n + 1, ((n + 1 : Nat) : Int))] := by simp [ordQ, List.range_succ]
theorem ordQ_len (n : Nat) : (ordQ n).length = n := by simp [ordQ]
theorem ordQ_drop {n j : Nat} (h : j < n) : (ordQ n).drop j = (j + 1, ((j + 1 : Nat) : Int)) :: (ordQ n).drop (j + 1) := by
  rw [List.drop_eq_getElem_cons (by rw [ordQ_len]; exact h)]
  simp [ordQ]

end Go.Fx.YtenijlfcfmhmkaaFx

