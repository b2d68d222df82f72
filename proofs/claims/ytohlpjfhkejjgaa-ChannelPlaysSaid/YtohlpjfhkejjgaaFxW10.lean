/- What the functions that the statement reaches compute: part 10. -/
import Derived.Test.YtohlpjfhkejjgaaFxW9
namespace Go.Fx.YtohlpjfhkejjgaaFx
open Go Go.Fx
attribute [local irreducible] aC runI headI loopI

set_option maxRecDepth 100000
set_option maxHeartbeats 4000000

theorem cnew_err {n : Int} (hn : n < 0 ∨ 4096 < n) (st : St) : PCalls Go.Proofs.Try.prog n_f9 [.lit (.int .i64 n)] st (.tup [.lit (.pointer none), .lit (.int .i64 2)]) := by
  refine pcalls_id hmix k_f9 rfl rfl fun Q hQ => ?_
  unfold aFun c_f9
  simp -implicitDefEqProofs (maxSteps := 10000000) (disch := omega) only [seqQ_normal, opsK_eq, runI_nil, runI_none, runI_some, AI.dst, putP_eq, o_mv, o_bin, n_lss, wp_ok, ev_r, ev_c, putS, Sf.set, Sf.reg, mask_eq, maskR_nil, maskR_cons, getR, setR, maskL, regs0, dis_lit, ↓reduceIte, Nat.reduceEqDiff, reduceCtorEq, f9_1e, f9_2e, f9_2l, f9_3e, f9_4e, f9_5e, f9_5l]
  refine guard_split (fun h1 => ?_) (fun h1 => ?_)
  · simp -implicitDefEqProofs (maxSteps := 10000000) (disch := omega) only [seqQ_normal, seqQ_ret, aC_ret, opsK_eq, retQ_ret, retI, resI, resL, runI_nil, runI_none, runI_some, skipI_eq, AI.dst, putP_eq, cond_tt, guard_tt, o_mv, o_pick, pick_tt, wp_ok, bind_ok, ev_r, ev_c, setB_r, putS, Sf.set, Sf.reg, mask_eq, maskR_nil, maskR_cons, getR, setR, maskL, dis_lit, noL_lit, noL_tup, List.all_cons, List.all_nil, ↓reduceIte, Nat.reduceEqDiff, Bool.true_and, Bool.and_true, and_true, true_and, reduceCtorEq, Bool.false_eq_true, f9_6e, f9_7e, f9_8e, f9_8l]
    exact hQ _
  · simp -implicitDefEqProofs (maxSteps := 10000000) (disch := omega) only [seqQ_normal, seqQ_ret, aC_ret, opsK_eq, retQ_ret, retI, resI, resL, runI_nil, runI_none, runI_some, AI.dst, putP_eq, guard_ff, o_mv, o_pick, o_bin, pick_ff, n_gtr, wp_ok, bind_ok, ev_r, ev_c, setB_r, putS, Sf.set, Sf.reg, mask_eq, maskR_nil, maskR_cons, getR, setR, maskL, dis_lit, noL_lit, noL_tup, List.all_cons, List.all_nil, ↓reduceIte, Nat.reduceEqDiff, Bool.true_and, Bool.and_true, and_true, true_and, reduceCtorEq, Bool.false_eq_true, cond_yes, f9_6e, f9_7e, f9_8e, f9_8l]
    exact hQ _

def newP (n : Nat) : ChP := ⟨false, n, [], [], [], 0, 0⟩

theorem cnew_calls {n : Nat} (hn : n ≤ 4096) (st : St) : ACalls Go.Proofs.Try.prog n_f9 [.lit (.int .i64 (n : Nat))] st (fun r st' =>
    r = .tup [.ptr (st.boxes.length + 5) 0, .lit (.int .i64 0)] ∧ ChIs st' (st.boxes.length + 5) (newP n) (st.boxes.length + 1) st.boxes.length (st.boxes.length + 3) (st.boxes.length + 2) (st.boxes.length + 4) (.lit (.slice none 0 0)) ∧ Kp st st' []) := by
  refine acalls_op hmix k_f9 rfl rfl fun Q hQ => ?_
  unfold aFun c_f9
  simp -implicitDefEqProofs (maxSteps := 10000000) (disch := omega) only [seqQ_normal, aC_skip, opsK_eq, runI_nil, runI_none, runI_some, AI.dst, putP_eq, guard_ff, o_mv, o_pick, o_bin, o_call, pick_ff, n_lss, n_gtr, wp_ok, ev_r, ev_c, ev_f, setB_r, putS, Sf.set, Sf.reg, mask_eq, maskR_nil, maskR_cons, getR, setR, maskL, regs0, id, dis_lit, List.map_nil, ↓reduceIte, Nat.reduceEqDiff, reduceCtorEq, Bool.false_eq_true, cond_no, guard_no, f9_1e, f9_2e, f9_2l, f9_3e, f9_4e, f9_5e, f9_5l, f9_6e, f9_9e, f9_10e, f9_10l]
  refine call_a rfl e_f24 (qnew_calls st) rfl fun r st1 hr => ?_
  obtain ⟨rfl, hq1, hl1, hk1⟩ := hr
  simp -implicitDefEqProofs (maxSteps := 10000000) (disch := omega) only [runI_none, o_call, ev_f, putS, Sf.set, setR, id, List.map_nil, ↓reduceIte, Nat.reduceEqDiff, reduceCtorEq]
  refine call_a rfl e_f24 (qnew_calls st1) rfl fun r st2 hr => ?_
  obtain ⟨rfl, hq2, hl2, hk2⟩ := hr
  rw [hl1] at hq2 hl2 hk2 ⊢
  simp -implicitDefEqProofs (maxSteps := 10000000) (disch := omega) only [and_self, seqQ_normal, aC_ret, opsK_eq, retQ_ret, retI, resI, resL, runI_nil, runI_none, putP_eq, o_mv, o_bst, o_bar, o_own, o_boxB, o_mkmap, bstV, barV, boxX, buildA, wp_ok, bind_ok, ev_r, ev_c, evOwn_r, disOp_r, putS, Sf.set, Sf.reg, mask_eq, maskR_nil, maskR_cons, getR, setR, maskL, Sf.disAt, dis_lit, dis_ptr, dis_map, dis_agg, own1_lit, own1_ptr, own1_map, cells_lit, cells_ptr, cells_map, cells_agg, solid1_lit, solid1_ptr, solid1_map, solid_eq, noL_lit, noL_ptr, noL_tup, List.map_cons, List.map_nil, List.length_cons, List.length_nil, List.getElem?_cons_zero, List.getElem?_cons_succ, List.all_cons, List.all_nil, List.set_cons_zero, List.set_cons_succ, ↓reduceIte, Nat.reduceEqDiff, Nat.reduceAdd, Nat.reduceLeDiff, Bool.true_and, Bool.and_true, and_true, true_and, reduceCtorEq, Nat.zero_add, len_push, setAt_nil, setAt_cons, Nat.mul_one, hl2]
  have hm := (MapIs.new st2 .i64 wtAV).push (.cells [.lit (.bool true), .lit (.bool false), .lit (.int .i64 (n : Nat)), .lit (.slice none 0 0), .ptr (st.boxes.length + 1) 0, .ptr (st.boxes.length + 2 + 1) 0, .map (st.boxes.length + 2 + 2)])
  have hg := get_push (st2.push (.mp [] [] 0)) [.lit (.bool true), .lit (.bool false), .lit (.int .i64 (n : Nat)), .lit (.slice none 0 0), .ptr (st.boxes.length + 1) 0, .ptr (st.boxes.length + 2 + 1) 0, .map (st.boxes.length + 2 + 2)]
  rw [len_push, hl2] at hg
  rw [hl2] at hm
  have hat : ∀ x, x < st.boxes.length + 2 + 2 → ((st2.push (.mp [] [] 0)).push (.cells [.lit (.bool true), .lit (.bool false), .lit (.int .i64 (n : Nat)), .lit (.slice none 0 0), .ptr (st.boxes.length + 1) 0, .ptr (st.boxes.length + 2 + 1) 0, .map (st.boxes.length + 2 + 2)])).boxes[x]? = st2.boxes[x]? := fun x hx => by
    rw [push_at (by rw [len_push]; omega), push_at (by omega)]
  refine hQ _ _ ⟨by simp, ⟨?_, .inl ⟨rfl, rfl⟩, (hq1.at (hk2 _ (by omega)) (hk2 _ (by omega))).at (hat _ (by omega)) (hat _ (by omega)), hq2.at (hat _ (by omega)) (hat _ (by omega)), ⟨[], hm, fun _ => rfl⟩, by simp <;> omega, by simp [bufIds], by simp [newP, entC, wEnt, keysP], by simp [newP, entC, wEnt, keysP], by simp [newP]⟩, ⟨by simp only [len_push]; omega, fun x hx _ => ?_⟩⟩
  · simpa [newP, Nat.add_assoc] using hg
  · rw [hat x (by omega), hk2 x (by omega), hk1 x hx]
end Go.Fx.YtohlpjfhkejjgaaFx

