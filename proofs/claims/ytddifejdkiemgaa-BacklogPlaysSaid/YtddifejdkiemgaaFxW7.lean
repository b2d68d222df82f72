/- What the functions that the statement reaches compute: part 7. -/
import Derived.Test.YtddifejdkiemgaaFxW6
namespace Go.Fx.YtddifejdkiemgaaFx
open Go Go.Fx
attribute [local irreducible] aC runI headI loopI

set_option maxRecDepth 100000
set_option maxHeartbeats 4000000

section
variable {st : St} {b q mid tid n g : Nat} {cl : Bool} {L : Qu}

theorem bclose_closed (h : BkIs st b q mid tid n true L g) : ACalls Go.Proofs.Try.prog n_f24 [.ptr b 0] st (fun r st' => r = .tup [.lit (.slice none 0 0), .lit (.int .i64 14)] ∧ st' = st) := by
  have hg := h.get
  refine acalls_op hmix k_f24 rfl rfl fun Q hQ => ?_
  unfold aFun c_f24
  simp -implicitDefEqProofs (maxSteps := 10000000) (disch := omega) only [seqQ_normal, opsK_eq, runI_nil, runI_none, o_mv, o_call, ev_r, ev_c, ev_f, putS, Sf.set, Sf.reg, mask_eq, maskR_nil, maskR_cons, getR, setR, maskL, regs0, id, dis_lit, dis_ptr, List.map_cons, List.map_nil, ↓reduceIte, Nat.reduceEqDiff, reduceCtorEq, f24_1e, f24_2e, f24_2l, f24_3e, f24_4e, f24_5e, f24_6e, f24_6l]
  refine call_p rfl e_f46 (bnone_pure hg) rfl ?_
  simp -implicitDefEqProofs (maxSteps := 10000000) (disch := omega) only [seqQ_normal, seqQ_ret, blockQ_ret, aC_ret, opsK_eq, retQ_ret, retI, resI, resL, runI_nil, runI_none, putP_eq, cond_tt, cond_ff, o_mv, o_addr, o_load, o_nilck, o_own, loadV, nilckV, addA, derefI, takeI_none, wp_ok, bind_ok, ofOpt_some, ev_r, ev_c, setB_r, putS, Sf.set, Sf.reg, mask_eq, maskR_nil, maskR_cons, getR, setR, maskL, Sf.disAt, dis_lit, dis_ptr, noL_lit, noL_tup, List.all_cons, List.all_nil, List.drop_zero, List.drop_succ_cons, ↓reduceIte, Nat.reduceEqDiff, Bool.true_and, Bool.and_true, and_true, true_and, reduceCtorEq, Nat.zero_add, f24_7e, f24_10e, f24_11e, f24_11l, f24_12e, f24_13e, f24_14e, f24_14l, hg]
  exact hQ _ _ ⟨rfl, rfl⟩

theorem bclose_calls (h : BkIs st b q mid tid n false L g) (hb : L.length < 100000) : ACalls Go.Proofs.Try.prog n_f24 [.ptr b 0] st (fun r st' =>
    r = .tup [lAV (conns L), .lit (.int .i64 0)] ∧ ∃ q' mid' tid', BkIs st' b q' mid' tid' n true [] 0 ∧ st.boxes.length ≤ q' ∧ st.boxes.length ≤ mid' ∧ st.boxes.length ≤ tid' ∧ st.boxes.length ≤ st'.boxes.length ∧ ∀ i, i < st.boxes.length → i ≠ b → st'.boxes[i]? = st.boxes[i]?) := by
  have hg := h.get
  have hlt := get_lt hg
  refine acalls_op hmix k_f24 rfl rfl fun Q hQ => ?_
  unfold aFun c_f24
  simp -implicitDefEqProofs (maxSteps := 10000000) (disch := omega) only [seqQ_normal, opsK_eq, runI_nil, runI_none, o_mv, o_call, ev_r, ev_c, ev_f, putS, Sf.set, Sf.reg, mask_eq, maskR_nil, maskR_cons, getR, setR, maskL, regs0, id, dis_lit, dis_ptr, List.map_cons, List.map_nil, ↓reduceIte, Nat.reduceEqDiff, reduceCtorEq, f24_1e, f24_2e, f24_2l, f24_3e, f24_4e, f24_5e, f24_6e, f24_6l]
  refine call_p rfl e_f46 (bnone_pure hg) rfl ?_
  simp -implicitDefEqProofs (maxSteps := 10000000) (disch := omega) only [seqQ_normal, blockQ_normal, aC_skip, opsK_eq, runI_nil, runI_none, putP_eq, cond_ff, o_mv, o_addr, o_load, o_nilck, o_own, o_call, loadV, nilckV, addA, derefI, takeI_none, wp_ok, bind_ok, ofOpt_some, ev_r, ev_f, setB_r, putS, Sf.set, Sf.reg, mask_eq, maskR_nil, maskR_cons, getR, setR, maskL, Sf.disAt, id, dis_lit, dis_ptr, List.map_cons, List.map_nil, List.drop_zero, List.drop_succ_cons, ↓reduceIte, Nat.reduceEqDiff, reduceCtorEq, Nat.zero_add, f24_7e, f24_10e, f24_11e, f24_11l, f24_12e, f24_15e, f24_16e, f24_16l, hg]
  refine call_a rfl e_f19 (bwaiting_calls h hb) rfl fun r st1 hr => ?_
  obtain ⟨rfl, hl1, hk1⟩ := hr
  have hcs : ∀ x, x = lAV (conns L) → (x = .lit (.slice none 0 0) ∨ ∃ es, x = .sl false 1 es) := fun x hx => by
    subst hx; unfold lAV
    split
    · exact .inl rfl
    · exact .inr ⟨_, rfl⟩
  obtain ⟨x, hx⟩ : ∃ x, x = lAV (conns L) := ⟨_, rfl⟩
  rw [← hx] at hQ ⊢
  rcases hcs x hx with rfl | ⟨es, rfl⟩
  all_goals
    simp -implicitDefEqProofs (maxSteps := 10000000) (disch := omega) only [seqQ_normal, opsK_eq, runI_nil, runI_none, o_mv, o_own, o_call, ev_r, ev_f, putS, Sf.set, Sf.reg, mask_eq, maskR_nil, maskR_cons, getR, setR, maskL, Sf.disAt, id, dis_lit, dis_ptr, dis_sl, List.map_nil, ↓reduceIte, Nat.reduceEqDiff, reduceCtorEq, f24_17e, f24_18e, f24_18l]
    refine call_a rfl e_f45 (qnew_calls st1) rfl fun r st2 hr => ?_
    obtain ⟨rfl, hq2, hl2, hk2⟩ := hr
    have hg2 : st2.get b = _ := (get_at ((hk2 b (by omega)).trans (hk1 b hlt))).trans hg
    have hg3 : (st2.push (.mp [] [] 0)).get b = some [.ptr q 0, .lit (.int .i64 (n : Nat)), .lit (.bool false), .map tid] := (get_at (push_at (by omega))).trans hg2
    have hm := MapIs.new st2 .i64 tkAV
    simp -implicitDefEqProofs (maxSteps := 10000000) (disch := omega) only [seqQ_normal, aC_ret, opsK_eq, retQ_ret, retI, resI, resL, runI_nil, runI_none, putP_eq, o_mv, o_addr, o_nilck, o_own, o_store, o_mkmap, nilckV, boxX, writeX, addA, wp_ok, bind_ok, ofOpt_some, ev_r, ev_c, evOwn_r, evOwn_c, disOp_r, disOp_c, putS, Sf.set, Sf.reg, mask_eq, maskR_nil, maskR_cons, getR, setR, maskL, Sf.disAt, dis_lit, dis_ptr, dis_sl, dis_map, cells_lit, cells_ptr, cells_map, solid1_lit, solid1_ptr, solid1_map, solid_eq, noL_lit, noL_sl, noL_tup, List.length_cons, List.length_nil, List.all_cons, List.all_nil, List.set_cons_zero, ↓reduceIte, Nat.reduceEqDiff, Nat.reduceAdd, Nat.reduceLeDiff, Bool.true_and, Bool.and_true, and_true, true_and, reduceCtorEq, Nat.zero_add, Nat.add_zero, get_push_old, setAt_nil, setAt_cons, set_set, f24_19e, f24_20e, f24_20l, hg2, hl2]
    have h3lt := get_lt hg3
    have hb3 : ∀ i, i < st2.boxes.length → (st2.push (.mp [] [] 0)).boxes[i]? = st2.boxes[i]? := fun i hi => push_at hi
    have h3len : (st2.push (.mp [] [] 0)).boxes.length = st1.boxes.length + 3 := by rw [len_push, hl2]
    rw [hl2] at hm
    generalize st2.push (.mp [] [] 0) = st3 at *
    have hgs : ∀ cs, (st3.set b cs).get b = some cs := fun cs => get_set h3lt
    simp -implicitDefEqProofs (maxSteps := 10000000) (disch := omega) only [wp_ok, ofOpt_some, List.length_cons, List.length_nil, List.set_cons_zero, List.set_cons_succ, Nat.reduceAdd, Nat.reduceLeDiff, Bool.true_and, true_and, Nat.zero_add, hgs]
    have hset : ∀ i, i ≠ b → (st3.set b [.ptr (st1.boxes.length + 1) 0, .lit (.int .i64 (n : Nat)), .lit (.bool true), .map (st1.boxes.length + 2)]).boxes[i]? = st3.boxes[i]? := fun i hi => set_at hi
    have e0 := hset st1.boxes.length (by omega)
    have e1 := hset (st1.boxes.length + 1) (by omega)
    have e2 := hset (st1.boxes.length + 2) (by omega)
    refine hQ _ _ ⟨rfl, st1.boxes.length + 1, st1.boxes.length, st1.boxes.length + 2, ⟨hgs _, (hq2.at (hb3 _ (by omega)) (hb3 _ (by omega))).at e1 e0, ⟨[], hm.at e2, fun _ => rfl⟩, by simp [conns], by simp [conns], by simp, by omega⟩, by omega, by omega, by omega, by rw [len_set]; omega, fun i hi hne => ?_⟩
    rw [hset i hne, hb3 i (by omega), hk2 i (by omega), hk1 i hi]
end
end Go.Fx.YtddifejdkiemgaaFx

