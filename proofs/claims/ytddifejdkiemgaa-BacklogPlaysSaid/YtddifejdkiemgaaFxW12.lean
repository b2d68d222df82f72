/- What the functions that the statement reaches compute: part 12. -/
import Derived.Test.YtddifejdkiemgaaFxW11
namespace Go.Fx.YtddifejdkiemgaaFx
open Go Go.Fx
attribute [local irreducible] aC runI headI loopI

set_option maxRecDepth 100000
set_option maxHeartbeats 4000000

theorem gAV_dis (l : List Int) : (gAV l).dis = lAV l := by
  unfold gAV lAV
  split <;> rfl
theorem gAV_noL (l : List Int) : (gAV l).noL = true := by
  unfold gAV
  split <;> rfl

theorem find_some (A B : List Int) (c : Int) (hA : c ∉ A) (hl : A.length ≤ 1000000) (st : St) : PCalls Go.Proofs.Try.prog n_f23 [.sl false 1 (ints (A ++ c :: B)), .lit (.int .i64 c)] st (.lit (.int .i64 (A.length : Nat))) := by
  refine pcalls_id hmix k_f23 rfl rfl fun Q hQ => ?_
  unfold aFun c_f23
  have hll : (ints (A ++ c :: B)).length = A.length + (B.length + 1) := by rw [ints_len]; simp
  simp -implicitDefEqProofs (maxSteps := 10000000) (disch := omega) only [seqQ_normal, opsK_eq, runI_nil, runI_none, o_mv, ev_c, putS, Sf.set, mask_eq, maskR_nil, maskR_cons, getR, setR, maskL, regs0, dis_lit, dis_sl, ↓reduceIte, Nat.reduceEqDiff, reduceCtorEq, Nat.zero_add, f23_1e, f23_2e, f23_2l, f23_3e, f23_4e, f23_5e, f23_5l, f23_6e]
  rw [f23_7w]
  refine loop_op (A := Nat) (fun a => A.length + 1 - a) (fun a => ⟨[(0, .sl false 1 (ints (A ++ c :: B))), (1, .lit (.int .i64 c)), (5, .lit (.int .i64 (a : Nat)))], []⟩) (fun _ => st)
    (fun a => a ≤ A.length) 0 (by omega) (Sf.le_refl _) rfl ?_
  rintro i h1 K hK hKe hKr
  by_cases h : i < A.length
  · have e1 : (ints (A ++ c :: B)).getD i .any = .lit (.int .i64 A[i]) := by simp [ints, List.getD, List.getElem?_append, h]
    have hne : ¬ A[i] = c := fun e => hA (e ▸ List.getElem_mem h)
    simp -implicitDefEqProofs (maxSteps := 10000000) (disch := omega) only [seqQ_normal, blockQ_normal, aC_skip, opsK_eq, runI_nil, runI_none, putP_eq, o_mv, o_bin, o_ixS, o_load, o_len, o_own, ixSV, loadV, ixA, lenI, derefI, takeI_none, n_add, n_eql, n_lss, wp_ok, bind_ok, bind_req, ev_r, ev_c, setB_r, putS, Sf.set, Sf.reg, mask_eq, maskR_nil, maskR_cons, getR, setR, maskL, Sf.disAt, dis_lit, dis_sl, cells_lit, Int.toNat_natCast, ↓reduceIte, Nat.reduceEqDiff, reduceCtorEq, req_dec, cond_yes, cond_no, IntWalk.i64_in, up_addL, and_pre, f23_8e, f23_9e, f23_10e, f23_10l, f23_11e, f23_12e, f23_13e, f23_14e, f23_15e, f23_15l, f23_16e, f23_19e, f23_19l, e1, hll]
    exact hK (i + 1) _ (by omega) (by omega) (Sf.le_refl _)
  · have hi : i = A.length := by omega
    subst hi
    have e1 : (ints (A ++ c :: B)).getD A.length .any = .lit (.int .i64 c) := by simp [ints, List.getD, List.getElem?_append]
    simp -implicitDefEqProofs (maxSteps := 10000000) (disch := omega) only [seqQ_normal, seqQ_ret, blockQ_ret, aC_skip, aC_ret, opsK_eq, runI_nil, runI_none, putP_eq, cond_tt, o_mv, o_bin, o_ixS, o_load, o_len, o_own, ixSV, loadV, ixA, lenI, derefI, takeI_none, n_eql, n_lss, wp_ok, bind_ok, bind_req, ev_r, setB_r, putS, Sf.set, Sf.reg, mask_eq, maskR_nil, maskR_cons, getR, setR, maskL, Sf.disAt, dis_lit, dis_sl, cells_lit, Int.toNat_natCast, ↓reduceIte, Nat.reduceEqDiff, reduceCtorEq, decide_true, req_dec, cond_yes, and_pre, f23_8e, f23_9e, f23_10e, f23_10l, f23_11e, f23_12e, f23_13e, f23_14e, f23_15e, f23_15l, f23_16e, f23_17e, f23_18e, f23_18l, e1, hll]
    refine hKr _ _ ?_
    simp -implicitDefEqProofs (maxSteps := 10000000) (disch := omega) only [seqQ_ret, blockQ_ret, retQ_ret, retI, wp_ok, Sf.reg, getR, noL_lit, ↓reduceIte, Bool.true_and, true_and]
    exact hQ _

theorem without_pure (A B : List Int) (c : Int) (hA : A.length ≤ 100000) (hB : B.length ≤ 100000) (st : St) : PCalls Go.Proofs.Try.prog n_f21 [.sl false 1 (ints (A ++ c :: B)), .lit (.int .i64 (A.length : Nat))] st (gAV (A ++ B)) := by
  refine pcalls_id hmix k_f21 rfl rfl fun Q hQ => ?_
  unfold aFun c_f21
  have hll : (ints (A ++ c :: B)).length = A.length + (B.length + 1) := by rw [ints_len]; simp
  have ht : (ints (A ++ c :: B)).take A.length = ints A := by rw [ints_app, List.take_left' (ints_len A)]
  have hd : (ints (A ++ c :: B)).drop (A.length + 1) = ints B := by
    rw [ints_app, show ints (c :: B) = [.lit (.int .i64 c)] ++ ints B from rfl, ← List.append_assoc, List.drop_left' (by simp [ints_len])]
  have hdis : ∀ l : List Int, (ints l).map AV.dis = ints l := fun l => by simp only [ints, List.map_map]; rfl
  have hq : Q (gAV (A ++ B)) st := hQ _
  have hni : ints ([] : List Int) = [] := rfl
  have hco : ∀ (x : Int) (l : List Int), gAV (x :: l) = .sl true 1 (.lit (.int .i64 x) :: ints l) := fun x l => by unfold gAV; rw [if_neg (by simp)]; rfl
  have hci : ∀ (x : Int) (l : List Int), ints (x :: l) = .lit (.int .i64 x) :: ints l := fun _ _ => rfl
  have hal := fun l => ints_len l
  generalize ints (A ++ c :: B) = X at *
  have hfull : ∀ n, X.length ≤ n → X.take n = X := fun n h => List.take_of_length_le h
  rcases A with _ | ⟨a, A⟩
  · simp only [List.length_nil, Nat.zero_add, List.nil_append] at hll hd hq ⊢
    rcases B with _ | ⟨b, B⟩
    · simp only [List.length_nil] at hll
      simp -implicitDefEqProofs (maxSteps := 10000000) (disch := omega) only [h_nil, h_none, hh_mv, hh_bin, hh_sliS, hh_app, val_head, tail_nil, and_self, seqQ_normal, aC_ret, opsK_eq, retQ_ret, retI, runI_nil, runI_none, putP_eq, o_mv, o_own, o_appS, sliSV, appSX, List.isEmpty_nil, ixTo, appNewI, srcA, n_add, wp_ok, bind_ok, bind_req, req_tt, ev_r, ev_c, putS, Sf.set, Sf.reg, mask_eq, maskR_nil, maskR_cons, getR, setR, maskL, Sf.disAt, dropL, regs0, dis_lit, dis_sl, noL_lit, Option.map_some, Option.map_none, List.drop_zero, List.take_zero, Int.toNat_zero, Int.toNat_one, Int.cast_ofNat_Int, ↓reduceIte, Nat.reduceEqDiff, Int.reduceLE, Bool.true_and, true_and, reduceCtorEq, Nat.zero_add, decide_true, IntWalk.i64_in, Int.zero_add, f21_1e, f21_2e, f21_2l, f21_3e, f21_4e, f21_4h, f21_4l, hfull, hll, hd, hni]
      exact hq
    · rw [hco] at hq
      rw [hci] at hd
      simp only [List.length_cons] at hll hB
      simp -implicitDefEqProofs (maxSteps := 10000000) (disch := omega) only [h_nil, h_none, hh_mv, hh_bin, hh_sliS, hh_app, val_head, tail_nil, seqQ_normal, aC_ret, opsK_eq, retQ_ret, retI, runI_nil, runI_none, putP_eq, o_mv, o_own, o_appS, sliSV, appSX, List.isEmpty_cons, List.isEmpty_nil, ixTo, appNewI, srcA, n_add, wp_ok, bind_ok, bind_req, req_tt, ev_r, ev_c, putS, Sf.set, Sf.reg, mask_eq, maskR_nil, maskR_cons, getR, setR, maskL, Sf.disAt, dropL, regs0, dis_lit, dis_sl, noL_sl, List.map_cons, List.length_cons, Option.map_some, Option.map_none, List.drop_zero, List.take_zero, Int.toNat_zero, Int.toNat_one, Int.cast_ofNat_Int, ↓reduceIte, Nat.reduceEqDiff, Int.reduceLE, Bool.true_and, true_and, reduceCtorEq, Nat.zero_add, Bool.false_eq_true, req_dec, room_of, IntWalk.i64_in, Int.zero_add, f21_1e, f21_2e, f21_2l, f21_3e, f21_4e, f21_4h, f21_4l, hfull, hll, hd, hdis, hal]
      exact hq
  · rw [List.cons_append, hco, ints_app] at hq
    rw [hci a A] at ht
    simp only [List.length_cons] at hll ht hd hA ⊢
    rcases B with _ | ⟨b, B⟩
    · simp only [List.length_nil] at hll
      simp -implicitDefEqProofs (maxSteps := 10000000) (disch := omega) only [h_nil, h_none, hh_mv, hh_bin, hh_sliS, hh_app, val_head, tail_nil, seqQ_normal, aC_ret, opsK_eq, retQ_ret, retI, runI_nil, runI_none, o_mv, o_own, o_appS, sliSV, appSX, List.isEmpty_cons, ixTo, appNewI, appOwnI, srcA, n_add, wp_ok, bind_ok, bind_req, req_tt, ev_r, ev_c, putS, Sf.set, Sf.reg, mask_eq, maskR_nil, maskR_cons, getR, setR, maskL, Sf.disAt, dropL, regs0, dis_lit, dis_sl, noL_sl, List.map_cons, List.map_nil, List.length_cons, List.length_nil, Option.map_some, Option.map_none, List.append_nil, List.cons_append, List.drop_zero, Int.toNat_natCast, ↓reduceIte, Nat.reduceEqDiff, Bool.true_and, true_and, reduceCtorEq, Nat.zero_add, Nat.add_zero, Bool.false_eq_true, req_dec, room_of, IntWalk.i64_in, up_addL, and_pre, f21_1e, f21_2e, f21_2l, f21_3e, f21_4e, f21_4h, f21_4l, hfull, hll, ht, hd, hni, hdis, hal]
      rw [hni, List.append_nil] at hq
      exact hq
    · simp only [List.length_cons] at hll hB
      simp -implicitDefEqProofs (maxSteps := 10000000) (disch := omega) only [h_nil, h_none, hh_mv, hh_bin, hh_sliS, hh_app, val_head, tail_nil, seqQ_normal, aC_ret, opsK_eq, retQ_ret, retI, runI_nil, runI_none, o_mv, o_own, o_appS, sliSV, appSX, List.isEmpty_cons, ixTo, appNewI, appOwnI, srcA, n_add, wp_ok, bind_ok, bind_req, req_tt, ev_r, ev_c, putS, Sf.set, Sf.reg, mask_eq, maskR_nil, maskR_cons, getR, setR, maskL, Sf.disAt, dropL, regs0, dis_lit, dis_sl, noL_sl, List.map_cons, List.length_cons, Option.map_some, Option.map_none, List.cons_append, List.drop_zero, Int.toNat_natCast, ↓reduceIte, Nat.reduceEqDiff, Bool.true_and, true_and, reduceCtorEq, Nat.zero_add, Bool.false_eq_true, req_dec, room_of, IntWalk.i64_in, up_addL, and_pre, f21_1e, f21_2e, f21_2l, f21_3e, f21_4e, f21_4h, f21_4l, hfull, hll, ht, hd, hdis, hal]
      exact hq
end Go.Fx.YtddifejdkiemgaaFx

