/- What the functions that the statement reaches compute: part 4. -/
import Derived.Test.YtohlpjfhkejjgaaFxW3
namespace Go.Fx.YtohlpjfhkejjgaaFx
open Go Go.Fx
attribute [local irreducible] aC runI headI loopI

set_option maxRecDepth 100000
set_option maxHeartbeats 4000000

theorem cdelete_calls (x : Int) (l : List Int) {bv : AV} {st : St} (hm : MB bv st (ints (x :: l))) (hl : l.length < 100000) :
    ACalls Go.Proofs.Try.prog n_f33 [bv, .lit (.int .i64 0), .lit (.int .i64 1)] st (fun r st' => MB r st' (ints l) ∧ bufIds r = bufIds bv ∧ Oth st st' (bufIds bv)) := by
  rcases hm with ⟨_, e⟩ | ⟨bi, cap, r0, rfl, hg, h1, h2⟩
  · simp [ints] at e
  rw [ints_len] at h1 ⊢
  simp only [List.length_cons] at h1 ⊢
  have hlt := get_lt hg
  have hcs : (ints (x :: l) ++ r0).length = l.length + 1 + r0.length := by simp [ints_len]
  rw [hcs] at h2
  have hdr : (ints (x :: l) ++ r0).drop 1 = ints l ++ r0 := rfl
  have hgr : grp 1 l.length (ints l ++ r0) = ints l := by
    rw [grp_one (by simp [ints_len]), List.take_left' (ints_len l)]
  refine acalls_op hmix k_f33 rfl rfl fun Q hQ => ?_
  unfold aFun c_f33
  by_cases hc : cap = 1
  · have hl0 : l = [] := List.eq_nil_of_length_eq_zero (by omega)
    subst hl0
    subst hc
    simp -implicitDefEqProofs (maxSteps := 10000000) (disch := omega) only [h_nil, h_none, hh_mv, hh_sliS, val_head, tail_nil, and_self, seqQ_normal, aC_skip, aC_ret, opsK_eq, retQ_ret, retI, runI_nil, runI_none, putP_eq, putK_eq, cond_ff, o_mv, o_bin, o_sliS, o_sli3, o_len, o_own, o_x, sliSV, sli3V, stepX, List.reduceReplicate, appX, clrX, sliB, sl3, ixTo, lenI, srcA, n_eql, wp_ok, bind_ok, bind_req, ofOpt_some, req_tt, ev_r, ev_c, setB_r, putS, putN, Sf.set, Sf.reg, mask_eq, maskR_nil, maskR_cons, getR, setR, maskL, Sf.disAt, dropL, regs0, dis_lit, dis_bs, noL_bs, List.length_nil, Option.map_some, Option.map_none, Int.toNat_zero, Int.toNat_one, Int.cast_ofNat_Int, ↓reduceIte, Nat.reduceEqDiff, Nat.reduceAdd, Nat.reduceLeDiff, Int.reduceLE, Int.reduceEq, Bool.true_and, true_and, reduceCtorEq, Nat.zero_add, Nat.add_zero, Nat.sub_zero, decide_true, decide_false, room_of, get_set, and_pre, setAt_nil, set_set, cellsD_nil, Nat.mul_one, f33_1e, f33_2e, f33_2l, f33_3e, f33_4e, f33_4l, f33_5e, f33_6e, f33_7e, f33_7l, f33_8e, f33_11e, f33_12e, f33_12l, f33_13e, f33_14e, f33_14h, f33_14l, f33_15e, f33_16e, f33_16l, f33_17e, f33_18e, f33_18l, hg, hcs]
    refine hQ _ _ ⟨.inr ⟨bi, 1, .lit (.int .i64 0) :: r0, rfl, ?_, by simp [ints], by simp [ints]⟩, rfl, Oth.set _ _ _ (by simp [bufIds])⟩
    rw [get_set hlt]
    simp [ints, setAt, AV.cells]
  · have hbs : bsElems st bi 1 1 l.length = .req true (.ok (ints l)) := by
      unfold bsElems
      rw [hg]
      simp only [Res.ofOpt, Res.bind, hdr, hgr]
      congr 1
      rw [hcs]
      exact decide_eq_true (by omega)
    simp -implicitDefEqProofs (maxSteps := 10000000) (disch := omega) only [h_nil, h_none, hh_mv, hh_sliS, val_head, tail_nil, seqQ_normal, aC_skip, aC_ret, opsK_eq, retQ_ret, retI, runI_nil, runI_none, putP_eq, putK_eq, cond_ff, o_mv, o_bin, o_sliS, o_sli3, o_len, o_own, o_x, sliSV, sli3V, stepX, appX, clrX, sliB, sl3, ixTo, lenI, srcA, n_eql, wp_ok, bind_ok, bind_req, ofOpt_some, req_tt, ev_r, ev_c, setB_r, putS, putN, Sf.set, Sf.reg, mask_eq, maskR_nil, maskR_cons, getR, setR, maskL, Sf.disAt, dropL, regs0, dis_lit, dis_bs, noL_bs, List.map_nil, Option.map_some, Option.map_none, List.drop_zero, List.take_zero, Int.toNat_natCast, Int.toNat_zero, Int.toNat_one, Int.cast_ofNat_Int, ↓reduceIte, Nat.reduceEqDiff, Nat.reduceAdd, Int.reduceLE, Int.reduceEq, Bool.true_and, true_and, reduceCtorEq, Nat.zero_add, Nat.add_zero, Nat.sub_zero, decide_true, decide_false, req_dec, room_of, get_set, if_pos, if_neg, and_pre, len_setAt, set_set, Nat.mul_one, f33_1e, f33_2e, f33_2l, f33_3e, f33_4e, f33_4l, f33_5e, f33_6e, f33_7e, f33_7l, f33_8e, f33_11e, f33_12e, f33_12l, f33_13e, f33_14e, f33_14h, f33_14l, f33_15e, f33_16e, f33_16l, f33_17e, f33_18e, f33_18l, hg, hcs, hc, Nat.add_one_sub_one, hbs, ints_len]
    have hlast : setAt (setAt (ints (x :: l) ++ r0) 0 (cellsD (ints l))) l.length (List.flatMap AV.cells (List.replicate (l.length + 1 - l.length) (AV.lit (Value.int IntKind.i64 0)))) = ints l ++ (.lit (.int .i64 0) :: r0) := by
      rw [(ints_lits l).cellsD, setAt_zero (by rw [hcs, ints_len]; omega), show l.length + 1 - l.length = 1 by omega]
      obtain ⟨y, hy⟩ := List.length_eq_one_iff.1 (show ((ints (x :: l)).drop (ints l).length).length = 1 by simp [ints])
      have hd : (ints (x :: l) ++ r0).drop (ints l).length = [y] ++ r0 := by
        rw [List.drop_append_of_le_length (by simp [ints]), hy]
      rw [hd]
      have h1 : (List.replicate 1 (AV.lit (Value.int IntKind.i64 0))).flatMap AV.cells = [AV.lit (.int .i64 0)] := rfl
      rw [h1, setAt_at (ints_len l).symm (by simp)]
      rfl
    rw [hlast]
    refine hQ _ _ ⟨.inr ⟨bi, cap, .lit (.int .i64 0) :: r0, by rw [ints_len], get_set hlt, by rw [ints_len]; omega, by simp [ints_len]; omega⟩, rfl, Oth.set _ _ _ (by simp [bufIds])⟩
end Go.Fx.YtohlpjfhkejjgaaFx

