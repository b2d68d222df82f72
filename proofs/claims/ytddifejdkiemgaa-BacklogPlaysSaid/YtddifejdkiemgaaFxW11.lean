/- What the functions that the statement reaches compute: part 11. -/
import Derived.Test.YtddifejdkiemgaaFxW10
namespace Go.Fx.YtddifejdkiemgaaFx
open Go Go.Fx
attribute [local irreducible] aC runI headI loopI

set_option maxRecDepth 100000
set_option maxHeartbeats 4000000

/-! A backlog that is filled. -/
def sq (B : Nat) (n : Nat) : Qu := (List.range n).map fun i => (i + 1, (i : Int) * (B : Nat))
theorem sq_succ (B n : Nat) : sq B (n + 1) = sq B n ++ [(n + 1, (n : Int) * (B : Nat))] := by simp [sq, List.range_succ]
theorem sq_len (B n : Nat) : (sq B n).length = n := by simp [sq]
theorem sq_drop {B n j : Nat} (h : j < n) : (sq B n).drop j = (j + 1, (j : Int) * (B : Nat)) :: (sq B n).drop (j + 1) := by
  rw [List.drop_eq_getElem_cons (by rw [sq_len]; exact h)]
  simp [sq]
theorem sq_conns (B n : Nat) : conns (sq B n) = (List.range n).map fun i => ((i * B : Nat) : Int) := by
  simp only [conns, sq, List.map_map]
  refine List.map_congr_left fun i _ => ?_
  simp
theorem sq_push {M B i : Nat} (hB : 1 ≤ B) (hi : i < M) : bPush M false (sq B i) i ((i : Int) * (B : Nat)) = (sq B (i + 1), i + 1, 0) := by
  unfold bPush
  have h0 : ¬ ((i : Int) * (B : Nat) < 0) := by
    have : (0 : Int) ≤ (i : Int) * (B : Nat) := Int.mul_nonneg (by omega) (by omega)
    omega
  have h1 : ¬ ((i : Int) * (B : Nat) ∈ conns (sq B i)) := by
    rw [sq_conns]
    intro hm
    obtain ⟨j, hj, he⟩ := List.mem_map.1 hm
    have hj := List.mem_range.1 hj
    have he : j * B = i * B := by exact_mod_cast he
    exact absurd (Nat.eq_of_mul_eq_mul_right (by omega) he) (by omega)
  rw [if_neg h0, if_neg (by simp), if_neg h1, if_neg (by rw [sq_len]; omega), sq_succ]

theorem full_loop1 {b q mid tid M B S : Nat} (hM : M ≤ 128) (hB : 1 ≤ B ∧ B ≤ 100) {st0 : St} (h0 : BkIs st0 b q mid tid M false [] 0) (Q : Exit → Sf → St → Prop)
    (hQ : ∀ st, BkIs st b q mid tid M false (sq B M) M → Q (.exit 0) ⟨[(0, .lit (.int .u8 (M : Nat))), (1, .lit (.int .u8 (B : Nat))), (2, .lit (.int .u8 (S : Nat))), (7, .ptr b 0)], []⟩ st) :
    aC Go.Proofs.Try.prog id false f4_21 ⟨[(0, .lit (.int .u8 (M : Nat))), (1, .lit (.int .u8 (B : Nat))), (2, .lit (.int .u8 (S : Nat))), (7, .ptr b 0), (9, .lit (.int .i64 0))], []⟩ st0 Q := by
  rw [f4_21w]
  refine loop_op (A := Nat × St) (fun a => M - a.1) (fun a => ⟨[(0, .lit (.int .u8 (M : Nat))), (1, .lit (.int .u8 (B : Nat))), (2, .lit (.int .u8 (S : Nat))), (7, .ptr b 0), (9, .lit (.int .i64 (a.1 : Nat)))], []⟩) (fun a => a.2)
    (fun a => a.1 ≤ M ∧ BkIs a.2 b q mid tid M false (sq B a.1) a.1) (0, st0) ⟨by simp, h0⟩ (Sf.le_refl _) rfl ?_
  rintro ⟨i, st⟩ ⟨h1, h2⟩ K hK hKe hKr
  simp only at h1 h2
  by_cases hi : i < M
  · have hp := bpush_calls h2 (by omega) (by omega) ((i : Int) * (B : Nat))
    rw [sq_push hB.1 hi] at hp
    have m0 : (0 : Int) ≤ (i : Int) * (B : Nat) := Int.mul_nonneg (by omega) (by omega)
    have m1 : (i : Int) * (B : Nat) ≤ 128 * 100 := by exact_mod_cast Nat.mul_le_mul (show i ≤ 128 by omega) hB.2
    simp -implicitDefEqProofs (maxSteps := 10000000) (disch := omega) only [seqQ_normal, aC_skip, opsK_eq, runI_nil, runI_none, putP_eq, o_mv, o_bin, o_conv, o_call, convI, n_mul, n_lss, wp_ok, ev_r, ev_f, setB_r, putS, Sf.set, Sf.reg, mask_eq, maskR_nil, maskR_cons, getR, setR, maskL, id, dis_lit, dis_ptr, List.map_cons, List.map_nil, ↓reduceIte, Nat.reduceEqDiff, reduceCtorEq, cond_yes, IntWalk.i64_in, f4_22e, f4_23e, f4_24e, f4_24l, f4_25e, f4_26e, f4_27e, f4_28e, f4_29e, f4_29l]
    refine call_a rfl e_f16 hp rfl fun r st1 hr => ?_
    obtain ⟨rfl, h3, _⟩ := hr
    simp -implicitDefEqProofs (maxSteps := 10000000) (disch := omega) only [seqQ_normal, blockQ_normal, aC_skip, opsK_eq, runI_nil, runI_none, putP_eq, cond_ff, o_mv, o_bin, o_own, n_add, n_neq, wp_ok, ev_r, ev_c, setB_r, putS, Sf.set, Sf.reg, mask_eq, maskR_nil, maskR_cons, getR, setR, maskL, Sf.disAt, dis_lit, ↓reduceIte, Nat.reduceEqDiff, reduceCtorEq, not_true_eq_false, decide_false, IntWalk.i64_in, up_addL, f4_30e, f4_33e, f4_33l]
    exact hK (i + 1, st1) _ ⟨by simp only; omega, h3⟩ (by simp only; omega) (Sf.le_refl _)
  · simp -implicitDefEqProofs (maxSteps := 10000000) (disch := omega) only [seqQ_normal, seqQ_exit, aC_exit, opsK_eq, runI_nil, runI_none, putP_eq, o_mv, o_bin, o_conv, convI, n_lss, wp_ok, ev_r, setB_r, putS, Sf.set, Sf.reg, mask_eq, maskR_nil, maskR_cons, getR, setR, maskL, dis_lit, ↓reduceIte, Nat.reduceEqDiff, reduceCtorEq, cond_no, IntWalk.i64_in, f4_22e, f4_23e, f4_24e, f4_24l, f4_25e]
    have : i = M := by omega
    subst this
    exact hKe _ _ _ (hQ _ h2)

theorem full_loop2 {b q mid tid M B N : Nat} (hM : M ≤ 128) (hB : 1 ≤ B ∧ B ≤ 100) (hN : N ≤ M) {st0 : St} (h0 : BkIs st0 b q mid tid M false (sq B M) M) (Q : Exit → Sf → St → Prop)
    (hQ : ∀ st, BkIs st b q mid tid M false ((sq B M).drop N) M → Q (.exit 2) ⟨[(0, .lit (.int .u8 (M : Nat))), (7, .ptr b 0), (10, .lit (.int .i64 (N : Nat)))], []⟩ st) :
    aC Go.Proofs.Try.prog id false f4_46 ⟨[(0, .lit (.int .u8 (M : Nat))), (1, .lit (.int .u8 (B : Nat))), (7, .ptr b 0), (10, .lit (.int .i64 (N : Nat))), (11, .lit (.int .i64 0))], []⟩ st0 Q := by
  rw [f4_46w]
  refine loop_op (A := Nat × St) (fun a => N - a.1) (fun a => ⟨[(0, .lit (.int .u8 (M : Nat))), (1, .lit (.int .u8 (B : Nat))), (7, .ptr b 0), (10, .lit (.int .i64 (N : Nat))), (11, .lit (.int .i64 (a.1 : Nat)))], []⟩) (fun a => a.2)
    (fun a => a.1 ≤ N ∧ BkIs a.2 b q mid tid M false ((sq B M).drop a.1) M) (0, st0) ⟨by simp, h0⟩ (Sf.le_refl _) rfl ?_
  rintro ⟨i, st⟩ ⟨h1, h2⟩ K hK hKe hKr
  simp only at h1 h2
  by_cases hi : i < N
  · rw [sq_drop (by omega)] at h2
    have hp := bpops_true h2 (by omega) (v := (i : Int) * (B : Nat)) (e := 0) (L' := (sq B M).drop (i + 1)) rfl
    have m0 : (0 : Int) ≤ (i : Int) * (B : Nat) := Int.mul_nonneg (by omega) (by omega)
    have m1 : (i : Int) * (B : Nat) ≤ 128 * 100 := by exact_mod_cast Nat.mul_le_mul (show i ≤ 128 by omega) hB.2
    simp -implicitDefEqProofs (maxSteps := 10000000) (disch := omega) only [seqQ_normal, aC_skip, opsK_eq, runI_nil, runI_none, putP_eq, o_mv, o_bin, o_conv, o_call, convI, n_mul, n_lss, wp_ok, ev_r, ev_c, ev_f, setB_r, putS, Sf.set, Sf.reg, mask_eq, maskR_nil, maskR_cons, getR, setR, maskL, id, dis_lit, dis_ptr, List.map_cons, List.map_nil, ↓reduceIte, Nat.reduceEqDiff, reduceCtorEq, cond_yes, IntWalk.i64_in, f4_47e, f4_48e, f4_49e, f4_49l, f4_50e, f4_51e, f4_52e, f4_53e, f4_54e, f4_54l]
    refine call_a rfl e_f18 hp rfl fun r st1 hr => ?_
    obtain ⟨rfl, h3, _⟩ := hr
    simp -implicitDefEqProofs (maxSteps := 10000000) (disch := omega) only [seqQ_normal, blockQ_normal, aC_skip, opsK_eq, runI_nil, runI_none, putP_eq, cond_ff, o_mv, o_bin, o_un, o_own, unA, n_add, wp_ok, ev_r, ev_c, setB_r, putS, Sf.set, Sf.reg, mask_eq, maskR_nil, maskR_cons, getR, setR, maskL, Sf.disAt, dis_lit, ↓reduceIte, Nat.reduceEqDiff, reduceCtorEq, Bool.not_true, IntWalk.i64_in, up_addL, f4_55e, f4_58e, f4_58l]
    exact hK (i + 1, st1) _ ⟨by simp only; omega, h3⟩ (by simp only; omega) (Sf.le_refl _)
  · simp -implicitDefEqProofs (maxSteps := 10000000) (disch := omega) only [seqQ_normal, seqQ_exit, aC_exit, opsK_eq, runI_nil, runI_none, putP_eq, o_mv, o_bin, n_lss, wp_ok, ev_r, setB_r, putS, Sf.set, Sf.reg, mask_eq, maskR_nil, maskR_cons, getR, setR, maskL, dis_lit, ↓reduceIte, Nat.reduceEqDiff, reduceCtorEq, cond_no, f4_47e, f4_48e, f4_49e, f4_49l, f4_50e]
    have : i = N := by omega
    subst this
    exact hKe _ _ _ (hQ _ h2)

theorem backlogFull_law (M B S : Nat) (hM : M ≤ 255) (hB : B ≤ 255) (hS : S ≤ 255) : ACalls Go.Proofs.Try.prog n_f4 [.lit (.int .u8 (M : Nat)), .lit (.int .u8 (B : Nat)), .lit (.int .u8 (S : Nat))] ⟨[]⟩ (fun v _ => v = .lit (.bool true)) := by
  refine acalls_op hmix k_f4 rfl rfl fun Q hQ => ?_
  unfold aFun c_f4
  by_cases h1 : M < 1
  · simp -implicitDefEqProofs (maxSteps := 10000000) (disch := omega) only [seqQ_normal, opsK_eq, runI_nil, runI_none, runI_some, skipI_eq, AI.dst, putP_eq, cond_tt, guard_tt, o_mv, o_pick, o_bin, o_call, pick_tt, n_lss, wp_ok, ev_r, ev_c, ev_f, setB_r, putS, Sf.set, Sf.reg, mask_eq, maskR_nil, maskR_cons, getR, setR, maskL, regs0, id, dis_lit, List.map_nil, ↓reduceIte, Nat.reduceEqDiff, Nat.reduceAdd, reduceCtorEq, Nat.zero_add, Bool.false_eq_true, guard_yes, f4_1e, f4_2e, f4_2l, f4_3e, f4_4e, f4_5e, f4_5l, f4_6e, f4_7e, f4_8e, f4_8l]
    refine call_a rfl e_f14 (known18 _) rfl fun r st1 hr => ?_
    subst hr
    simp -implicitDefEqProofs (maxSteps := 10000000) (disch := omega) only [seqQ_normal, seqQ_ret, aC_ret, opsK_eq, retQ_ret, retI, runI_nil, runI_none, o_own, wp_ok, putS, Sf.set, Sf.reg, mask_eq, maskR_nil, maskR_cons, getR, setR, maskL, Sf.disAt, dis_lit, noL_lit, ↓reduceIte, Nat.reduceEqDiff, Bool.true_and, true_and, reduceCtorEq]
    exact hQ _ _ rfl
  by_cases h2 : 128 < M
  · simp -implicitDefEqProofs (maxSteps := 10000000) (disch := omega) only [seqQ_normal, opsK_eq, runI_nil, runI_none, runI_some, skipI_eq, AI.dst, putP_eq, cond_tt, guard_tt, guard_ff, o_mv, o_pick, o_bin, o_call, pick_tt, pick_ff, n_lss, n_gtr, wp_ok, ev_r, ev_c, ev_f, setB_r, putS, Sf.set, Sf.reg, mask_eq, maskR_nil, maskR_cons, getR, setR, maskL, regs0, id, dis_lit, List.map_nil, ↓reduceIte, Nat.reduceEqDiff, Nat.reduceAdd, reduceCtorEq, Nat.zero_add, Bool.false_eq_true, guard_yes, guard_no, f4_1e, f4_2e, f4_2l, f4_3e, f4_4e, f4_5e, f4_5l, f4_6e, f4_7e, f4_8e, f4_8l]
    refine call_a rfl e_f14 (known18 _) rfl fun r st1 hr => ?_
    subst hr
    simp -implicitDefEqProofs (maxSteps := 10000000) (disch := omega) only [seqQ_normal, seqQ_ret, aC_ret, opsK_eq, retQ_ret, retI, runI_nil, runI_none, o_own, wp_ok, putS, Sf.set, Sf.reg, mask_eq, maskR_nil, maskR_cons, getR, setR, maskL, Sf.disAt, dis_lit, noL_lit, ↓reduceIte, Nat.reduceEqDiff, Bool.true_and, true_and, reduceCtorEq]
    exact hQ _ _ rfl
  by_cases h3 : B < 1
  · simp -implicitDefEqProofs (maxSteps := 10000000) (disch := omega) only [seqQ_normal, opsK_eq, runI_nil, runI_none, runI_some, skipI_eq, AI.dst, putP_eq, cond_tt, guard_tt, guard_ff, o_mv, o_pick, o_bin, o_call, pick_tt, pick_ff, n_lss, n_gtr, wp_ok, ev_r, ev_c, ev_f, setB_r, putS, Sf.set, Sf.reg, mask_eq, maskR_nil, maskR_cons, getR, setR, maskL, regs0, id, dis_lit, List.map_nil, ↓reduceIte, Nat.reduceEqDiff, Nat.reduceAdd, reduceCtorEq, Nat.zero_add, Bool.false_eq_true, guard_yes, guard_no, f4_1e, f4_2e, f4_2l, f4_3e, f4_4e, f4_5e, f4_5l, f4_6e, f4_7e, f4_8e, f4_8l]
    refine call_a rfl e_f14 (known18 _) rfl fun r st1 hr => ?_
    subst hr
    simp -implicitDefEqProofs (maxSteps := 10000000) (disch := omega) only [seqQ_normal, seqQ_ret, aC_ret, opsK_eq, retQ_ret, retI, runI_nil, runI_none, o_own, wp_ok, putS, Sf.set, Sf.reg, mask_eq, maskR_nil, maskR_cons, getR, setR, maskL, Sf.disAt, dis_lit, noL_lit, ↓reduceIte, Nat.reduceEqDiff, Bool.true_and, true_and, reduceCtorEq]
    exact hQ _ _ rfl
  by_cases h4 : 100 < B
  · simp -implicitDefEqProofs (maxSteps := 10000000) (disch := omega) only [seqQ_normal, opsK_eq, runI_nil, runI_none, runI_some, AI.dst, putP_eq, guard_ff, o_mv, o_pick, o_bin, o_call, pick_ff, n_lss, n_gtr, wp_ok, ev_r, ev_c, ev_f, setB_r, putS, Sf.set, Sf.reg, mask_eq, maskR_nil, maskR_cons, getR, setR, maskL, regs0, id, dis_lit, List.map_nil, ↓reduceIte, Nat.reduceEqDiff, Nat.reduceAdd, reduceCtorEq, Nat.zero_add, Bool.false_eq_true, cond_yes, guard_no, f4_1e, f4_2e, f4_2l, f4_3e, f4_4e, f4_5e, f4_5l, f4_6e, f4_7e, f4_8e, f4_8l]
    refine call_a rfl e_f14 (known18 _) rfl fun r st1 hr => ?_
    subst hr
    simp -implicitDefEqProofs (maxSteps := 10000000) (disch := omega) only [seqQ_normal, seqQ_ret, aC_ret, opsK_eq, retQ_ret, retI, runI_nil, runI_none, o_own, wp_ok, putS, Sf.set, Sf.reg, mask_eq, maskR_nil, maskR_cons, getR, setR, maskL, Sf.disAt, dis_lit, noL_lit, ↓reduceIte, Nat.reduceEqDiff, Bool.true_and, true_and, reduceCtorEq]
    exact hQ _ _ rfl
  simp -implicitDefEqProofs (maxSteps := 10000000) (disch := omega) only [seqQ_normal, aC_skip, opsK_eq, runI_nil, runI_none, runI_some, AI.dst, putP_eq, guard_ff, o_mv, o_pick, o_bin, o_conv, o_call, pick_ff, convI, n_lss, n_gtr, wp_ok, ev_r, ev_c, ev_f, setB_r, putS, Sf.set, Sf.reg, mask_eq, maskR_nil, maskR_cons, getR, setR, maskL, regs0, id, dis_lit, List.map_cons, List.map_nil, ↓reduceIte, Nat.reduceEqDiff, Nat.reduceAdd, reduceCtorEq, Nat.zero_add, Bool.false_eq_true, cond_no, guard_no, IntWalk.i64_in, f4_1e, f4_2e, f4_2l, f4_3e, f4_4e, f4_5e, f4_5l, f4_6e, f4_9e, f4_10e, f4_10l]
  refine call_a rfl e_f13 (bnew_calls (n := M) (by omega) _) rfl fun r st0 hr => ?_
  obtain ⟨rfl, h0, _⟩ := hr
  generalize (St.boxes ⟨[]⟩).length + 3 = b at *
  generalize (St.boxes ⟨[]⟩).length + 1 = q at *
  generalize (St.boxes ⟨[]⟩).length + 2 = tid at *
  generalize (St.boxes ⟨[]⟩).length = mid at *
  simp -implicitDefEqProofs (maxSteps := 10000000) (disch := omega) only [seqQ_normal, aC_skip, opsK_eq, runI_nil, runI_none, runI_some, AI.dst, putP_eq, cond_ff, guard_ff, o_mv, o_pick, o_bin, o_ext, o_own, pick_ff, extV, n_nileq, eqNilI, isNilI, n_neq, wp_ok, bind_ok, ofOpt_some, ev_r, ev_c, setB_r, putS, Sf.set, Sf.reg, mask_eq, maskR_nil, maskR_cons, getR, setR, maskL, Sf.disAt, dis_lit, dis_ptr, dis_tup, own2_lit, own2_ptr, List.map_cons, List.map_nil, List.getElem?_cons_zero, List.getElem?_cons_succ, ↓reduceIte, Nat.reduceEqDiff, reduceCtorEq, not_true_eq_false, decide_false, Bool.false_eq_true, f4_11e, f4_12e, f4_13e, f4_13l, f4_14e, f4_17e, f4_18e, f4_19e, f4_19l, f4_20e]
  refine full_loop1 (by omega) (by omega) h0 _ fun st1 h5 => ?_
  have hp := bpush_calls h5 (by omega) (by omega) 1099511627776
  have hfull : bPush M false (sq B M) M 1099511627776 = (sq B M, M, 7) := by
    unfold bPush
    have hn : ¬ ((1099511627776 : Int) ∈ conns (sq B M)) := by
      rw [sq_conns]
      intro hm
      obtain ⟨j, hj, he⟩ := List.mem_map.1 hm
      have hj := List.mem_range.1 hj
      have h9 : j * B ≤ 128 * 100 := Nat.mul_le_mul (by omega) (by omega)
      omega
    rw [if_neg (by omega), if_neg (by simp), if_neg hn, if_pos (sq_len B M)]
  rw [hfull] at hp
  simp -implicitDefEqProofs (maxSteps := 10000000) (disch := omega) only [seqQ_normal, blockQ_exit, runI_none, o_mv, o_call, ev_r, ev_c, ev_f, putS, Sf.set, Sf.reg, getR, setR, id, dis_ptr, List.map_cons, List.map_nil, ↓reduceIte, Nat.reduceEqDiff, reduceCtorEq, f4_34e, f4_35e, f4_36e, f4_36l]
  refine call_a rfl e_f16 hp rfl fun r st2 hr => ?_
  obtain ⟨rfl, h6, _⟩ := hr
  have hr6 := broom_pure h6 (by omega)
  simp only [sq_len, Nat.sub_self, Bool.false_eq_true, if_false] at hr6
  simp -implicitDefEqProofs (maxSteps := 10000000) (disch := omega) only [runI_none, runI_some, AI.dst, putP_eq, guard_ff, o_mv, o_bin, o_call, n_neq, wp_ok, ev_r, ev_c, ev_f, putS, Sf.set, Sf.reg, getR, setR, id, dis_lit, dis_ptr, List.map_cons, List.map_nil, ↓reduceIte, Nat.reduceEqDiff, reduceCtorEq, not_true_eq_false, decide_false, Bool.false_eq_true]
  refine call_p rfl e_f17 hr6 rfl ?_
  simp -implicitDefEqProofs (maxSteps := 10000000) (disch := omega) only [seqQ_normal, aC_skip, opsK_eq, runI_nil, runI_none, runI_some, AI.dst, putP_eq, cond_ff, guard_ff, o_mv, o_pick, o_bin, o_conv, o_own, pick_ff, convI, n_add, n_neq, wp_ok, req_tt, ev_r, ev_c, setB_r, putS, Sf.set, Sf.reg, mask_eq, maskR_nil, maskR_cons, getR, setR, maskL, Sf.disAt, dis_lit, Int.cast_ofNat_Int, ↓reduceIte, Nat.reduceEqDiff, reduceCtorEq, not_true_eq_false, decide_false, Bool.false_eq_true, IntWalk.i64_in, n_rem, IntWalk.rem_in, up_addL, f4_37e, f4_40e, f4_41e, f4_41l, f4_42e, f4_43e, f4_44e, f4_44l, f4_45e]
  have hmod : ((S : Nat) : Int) % ((M + 1 : Nat) : Int) = ((S % (M + 1) : Nat) : Int) := rfl
  rw [hmod]
  have hN : S % (M + 1) ≤ M := Nat.le_of_lt_succ (Nat.mod_lt _ (by omega))
  generalize S % (M + 1) = N at *
  refine full_loop2 (by omega) (by omega) hN h6 _ fun st3 h7 => ?_
  have hlen : ((sq B M).drop N).length = M - N := by rw [List.length_drop, sq_len]
  have hr7 := broom_pure h7 (by omega)
  rw [hlen] at hr7
  simp only [Bool.false_eq_true, if_false] at hr7
  rw [show M - (M - N) = N by omega] at hr7
  simp -implicitDefEqProofs (maxSteps := 10000000) (disch := omega) only [seqQ_normal, blockQ_exit, runI_none, o_mv, o_call, ev_r, ev_f, putS, Sf.set, Sf.reg, getR, setR, id, dis_ptr, List.map_cons, List.map_nil, ↓reduceIte, Nat.reduceEqDiff, reduceCtorEq, f4_59e, f4_60e, f4_60l]
  refine call_p rfl e_f17 hr7 rfl ?_
  simp -implicitDefEqProofs (maxSteps := 10000000) (disch := omega) only [runI_none, runI_some, AI.dst, putP_eq, guard_tt, o_mv, o_bin, o_call, n_eql, wp_ok, ev_r, ev_f, putS, Sf.set, Sf.reg, getR, setR, id, dis_lit, dis_ptr, List.map_cons, List.map_nil, ↓reduceIte, Nat.reduceEqDiff, reduceCtorEq, decide_true]
  refine call_a rfl e_f19 (bwaiting_calls h7 (by omega)) rfl fun r st4 hr => ?_
  obtain ⟨rfl, _⟩ := hr
  have hll : ∀ st, lenI .sl st (lAV (conns ((sq B M).drop N))) = .ok (.lit (.int .i64 ((M - N : Nat) : Int))) := fun st => by
    have hcl : (conns ((sq B M).drop N)).length = M - N := by simp only [conns, List.length_map]; exact hlen
    rw [← hcl]
    unfold lAV
    split
    · rename_i e; rw [e]; rfl
    · simp [lenI, ints_len]
  have hend : decide (((M - N : Nat) : Int) = (M : Nat) - (N : Nat)) = true := decide_eq_true (by omega)
  obtain ⟨w1, w2, w3, w4, w5, w6⟩ := lAV_facts (conns ((sq B M).drop N))
  simp -implicitDefEqProofs (maxSteps := 10000000) (disch := omega) only [runI_none, runI_some, AI.dst, putP_eq, guard_tt, o_mv, o_pick, o_bin, o_conv, o_len, o_call, pick_tt, convI, n_sub, n_eql, wp_ok, ev_r, ev_c, ev_f, putS, Sf.set, Sf.reg, getR, setR, id, dis_lit, List.map_nil, ↓reduceIte, Nat.reduceEqDiff, reduceCtorEq, decide_true, IntWalk.i64_in, up_sub, hll]
  refine call_a rfl e_f14 (known18 _) rfl fun r st1 hr => ?_
  subst hr
  simp -implicitDefEqProofs (maxSteps := 10000000) (disch := omega) only [seqQ_normal, aC_ret, opsK_eq, retQ_ret, retI, runI_nil, runI_none, putP_eq, o_pick, o_own, pick_tt, wp_ok, ev_r, ev_c, putS, Sf.set, Sf.reg, mask_eq, maskR_nil, maskR_cons, getR, setR, maskL, Sf.disAt, dis_lit, noL_lit, ↓reduceIte, Nat.reduceEqDiff, Bool.true_and, true_and, reduceCtorEq]
  exact hQ _ _ rfl

theorem backlogFull_top {m b s : Int} (hm : 0 ≤ m ∧ m ≤ 255) (hb : 0 ≤ b ∧ b ≤ 255) (hs : 0 ≤ s ∧ s ≤ 255) : ACalls Go.Proofs.Try.prog n_f4 [.lit (.int .u8 m), .lit (.int .u8 b), .lit (.int .u8 s)] ⟨[]⟩ (fun v _ => v = .lit (.bool true)) := by
  obtain ⟨M, rfl⟩ : ∃ k : Nat, m = (k : Int) := ⟨m.toNat, by omega⟩
  obtain ⟨B, rfl⟩ : ∃ k : Nat, b = (k : Int) := ⟨b.toNat, by omega⟩
  obtain ⟨S, rfl⟩ : ∃ k : Nat, s = (k : Int) := ⟨s.toNat, by omega⟩
  exact backlogFull_law M B S (by omega) (by omega) (by omega)
end Go.Fx.YtddifejdkiemgaaFx

