/- What the functions that the statement reaches compute: part 17. -/
import Derived.Test.YtenijlfcfmhmkaaFxW16
namespace Go.Fx.YtenijlfcfmhmkaaFx
open Go Go.Fx
attribute [local irreducible] aC runI headI loopI

set_option maxRecDepth 100000
set_option maxHeartbeats 4000000

theorem fifoIterates_law (l : List Fa) (stop : Int) : ACalls Go.Proofs.Try.prog n_f6 [fasAV l, .lit (.int .i64 stop)] ⟨[]⟩ (fun v _ => v = .lit (.bool true)) := by
  refine acalls_op hmix k_f6 rfl rfl fun Q hQ => ?_
  unfold aFun c_f6
  obtain ⟨st, hst⟩ : ∃ st, st = (St.push ⟨[]⟩ (.cells [.lit (.int .i64 stop)])).push (.cells [.lit (.bool false)]) := ⟨_, rfl⟩
  have g0 : st.get 0 = some [.lit (.int .i64 stop)] := by rw [hst]; rfl
  have g1 : st.get 1 = some [.lit (.bool false)] := by rw [hst]; rfl
  have hlen : st.boxes.length = 2 := by rw [hst]; rfl
  by_cases hl : 60 < l.length
  · simp -implicitDefEqProofs (maxSteps := 10000000) (disch := omega) only [seqQ_normal, opsK_eq, runI_nil, runI_none, putP_eq, o_mv, o_bin, o_len, o_newB, o_boxB, o_call, boxX, lenI, n_gtr, wp_ok, ev_r, ev_c, ev_f, evOwn_r, disOp_r, setB_r, putS, Sf.set, Sf.reg, mask_eq, maskR_nil, maskR_cons, getR, setR, maskL, Sf.disAt, regs0, id, dis_lit, dis_sl, cells_lit, solid1_lit, solid_eq, List.map_nil, List.length_cons, List.length_nil, List.all_cons, List.all_nil, ↓reduceIte, Nat.reduceEqDiff, Bool.true_and, Bool.and_true, and_true, true_and, reduceCtorEq, Nat.zero_add, List.length_map, cond_yes, len_push, f6_1e, f6_2e, f6_2l, f6_3e, f6_4e, f6_5e, f6_5l, f6_6e, f6_7e, f6_8e, f6_8l, fasAV]
    rw [← hst]
    refine call_a rfl e_f23 (known06f _) rfl fun r st1 hr => ?_
    obtain ⟨rfl, hk⟩ := hr
    have g2 := (get_at (hk.2 1 (by omega))).trans g1
    have l2 := get_lt g2
    simp -implicitDefEqProofs (maxSteps := 10000000) (disch := omega) only [seqQ_normal, seqQ_ret, aC_ret, opsK_eq, retQ_ret, retI, resI, runI_nil, runI_none, o_store, boxX, writeX, derefI, takeI_none, wp_ok, bind_ok, ofOpt_some, ev_r, evOwn_r, disOp_r, putS, Sf.set, Sf.reg, mask_eq, maskR_nil, maskR_cons, getR, setR, maskL, Sf.disAt, dis_lit, cells_lit, solid1_lit, solid_eq, noL_lit, List.length_cons, List.length_nil, List.all_cons, List.all_nil, List.drop_zero, List.set_cons_zero, ↓reduceIte, Nat.reduceEqDiff, Nat.reduceLeDiff, Bool.true_and, Bool.and_true, and_true, true_and, reduceCtorEq, Nat.zero_add, get_set, setAt_nil, setAt_cons, g2]
    exact hQ _ _ rfl
  · simp -implicitDefEqProofs (maxSteps := 10000000) (disch := omega) only [seqQ_normal, aC_skip, opsK_eq, runI_nil, runI_none, putP_eq, o_mv, o_bin, o_len, o_newB, o_boxB, o_call, boxX, lenI, n_gtr, wp_ok, ev_r, ev_c, ev_f, evOwn_r, disOp_r, setB_r, putS, Sf.set, Sf.reg, mask_eq, maskR_nil, maskR_cons, getR, setR, maskL, Sf.disAt, regs0, id, dis_lit, dis_sl, cells_lit, solid1_lit, solid_eq, List.map_nil, List.length_cons, List.length_nil, List.all_cons, List.all_nil, ↓reduceIte, Nat.reduceEqDiff, Bool.true_and, Bool.and_true, and_true, true_and, reduceCtorEq, Nat.zero_add, List.length_map, cond_no, len_push, f6_1e, f6_2e, f6_2l, f6_3e, f6_4e, f6_5e, f6_5l, f6_6e, f6_9e, f6_10e, f6_10l, fasAV]
    rw [← hst]
    refine call_a rfl e_f24 (qnew_calls _) rfl fun r st0 hr => ?_
    obtain ⟨rfl, h0, hl0, hold⟩ := hr
    rw [hlen] at h0 hl0 hold ⊢
    replace hl0 : st0.boxes.length = 4 := hl0
    have a0 := (get_at (hold 0 (by omega))).trans g0
    have a1 := (get_at (hold 1 (by omega))).trans g1
    simp -implicitDefEqProofs (maxSteps := 10000000) (disch := omega) only [seqQ_normal, aC_skip, opsK_eq, runI_nil, runI_none, putP_eq, cond_ff, o_mv, o_bin, o_bst, o_len, o_own, o_newB, o_store, bstV, boxX, writeX, n_nileq, eqNilI, isNilI, lenI, buildA, wp_ok, bind_ok, ofOpt_some, ev_r, ev_c, evOwn_r, disOp_r, setB_r, putS, Sf.set, Sf.reg, mask_eq, maskR_nil, maskR_cons, getR, setR, maskL, Sf.disAt, dis_lit, dis_ptr, dis_sl, dis_agg, own1_lit, cells_agg, solid1_lit, solid_eq, List.map_cons, List.map_nil, List.length_cons, List.length_nil, List.all_cons, List.all_nil, List.set_cons_zero, List.set_cons_succ, ↓reduceIte, Nat.reduceEqDiff, Nat.reduceAdd, Nat.reduceLeDiff, Bool.true_and, Bool.and_true, and_true, true_and, reduceCtorEq, Nat.zero_add, List.length_map, get_push, set_push, setAt_nil, setAt_cons, f6_11e, f6_12e, f6_13e, f6_13l, f6_14e, f6_17e, f6_18e, f6_19e, f6_19l, f6_20e]
    rw [hl0]
    have hp : ∀ i, i < st0.boxes.length → (st0.push (.cells [.lit (.slice none 0 0), .lit (.int .u64 0)])).boxes[i]? = st0.boxes[i]? := fun i hi => push_at hi
    have h1 := h0.at (hp _ h0.ltq) (hp _ h0.ltm)
    refine iter_loop1 l (by omega) h1 ⟨(get_at (hp 0 (by omega))).trans a0, (get_at (hp 1 (by omega))).trans a1, by have h9 := get_push st0 [.lit (.slice none 0 0), .lit (.int .u64 0)]; rw [hl0] at h9; exact h9, by omega, by omega⟩ _ fun L g q mid X st1 hq hX hI hL hg => ?_
    simp -implicitDefEqProofs (maxSteps := 10000000) (disch := omega) only [seqQ_normal, blockQ_exit, runI_none, o_mv, o_call, ev_r, ev_f, putS, Sf.set, Sf.reg, getR, setR, id, dis_ptr, List.map_cons, List.map_nil, ↓reduceIte, Nat.reduceEqDiff, f6_32e, f6_33e, f6_33l]
    refine call_a rfl e_f30 (qall_calls hq) rfl fun x st2 hx => ?_
    obtain ⟨o, q', mid', rfl, ho, hq2, l1, l2, l3, l4, hold2⟩ := hx
    simp -implicitDefEqProofs (maxSteps := 10000000) (disch := omega) only [seqQ_normal, aC_skip, opsK_eq, runI_nil, runI_none, putP_eq, cond_ff, o_mv, o_bin, o_own, o_newB, o_store, boxX, writeX, n_nileq, eqNilI, isNilI, wp_ok, bind_ok, ofOpt_some, ev_r, ev_c, evOwn_c, disOp_c, setB_r, putS, Sf.set, Sf.reg, mask_eq, maskR_nil, maskR_cons, getR, setR, maskL, Sf.disAt, dis_lit, dis_fn, cells_lit, solid1_lit, solid_eq, List.length_cons, List.length_nil, List.all_cons, List.all_nil, List.set_cons_zero, ↓reduceIte, Nat.reduceEqDiff, Nat.reduceLeDiff, Bool.true_and, Bool.and_true, and_true, true_and, Nat.zero_add, get_push, set_push, setAt_nil, setAt_cons, f6_34e, f6_35e, f6_36e, f6_36l, f6_37e, f6_40e, f6_41e, f6_42e, f6_42l, f6_43e]
    have hp2 : ∀ i, i < st2.boxes.length → (st2.push (.cells [.lit (.int .i64 0)])).boxes[i]? = st2.boxes[i]? := fun i hi => push_at hi
    have hg2 : ∀ {i : Nat} {cs : List AV}, st1.get i = some cs → (st2.push (.cells [.lit (.int .i64 0)])).get i = some cs := fun {i cs} he => by
      have := get_lt he
      rw [get_at (hp2 _ (by omega)), get_at (hold2 _ this)]; exact he
    have k1 := hq.ltq
    have k2 := hq.ltm
    have k3 := hq2.ltq
    have k4 := hq2.ltm
    have k5 := get_lt ho
    have n1 := hI.nq
    have n2 := hI.nm
    refine iter_rounds (g0 := g) (mid := mid) (o := o) (q' := q') (mid' := mid') (L0 := L) hX ⟨hg2 hI.s, hg2 hI.r, hg2 hI.x, get_push .., (get_at (hp2 _ k5)).trans ho, hq2.at (hp2 _ k3) (hp2 _ k4), (hq.at (hold2 _ k1) (hold2 _ k2)).at (hp2 _ (by omega)) (hp2 _ (by omega)), fun i hi => ?_⟩ hL hL hg _ fun st3 g3 => ?_
    · simp only [List.mem_cons, List.not_mem_nil, or_false] at hi
      omega
    simp -implicitDefEqProofs (maxSteps := 10000000) (disch := omega) only [seqQ_normal, blockQ_exit, runI_none, o_call, ev_f, id, List.map_nil, ↓reduceIte, f6_87e, f6_88e, f6_88l]
    refine call_a rfl e_f23 (known06f _) rfl fun r st4 hr => ?_
    obtain ⟨rfl, hk⟩ := hr
    have l3 := get_lt g3
    have g4 := (get_at (hk.2 1 (by omega))).trans g3
    have l4 := get_lt g4
    simp -implicitDefEqProofs (maxSteps := 10000000) (disch := omega) only [seqQ_normal, aC_ret, opsK_eq, retQ_ret, retI, resI, runI_nil, runI_none, o_store, boxX, writeX, derefI, takeI_none, wp_ok, bind_ok, ofOpt_some, ev_r, evOwn_r, disOp_r, putS, Sf.set, Sf.reg, mask_eq, maskR_nil, maskR_cons, getR, setR, maskL, Sf.disAt, dis_lit, cells_lit, solid1_lit, solid_eq, noL_lit, List.length_cons, List.length_nil, List.all_cons, List.all_nil, List.drop_zero, List.set_cons_zero, ↓reduceIte, Nat.reduceEqDiff, Nat.reduceLeDiff, Bool.true_and, Bool.and_true, and_true, true_and, Nat.zero_add, get_set, setAt_nil, setAt_cons, g4]
    exact hQ _ _ rfl

theorem fifoIterates_top {l : List Fx3} {stop : Int} (h : ∀ x ∈ l, 0 ≤ x.2.2.1) : ACalls Go.Proofs.Try.prog n_f6 [.sl false 3 (l.map fun x => .agg [.lit (.int .i64 x.1), .lit (.int .i64 x.2.1), .lit (.int .u64 x.2.2.1)]), .lit (.int .i64 stop)] ⟨[]⟩ (fun v _ => v = .lit (.bool true)) := by
  rw [fas_lit l h]
  exact fifoIterates_law _ _
end Go.Fx.YtenijlfcfmhmkaaFx

