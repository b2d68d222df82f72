/- What the functions that the statement reaches compute: part 17. -/
import Derived.Test.YtohlpjfhkejjgaaFxW16
namespace Go.Fx.YtohlpjfhkejjgaaFx
open Go Go.Fx
attribute [local irreducible] aC runI headI loopI

set_option maxRecDepth 100000
set_option maxHeartbeats 4000000

/-- What is in the buffer is received. -/
theorem holds_drain {st : St} {c q0 m0 q1 m1 wid : Nat} {bv : AV} {P : ChP} (h : ChIs st c P q0 m0 q1 m1 wid bv) (hb : Bd P 100) (hS : P.S = []) (hV : P.V = []) (hc : P.closed = true) (Q : Exit → Sf → St → Prop)
    (hQ : ∀ st' P' bv', ChIs st' c P' q0 m0 q1 m1 wid bv' → Bd P' 1000 → P'.S = [] → P'.V = [] → P'.closed = true → P'.buf = [] → Q (.exit 2) ⟨[(5, .ptr c 0)], []⟩ st') :
    aC Go.Proofs.Try.prog id false f6_52 ⟨[(5, .ptr c 0), (12, .lit (.int .i64 (P.buf.length : Nat))), (13, .lit (.int .i64 0))], []⟩ st Q := by
  rw [f6_52w]
  refine loop_op (A := Nat × ChP × AV × St) (fun a => P.buf.length - a.1) (fun a => ⟨[(5, .ptr c 0), (12, .lit (.int .i64 (P.buf.length : Nat))), (13, .lit (.int .i64 (a.1 : Nat)))], []⟩) (fun a => a.2.2.2)
    (fun a => a.1 ≤ P.buf.length ∧ ChIs a.2.2.2 c a.2.1 q0 m0 q1 m1 wid a.2.2.1 ∧ Bd a.2.1 (100 + a.1) ∧ a.2.1.S = [] ∧ a.2.1.V = [] ∧ a.2.1.closed = true ∧ a.2.1.buf.length + a.1 = P.buf.length) (0, P, bv, st) ⟨by simp, h, hb, hS, hV, hc, rfl⟩ (Sf.le_refl _) rfl ?_
  rintro ⟨i, P2, bv2, st2⟩ ⟨h1, h2, h3, h4, h5, h6, h7⟩ K hK hKe hKr
  simp only at h1 h2 h3 h4 h5 h6 h7
  have hbl : P.buf.length ≤ 100 := hb.2.2.1
  by_cases hi : i < P.buf.length
  · have ht := ctryreceive_calls h2 ⟨h3, by omega⟩
    have hb2 := (bd_recv h3).1
    obtain ⟨x, b, hB⟩ : ∃ x b, P2.buf = x :: b := by
      cases hx : P2.buf with
      | nil => rw [hx] at h7; simp at h7; omega
      | cons x b => exact ⟨x, b, rfl⟩
    have hR : pTryReceive P2 = ({ P2 with buf := b }, x, [], 0) := by
      unfold pTryReceive; rw [h4, hB]
    rw [hR] at ht hb2
    rw [hB, List.length_cons] at h7
    have hi0 : itsAV [] = .lit (.slice none 0 0) := rfl
    simp only [hi0] at ht
    simp -implicitDefEqProofs (maxSteps := 10000000) (disch := omega) only [seqQ_normal, aC_skip, opsK_eq, runI_nil, runI_none, putP_eq, o_mv, o_bin, o_call, n_lss, wp_ok, ev_r, ev_f, setB_r, putS, Sf.set, Sf.reg, mask_eq, maskR_nil, maskR_cons, getR, setR, maskL, id, dis_lit, dis_ptr, List.map_cons, List.map_nil, ↓reduceIte, Nat.reduceEqDiff, cond_yes, f6_53e, f6_54e, f6_55e, f6_55l, f6_56e, f6_57e, f6_58e, f6_59e, f6_60e, f6_60l]
    refine call_a rfl e_f20 ht rfl fun r st1 hr => ?_
    obtain ⟨rfl, bv1, g1, _, _⟩ := hr
    simp -implicitDefEqProofs (maxSteps := 10000000) (disch := omega) only [seqQ_normal, blockQ_normal, aC_skip, opsK_eq, runI_nil, runI_none, runI_some, AI.dst, putP_eq, cond_ff, guard_ff, o_mv, o_pick, o_bin, o_ext, o_len, o_own, pick_ff, extV, lenI, n_add, n_neq, wp_ok, bind_ok, ofOpt_some, ev_r, ev_c, setB_r, putS, Sf.set, Sf.reg, mask_eq, maskR_nil, maskR_cons, getR, setR, maskL, Sf.disAt, dis_lit, dis_tup, own2_lit, List.map_cons, List.map_nil, List.getElem?_cons_zero, List.getElem?_cons_succ, ↓reduceIte, Nat.reduceEqDiff, not_true_eq_false, decide_false, Bool.false_eq_true, IntWalk.i64_in, up_addL, f6_61e, f6_62e, f6_62l, f6_63e, f6_66e, f6_66l]
    exact hK (i + 1, _, bv1, st1) _ ⟨by simp only; omega, g1, hb2, h4, h5, h6, by simp only; omega⟩ (by simp only; omega) (Sf.le_refl _)
  · simp -implicitDefEqProofs (maxSteps := 10000000) (disch := omega) only [seqQ_normal, seqQ_exit, aC_exit, opsK_eq, runI_nil, runI_none, putP_eq, o_mv, o_bin, n_lss, wp_ok, ev_r, setB_r, putS, Sf.set, Sf.reg, mask_eq, maskR_nil, maskR_cons, getR, setR, maskL, dis_lit, ↓reduceIte, Nat.reduceEqDiff, cond_no, f6_53e, f6_54e, f6_55e, f6_55l, f6_56e]
    refine hKe _ _ _ (hQ st2 P2 bv2 h2 ?_ h4 h5 h6 (List.eq_nil_of_length_eq_zero (by omega)))
    unfold Bd at *
    omega

theorem channelHolds_law (n : Int) (l : List Ca) : ACalls Go.Proofs.Try.prog n_f6 [.lit (.int .i64 n), casAV l] ⟨[]⟩ (fun v _ => v = .lit (.bool true)) := by
  refine acalls_op hmix k_f6 rfl rfl fun Q hQ => ?_
  unfold aFun c_f6
  simp -implicitDefEqProofs (maxSteps := 10000000) (disch := omega) only [seqQ_normal, opsK_eq, runI_nil, runI_none, o_mv, o_call, ev_r, ev_c, ev_f, putS, Sf.set, Sf.reg, mask_eq, maskR_nil, maskR_cons, getR, setR, maskL, regs0, id, dis_lit, dis_sl, List.map_cons, List.map_nil, ↓reduceIte, Nat.reduceEqDiff, reduceCtorEq, Nat.zero_add, f6_1e, f6_2e, f6_2l, f6_3e, f6_4e, f6_4l, casAV]
  by_cases hn : n < 0 ∨ 4096 < n
  · refine call_p rfl e_f9 (cnew_err hn _) rfl ?_
    rcases hn with hn | hn
    all_goals
      simp -implicitDefEqProofs (maxSteps := 10000000) (disch := omega) only [seqQ_normal, opsK_eq, runI_nil, runI_none, runI_some, skipI_eq, AI.dst, putP_eq, cond_tt, guard_tt, guard_ff, o_mv, o_pick, o_bin, o_ext, o_own, o_call, pick_tt, pick_ff, extV, n_lss, n_gtr, wp_ok, bind_ok, ofOpt_some, ev_r, ev_c, ev_f, setB_r, putS, Sf.set, Sf.reg, mask_eq, maskR_nil, maskR_cons, getR, setR, maskL, Sf.disAt, id, dis_lit, dis_tup, own2_lit, List.map_cons, List.map_nil, List.getElem?_cons_zero, List.getElem?_cons_succ, ↓reduceIte, Nat.reduceEqDiff, reduceCtorEq, Bool.false_eq_true, guard_yes, guard_no, f6_5e, f6_6e, f6_7e, f6_7l, f6_8e, f6_9e, f6_10e, f6_10l]
      refine call_a rfl e_f10 (known36 _) rfl fun r st1 hr => ?_
      subst hr
      simp -implicitDefEqProofs (maxSteps := 10000000) (disch := omega) only [seqQ_normal, seqQ_ret, aC_ret, opsK_eq, retQ_ret, retI, runI_nil, runI_none, o_own, wp_ok, putS, Sf.set, Sf.reg, mask_eq, maskR_nil, maskR_cons, getR, setR, maskL, Sf.disAt, dis_lit, noL_lit, ↓reduceIte, Nat.reduceEqDiff, Bool.true_and, true_and, reduceCtorEq]
      exact hQ _ _ rfl
  obtain ⟨k, rfl⟩ : ∃ k : Nat, n = (k : Int) := ⟨n.toNat, by omega⟩
  have hk : k ≤ 4096 := by omega
  refine call_a rfl e_f9 (cnew_ex hk _) rfl fun r st1 hr => ?_
  obtain ⟨c, q0, m0, q1, m1, wid, bv, rfl, h0⟩ := hr
  by_cases hk20 : 20 < k
  · simp -implicitDefEqProofs (maxSteps := 10000000) (disch := omega) only [seqQ_normal, opsK_eq, runI_nil, runI_none, runI_some, skipI_eq, AI.dst, putP_eq, cond_tt, guard_tt, guard_ff, o_mv, o_pick, o_bin, o_ext, o_own, o_call, pick_tt, pick_ff, extV, n_lss, n_gtr, wp_ok, bind_ok, ofOpt_some, ev_r, ev_c, ev_f, setB_r, putS, Sf.set, Sf.reg, mask_eq, maskR_nil, maskR_cons, getR, setR, maskL, Sf.disAt, id, dis_lit, dis_ptr, dis_tup, own2_lit, own2_ptr, List.map_cons, List.map_nil, List.getElem?_cons_zero, List.getElem?_cons_succ, ↓reduceIte, Nat.reduceEqDiff, reduceCtorEq, Bool.false_eq_true, guard_yes, guard_no, f6_5e, f6_6e, f6_7e, f6_7l, f6_8e, f6_9e, f6_10e, f6_10l]
    refine call_a rfl e_f10 (known36 _) rfl fun r st1 hr => ?_
    subst hr
    simp -implicitDefEqProofs (maxSteps := 10000000) (disch := omega) only [seqQ_normal, seqQ_ret, aC_ret, opsK_eq, retQ_ret, retI, runI_nil, runI_none, o_own, wp_ok, putS, Sf.set, Sf.reg, mask_eq, maskR_nil, maskR_cons, getR, setR, maskL, Sf.disAt, dis_lit, noL_lit, ↓reduceIte, Nat.reduceEqDiff, Bool.true_and, true_and, reduceCtorEq]
    exact hQ _ _ rfl
  by_cases hl : 60 < l.length
  · simp -implicitDefEqProofs (maxSteps := 10000000) (disch := omega) only [seqQ_normal, opsK_eq, runI_nil, runI_none, runI_some, AI.dst, putP_eq, guard_ff, o_mv, o_pick, o_bin, o_ext, o_len, o_own, o_call, pick_ff, extV, lenI, n_lss, n_gtr, wp_ok, bind_ok, ofOpt_some, ev_r, ev_c, ev_f, setB_r, putS, Sf.set, Sf.reg, mask_eq, maskR_nil, maskR_cons, getR, setR, maskL, Sf.disAt, id, dis_lit, dis_ptr, dis_sl, dis_tup, own2_lit, own2_ptr, List.map_cons, List.map_nil, List.getElem?_cons_zero, List.getElem?_cons_succ, ↓reduceIte, Nat.reduceEqDiff, reduceCtorEq, Bool.false_eq_true, List.length_map, cond_yes, guard_no, f6_5e, f6_6e, f6_7e, f6_7l, f6_8e, f6_9e, f6_10e, f6_10l]
    refine call_a rfl e_f10 (known36 _) rfl fun r st1 hr => ?_
    subst hr
    simp -implicitDefEqProofs (maxSteps := 10000000) (disch := omega) only [seqQ_normal, seqQ_ret, aC_ret, opsK_eq, retQ_ret, retI, runI_nil, runI_none, o_own, wp_ok, putS, Sf.set, Sf.reg, mask_eq, maskR_nil, maskR_cons, getR, setR, maskL, Sf.disAt, dis_lit, noL_lit, ↓reduceIte, Nat.reduceEqDiff, Bool.true_and, true_and, reduceCtorEq]
    exact hQ _ _ rfl
  simp -implicitDefEqProofs (maxSteps := 10000000) (disch := omega) only [seqQ_normal, aC_skip, opsK_eq, runI_nil, runI_none, runI_some, AI.dst, putP_eq, cond_ff, guard_ff, o_mv, o_pick, o_bin, o_ext, o_len, o_own, pick_ff, extV, n_nileq, eqNilI, isNilI, lenI, n_neq, n_lss, n_gtr, wp_ok, bind_ok, ofOpt_some, ev_r, ev_c, setB_r, putS, Sf.set, Sf.reg, mask_eq, maskR_nil, maskR_cons, getR, setR, maskL, Sf.disAt, dis_lit, dis_ptr, dis_sl, dis_tup, own2_lit, own2_ptr, List.map_cons, List.map_nil, List.getElem?_cons_zero, List.getElem?_cons_succ, ↓reduceIte, Nat.reduceEqDiff, reduceCtorEq, not_true_eq_false, decide_false, Bool.false_eq_true, List.length_map, cond_no, guard_no, f6_5e, f6_6e, f6_7e, f6_7l, f6_8e, f6_11e, f6_12e, f6_13e, f6_13l, f6_14e, f6_17e, f6_18e, f6_19e, f6_19l, f6_20e]
  refine holds_loop h0 (by omega) l (by omega) _ fun st2 P bv2 h2 hh hb => ?_
  simp -implicitDefEqProofs (maxSteps := 10000000) (disch := omega) only [seqQ_normal, blockQ_exit, runI_none, o_mv, o_call, ev_r, ev_f, putS, Sf.set, Sf.reg, getR, setR, id, dis_ptr, List.map_cons, List.map_nil, ↓reduceIte, Nat.reduceEqDiff, f6_38e, f6_39e, f6_39l]
  obtain ⟨e1, e2, e3, e4, e5⟩ := hh.close
  have hb2 : Bd (pClose P).1 100 := by
    have := (bd_do hb (5, 0, 0)).1
    have e : (pDo P (5, 0, 0)).1 = (pClose P).1 := rfl
    rw [e] at this
    unfold Bd at *
    omega
  refine call_a rfl e_f19 (cclose_calls h2 ⟨hb, by omega⟩) rfl fun r st3 hr => ?_
  obtain ⟨rfl, bv3, h3, _, _⟩ := hr
  obtain ⟨w1, w2, w3, w4, w5, w6, w7⟩ := itsAV_facts (pClose P).2.1
  have hcl := cclosed_pure h3
  rw [e1] at hcl
  rcases e5 with e5 | e5
  all_goals
    rw [e5]
    simp -implicitDefEqProofs (maxSteps := 10000000) (disch := omega) only [seqQ_normal, opsK_eq, runI_nil, runI_none, putP_eq, o_mv, o_ext, o_own, o_call, extV, wp_ok, bind_ok, ofOpt_some, ev_r, ev_f, putS, Sf.set, Sf.reg, mask_eq, maskR_nil, maskR_cons, getR, setR, maskL, Sf.disAt, id, dis_lit, dis_ptr, dis_tup, own2_lit, List.map_cons, List.map_nil, List.getElem?_cons_zero, List.getElem?_cons_succ, ↓reduceIte, Nat.reduceEqDiff, f6_40e, f6_41e, f6_41l, w1, w3]
    refine call_p rfl e_f13 (clen_pure h3) rfl ?_
    simp -implicitDefEqProofs (maxSteps := 10000000) (disch := omega) only [seqQ_normal, opsK_eq, runI_nil, runI_none, runI_some, skipI_eq, AI.dst, putP_eq, guard_tt, guard_ff, o_mv, o_pick, o_bin, o_own, o_call, pick_tt, pick_ff, n_neq, wp_ok, ev_r, ev_c, ev_f, putS, Sf.set, Sf.reg, mask_eq, maskR_nil, maskR_cons, getR, setR, maskL, Sf.disAt, id, dis_lit, dis_ptr, List.map_cons, List.map_nil, ↓reduceIte, Nat.reduceEqDiff, Int.reduceEq, not_false_eq_true, not_true_eq_false, decide_true, decide_false, Bool.false_eq_true, f6_42e, f6_43e, f6_44e, f6_44l]
    refine call_p rfl e_f18 hcl rfl ?_
    simp -implicitDefEqProofs (maxSteps := 10000000) (disch := omega) only [seqQ_normal, aC_skip, opsK_eq, runI_nil, runI_none, runI_some, AI.dst, putP_eq, cond_ff, guard_ff, o_mv, o_pick, o_un, pick_ff, unA, wp_ok, ev_r, ev_c, setB_r, putS, Sf.set, Sf.reg, mask_eq, maskR_nil, maskR_cons, getR, setR, maskL, dis_lit, ↓reduceIte, Nat.reduceEqDiff, Bool.not_true, Bool.false_eq_true, f6_45e, f6_48e, f6_49e, f6_50e, f6_50l, f6_51e]
    refine holds_drain h3 hb2 e2 e3 e1 _ fun st4 P4 bv4 h4 hb4 s4 v4 c4 b4 => ?_
    have ht := ctryreceive_calls h4 ⟨hb4, by omega⟩
    have hR : pTryReceive P4 = (P4, 0, [], 13) := by
      unfold pTryReceive; rw [s4, b4]; simp only [c4, if_true]
    have hi0 : itsAV [] = .lit (.slice none 0 0) := rfl
    rw [hR] at ht
    simp only [hi0] at ht
    simp -implicitDefEqProofs (maxSteps := 10000000) (disch := omega) only [seqQ_normal, blockQ_exit, runI_none, o_mv, o_call, ev_r, ev_f, putS, Sf.set, Sf.reg, getR, setR, id, dis_ptr, List.map_cons, List.map_nil, ↓reduceIte, Nat.reduceEqDiff, f6_67e, f6_68e, f6_68l]
    refine call_a rfl e_f20 ht rfl fun r st5 hr => ?_
    obtain ⟨rfl, bv5, h5, _, _⟩ := hr
    have hs := ctrysend_calls h5 1 (by unfold Bd at hb4; omega)
    have hR2 : pTrySend P4 1 = (P4, [], 14) := by
      unfold pTrySend; simp only [c4, if_true]
    rw [hR2] at hs
    simp only [hi0] at hs
    simp -implicitDefEqProofs (maxSteps := 10000000) (disch := omega) only [seqQ_normal, opsK_eq, runI_nil, runI_none, putP_eq, o_mv, o_ext, o_own, o_call, extV, wp_ok, bind_ok, ofOpt_some, ev_r, ev_c, ev_f, putS, Sf.set, Sf.reg, mask_eq, maskR_nil, maskR_cons, getR, setR, maskL, Sf.disAt, id, dis_lit, dis_ptr, dis_tup, own2_lit, List.map_cons, List.map_nil, List.getElem?_cons_zero, List.getElem?_cons_succ, ↓reduceIte, Nat.reduceEqDiff, f6_69e, f6_70e, f6_70l]
    refine call_a rfl e_f21 hs rfl fun r st6 hr => ?_
    obtain ⟨rfl, bv6, h6, _, _⟩ := hr
    have hln := clen_pure h6
    rw [b4] at hln
    simp -implicitDefEqProofs (maxSteps := 10000000) (disch := omega) only [seqQ_normal, opsK_eq, runI_nil, runI_none, runI_some, AI.dst, putP_eq, guard_tt, o_mv, o_pick, o_bin, o_ext, o_own, o_call, pick_tt, extV, n_eql, wp_ok, bind_ok, ofOpt_some, ev_r, ev_c, ev_f, putS, Sf.set, Sf.reg, mask_eq, maskR_nil, maskR_cons, getR, setR, maskL, Sf.disAt, id, dis_lit, dis_ptr, dis_tup, own2_lit, List.map_cons, List.map_nil, List.getElem?_cons_zero, List.getElem?_cons_succ, ↓reduceIte, Nat.reduceEqDiff, decide_true, f6_71e, f6_72e, f6_72l]
    refine call_p rfl e_f13 hln rfl ?_
    simp -implicitDefEqProofs (maxSteps := 10000000) (disch := omega) only [runI_none, runI_some, AI.dst, putP_eq, guard_tt, o_mv, o_pick, o_bin, o_call, pick_tt, n_eql, wp_ok, ev_r, ev_c, ev_f, putS, Sf.set, Sf.reg, getR, setR, id, dis_lit, List.map_nil, List.length_nil, Int.cast_ofNat_Int, ↓reduceIte, Nat.reduceEqDiff, decide_true]
    refine call_a rfl e_f10 (known36 _) rfl fun r st1 hr => ?_
    subst hr
    simp -implicitDefEqProofs (maxSteps := 10000000) (disch := omega) only [seqQ_normal, aC_ret, opsK_eq, retQ_ret, retI, runI_nil, runI_none, putP_eq, o_pick, o_own, pick_tt, wp_ok, ev_r, ev_c, putS, Sf.set, Sf.reg, mask_eq, maskR_nil, maskR_cons, getR, setR, maskL, Sf.disAt, dis_lit, noL_lit, ↓reduceIte, Nat.reduceEqDiff, Bool.true_and, true_and]
    exact hQ _ _ rfl

theorem channelHolds_top {n : Int} {l : List (Int × Int × Int × Unit)} : ACalls Go.Proofs.Try.prog n_f6 [.lit (.int .i64 n), .sl false 3 (l.map fun x => .agg [.lit (.int .i64 x.1), .lit (.int .i64 x.2.1), .lit (.int .i64 x.2.2.1)])] ⟨[]⟩ (fun v _ => v = .lit (.bool true)) := by
  rw [cas_lit]
  exact channelHolds_law n _
end Go.Fx.YtohlpjfhkejjgaaFx

