/- What the functions that the statement reaches compute: part 21. -/
import Derived.Test.YtohlpjfhkejjgaaFxW20
namespace Go.Fx.YtohlpjfhkejjgaaFx
open Go Go.Fx
attribute [local irreducible] aC runI headI loopI

set_option maxRecDepth 100000
set_option maxHeartbeats 8000000

/-- A call that changes nothing, behind one that does. -/
theorem call_1 {P : Program} {q : FuncId} {fs cs args vs : List AV} {d : Option Nat} {sf : Sf} {C : AV → Sf → Prop} {v : AV} (hvs : fs ++ args.map AV.dis ++ cs = vs) (hent : enterB P q = true) (h : ∀ s, PCalls P q vs s v) (hn : args.all AV.noL = true) (hK : valM C d sf v) : callM1 P d (.fn (.func q) fs cs) args C sf := by
  subst hvs
  exact ⟨hn, hent, v, h, hK⟩

/-- The channel after all calls. -/
def pAll (P : ChP) : List Ca → ChP
  | [] => P
  | a :: l => pAll (pDo P a).1 l
theorem pAll_snoc (P : ChP) (l : List Ca) (a : Ca) : pAll P (l ++ [a]) = (pDo (pAll P l) a).1 := by
  induction l generalizing P with
  | nil => rfl
  | cons b l ih => exact ih _
theorem pAll_take {P : ChP} {l : List Ca} {i : Nat} (h : i < l.length) : pAll P (l.take (i + 1)) = (pDo (pAll P (l.take i)) l[i]).1 := by
  rw [List.take_succ_eq_append_getElem h, pAll_snoc]

theorem ref_cells (P : ChP) : (refAV P).cells = [.lit (.int .i64 (P.cap : Nat)), .sl false 1 (ints P.buf), wlAV P.S, wlAV P.V, .lit (.bool P.closed)] := rfl

section
variable {c q0 m0 q1 m1 wid : Nat}

theorem plays_loop {st0 : St} {P0 : ChP} {bv0 : AV} {n0 : Nat} {ps : List AV} (h0 : ChIs st0 c P0 q0 m0 q1 m1 wid bv0) (hb0 : Bd P0 n0) (l : List Ca) (hl : l.length ≤ 100) (hn0 : n0 ≤ 1000) (Q : Exit → Sf → St → Prop)
    (hQ : ∀ st, ChPost st0 c (pAll P0 l) q0 m0 q1 m1 wid bv0 st → Q (.exit 0) ⟨[(4, .lptr 4 0), (6, .lptr 6 0)], [(4, (refAV (pAll P0 l)).cells), (6, ps)]⟩ st) :
    aC Go.Proofs.Try.prog id false f16_7 ⟨[(0, .ptr c 0), (2, casAV l), (4, .lptr 4 0), (6, .lptr 6 0), (8, .lit (.int .i64 0))], [(4, (refAV P0).cells), (6, ps)]⟩ st0 Q := by
  rw [f16_7w]
  refine loop_op (A := Nat × ChP × St) (fun a => l.length - a.1) (fun a => ⟨[(0, .ptr c 0), (2, casAV l), (4, .lptr 4 0), (6, .lptr 6 0), (8, .lit (.int .i64 (a.1 : Nat)))], [(4, (refAV a.2.1).cells), (6, ps)]⟩) (fun a => a.2.2)
    (fun a => a.1 ≤ l.length ∧ a.2.1 = pAll P0 (l.take a.1) ∧ ChPost st0 c a.2.1 q0 m0 q1 m1 wid bv0 a.2.2 ∧ Bd a.2.1 (n0 + a.1)) (0, P0, st0) ⟨by simp, by simp [pAll], h0.post (.refl _ _), hb0⟩ (Sf.le_refl _) rfl ?_
  rintro ⟨i, P, st⟩ ⟨h1, h2, h3p, h4⟩ K hK hKe hKr
  simp only at h1 h2 h3p h4
  have h3q := h3p
  obtain ⟨bv, h3, hk3, hf3⟩ := h3q
  by_cases hi : i < l.length
  · obtain ⟨a, ha⟩ : ∃ a, a = l[i] := ⟨_, rfl⟩
    have e1 : (l.map caAV).getD i .any = caAV a := by simp [List.getD, hi, ← ha]
    have hb := bd_do h4 a
    have hP' : (pDo P a).1 = pAll P0 (l.take (i + 1)) := by rw [pAll_take hi, ← h2, ha]
    have hm := fun st => makes_pure P a (by unfold Bd at h4; unfold Sm; omega) h3.nd (fun t ht => (h3.rng t ht).1) st
    have hd := cdo_calls h3 a (n := n0 + i) ⟨h4, by omega⟩
    have heq : ∀ st, PCalls Go.Proofs.Try.prog n_f23 [rsAV (pDo P a).2, rsAV (pDo P a).2] st (.lit (.bool true)) := fun st => by have := requal_pure (pDo P a).2 (pDo P a).2 (by omega) (by omega) st; simpa using this
    generalize pDo P a = R at *
    obtain ⟨P', xv, xd, xe, xr⟩ := R
    obtain ⟨w, t, v⟩ := a
    simp only [rrAV, caAV] at hm hd heq hP' e1
    have hnx : ∀ st', ChPost st c P' q0 m0 q1 m1 wid bv st' → K .normal ⟨[(0, .ptr c 0), (2, casAV l), (4, .lptr 4 0), (6, .lptr 6 0), (8, .lit (.int .i64 ((i + 1 : Nat))))], [(4, (refAV P').cells), (6, ps)]⟩ st' := fun st' g =>
      hK (i + 1, P', st') _ ⟨by simp only; omega, hP', g.trans hk3 hf3, by simp only; rw [← Nat.add_assoc]; exact hb.1⟩ (by simp only; omega) (Sf.le_refl _)
    simp only [ref_cells] at hnx ⊢
    obtain ⟨w1, w2, w3, w4, w5, w6, w7⟩ := itsAV_facts xe
    simp only [rsAV, refAV, wlAV] at hm hd heq hnx
    simp -implicitDefEqProofs (maxSteps := 10000000) (disch := omega) only [List.contains_nil, List.contains_cons, Nat.reduceBEq, Bool.or_false, h_none, hh_mv, hh_ixS, hh_load, hh_call, val_head, seqQ_normal, aC_skip, opsK_eq, runI_nil, runI_none, putP_eq, o_mv, o_bin, o_len, ixSV, loadV, ixA, lenI, derefI, takeI_some, n_lss, wp_ok, bind_ok, bind_req, ofOpt_some, req_tt, ev_r, ev_f, setB_r, putS, Sf.set, Sf.reg, mask_eq, maskR_nil, maskR_cons, getR, setR, maskL, look, dropL, id, dis_lit, dis_sl, dis_agg, own1_lit, own1_sl, cells_agg, List.map_cons, List.map_nil, List.length_cons, List.length_nil, List.drop_zero, List.take_succ_cons, List.take_zero, Int.toNat_natCast, ↓reduceIte, Nat.reduceEqDiff, Nat.reduceAdd, Nat.reduceLeDiff, reduceCtorEq, Nat.zero_add, or_false, decide_true, Bool.false_eq_true, List.length_map, req_dec, cond_yes, and_pre, f16_8e, f16_9e, f16_10e, f16_10l, f16_11e, f16_12e, f16_13e, f16_14e, f16_15e, f16_15h, f16_15l, casAV, e1, wlAV]
    refine call_h rfl e_f31 (hm _) rfl ?_
    simp -implicitDefEqProofs (maxSteps := 10000000) (disch := omega) only [List.contains_nil, List.contains_cons, Nat.reduceBEq, Bool.or_false, Bool.or_true, ksB, storesOf, newsOf, appsOf, distinctB, finSS, finNN, headNst_eq, cons_nst, nstB, nstsOf, nstOf, Option.getD_some, Option.getD_none, nst_beq, h_nil, h_none, hh_mv, hh_ext, hh_newL, hh_store, cons_val, val_head, tail_eq, cons_new, seqQ_normal, opsK_eq, runI_nil, runI_none, o_store, extV, boxX, writeX, wp_ok, bind_ok, ofOpt_some, ev_r, evOwn_r, disOp_r, putS, Sf.set, Sf.reg, mask_eq, maskR_nil, maskR_cons, getR, setR, maskL, Sf.disAt, Sf.newLoc, Sf.setLoc, look, killR, drop1, dis_agg, dis_tup, own1_lit, own1_sl, own2_agg, cells_agg, solid1_lit, solid1_sl, solid_eq, kill_any, kill_lit, kill_ptr, kill_lptr, kill_cptr, kill_sl, kill_agg, kill_tup, List.map_cons, List.map_nil, List.length_cons, List.length_nil, List.getElem?_cons_zero, List.getElem?_cons_succ, List.all_cons, List.all_nil, List.nil_append, List.cons_append, List.set_cons_zero, List.set_cons_succ, ↓reduceIte, Nat.reduceEqDiff, Nat.reduceAdd, Nat.reduceLeDiff, Bool.true_and, Bool.and_true, and_true, true_and, reduceCtorEq, Nat.zero_add, or_true, or_false, Bool.not_false, setAt_nil, setAt_cons, f16_16e, f16_17e, f16_18e, f16_18h, f16_18p, f16_18l, w2, w4]
    refine draw_m ⟨[]⟩ (St.sub_nil _) ?_
    simp -implicitDefEqProofs (maxSteps := 10000000) (disch := omega) only [m_nil, m_none, m_val, mm_mv, mm_ixS, mm_load, atM_eq, ixSV, loadV, ixA, derefI, takeI_some, wp_ok, bind_ok, bind_req, req_tt, ev_r, ev_f, putS, Sf.set, Sf.reg, getR, setR, id, dis_lit, dis_ptr, dis_sl, dis_agg, own1_lit, cells_agg, List.map_cons, List.map_nil, List.length_cons, List.length_nil, List.nil_append, List.cons_append, List.take_succ_cons, List.take_zero, Int.toNat_natCast, ↓reduceIte, Nat.reduceEqDiff, Nat.reduceAdd, Nat.reduceLeDiff, reduceCtorEq, Nat.zero_add, decide_true, List.length_map, req_dec, and_pre, e1]
    refine call_m rfl e_f11 hd rfl ?_
    simp -implicitDefEqProofs (maxSteps := 10000000) (disch := omega) only [mm_load, hm_nil, hm_hole, hm_none, hm_val, AI.dst, loadV, derefI, takeI_some, wp_ok, bind_ok, bind_req, ofOpt_some, req_tt, ev_r, putS, Sf.set, Sf.reg, getR, setR, look, dis_agg, own1_lit, List.map_cons, List.map_nil, List.length_cons, List.length_nil, List.nil_append, List.cons_append, List.drop_zero, List.take_succ_cons, List.take_zero, ↓reduceIte, Nat.reduceEqDiff, Nat.reduceAdd, Nat.reduceLeDiff, reduceCtorEq, Nat.zero_add, decide_true, w2]
    rintro r st1 ⟨rfl, g1⟩
    refine ⟨St.sub_nil _, ?_⟩
    simp -implicitDefEqProofs (maxSteps := 10000000) (disch := omega) only [m_none, m_val, mm_load, mm_call, loadV, derefI, takeI_some, wp_ok, bind_ok, bind_req, ofOpt_some, req_tt, ev_r, ev_f, putS, Sf.set, Sf.reg, getR, setR, look, id, dis_agg, own1_lit, List.map_cons, List.map_nil, List.length_cons, List.length_nil, List.nil_append, List.drop_zero, List.take_succ_cons, List.take_zero, ↓reduceIte, Nat.reduceEqDiff, Nat.reduceAdd, Nat.reduceLeDiff, reduceCtorEq, Nat.zero_add, decide_true, w2]
    refine call_1 (by simp only [List.map_cons, List.map_nil, List.nil_append, List.append_nil, dis_agg, own1_lit, w1, w2, w3, w4, w5, w6, w7]) e_f23 heq rfl ?_
    have g1' := g1
    obtain ⟨bv1, g2, g3, g4⟩ := g1'
    have hs := same_pure g2
    simp only [refAV, wlAV] at hs
    have hfin := hnx st1 g1
    simp -implicitDefEqProofs (maxSteps := 10000000) (disch := omega) only [m_nil, m_none, m_some, m_val, mm_mv, mm_un, mm_load, postM_eq, compM_nil, compM_t, compM_f, tailM_eq, guardH_ff, and_self, runI_some, AI.dst, guard_ff, o_call, loadV, derefI, takeI_some, unA, wp_ok, bind_ok, bind_req, ofOpt_some, req_tt, ev_r, ev_f, putS, Sf.set, Sf.reg, getR, setR, look, id, dis_lit, dis_ptr, dis_agg, own1_lit, own1_sl, List.map_cons, List.map_nil, List.length_cons, List.length_nil, List.nil_append, List.cons_append, List.drop_zero, List.take_succ_cons, List.take_zero, ↓reduceIte, Nat.reduceEqDiff, Nat.reduceAdd, Nat.reduceLeDiff, Bool.true_and, true_and, reduceCtorEq, Nat.zero_add, decide_true, Bool.not_true, Bool.false_eq_true]
    refine call_p rfl e_f15 hs rfl ?_
    simp -implicitDefEqProofs (maxSteps := 10000000) (disch := omega) only [seqQ_normal, blockQ_normal, aC_skip, opsK_eq, runI_nil, runI_none, runI_some, AI.dst, putP_eq, cond_ff, guard_ff, o_mv, o_pick, o_bin, o_un, o_load, o_own, o_store, pick_ff, loadV, boxX, writeX, derefI, takeI_some, unA, n_add, wp_ok, bind_ok, bind_req, ofOpt_some, req_tt, ev_r, ev_c, evOwn_r, disOp_r, setB_r, putS, Sf.set, Sf.reg, mask_eq, maskR_nil, maskR_cons, getR, setR, maskL, Sf.disAt, Sf.setLoc, look, drop1, dis_lit, dis_agg, own1_lit, own1_sl, cells_agg, solid1_lit, solid1_sl, solid_eq, List.map_cons, List.map_nil, List.length_cons, List.length_nil, List.all_cons, List.all_nil, List.drop_zero, List.take_succ_cons, List.take_zero, List.set_cons_zero, List.set_cons_succ, ↓reduceIte, Nat.reduceEqDiff, Nat.reduceAdd, Nat.reduceLeDiff, Bool.true_and, Bool.and_true, and_true, true_and, reduceCtorEq, Nat.zero_add, decide_true, Bool.not_true, Bool.false_eq_true, IntWalk.i64_in, up_addL, setAt_nil, setAt_cons, f16_19e, f16_22e, f16_22l, f16_23e, f16_23l]
    exact hfin
  · have hfin : K (.exit 0) ⟨[(4, .lptr 4 0), (6, .lptr 6 0)], [(4, (refAV P).cells), (6, ps)]⟩ st := by
      refine hKe _ _ _ ?_
      have : i = l.length := by omega
      subst this
      rw [h2, List.take_length] at h3p ⊢
      exact hQ _ h3p
    simp -implicitDefEqProofs (maxSteps := 10000000) (disch := omega) only [seqQ_normal, seqQ_exit, aC_exit, opsK_eq, runI_nil, runI_none, putP_eq, o_mv, o_bin, o_len, lenI, n_lss, wp_ok, ev_r, setB_r, putS, Sf.set, Sf.reg, mask_eq, maskR_nil, maskR_cons, getR, setR, maskL, look, dis_lit, dis_sl, ↓reduceIte, Nat.reduceEqDiff, reduceCtorEq, List.length_map, cond_no, f16_8e, f16_9e, f16_10e, f16_10l, f16_11e, casAV]
    exact hfin
end
end Go.Fx.YtohlpjfhkejjgaaFx

