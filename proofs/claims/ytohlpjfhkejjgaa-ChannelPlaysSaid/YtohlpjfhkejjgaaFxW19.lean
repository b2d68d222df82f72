/- What the functions that the statement reaches compute: part 19. -/
import Derived.Test.YtohlpjfhkejjgaaFxW18
namespace Go.Fx.YtohlpjfhkejjgaaFx
open Go Go.Fx
attribute [local irreducible] aC runI headI loopI

set_option maxRecDepth 100000
set_option maxHeartbeats 4000000

theorem its_aggs (l : List It) : Aggs 4 (l.map itAV) := fun x hx => by
  simp only [List.mem_map] at hx
  obtain ⟨y, _, rfl⟩ := hx
  exact ⟨_, rfl, rfl, Lits.nil.cons.cons.cons.cons⟩

theorem endI_app (e : Int) (l k : List W3) : endI e (l ++ k) = endI e l ++ endI e k := by simp [endI]
/-- The cells in that function. -/
def clLoc (P : ChP) (v : AV) : List (Nat × List AV) :=
  [(1, [.lit (.int .i64 (P.cap : Nat)), .sl false 1 (ints P.buf), .sl false 2 (P.S.map wAV), .sl false 2 (P.V.map wAV), .lit (.bool false)]),
   (2, [.lit (.int .i64 0), .lit (.slice none 0 0), .lit (.slice none 0 0), .lit (.slice none 0 0), .lit (.bool false)]),
   (3, [.lit (.int .i64 0), .lit (.bool false), .lit (.slice none 0 0), .lit (.int .i64 0)]),
   (4, [.lit (.int .i64 0), .lit (.bool false), v, .lit (.int .i64 0)])]

/-- The 1th loop. -/
theorem refclose_loop1 (P : ChP) (hcl : P.closed = false) (hl : Sm P) (v0 : AV) (st0 : St) (o0 : List It) (ho : o0.length ≤ 10000) (h0 : MK 4 v0 st0 (o0.map itAV)) (hn0 : o0 = [] → v0 = .lit (.slice none 0 0)) (hb : NBs st0) (Q : Exit → Sf → St → Prop)
    (hQ : ∀ v st, MK 4 v st ((o0 ++ endI 13 P.V).map itAV) → (o0 ++ endI 13 P.V = [] → v = .lit (.slice none 0 0)) → NBs st → Q (.exit 0) ⟨[(1, .lptr 1 0), (2, .lptr 2 0), (3, .lptr 3 0), (4, .lptr 4 0)], clLoc P v⟩ st) :
    aC Go.Proofs.Try.prog id false f45_15 ⟨[(1, .lptr 1 0), (2, .lptr 2 0), (3, .lptr 3 0), (4, .lptr 4 0), (5, .lit (.int .i64 0))], clLoc P v0⟩ st0 Q := by
  unfold Sm at hl
  rw [f45_15w]
  refine loop_op (A := Nat × AV × St) (fun a => P.V.length - a.1) (fun a => ⟨[(1, .lptr 1 0), (2, .lptr 2 0), (3, .lptr 3 0), (4, .lptr 4 0), (5, .lit (.int .i64 (a.1 : Nat)))], clLoc P a.2.1⟩) (fun a => a.2.2)
    (fun a => a.1 ≤ P.V.length ∧ MK 4 a.2.1 a.2.2 ((o0 ++ endI 13 (P.V.take a.1)).map itAV) ∧ (o0 ++ endI 13 (P.V.take a.1) = [] → a.2.1 = .lit (.slice none 0 0)) ∧ NBs a.2.2) (0, v0, st0) ⟨by simp, by simpa [endI] using h0, by simpa [endI] using hn0, hb⟩ (Sf.le_refl _) rfl ?_
  rintro ⟨i, v, st⟩ ⟨h1, h2, hnl, h3⟩ K hK hKe hKr
  simp only at h1 h2 h3 hnl
  obtain ⟨v1, v2, v3, v4, v5, v6, v7, v8⟩ := h2.facts
  by_cases h : i < P.V.length
  · have e1 : (P.V.map wAV).getD i .any = wAV P.V[i] := by simp [List.getD, h]
    have hlen : ((o0 ++ endI 13 (P.V.take i)).map itAV).length = o0.length + i := by simp [endI]; omega
    have hnx : ∀ v' st', MK 4 v' st' ((o0 ++ endI 13 (P.V.take i)).map itAV ++ [itAV (P.V[i].2.1, 0, 13)]) → NBs st' → K .normal ⟨[(1, .lptr 1 0), (2, .lptr 2 0), (3, .lptr 3 0), (4, .lptr 4 0), (5, .lit (.int .i64 ((i + 1 : Nat))))], clLoc P v'⟩ st' := by
      intro v' st' h4 h5
      have hne : ∀ (a : List It) (x : It), a ++ [x] ≠ [] := by simp
      refine hK (i + 1, v', st') _ ⟨by simp only; omega, ?_, fun e => ?_, h5⟩ (by simp only; omega) (Sf.le_refl _)
      rotate_left
      · simp only at e
        rw [List.take_succ_eq_append_getElem h, endI_app, ← List.append_assoc] at e
        exact absurd e (hne _ _)
      simp only
      rw [List.take_succ_eq_append_getElem h, endI_app]
      simpa only [List.map_append, List.append_assoc, List.map_cons, List.map_nil, endI] using h4
    unfold clLoc at *
    have hroom : roomB (((o0 ++ endI 13 (P.V.take i)).map itAV).length + 1) 32 = true := room_of (by rw [hlen]; omega)
    have hfin : ∀ v' st', MK 4 v' st' ((o0 ++ endI 13 (P.V.take i)).map itAV ++ [itAV (P.V[i].2.1, 0, 13)]) → NBs st' → v'.solid1 = true ∧ v'.cells = [v'] := fun v' st' h4 _ => ⟨h4.facts.2.2.2.1, h4.facts.2.2.2.2.2.1⟩
    have h2' := h2
    rcases h2 with ⟨hv, _⟩ | ⟨bi, bcap, br, hv, _⟩
    all_goals
      subst hv
      simp -implicitDefEqProofs (maxSteps := 10000000) (disch := omega) only [List.contains_nil, h_nil, h_none, hh_mv, hh_addr, hh_ixS, hh_load, hh_bsl, hh_bst, val_head, tail_nil, and_self, seqQ_normal, aC_skip, opsK_eq, runI_nil, runI_none, putP_eq, o_mv, o_bin, o_addr, o_load, o_len, o_x, ixSV, loadV, bslV, bstV, stepX, List.reduceReplicate, ixA, lenI, addA, derefI, takeI_none, srcA, fillA, buildA, n_lss, wp_ok, bind_ok, bind_req, ofOpt_some, ev_r, ev_c, setB_r, putS, Sf.set, Sf.reg, mask_eq, maskR_nil, maskR_cons, getR, setR, maskL, look, dropL, dis_lit, dis_sl, dis_agg, dis_bs, own1_lit, cells_lit, cells_agg, solid1_lit, solid_eq, List.map_cons, List.map_nil, List.length_cons, List.length_nil, List.getElem?_cons_zero, List.getElem?_cons_succ, List.all_cons, List.all_nil, List.drop_zero, List.drop_succ_cons, List.set_cons_zero, List.set_cons_succ, Int.toNat_natCast, ↓reduceIte, Nat.reduceEqDiff, Nat.reduceAdd, Nat.reduceLT, Nat.reduceLeDiff, Bool.and_true, and_true, Nat.zero_add, Bool.false_eq_true, List.length_map, req_dec, cond_yes, and_pre, List.length_append, setAt_nil, setAt_cons, f45_16e, f45_17e, f45_18e, f45_18l, f45_19e, f45_20e, f45_21e, f45_22e, f45_22h, f45_22l, e1, wAV, v1]
      refine MK.app (l := (o0 ++ endI 13 (P.V.take i)).map itAV) (new := [itAV (P.V[i].2.1, 0, 13)]) (by simpa only [List.length_map, List.length_append] using h2') (its_aggs _) (its_aggs [(P.V[i].2.1, 0, 13)]) hroom fun v' st' h4 _ h5 => ?_
      obtain ⟨w1, w2, w3, w4, w5, w6, w7, w8⟩ := h4.facts
      simp -implicitDefEqProofs (maxSteps := 10000000) (disch := omega) only [seqQ_normal, blockQ_normal, opsK_eq, runI_nil, runI_none, putP_eq, putK_eq, o_mv, o_bin, o_addr, o_own, o_store, boxX, writeX, addA, n_add, wp_ok, ofOpt_some, ev_r, ev_c, evOwn_r, disOp_r, putS, Sf.set, Sf.reg, mask_eq, maskR_nil, maskR_cons, getR, setR, maskL, Sf.disAt, Sf.setLoc, look, drop1, dis_lit, solid_eq, List.length_cons, List.length_nil, List.all_cons, List.all_nil, List.set_cons_zero, List.set_cons_succ, ↓reduceIte, Nat.reduceEqDiff, Nat.reduceAdd, Nat.reduceLeDiff, Bool.true_and, Bool.and_true, and_true, true_and, Nat.zero_add, IntWalk.i64_in, up_addL, setAt_nil, setAt_cons, f45_23e, f45_23l, w1, w4, w6]
      exact hnx v' st' h4 (h5 h3)
  · have e : i = P.V.length := by omega
    rw [e, List.take_length] at h2 hnl
    unfold clLoc at *
    simp -implicitDefEqProofs (maxSteps := 10000000) (disch := omega) only [seqQ_normal, seqQ_exit, aC_exit, opsK_eq, runI_nil, runI_none, putP_eq, o_mv, o_bin, o_addr, o_load, o_len, loadV, lenI, addA, derefI, takeI_none, n_lss, wp_ok, bind_ok, ofOpt_some, ev_r, setB_r, putS, Sf.set, Sf.reg, mask_eq, maskR_nil, maskR_cons, getR, setR, maskL, look, dis_lit, dis_sl, List.drop_zero, List.drop_succ_cons, ↓reduceIte, Nat.reduceEqDiff, Nat.zero_add, List.length_map, cond_no, f45_16e, f45_17e, f45_18e, f45_18l, f45_19e]
    exact hKe _ _ _ (hQ _ _ h2 hnl h3)

/-- The 2th loop. -/
theorem refclose_loop2 (P : ChP) (hcl : P.closed = false) (hl : Sm P) (v0 : AV) (st0 : St) (o0 : List It) (ho : o0.length ≤ 10000) (h0 : MK 4 v0 st0 (o0.map itAV)) (hn0 : o0 = [] → v0 = .lit (.slice none 0 0)) (hb : NBs st0) (Q : Exit → Sf → St → Prop)
    (hQ : ∀ v st, MK 4 v st ((o0 ++ endI 14 P.S).map itAV) → (o0 ++ endI 14 P.S = [] → v = .lit (.slice none 0 0)) → NBs st → Q (.exit 2) ⟨[(1, .lptr 1 0), (2, .lptr 2 0), (3, .lptr 3 0), (4, .lptr 4 0)], clLoc P v⟩ st) :
    aC Go.Proofs.Try.prog id false f45_28 ⟨[(1, .lptr 1 0), (2, .lptr 2 0), (3, .lptr 3 0), (4, .lptr 4 0), (6, .lit (.int .i64 0))], clLoc P v0⟩ st0 Q := by
  unfold Sm at hl
  rw [f45_28w]
  refine loop_op (A := Nat × AV × St) (fun a => P.S.length - a.1) (fun a => ⟨[(1, .lptr 1 0), (2, .lptr 2 0), (3, .lptr 3 0), (4, .lptr 4 0), (6, .lit (.int .i64 (a.1 : Nat)))], clLoc P a.2.1⟩) (fun a => a.2.2)
    (fun a => a.1 ≤ P.S.length ∧ MK 4 a.2.1 a.2.2 ((o0 ++ endI 14 (P.S.take a.1)).map itAV) ∧ (o0 ++ endI 14 (P.S.take a.1) = [] → a.2.1 = .lit (.slice none 0 0)) ∧ NBs a.2.2) (0, v0, st0) ⟨by simp, by simpa [endI] using h0, by simpa [endI] using hn0, hb⟩ (Sf.le_refl _) rfl ?_
  rintro ⟨i, v, st⟩ ⟨h1, h2, hnl, h3⟩ K hK hKe hKr
  simp only at h1 h2 h3 hnl
  obtain ⟨v1, v2, v3, v4, v5, v6, v7, v8⟩ := h2.facts
  by_cases h : i < P.S.length
  · have e1 : (P.S.map wAV).getD i .any = wAV P.S[i] := by simp [List.getD, h]
    have hlen : ((o0 ++ endI 14 (P.S.take i)).map itAV).length = o0.length + i := by simp [endI]; omega
    have hnx : ∀ v' st', MK 4 v' st' ((o0 ++ endI 14 (P.S.take i)).map itAV ++ [itAV (P.S[i].2.1, 0, 14)]) → NBs st' → K .normal ⟨[(1, .lptr 1 0), (2, .lptr 2 0), (3, .lptr 3 0), (4, .lptr 4 0), (6, .lit (.int .i64 ((i + 1 : Nat))))], clLoc P v'⟩ st' := by
      intro v' st' h4 h5
      have hne : ∀ (a : List It) (x : It), a ++ [x] ≠ [] := by simp
      refine hK (i + 1, v', st') _ ⟨by simp only; omega, ?_, fun e => ?_, h5⟩ (by simp only; omega) (Sf.le_refl _)
      rotate_left
      · simp only at e
        rw [List.take_succ_eq_append_getElem h, endI_app, ← List.append_assoc] at e
        exact absurd e (hne _ _)
      simp only
      rw [List.take_succ_eq_append_getElem h, endI_app]
      simpa only [List.map_append, List.append_assoc, List.map_cons, List.map_nil, endI] using h4
    unfold clLoc at *
    have hroom : roomB (((o0 ++ endI 14 (P.S.take i)).map itAV).length + 1) 32 = true := room_of (by rw [hlen]; omega)
    have hfin : ∀ v' st', MK 4 v' st' ((o0 ++ endI 14 (P.S.take i)).map itAV ++ [itAV (P.S[i].2.1, 0, 14)]) → NBs st' → v'.solid1 = true ∧ v'.cells = [v'] := fun v' st' h4 _ => ⟨h4.facts.2.2.2.1, h4.facts.2.2.2.2.2.1⟩
    have h2' := h2
    rcases h2 with ⟨hv, _⟩ | ⟨bi, bcap, br, hv, _⟩
    all_goals
      subst hv
      simp -implicitDefEqProofs (maxSteps := 10000000) (disch := omega) only [List.contains_nil, h_nil, h_none, hh_mv, hh_addr, hh_ixS, hh_load, hh_bsl, hh_bst, val_head, tail_nil, and_self, seqQ_normal, aC_skip, opsK_eq, runI_nil, runI_none, putP_eq, o_mv, o_bin, o_addr, o_load, o_len, o_x, ixSV, loadV, bslV, bstV, stepX, List.reduceReplicate, ixA, lenI, addA, derefI, takeI_none, srcA, fillA, buildA, n_lss, wp_ok, bind_ok, bind_req, ofOpt_some, ev_r, ev_c, setB_r, putS, Sf.set, Sf.reg, mask_eq, maskR_nil, maskR_cons, getR, setR, maskL, look, dropL, dis_lit, dis_sl, dis_agg, dis_bs, own1_lit, cells_lit, cells_agg, solid1_lit, solid_eq, List.map_cons, List.map_nil, List.length_cons, List.length_nil, List.getElem?_cons_zero, List.getElem?_cons_succ, List.all_cons, List.all_nil, List.drop_zero, List.drop_succ_cons, List.set_cons_zero, List.set_cons_succ, Int.toNat_natCast, ↓reduceIte, Nat.reduceEqDiff, Nat.reduceAdd, Nat.reduceLT, Nat.reduceLeDiff, Bool.and_true, and_true, Nat.zero_add, Bool.false_eq_true, List.length_map, req_dec, cond_yes, and_pre, List.length_append, setAt_nil, setAt_cons, f45_29e, f45_30e, f45_31e, f45_31l, f45_32e, f45_33e, f45_34e, f45_35e, f45_35h, f45_35l, e1, wAV, v1]
      refine MK.app (l := (o0 ++ endI 14 (P.S.take i)).map itAV) (new := [itAV (P.S[i].2.1, 0, 14)]) (by simpa only [List.length_map, List.length_append] using h2') (its_aggs _) (its_aggs [(P.S[i].2.1, 0, 14)]) hroom fun v' st' h4 _ h5 => ?_
      obtain ⟨w1, w2, w3, w4, w5, w6, w7, w8⟩ := h4.facts
      simp -implicitDefEqProofs (maxSteps := 10000000) (disch := omega) only [seqQ_normal, blockQ_normal, opsK_eq, runI_nil, runI_none, putP_eq, putK_eq, o_mv, o_bin, o_addr, o_own, o_store, boxX, writeX, addA, n_add, wp_ok, ofOpt_some, ev_r, ev_c, evOwn_r, disOp_r, putS, Sf.set, Sf.reg, mask_eq, maskR_nil, maskR_cons, getR, setR, maskL, Sf.disAt, Sf.setLoc, look, drop1, dis_lit, solid_eq, List.length_cons, List.length_nil, List.all_cons, List.all_nil, List.set_cons_zero, List.set_cons_succ, ↓reduceIte, Nat.reduceEqDiff, Nat.reduceAdd, Nat.reduceLeDiff, Bool.true_and, Bool.and_true, and_true, true_and, Nat.zero_add, IntWalk.i64_in, up_addL, setAt_nil, setAt_cons, f45_36e, f45_36l, w1, w4, w6]
      exact hnx v' st' h4 (h5 h3)
  · have e : i = P.S.length := by omega
    rw [e, List.take_length] at h2 hnl
    unfold clLoc at *
    simp -implicitDefEqProofs (maxSteps := 10000000) (disch := omega) only [seqQ_normal, seqQ_exit, aC_exit, opsK_eq, runI_nil, runI_none, putP_eq, o_mv, o_bin, o_addr, o_load, o_len, loadV, lenI, addA, derefI, takeI_none, n_lss, wp_ok, bind_ok, ofOpt_some, ev_r, setB_r, putS, Sf.set, Sf.reg, mask_eq, maskR_nil, maskR_cons, getR, setR, maskL, look, dis_lit, dis_sl, List.drop_zero, List.drop_succ_cons, ↓reduceIte, Nat.reduceEqDiff, Nat.zero_add, List.length_map, cond_no, f45_29e, f45_30e, f45_31e, f45_31l, f45_32e]
    exact hKe _ _ _ (hQ _ _ h2 hnl h3)

theorem refclose_pure (P : ChP) (hl : Sm P) (st : St) : PCalls Go.Proofs.Try.prog n_f45 [refAV P] st (rrAV ((pClose P).1, 0, false, (pClose P).2.1, (pClose P).2.2)) := by
  have hl' := hl
  unfold Sm at hl
  refine pure_of (acalls_op hmix k_f45 rfl rfl fun Q hQ => ?_) (by simp [ref_nb]) st
  unfold aFun c_f45
  unfold pClose at hQ
  cases hcl : P.closed with
  | true =>
    rw [hcl] at hQ
    simp only [if_true] at hQ
    simp -implicitDefEqProofs (maxSteps := 10000000) (disch := omega) only [and_self, seqQ_normal, seqQ_ret, aC_ret, opsK_eq, retQ_ret, retI, resI, resL, runI_nil, runI_none, putP_eq, cond_tt, o_addr, o_load, o_bst, o_newL, o_boxL, o_store, loadV, bstV, boxX, writeX, addA, derefI, takeI_none, takeI_some, buildA, wp_ok, bind_ok, bind_req, ofOpt_some, req_tt, ev_r, ev_c, evOwn_r, disOp_r, setB_r, putS, Sf.set, Sf.reg, mask_eq, maskR_nil, maskR_cons, getR, setR, maskL, Sf.disAt, Sf.newLoc, Sf.setLoc, look, killR, drop1, regs0, dis_lit, dis_agg, own1_lit, own1_sl, cells_lit, cells_agg, solid1_lit, solid1_sl, solid_eq, noL_agg, noL_tup, kill_lptr, kill_agg, List.map_cons, List.map_nil, List.length_cons, List.length_nil, List.getElem?_cons_zero, List.getElem?_cons_succ, List.all_cons, List.all_nil, List.drop_zero, List.drop_succ_cons, List.take_succ_cons, List.take_zero, List.set_cons_zero, List.set_cons_succ, ↓reduceIte, Nat.reduceEqDiff, Nat.reduceAdd, Nat.reduceLeDiff, Bool.true_and, Bool.and_true, and_true, true_and, reduceCtorEq, Nat.zero_add, decide_true, setAt_nil, setAt_cons, f45_1e, f45_2e, f45_2l, f45_3e, f45_4e, f45_5e, f45_5l, f45_6e, f45_7e, f45_8e, f45_8l, refAV, wlAV, hcl]
    refine hQ _ _ (.le _ _ ?_ (rr_nb _))
    simp only [rrAV, refAV, hcl]
    exact .refl _
  | false =>
    rw [hcl] at hQ
    simp only [Bool.false_eq_true, if_false] at hQ
    simp -implicitDefEqProofs (maxSteps := 10000000) (disch := omega) only [seqQ_normal, aC_skip, opsK_eq, runI_nil, runI_none, putP_eq, cond_ff, o_mv, o_addr, o_load, o_newL, o_boxL, loadV, boxX, addA, derefI, takeI_none, wp_ok, bind_ok, ofOpt_some, ev_r, ev_c, evOwn_r, setB_r, putS, Sf.set, Sf.reg, mask_eq, maskR_nil, maskR_cons, getR, setR, maskL, Sf.newLoc, look, killR, drop1, regs0, dis_lit, dis_agg, own1_lit, own1_sl, cells_agg, solid1_lit, solid1_sl, solid_eq, kill_lit, kill_lptr, kill_agg, List.map_cons, List.map_nil, List.length_cons, List.length_nil, List.all_cons, List.all_nil, List.drop_zero, List.drop_succ_cons, ↓reduceIte, Nat.reduceEqDiff, Nat.reduceAdd, Bool.true_and, Bool.and_true, and_true, true_and, reduceCtorEq, Nat.zero_add, f45_1e, f45_2e, f45_2l, f45_3e, f45_4e, f45_5e, f45_5l, f45_6e, f45_9e, f45_10e, f45_10l, f45_11e, f45_12e, f45_13e, f45_13l, f45_14e, refAV, wlAV, hcl]
    refine refclose_loop1 P hcl hl' _ _ [] (by simp) (.inl ⟨rfl, rfl⟩) (fun _ => rfl) NBs.nil _ fun v1 st1 h1 n1 b1 => ?_
    unfold clLoc
    obtain ⟨w1, w2, w3, w4, w5, w6, w7, w8⟩ := h1.facts
    simp -implicitDefEqProofs (maxSteps := 10000000) (disch := omega) only [seqQ_normal, blockQ_exit, opsK_eq, runI_nil, runI_none, o_mv, ev_c, putS, Sf.set, mask_eq, maskR_nil, maskR_cons, getR, setR, maskL, look, dis_lit, ↓reduceIte, Nat.reduceEqDiff, f45_24e, f45_25e, f45_26e, f45_26l, f45_27e]
    refine refclose_loop2 P hcl hl' v1 st1 ([] ++ endI 13 P.V) (by simp [endI]; omega) h1 n1 b1 _ fun v2 st2 h2 n2 b2 => ?_
    unfold clLoc
    obtain ⟨w1, w2, w3, w4, w5, w6, w7, w8⟩ := h2.facts
    simp -implicitDefEqProofs (maxSteps := 10000000) (disch := omega) only [List.contains_nil, List.contains_cons, Nat.reduceBEq, Bool.or_false, ksB, storesOf, newsOf, appsOf, distinctB, finSS, finNN, nstB, nstsOf, h_nil, h_none, hh_load, hh_store, headAddr_eq, headStore_eq, val_head, tail_eq, cons_store, seqQ_normal, blockQ_exit, aC_ret, opsK_eq, retQ_ret, retI, resI, resL, runI_nil, runI_none, putP_eq, o_addr, o_store, loadV, boxX, writeX, addA, derefI, takeI_some, wp_ok, bind_ok, bind_req, ofOpt_some, req_tt, ev_r, evOwn_r, evOwn_c, disOp_r, disOp_c, putS, Sf.set, Sf.reg, mask_eq, maskR_nil, maskR_cons, getR, setR, maskL, Sf.disAt, Sf.setLoc, look, drop1, dropL, dis_lit, dis_agg, own1_lit, own1_sl, cells_lit, cells_agg, solid1_lit, solid1_sl, solid_eq, noL_agg, noL_tup, List.map_cons, List.map_nil, List.length_cons, List.length_nil, List.all_cons, List.all_nil, List.nil_append, List.drop_zero, List.take_succ_cons, List.take_zero, List.set_cons_zero, List.set_cons_succ, ↓reduceIte, Nat.reduceEqDiff, Nat.reduceAdd, Nat.reduceLeDiff, Bool.true_and, Bool.and_true, and_true, true_and, Nat.zero_add, or_false, decide_true, Bool.not_false, Bool.false_eq_true, setAt_nil, setAt_cons, f45_37e, f45_38e, f45_38l, f45_39e, f45_40e, f45_40h, f45_40l, w2, w4]
    refine hQ _ _ ?_
    have hf := h2.frz (by decide) (its_aggs _) b2
    have hi : Frz st2 v2 (itsAV (endI 13 P.V ++ endI 14 P.S)) := by
      unfold itsAV
      split
      · rename_i e
        rw [n2 (by rw [List.nil_append]; exact e)]
        exact .le _ _ (.refl _) (.lit _)
      · exact hf
    have hno : ∀ l, (itsAV l).noOwn := fun l => by unfold itsAV; split <;> trivial
    have f1 : frzL st2 [.lit (.int .i64 (P.cap : Nat)), .sl false 1 (ints P.buf), .lit (.slice none 0 0), .lit (.slice none 0 0), .lit (.bool true)] [.lit (.int .i64 (P.cap : Nat)), .sl false 1 (ints P.buf), wlAV [], wlAV [], .lit (.bool true)] :=
      ⟨.le _ _ (.refl _) (.lit _), .le _ _ (.refl _) (ints_nb _), .le _ _ (.nil _ _) (wl_nb []), .le _ _ (.nil _ _) (wl_nb []), .le _ _ (.refl _) (.lit _), trivial⟩
    have f2 : frzL st2 [.lit (.int .i64 0), .lit (.bool false), v2, .lit (.int .i64 0)] [.lit (.int .i64 0), .lit (.bool false), itsAV (endI 13 P.V ++ endI 14 P.S), .lit (.int .i64 0)] :=
      ⟨.le _ _ (.refl _) (.lit _), .le _ _ (.refl _) (.lit _), hi, .le _ _ (.refl _) (.lit _), trivial⟩
    have f3 : frzL st2 [.agg [.lit (.int .i64 (P.cap : Nat)), .sl false 1 (ints P.buf), .lit (.slice none 0 0), .lit (.slice none 0 0), .lit (.bool true)], .agg [.lit (.int .i64 0), .lit (.bool false), v2, .lit (.int .i64 0)]]
        [.agg [.lit (.int .i64 (P.cap : Nat)), .sl false 1 (ints P.buf), wlAV [], wlAV [], .lit (.bool true)], .agg [.lit (.int .i64 0), .lit (.bool false), itsAV (endI 13 P.V ++ endI 14 P.S), .lit (.int .i64 0)]] :=
      ⟨.agg _ _ (frzL_facts f1).1 (frzL_facts f1).2 (by simp [wlAV, AV.noOwn]), .agg _ _ (frzL_facts f2).1 (frzL_facts f2).2 (by
        simp only [List.mem_cons, List.not_mem_nil, or_false]
        rintro d (rfl | rfl | rfl | rfl)
        · trivial
        · trivial
        · exact hno _
        · trivial), trivial⟩
    exact .tup _ _ (frzL_facts f3).1 (frzL_facts f3).2
end Go.Fx.YtohlpjfhkejjgaaFx

