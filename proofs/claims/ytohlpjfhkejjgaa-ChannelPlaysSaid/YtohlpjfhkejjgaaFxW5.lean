/- What the functions that the statement reaches compute: part 5. -/
import Derived.Test.YtohlpjfhkejjgaaFxW4
namespace Go.Fx.YtohlpjfhkejjgaaFx
open Go Go.Fx
attribute [local irreducible] aC runI headI loopI

set_option maxRecDepth 100000
set_option maxHeartbeats 4000000

theorem items_pure (x : AV) (hx : x.dis = x) (hn : x.noL = true) (st : St) : PCalls Go.Proofs.Try.prog n_f34 [x] st x := by
  refine pcalls_id hmix k_f34 rfl rfl fun Q hQ => ?_
  unfold aFun c_f34
  simp -implicitDefEqProofs (maxSteps := 10000000) (disch := omega) only [seqQ_normal, aC_ret, opsK_eq, retQ_ret, retI, runI_nil, runI_none, o_mv, o_own, wp_ok, ev_r, ev_c, putS, Sf.set, Sf.reg, mask_eq, maskR_nil, maskR_cons, getR, setR, maskL, Sf.disAt, regs0, dis_lit, ↓reduceIte, Nat.reduceEqDiff, Bool.true_and, true_and, reduceCtorEq, f34_1e, f34_2e, f34_2l, f34_3e, f34_4e, f34_4l, hx, hn]
  exact hQ _

section
variable {st : St} {c q0 m0 q1 m1 wid : Nat} {bv : AV} {P : ChP}

theorem ctrysend_calls (h : ChIs st c P q0 m0 q1 m1 wid bv) (v : Int) (hb : P.g1 < 100000 ∧ P.buf.length < 100000 ∧ P.cap ≤ 4096) :
    ACalls Go.Proofs.Try.prog n_f21 [.ptr c 0, .lit (.int .i64 v)] st (fun r st' => r = .tup [itsAV (pTrySend P v).2.1, .lit (.int .i64 (pTrySend P v).2.2)] ∧ ChPost st c (pTrySend P v).1 q0 m0 q1 m1 wid bv st') := by
  have hg := h.get
  obtain ⟨v1, v2, v3, v4, v5, v6, v7, v8⟩ := h.buf.facts
  refine acalls_op hmix k_f21 rfl rfl fun Q hQ => ?_
  unfold aFun c_f21
  generalize hR : pTrySend P v = R at hQ
  unfold pTrySend at hR
  simp -implicitDefEqProofs (maxSteps := 10000000) (disch := omega) only [seqQ_normal, opsK_eq, runI_nil, runI_none, o_mv, o_call, ev_r, ev_c, ev_f, putS, Sf.set, Sf.reg, mask_eq, maskR_nil, maskR_cons, getR, setR, maskL, regs0, id, dis_lit, dis_ptr, List.map_cons, List.map_nil, ↓reduceIte, Nat.reduceEqDiff, reduceCtorEq, Nat.zero_add, f21_1e, f21_2e, f21_2l, f21_3e, f21_4e, f21_5e, f21_5l]
  refine call_p rfl e_f29 (czero_pure h) rfl ?_
  cases hcl : P.closed with
  | true =>
    rw [hcl] at hR
    simp only [if_true] at hR
    subst hR
    simp -implicitDefEqProofs (maxSteps := 10000000) (disch := omega) only [seqQ_normal, seqQ_ret, aC_skip, aC_ret, opsK_eq, retQ_ret, retI, resI, resL, runI_nil, runI_none, putP_eq, cond_tt, cond_ff, o_mv, o_addr, o_load, o_nilck, loadV, nilckV, addA, derefI, takeI_none, wp_ok, bind_ok, ofOpt_some, ev_r, ev_c, setB_r, putS, Sf.set, Sf.reg, mask_eq, maskR_nil, maskR_cons, getR, setR, maskL, dis_lit, dis_ptr, noL_lit, noL_tup, List.all_cons, List.all_nil, List.drop_zero, List.drop_succ_cons, ↓reduceIte, Nat.reduceEqDiff, Bool.true_and, Bool.and_true, and_true, true_and, reduceCtorEq, Nat.zero_add, f21_6e, f21_9e, f21_10e, f21_11e, f21_11l, f21_12e, f21_13e, f21_14e, f21_14l, hg, hcl]
    exact hQ _ _ ⟨rfl, h.post (Kp.refl _ _)⟩
  | false =>
    rw [hcl] at hR
    simp only [Bool.false_eq_true, if_false] at hR
    simp -implicitDefEqProofs (maxSteps := 10000000) (disch := omega) only [seqQ_normal, aC_skip, opsK_eq, runI_nil, runI_none, putP_eq, cond_ff, o_mv, o_addr, o_load, o_nilck, o_call, loadV, nilckV, addA, derefI, takeI_none, wp_ok, bind_ok, ofOpt_some, ev_r, ev_c, ev_f, setB_r, putS, Sf.set, Sf.reg, mask_eq, maskR_nil, maskR_cons, getR, setR, maskL, id, dis_lit, dis_ptr, List.map_cons, List.map_nil, List.drop_zero, List.drop_succ_cons, ↓reduceIte, Nat.reduceEqDiff, reduceCtorEq, Nat.zero_add, f21_6e, f21_9e, f21_10e, f21_11e, f21_11l, f21_12e, f21_15e, f21_16e, f21_17e, f21_17l, hg, hcl]
    cases hV : P.V with
    | cons x l =>
      obtain ⟨k, t, v0⟩ := x
      rw [hV] at hR
      simp only at hR
      subst hR
      refine call_a rfl e_f32 (cfirst1_cons h hV (by omega)) rfl fun r st1 hr => ?_
      obtain ⟨rfl, h1, ho⟩ := hr
      simp -implicitDefEqProofs (maxSteps := 10000000) (disch := omega) only [and_self, seqQ_normal, opsK_eq, runI_nil, runI_none, putP_eq, cond_tt, o_mv, o_ext, o_bsl, o_bst, o_own, o_call, extV, bslV, bstV, List.reduceReplicate, fillA, buildA, wp_ok, bind_ok, ofOpt_some, ev_r, ev_f, setB_r, putS, Sf.set, Sf.reg, mask_eq, maskR_nil, maskR_cons, getR, setR, maskL, Sf.disAt, id, dis_lit, dis_agg, dis_tup, own1_lit, own2_lit, cells_lit, cells_agg, solid1_lit, solid_eq, List.map_cons, List.map_nil, List.length_cons, List.length_nil, List.getElem?_cons_zero, List.getElem?_cons_succ, List.all_cons, List.all_nil, List.set_cons_zero, List.set_cons_succ, ↓reduceIte, Nat.reduceEqDiff, Nat.reduceAdd, Nat.reduceLT, Nat.reduceLeDiff, Bool.and_true, and_true, reduceCtorEq, Nat.zero_add, setAt_nil, setAt_cons, f21_18e, f21_19e, f21_19l, f21_20e, f21_21e, f21_22e, f21_22l]
      refine call_p rfl e_f34 (items_pure (.sl false 4 [itAV (t, v, 0)]) rfl rfl _) rfl ?_
      simp -implicitDefEqProofs (maxSteps := 10000000) (disch := omega) only [seqQ_normal, seqQ_ret, aC_ret, opsK_eq, retQ_ret, retI, resI, resL, runI_nil, runI_none, o_mv, o_own, wp_ok, bind_ok, ev_c, putS, Sf.set, Sf.reg, mask_eq, maskR_nil, maskR_cons, getR, setR, maskL, Sf.disAt, dis_lit, dis_sl, noL_lit, noL_sl, noL_tup, List.all_cons, List.all_nil, ↓reduceIte, Nat.reduceEqDiff, Bool.true_and, Bool.and_true, and_true, true_and, reduceCtorEq]
      refine hQ _ _ ⟨rfl, ?_⟩
      have h2 := h1.post (ho.kp (F := foot c q0 m0 q1 m1 wid bv) (by simp [foot]))
      rw [hcl] at h2
      exact h2
    | nil =>
      rw [hV] at hR
      simp only at hR
      refine call_a rfl e_f32 (cfirst1_nil h hV) rfl fun r st1 hr => ?_
      obtain ⟨rfl, hst⟩ := hr
      subst st1
      simp -implicitDefEqProofs (maxSteps := 10000000) (disch := omega) only [h_nil, h_none, hh_mv, hh_addr, hh_load, hh_nilck, hh_len, val_head, tail_nil, seqQ_normal, aC_skip, opsK_eq, runI_nil, runI_none, putP_eq, cond_ff, o_mv, o_bin, o_ext, o_own, extV, loadV, nilckV, addA, derefI, takeI_none, n_lss, wp_ok, bind_ok, ofOpt_some, ev_r, setB_r, putS, Sf.set, Sf.reg, mask_eq, maskR_nil, maskR_cons, getR, setR, maskL, Sf.disAt, dropL, dis_lit, dis_ptr, dis_tup, own2_lit, List.map_cons, List.map_nil, List.getElem?_cons_zero, List.getElem?_cons_succ, List.drop_zero, List.drop_succ_cons, ↓reduceIte, Nat.reduceEqDiff, reduceCtorEq, Nat.zero_add, f21_18e, f21_19e, f21_19l, f21_20e, f21_23e, f21_24e, f21_25e, f21_25h, f21_25l, f21_26e, hg, v1, v8, ints_len]
      refine cond_split (fun h2 => ?_) (fun h2 => ?_)
      · rw [if_pos (by omega)] at hR
        subst hR
        have hnb : c ∉ bufIds bv := fun e => h.bid c e (by simp)
        have hlc := get_lt hg
        have fin : ∀ v' st', MB v' st' (ints P.buf ++ ints [v]) → Kp st st' (bufIds bv) → (∀ x ∈ bufIds v', x ∈ bufIds bv ∨ st.boxes.length ≤ x) →
            st'.get c = some [.lit (.bool true), .lit (.bool false), .lit (.int .i64 (P.cap : Nat)), bv, .ptr q0 0, .ptr q1 0, .map wid] ∧ Q (.tup [.lit (.slice none 0 0), .lit (.int .i64 0)]) (st'.set c [.lit (.bool true), .lit (.bool false), .lit (.int .i64 (P.cap : Nat)), v', .ptr q0 0, .ptr q1 0, .map wid]) := by
          intro v' st' hm' hk' hb'
          have h2 := h.rebuf (cl := P.closed) (b' := P.buf ++ [v]) (by rw [ints_app]; exact hm') hk' hb'
          rw [hcl] at h2
          refine ⟨(get_at (hk'.2 c hlc hnb)).trans (by rw [hg, hcl]), hQ _ _ ⟨rfl, ?_⟩⟩
          simpa only [hV, hcl] using h2
        have hroom : roomB ((ints P.buf).length + (ints [v]).length) 8 = true := room_of (by simp [ints_len]; omega)
        rcases h.buf with ⟨hb0, _⟩ | ⟨bi, bcap, br, hb0, _⟩
        all_goals
          subst hb0
          simp -implicitDefEqProofs (maxSteps := 10000000) (disch := omega) only [and_self, runI_none, putP_eq, o_mv, o_addr, o_nilck, o_bsl, o_loadOwn, o_x, loadV, nilckV, bslV, loadOwnX, stepX, List.reduceReplicate, addA, derefI, takeI_none, srcA, fillA, wp_ok, bind_ok, ofOpt_some, ev_r, setB_r, putS, Sf.set, Sf.reg, getR, setR, dis_lit, dis_ptr, cells_lit, solid1_lit, solid_eq, List.map_cons, List.map_nil, List.length_cons, List.length_nil, List.getElem?_cons_zero, List.getElem?_cons_succ, List.all_cons, List.all_nil, List.drop_zero, List.drop_succ_cons, List.set_cons_zero, ↓reduceIte, Nat.reduceEqDiff, Nat.reduceLT, Bool.and_true, and_true, reduceCtorEq, Nat.zero_add, Bool.false_eq_true, f21_27e, f21_28e, f21_28l, hg, v1]
          refine MB.grow h.buf (ints_lits _) (ints_lits [v]) hroom fun v' st' hm' hk' hb' => ?_
          obtain ⟨hg', hq⟩ := fin v' st' hm' hk' hb'
          obtain ⟨w1, w2, w3, w4, w5, w6, w7, w8⟩ := hm'.facts
          simp -implicitDefEqProofs (maxSteps := 10000000) (disch := omega) only [seqQ_normal, seqQ_ret, aC_ret, opsK_eq, retQ_ret, retI, resI, resL, runI_nil, runI_none, putP_eq, putK_eq, o_mv, o_addr, o_nilck, o_store, nilckV, boxX, writeX, addA, wp_ok, bind_ok, ofOpt_some, ev_r, ev_c, evOwn_r, disOp_r, putS, Sf.set, Sf.reg, mask_eq, maskR_nil, maskR_cons, getR, setR, maskL, Sf.disAt, dis_lit, solid_eq, noL_lit, noL_tup, List.length_cons, List.length_nil, List.all_cons, List.all_nil, List.set_cons_zero, List.set_cons_succ, ↓reduceIte, Nat.reduceEqDiff, Nat.reduceAdd, Nat.reduceLeDiff, Bool.true_and, Bool.and_true, and_true, true_and, reduceCtorEq, Nat.zero_add, setAt_nil, setAt_cons, f21_29e, f21_30e, f21_30l, hg', w6, w4]
          exact hq
      · rw [if_neg (by omega)] at hR
        subst hR
        simp -implicitDefEqProofs (maxSteps := 10000000) (disch := omega) only [seqQ_normal, aC_skip, aC_ret, opsK_eq, retQ_ret, retI, resI, resL, runI_nil, runI_none, o_mv, wp_ok, bind_ok, ev_c, setB_r, putS, Sf.set, Sf.reg, mask_eq, maskR_nil, maskR_cons, getR, setR, maskL, dis_lit, noL_lit, noL_tup, List.all_cons, List.all_nil, ↓reduceIte, Nat.reduceEqDiff, Bool.true_and, Bool.and_true, and_true, true_and, reduceCtorEq, f21_31e, f21_32e, f21_32l]
        exact hQ _ _ ⟨rfl, h.post (Kp.refl _ _)⟩
end
end Go.Fx.YtohlpjfhkejjgaaFx

