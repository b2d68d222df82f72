/- What the functions that the statement reaches compute: part 13. -/
import Derived.Test.YtddifejdkiemgaaFxW12
namespace Go.Fx.YtddifejdkiemgaaFx
open Go Go.Fx
attribute [local irreducible] aC runI headI loopI

set_option maxRecDepth 100000
set_option maxHeartbeats 4000000

/-- What Advance comes to. -/
def advV (sz to : Int) : Nat → List Int → List Vt → List Int × List Vt × List Gt
  | 0, H, V => (H, V, [])
  | k + 1, H, V => if to < nextV V then (H, V, []) else
    let r := serveV sz H (keepD (nextV V) V)
    let s := advV sz to k r.1 r.2.1
    (s.1, s.2.1, expD (nextV V) V ++ r.2.2 ++ s.2.2)
def sAdv (sz nw : Int) (H : List Int) (V : List Vt) (to : Int) : Rt × Int :=
  if to < nw ∨ to = nev then ((H, V, [], 3), nw) else (((advV sz to (V.length + 1) H V).1, (advV sz to (V.length + 1) H V).2.1, (advV sz to (V.length + 1) H V).2.2, 0), to)
theorem keepD_lt {V : List Vt} {to : Int} (h1 : to < nev) (h2 : ¬ to < nextV V) : (keepD (nextV V) V).length + (expD (nextV V) V).length = V.length ∧ (keepD (nextV V) V).length < V.length := by
  have hsum : ∀ l : List Vt, (keepD (nextV V) l).length + (expD (nextV V) l).length = l.length := by
    intro l
    induction l with
    | nil => rfl
    | cons v l ih =>
      simp only [keepD, expD, List.length_map, List.filter_cons] at ih ⊢
      by_cases e : v.2.2 = nextV V
      · simp [e] at ih ⊢; omega
      · simp [e] at ih ⊢; omega
  refine ⟨hsum V, ?_⟩
  rcases nextV_at V with e | ⟨v, hv, e⟩
  · omega
  · have : 0 < (expD (nextV V) V).length := by
      simp only [expD, List.length_map]
      exact List.length_pos_of_mem (List.mem_filter.2 ⟨hv, by simpa using e⟩)
    have := hsum V
    omega

section
variable {b q mid wid g : Nat} {sz nw : Int} {H : List Int} {V : List Vt}

theorem sadv_outer {st0 : St} (h : SmIs st0 b q mid wid sz nw H V g) (hg0 : g < 1000000) (to : Int) (hto : to < nev) (Q : Exit → Sf → St → Prop)
    (hQ : ∀ v st', GB v st' (advV sz to (V.length + 1) H V).2.2 → SmIs st' b q mid wid sz nw (advV sz to (V.length + 1) H V).1 (advV sz to (V.length + 1) H V).2.1 g → to < nextV (advV sz to (V.length + 1) H V).2.1 → Gw st0 st' b q mid wid (.lit (.slice none 0 0)) v → Q (.exit 0) ⟨[(0, .ptr b 0), (1, .lit (.int .u64 to)), (6, v)], []⟩ st') :
    aC Go.Proofs.Try.prog id false f39_21 ⟨[(0, .ptr b 0), (1, .lit (.int .u64 to)), (6, .lit (.slice none 0 0)), (7, .lit (.int .u64 (nextV V)))], []⟩ st0 Q := by
  have hcn0 := h.cnt
  rw [f39_21w]
  refine loop_op (A := Nat × List Int × List Vt × List Gt × AV × St) (fun a => a.2.2.1.length) (fun a => ⟨[(0, .ptr b 0), (1, .lit (.int .u64 to)), (6, a.2.2.2.2.1), (7, .lit (.int .u64 (nextV a.2.2.1)))], []⟩) (fun a => a.2.2.2.2.2)
    (fun a => a.2.2.1.length < a.1 ∧ SmIs a.2.2.2.2.2 b q mid wid sz nw a.2.1 a.2.2.1 g ∧ GB a.2.2.2.2.1 a.2.2.2.2.2 a.2.2.2.1 ∧ Gw st0 a.2.2.2.2.2 b q mid wid (.lit (.slice none 0 0)) a.2.2.2.2.1 ∧ a.2.2.1.length + a.2.2.2.1.length ≤ V.length ∧
      advV sz to (V.length + 1) H V = ((advV sz to a.1 a.2.1 a.2.2.1).1, (advV sz to a.1 a.2.1 a.2.2.1).2.1, a.2.2.2.1 ++ (advV sz to a.1 a.2.1 a.2.2.1).2.2)) (V.length + 1, H, V, [], .lit (.slice none 0 0), st0) ⟨by simp, h, .inl ⟨rfl, rfl⟩, .refl (by simp [bufIds]), by simp, by simp⟩ (Sf.le_refl _) rfl ?_
  rintro ⟨k, H1, V1, l, v, st⟩ ⟨h1, h2, hv, hw, hln, he⟩ K hK hKe hKr
  simp only at h1 h2 hv hw hln he
  obtain ⟨k, rfl⟩ : ∃ k', k = k' + 1 := ⟨k - 1, by omega⟩
  by_cases hc : to < nextV V1
  · have e1 : advV sz to (k + 1) H1 V1 = (H1, V1, []) := by rw [advV, if_pos hc]
    rw [e1] at he
    rw [he] at hQ
    have hr := hQ v st (by simpa using hv) h2 hc hw
    rcases hv.k with rfl | ⟨ib, ln, cap, rfl⟩
    all_goals
      simp -implicitDefEqProofs (maxSteps := 10000000) (disch := omega) only [seqQ_normal, seqQ_exit, aC_exit, opsK_eq, runI_nil, runI_none, putP_eq, o_mv, o_bin, n_leq, wp_ok, ev_r, setB_r, putS, Sf.set, Sf.reg, mask_eq, maskR_nil, maskR_cons, getR, setR, maskL, dis_lit, ↓reduceIte, Nat.reduceEqDiff, reduceCtorEq, cond_no, f39_22e, f39_23e, f39_24e, f39_24l, f39_25e]
      refine hKe _ _ _ ?_
      exact hr
  have e1 : advV sz to (k + 1) H1 V1 = ((advV sz to k (serveV sz H1 (keepD (nextV V1) V1)).1 (serveV sz H1 (keepD (nextV V1) V1)).2.1).1, (advV sz to k (serveV sz H1 (keepD (nextV V1) V1)).1 (serveV sz H1 (keepD (nextV V1) V1)).2.1).2.1,
      expD (nextV V1) V1 ++ (serveV sz H1 (keepD (nextV V1) V1)).2.2 ++ (advV sz to k (serveV sz H1 (keepD (nextV V1) V1)).1 (serveV sz H1 (keepD (nextV V1) V1)).2.1).2.2) := by rw [advV, if_neg hc]
  rw [e1] at he
  obtain ⟨kd1, kd2⟩ := keepD_lt hto hc
  have hsl := serveV_len sz (keepD (nextV V1) V1) H1
  have hlv : (ints (vtk V1)).length = V1.length := by simp [ints, vtk]
  have hwt := swaiting_calls h2
  obtain ⟨T, hT⟩ : ∃ T, T = ints (vtk V1) := ⟨_, rfl⟩
  have hinner : ∀ st1, st.boxes.length ≤ st1.boxes.length → (∀ id, id < st.boxes.length → st1.boxes[id]? = st.boxes[id]?) → SmIs st1 b q mid wid sz nw H1 V1 g ∧ GB v st1 l ∧ Gw st0 st1 b q mid wid (.lit (.slice none 0 0)) v := fun st1 a1 a2 => by
    have hlt := h2.lts
    refine ⟨h2.at fun i hi => a2 i (hlt i hi), hv.at fun i hi => a2 i (hv.lt i hi), hw.trans ⟨⟨a1, fun i hi _ => a2 i hi⟩, fun i hi => .inl hi, hw.dj⟩⟩
  have hfin : ∀ v1 st2, GB v1 st2 (l ++ expD (nextV V1) V1) → SmIs st2 b q mid wid sz nw H1 (keepD (nextV V1) V1) g → Gw st0 st2 b q mid wid (.lit (.slice none 0 0)) v1 →
      ACalls Go.Proofs.Try.prog n_f64 [.ptr b 0, v1] st2 (fun r st' => GBk r ∧ PCalls Go.Proofs.Try.prog n_f42 [.ptr b 0] st' (.lit (.int .u64 (nextV (serveV sz H1 (keepD (nextV V1) V1)).2.1))) ∧
        ∀ sf, sf = (⟨[(0, .ptr b 0), (1, .lit (.int .u64 to)), (6, r), (7, .lit (.int .u64 (nextV (serveV sz H1 (keepD (nextV V1) V1)).2.1)))], []⟩ : Sf) → K .normal sf st') := fun v1 st2 b1 b2 b3 => by
    have hlt2 := b2.lts
    refine (sserve_calls b2 hg0 b1 b3.dj (by simp only [List.length_append]; omega)).mono fun r st3 ⟨c1, c2, c3, c4⟩ => ⟨c1.k, snext_pure c2, fun sf hsf => ?_⟩
    subst hsf
    refine hK (k, (serveV sz H1 (keepD (nextV V1) V1)).1, (serveV sz H1 (keepD (nextV V1) V1)).2.1, l ++ expD (nextV V1) V1 ++ (serveV sz H1 (keepD (nextV V1) V1)).2.2, r, st3) _ ⟨by simp only; omega, c2, c1, b3.trans (.of hlt2 b3.dj c3 c4), by simp only [List.length_append]; omega, by rw [he]; simp⟩ (by simp only; omega) ?_
    rcases c1.k with rfl | ⟨ib, ln, cap, rfl⟩ <;> exact Sf.le_refl _
  rcases hv.k with rfl | ⟨ib, ln, cap, rfl⟩
  all_goals
    simp -implicitDefEqProofs (maxSteps := 10000000) (disch := omega) only [seqQ_normal, aC_skip, opsK_eq, runI_nil, runI_none, putP_eq, o_mv, o_bin, o_call, n_leq, wp_ok, ev_r, ev_f, setB_r, putS, Sf.set, Sf.reg, mask_eq, maskR_nil, maskR_cons, getR, setR, maskL, id, dis_lit, dis_ptr, List.map_cons, List.map_nil, ↓reduceIte, Nat.reduceEqDiff, reduceCtorEq, cond_yes, f39_22e, f39_23e, f39_24e, f39_24l, f39_25e, f39_26e, f39_27e, f39_28e, f39_29e, f39_30e, f39_30l]
    refine call_a rfl e_f34 hwt rfl fun r st1 hr => ?_
    obtain ⟨rfl, a1, a2⟩ := hr
    obtain ⟨d1, d2, d3⟩ := hinner st1 a1 a2
    simp -implicitDefEqProofs (maxSteps := 10000000) (disch := omega) only [seqQ_normal, opsK_eq, runI_nil, runI_none, putP_eq, o_mv, o_len, lenI, wp_ok, ev_r, ev_c, putS, Sf.set, Sf.reg, mask_eq, maskR_nil, maskR_cons, getR, setR, maskL, dis_lit, ↓reduceIte, Nat.reduceEqDiff, reduceCtorEq, f39_31e, hlv]
    refine sadv_inner d1 hg0 d2 d3.dj (by omega) (nextV V1) to _ fun v1 st2 b1 b2 b3 => ?_
    have hsv := hfin v1 st2 b1 b2 (d3.trans b3)
    rcases b1.k with rfl | ⟨ib', ln', cap', rfl⟩
    all_goals
      simp -implicitDefEqProofs (maxSteps := 10000000) (disch := omega) only [seqQ_normal, blockQ_exit, runI_none, o_mv, o_call, ev_r, ev_f, putS, Sf.set, Sf.reg, getR, setR, id, dis_lit, dis_ptr, dis_bs, List.map_cons, List.map_nil, ↓reduceIte, Nat.reduceEqDiff, reduceCtorEq, f39_48e, f39_48l]
      refine call_a rfl e_f64 hsv rfl fun r st3 hr => ?_
      obtain ⟨c1, c2, c3⟩ := hr
      rcases c1 with rfl | ⟨ib2, ln2, cap2, rfl⟩
      all_goals
        simp -implicitDefEqProofs (maxSteps := 10000000) (disch := omega) only [seqQ_normal, blockQ_normal, opsK_eq, runI_nil, runI_none, o_mv, o_own, o_call, ev_r, ev_f, putS, Sf.set, Sf.reg, mask_eq, maskR_nil, maskR_cons, getR, setR, maskL, Sf.disAt, id, dis_lit, dis_ptr, dis_bs, List.map_cons, List.map_nil, ↓reduceIte, Nat.reduceEqDiff, reduceCtorEq, f39_49e, f39_49l]
        refine call_p rfl e_f42 c2 rfl ?_
        simp -implicitDefEqProofs (maxSteps := 10000000) (disch := omega) only [opsK_eq, runI_nil, runI_none, o_own, putS, Sf.set, Sf.reg, mask_eq, maskR_nil, maskR_cons, getR, setR, maskL, Sf.disAt, dis_lit, ↓reduceIte, Nat.reduceEqDiff, reduceCtorEq]
        exact c3 _ rfl

theorem sadv_calls {st : St} (h : SmIs st b q mid wid sz nw H V g) (hg0 : g < 1000000) (to : Int) (hto0 : 0 ≤ to) (hto : to ≤ nev) : ACalls Go.Proofs.Try.prog n_f39 [.ptr b 0, .lit (.int .u64 to)] st (fun r st' =>
    GrPost st b q mid wid sz (sAdv sz nw H V to).2 g (sAdv sz nw H V to).1 r st') := by
  have hg := h.get
  refine acalls_op hmix k_f39 rfl rfl fun Q hQ => ?_
  unfold aFun c_f39
  unfold sAdv at hQ
  by_cases h1 : to < nw
  · rw [if_pos (.inl h1)] at hQ
    simp -implicitDefEqProofs (maxSteps := 10000000) (disch := omega) only [seqQ_normal, opsK_eq, runI_nil, runI_none, o_mv, o_call, ev_r, ev_c, ev_f, putS, Sf.set, Sf.reg, mask_eq, maskR_nil, maskR_cons, getR, setR, maskL, regs0, id, dis_lit, dis_ptr, List.map_cons, List.map_nil, ↓reduceIte, Nat.reduceEqDiff, reduceCtorEq, Nat.zero_add, f39_1e, f39_2e, f39_2l, f39_3e, f39_4e, f39_5e, f39_5l]
    refine call_p rfl e_f59 h.z rfl ?_
    simp -implicitDefEqProofs (maxSteps := 10000000) (disch := omega) only [seqQ_normal, seqQ_ret, aC_skip, aC_ret, opsK_eq, retQ_ret, retI, resI, resL, runI_nil, runI_none, runI_some, skipI_eq, AI.dst, putP_eq, cond_tt, cond_ff, guard_tt, o_mv, o_pick, o_bin, o_addr, o_load, o_nilck, pick_tt, loadV, nilckV, addA, derefI, takeI_none, n_lss, wp_ok, bind_ok, ofOpt_some, ev_r, ev_c, setB_r, putS, Sf.set, Sf.reg, mask_eq, maskR_nil, maskR_cons, getR, setR, maskL, dis_lit, dis_ptr, noL_lit, noL_tup, List.all_cons, List.all_nil, List.drop_zero, List.drop_succ_cons, ↓reduceIte, Nat.reduceEqDiff, Bool.true_and, Bool.and_true, and_true, true_and, reduceCtorEq, Nat.zero_add, Bool.false_eq_true, guard_yes, f39_6e, f39_9e, f39_10e, f39_11e, f39_11l, f39_12e, f39_13e, f39_14e, f39_14l, hg]
    exact hQ _ _ (.err h 3)
  by_cases h2 : to = nev
  · rw [if_pos (.inr h2)] at hQ
    have h2' : to = 18446744073709551615 := h2
    simp -implicitDefEqProofs (maxSteps := 10000000) (disch := omega) only [seqQ_normal, opsK_eq, runI_nil, runI_none, o_mv, o_call, ev_r, ev_c, ev_f, putS, Sf.set, Sf.reg, mask_eq, maskR_nil, maskR_cons, getR, setR, maskL, regs0, id, dis_lit, dis_ptr, List.map_cons, List.map_nil, ↓reduceIte, Nat.reduceEqDiff, reduceCtorEq, Nat.zero_add, f39_1e, f39_2e, f39_2l, f39_3e, f39_4e, f39_5e, f39_5l]
    refine call_p rfl e_f59 h.z rfl ?_
    simp -implicitDefEqProofs (maxSteps := 10000000) (disch := omega) only [seqQ_normal, seqQ_ret, aC_skip, aC_ret, opsK_eq, retQ_ret, retI, resI, resL, runI_nil, runI_none, runI_some, AI.dst, putP_eq, cond_ff, guard_ff, o_mv, o_pick, o_bin, o_addr, o_load, o_nilck, pick_ff, loadV, nilckV, addA, derefI, takeI_none, n_eql, n_lss, wp_ok, bind_ok, ofOpt_some, ev_r, ev_c, setB_r, putS, Sf.set, Sf.reg, mask_eq, maskR_nil, maskR_cons, getR, setR, maskL, dis_lit, dis_ptr, noL_lit, noL_tup, List.all_cons, List.all_nil, List.drop_zero, List.drop_succ_cons, ↓reduceIte, Nat.reduceEqDiff, Bool.true_and, Bool.and_true, and_true, true_and, reduceCtorEq, Nat.zero_add, Bool.false_eq_true, cond_yes, guard_no, f39_6e, f39_9e, f39_10e, f39_11e, f39_11l, f39_12e, f39_13e, f39_14e, f39_14l, hg]
    exact hQ _ _ (.err h 3)
  rw [if_neg (by rintro (e | e); exact h1 e; exact h2 e)] at hQ
  have h2' : ¬ to = 18446744073709551615 := h2
  simp -implicitDefEqProofs (maxSteps := 10000000) (disch := omega) only [seqQ_normal, opsK_eq, runI_nil, runI_none, o_mv, o_call, ev_r, ev_c, ev_f, putS, Sf.set, Sf.reg, mask_eq, maskR_nil, maskR_cons, getR, setR, maskL, regs0, id, dis_lit, dis_ptr, List.map_cons, List.map_nil, ↓reduceIte, Nat.reduceEqDiff, reduceCtorEq, Nat.zero_add, f39_1e, f39_2e, f39_2l, f39_3e, f39_4e, f39_5e, f39_5l]
  refine call_p rfl e_f59 h.z rfl ?_
  simp -implicitDefEqProofs (maxSteps := 10000000) (disch := omega) only [seqQ_normal, aC_skip, opsK_eq, runI_nil, runI_none, runI_some, AI.dst, putP_eq, cond_ff, guard_ff, o_mv, o_pick, o_bin, o_addr, o_load, o_nilck, o_call, pick_ff, loadV, nilckV, addA, derefI, takeI_none, n_eql, n_lss, wp_ok, bind_ok, ofOpt_some, ev_r, ev_c, ev_f, setB_r, putS, Sf.set, Sf.reg, mask_eq, maskR_nil, maskR_cons, getR, setR, maskL, id, dis_lit, dis_ptr, List.map_cons, List.map_nil, List.drop_zero, List.drop_succ_cons, ↓reduceIte, Nat.reduceEqDiff, reduceCtorEq, Nat.zero_add, Bool.false_eq_true, cond_no, guard_no, f39_6e, f39_9e, f39_10e, f39_11e, f39_11l, f39_12e, f39_15e, f39_16e, f39_16l, f39_17e, f39_18e, f39_19e, f39_19l, hg]
  refine call_p rfl e_f42 (snext_pure h) rfl ?_
  simp -implicitDefEqProofs (maxSteps := 10000000) (disch := omega) only [seqQ_normal, opsK_eq, runI_nil, runI_none, o_own, putS, Sf.set, Sf.reg, mask_eq, maskR_nil, maskR_cons, getR, setR, maskL, Sf.disAt, dis_lit, ↓reduceIte, Nat.reduceEqDiff, reduceCtorEq, f39_20e]
  refine sadv_outer h hg0 to (by unfold nev at *; omega) _ fun v st' a1 a2 a3 a4 => ?_
  obtain ⟨H', hH⟩ : ∃ H', H' = (advV sz to (V.length + 1) H V).1 := ⟨_, rfl⟩
  obtain ⟨V', hV⟩ : ∃ V', V' = (advV sz to (V.length + 1) H V).2.1 := ⟨_, rfl⟩
  rw [← hH, ← hV] at a2 hQ
  rw [← hV] at a3
  have hg2 := a2.get
  have hlt := get_lt hg2
  have hlts := a2.lts
  obtain ⟨i1, i2, i3, i4, i5⟩ := a2.ids
  have hfin : ∀ st2, st2 = st'.set b (smC sz (sz - H'.sum) to H' q wid) → Q (.tup [v, .lit (.int .i64 0)]) st2 := fun st2 e2 => by
    subst e2
    have ho : Oth st' (st'.set b (smC sz (sz - H'.sum) to H' q wid)) [b] := Oth.set _ _ _ (by simp)
    obtain ⟨W, w1, w2, m, w3, w4⟩ := a2.qi
    refine hQ _ _ ⟨v, rfl, a1.at fun i hi => ho.2 i (by have := a4.dj i hi; simp at this ⊢; exact this.1), ⟨get_set hlt, ⟨W, w1, w2.oth ho (by simp; omega) (by simp; omega), m, w3.oth ho (by simp; omega), w4⟩, a2.hl, a2.hb, a2.hs, a2.szb, ⟨hto0, by show to < nev; omega⟩, a2.nd, fun x hx => ?_, a2.ids⟩, (a4.fr.mono (by simp [bufIds])).trans (.oth ho (S' := [b, q, mid, wid]) (by simp)) (fun x hx => .inl hx), fun i hi => ?_⟩
    · obtain ⟨k1, k2, k3⟩ := a2.wk x hx
      have := (nextV_le V').2 x hx
      exact ⟨k1, k2, by omega, k3.2⟩
    · have := a4.ids i hi
      simpa [bufIds] using this
  rcases a1.k with rfl | ⟨ib, ln, cap, rfl⟩
  all_goals
    simp -implicitDefEqProofs (maxSteps := 10000000) (disch := omega) only [seqQ_normal, blockQ_exit, aC_ret, opsK_eq, retQ_ret, retI, resI, resL, runI_nil, runI_none, putP_eq, o_mv, o_addr, o_nilck, o_own, o_store, nilckV, boxX, writeX, addA, wp_ok, bind_ok, ofOpt_some, ev_r, ev_c, evOwn_r, disOp_r, putS, Sf.set, Sf.reg, mask_eq, maskR_nil, maskR_cons, getR, setR, maskL, Sf.disAt, dis_lit, dis_ptr, dis_bs, cells_lit, solid1_lit, solid_eq, noL_lit, noL_tup, noL_bs, List.length_cons, List.length_nil, List.all_cons, List.all_nil, List.set_cons_zero, List.set_cons_succ, ↓reduceIte, Nat.reduceEqDiff, Nat.reduceAdd, Nat.reduceLeDiff, Bool.true_and, Bool.and_true, and_true, true_and, reduceCtorEq, Nat.zero_add, setAt_nil, setAt_cons, f39_50e, f39_51e, f39_51l, f39_52e, f39_53e, f39_53l, hg2]
    exact hfin _ rfl
end
end Go.Fx.YtddifejdkiemgaaFx

