/- What the functions that the statement reaches compute: part 16. -/
import Derived.Test.YtohlpjfhkejjgaaFxW15
namespace Go.Fx.YtohlpjfhkejjgaaFx
open Go Go.Fx
attribute [local irreducible] aC runI headI loopI

set_option maxRecDepth 100000
set_option maxHeartbeats 4000000

/-- Who waits, and when. -/
structure Hi (P : ChP) (n : Nat) : Prop where
  cap : P.cap = n
  len : P.buf.length ≤ n
  s : P.S ≠ [] → P.V = [] ∧ P.buf.length = n ∧ P.closed = false
  v : P.V ≠ [] → P.buf = [] ∧ P.closed = false

theorem Hi.new (n : Nat) : Hi (newP n) n := ⟨rfl, by simp [newP], by simp [newP], by simp [newP]⟩
theorem Hi.trySend {P : ChP} {n : Nat} (h : Hi P n) (v : Int) : Hi (pTrySend P v).1 n := by
  unfold pTrySend
  split
  · exact h
  · split
    · rename_i hc _ x l hV
      have hv := h.v (by rw [hV]; simp)
      refine ⟨h.cap, h.len, fun e => ?_, fun _ => hv⟩
      have := (h.s e).1
      rw [hV] at this; cases this
    · rename_i hV
      split
      · rename_i hlt
        have hc := h.cap
        refine ⟨h.cap, by simp only [List.length_append, List.length_singleton]; omega, fun e => ?_, fun e => absurd hV e⟩
        have := (h.s e).2.1
        omega
      · exact h
theorem send_16 {P : ChP} {v : Int} (h : (pTrySend P v).2.2 = 16) : P.closed = false ∧ P.V = [] ∧ P.cap ≤ P.buf.length := by
  unfold pTrySend at h
  split at h
  · simp at h
  · rename_i hc
    split at h
    · simp at h
    · rename_i hV
      split at h
      · simp at h
      · rename_i hlt
        exact ⟨by simpa using hc, hV, by omega⟩
theorem Hi.tryReceive {P : ChP} {n : Nat} (h : Hi P n) : Hi (pTryReceive P).1 n := by
  unfold pTryReceive
  split
  · rename_i x l hS
    obtain ⟨h1, h2, h3⟩ := h.s (by rw [hS]; simp)
    exact ⟨h.cap, by simp only [List.length_tail, List.length_append, List.length_singleton]; omega, fun _ => ⟨h1, by simp only [List.length_tail, List.length_append, List.length_singleton]; omega, h3⟩, fun e => absurd h1 e⟩
  · rename_i hS
    split
    · exact h
    · rename_i x b hB
      have hl := h.len
      rw [hB, List.length_cons] at hl
      refine ⟨h.cap, by simp only; omega, fun e => absurd hS e, fun e => ?_⟩
      have := (h.v e).1
      rw [hB] at this; cases this
theorem recv_16 {P : ChP} (h : (pTryReceive P).2.2.2 = 16) : P.S = [] ∧ P.buf = [] ∧ P.closed = false := by
  unfold pTryReceive at h
  split at h
  · simp at h
  · rename_i hS
    split at h
    · rename_i hB
      simp only at h
      split at h
      · simp at h
      · rename_i hc
        exact ⟨hS, hB, by simpa using hc⟩
    · simp at h
theorem Hi.do {P : ChP} {n : Nat} (h : Hi P n) (a : Ca) : Hi (pDo P a).1 n := by
  unfold pDo
  split
  · unfold pSend
    split
    · exact h
    · split
      · rename_i h16
        obtain ⟨h1, h2, h3⟩ := send_16 h16
        have hc := h.cap
        have hl := h.len
        exact ⟨h.cap, h.len, fun _ => ⟨h2, by simp only; omega, h1⟩, h.v⟩
      · exact h.trySend _
  split
  · unfold pReceive
    split
    · exact h
    · split
      · rename_i h16
        obtain ⟨h1, h2, h3⟩ := recv_16 h16
        exact ⟨h.cap, h.len, fun e => absurd h1 e, fun _ => ⟨h2, h3⟩⟩
      · exact h.tryReceive
  split
  · exact h.trySend _
  split
  · exact h.tryReceive
  split
  · unfold pCancel
    split
    · refine ⟨h.cap, h.len, fun e => ?_, fun e => h.v fun e2 => e (by simp only; rw [e2]; rfl)⟩
      obtain ⟨h1, h2, h3⟩ := h.s fun e2 => e (by simp only; rw [e2]; rfl)
      exact ⟨by simp only; rw [h1]; rfl, h2, h3⟩
    · split <;> exact h
  · unfold pClose
    split
    · exact h
    · exact ⟨h.cap, h.len, fun e => absurd rfl e, fun e => absurd rfl e⟩
/-- Closed: nobody waits. -/
theorem Hi.close {P : ChP} {n : Nat} (h : Hi P n) : (pClose P).1.closed = true ∧ (pClose P).1.S = [] ∧ (pClose P).1.V = [] ∧ (pClose P).1.buf = P.buf ∧ ((pClose P).2.2 = 0 ∨ (pClose P).2.2 = 14) := by
  unfold pClose
  split
  · rename_i hc
    refine ⟨hc, ?_, ?_, rfl, .inr rfl⟩
    · apply Classical.byContradiction
      intro e
      have := (h.s e).2.2
      rw [hc] at this; cases this
    · apply Classical.byContradiction
      intro e
      have := (h.v e).2
      rw [hc] at this; cases this
  · exact ⟨rfl, rfl, rfl, rfl, .inl rfl⟩


/-- The calls, one by one. -/
theorem holds_loop {st : St} {c q0 m0 q1 m1 wid : Nat} {bv : AV} {n : Nat} (h : ChIs st c (newP n) q0 m0 q1 m1 wid bv) (hn : n ≤ 20) (l : List Ca) (hl : l.length ≤ 60) (Q : Exit → Sf → St → Prop)
    (hQ : ∀ st' P bv', ChIs st' c P q0 m0 q1 m1 wid bv' → Hi P n → Bd P 61 → Q (.exit 0) ⟨[(5, .ptr c 0)], []⟩ st') :
    aC Go.Proofs.Try.prog id false f6_21 ⟨[(0, .lit (.int .i64 (n : Nat))), (1, casAV l), (5, .ptr c 0), (7, .lit (.int .i64 0))], []⟩ st Q := by
  rw [f6_21w]
  refine loop_op (A := Nat × ChP × AV × St) (fun a => l.length - a.1) (fun a => ⟨[(0, .lit (.int .i64 (n : Nat))), (1, casAV l), (5, .ptr c 0), (7, .lit (.int .i64 (a.1 : Nat)))], []⟩) (fun a => a.2.2.2)
    (fun a => a.1 ≤ l.length ∧ ChIs a.2.2.2 c a.2.1 q0 m0 q1 m1 wid a.2.2.1 ∧ Hi a.2.1 n ∧ Bd a.2.1 (1 + a.1)) (0, newP n, bv, st) ⟨by simp, h, Hi.new n, bd_new (by omega)⟩ (Sf.le_refl _) rfl ?_
  rintro ⟨i, P, bv, st⟩ ⟨h1, h2, h3, h4⟩ K hK hKe hKr
  simp only at h1 h2 h3 h4
  by_cases hi : i < l.length
  · have e1 : (l.map caAV).getD i .any = caAV l[i] := by simp [List.getD, hi]
    have hd := cdo_calls h2 l[i] (n := 1 + i) ⟨h4, by omega⟩
    have hh := h3.do l[i]
    have hb := (bd_do h4 l[i]).1
    simp only [caAV] at hd
    simp -implicitDefEqProofs (maxSteps := 10000000) (disch := omega) only [seqQ_normal, aC_skip, opsK_eq, runI_nil, runI_none, putP_eq, o_mv, o_bin, o_ixS, o_load, o_len, o_call, ixSV, loadV, ixA, lenI, derefI, takeI_some, n_lss, wp_ok, bind_ok, bind_req, req_tt, ev_r, ev_f, setB_r, putS, Sf.set, Sf.reg, mask_eq, maskR_nil, maskR_cons, getR, setR, maskL, id, dis_lit, dis_ptr, dis_sl, dis_agg, own1_lit, cells_agg, List.map_cons, List.map_nil, List.length_cons, List.length_nil, List.take_succ_cons, List.take_zero, Int.toNat_natCast, ↓reduceIte, Nat.reduceEqDiff, Nat.reduceAdd, Nat.reduceLeDiff, reduceCtorEq, Nat.zero_add, decide_true, List.length_map, req_dec, cond_yes, and_pre, f6_22e, f6_23e, f6_24e, f6_24l, f6_25e, f6_26e, f6_27e, f6_28e, f6_29e, f6_29l, casAV, e1, caAV]
    refine call_a rfl e_f11 hd rfl fun r st1 hr => ?_
    obtain ⟨rfl, bv1, h5, _, _⟩ := hr
    generalize (pDo P l[i]).1 = P1 at *
    have hnx : K .normal ⟨[(0, .lit (.int .i64 (n : Nat))), (1, casAV l), (5, .ptr c 0), (7, .lit (.int .i64 ((i + 1 : Nat))))], []⟩ st1 :=
      hK (i + 1, P1, bv1, st1) _ ⟨by simp only; omega, h5, hh, by rw [← Nat.add_assoc]; exact hb⟩ (by simp only; omega) (Sf.le_refl _)
    simp only [casAV] at hnx
    obtain ⟨k1, k2, k3, k4⟩ := hh
    simp -implicitDefEqProofs (maxSteps := 10000000) (disch := omega) only [seqQ_normal, opsK_eq, runI_nil, runI_none, o_mv, o_call, ev_r, ev_f, putS, Sf.set, Sf.reg, mask_eq, maskR_nil, maskR_cons, getR, setR, maskL, id, dis_ptr, List.map_cons, List.map_nil, ↓reduceIte, Nat.reduceEqDiff, reduceCtorEq, f6_30e, f6_31e, f6_31l]
    refine call_p rfl e_f12 (cwaiting_pure h5) rfl ?_
    by_cases hS : P1.S = []
    · have hS0 : P1.S.length = 0 := by rw [hS]; rfl
      by_cases hV : P1.V = []
      · have hV0 : P1.V.length = 0 := by rw [hV]; rfl
        simp -implicitDefEqProofs (maxSteps := 10000000) (disch := omega) only [guard_tup, seqQ_normal, opsK_eq, runI_nil, runI_none, runI_some, skipI_eq, AI.dst, putP_eq, guard_ff, o_mv, o_pick, o_bin, o_ext, o_own, o_call, pick_ff, extV, n_gtr, wp_ok, bind_ok, ofOpt_some, ev_r, ev_c, ev_f, putS, Sf.set, Sf.reg, mask_eq, maskR_nil, maskR_cons, getR, setR, maskL, Sf.disAt, id, dis_lit, dis_ptr, dis_tup, own2_lit, List.map_cons, List.map_nil, List.getElem?_cons_zero, List.getElem?_cons_succ, ↓reduceIte, Nat.reduceEqDiff, reduceCtorEq, Bool.false_eq_true, guard_no, f6_32e, f6_33e, f6_33l]
        refine call_p rfl e_f13 (clen_pure h5) rfl ?_
        simp -implicitDefEqProofs (maxSteps := 10000000) (disch := omega) only [runI_none, runI_some, AI.dst, putP_eq, guard_ff, o_mv, o_pick, o_bin, o_call, pick_ff, n_gtr, wp_ok, ev_r, ev_c, ev_f, putS, Sf.set, Sf.reg, getR, setR, id, dis_lit, dis_ptr, List.map_cons, List.map_nil, ↓reduceIte, Nat.reduceEqDiff, reduceCtorEq, Bool.false_eq_true, guard_no]
        refine call_p rfl e_f17 (ccap_pure h5) rfl ?_
        simp -implicitDefEqProofs (maxSteps := 10000000) (disch := omega) only [seqQ_normal, blockQ_normal, aC_skip, opsK_eq, runI_nil, runI_none, runI_some, AI.dst, putP_eq, guard_ff, o_mv, o_pick, o_bin, o_own, pick_ff, n_add, n_neq, wp_ok, ev_r, ev_c, setB_r, putS, Sf.set, Sf.reg, mask_eq, maskR_nil, maskR_cons, getR, setR, maskL, Sf.disAt, dis_lit, ↓reduceIte, Nat.reduceEqDiff, reduceCtorEq, Bool.false_eq_true, cond_no, IntWalk.i64_in, up_addL, f6_34e, f6_37e, f6_37l]
        exact hnx
      · have hV0 : 0 < P1.V.length := List.length_pos_iff.2 hV
        obtain ⟨j1, j2⟩ := k4 hV
        have hB0 : P1.buf.length = 0 := by rw [j1]; rfl
        simp -implicitDefEqProofs (maxSteps := 10000000) (disch := omega) only [seqQ_normal, opsK_eq, runI_nil, runI_none, runI_some, skipI_eq, AI.dst, putP_eq, guard_tt, guard_ff, o_mv, o_pick, o_bin, o_ext, o_own, o_call, pick_ff, extV, n_gtr, wp_ok, bind_ok, ofOpt_some, ev_r, ev_c, ev_f, putS, Sf.set, Sf.reg, mask_eq, maskR_nil, maskR_cons, getR, setR, maskL, Sf.disAt, id, dis_lit, dis_ptr, dis_tup, own2_lit, List.map_cons, List.map_nil, List.getElem?_cons_zero, List.getElem?_cons_succ, ↓reduceIte, Nat.reduceEqDiff, reduceCtorEq, Bool.false_eq_true, guard_yes, guard_no, f6_32e, f6_33e, f6_33l]
        refine call_p rfl e_f13 (clen_pure h5) rfl ?_
        simp -implicitDefEqProofs (maxSteps := 10000000) (disch := omega) only [runI_some, AI.dst, putP_eq, guard_tt, guard_ff, o_mv, o_bin, o_call, n_neq, wp_ok, ev_r, ev_c, ev_f, putS, Sf.set, Sf.reg, getR, setR, id, dis_lit, dis_ptr, List.map_cons, List.map_nil, ↓reduceIte, Nat.reduceEqDiff, reduceCtorEq, Bool.false_eq_true, guard_no]
        refine call_p rfl e_f18 (cclosed_pure h5) rfl ?_
        rw [j2]
        simp -implicitDefEqProofs (maxSteps := 10000000) (disch := omega) only [runI_none, runI_some, skipI_eq, AI.dst, putP_eq, guard_tt, guard_ff, o_mv, o_pick, o_bin, o_call, pick_tt, pick_ff, n_gtr, wp_ok, ev_r, ev_c, ev_f, putS, Sf.set, Sf.reg, getR, setR, id, dis_lit, dis_ptr, List.map_cons, List.map_nil, ↓reduceIte, Nat.reduceEqDiff, reduceCtorEq, Bool.false_eq_true, guard_no]
        refine call_p rfl e_f13 (clen_pure h5) rfl ?_
        simp -implicitDefEqProofs (maxSteps := 10000000) (disch := omega) only [runI_none, runI_some, AI.dst, putP_eq, guard_ff, o_mv, o_pick, o_bin, o_call, pick_ff, n_gtr, wp_ok, ev_r, ev_c, ev_f, putS, Sf.set, Sf.reg, getR, setR, id, dis_lit, dis_ptr, List.map_cons, List.map_nil, ↓reduceIte, Nat.reduceEqDiff, reduceCtorEq, Bool.false_eq_true, guard_no]
        refine call_p rfl e_f17 (ccap_pure h5) rfl ?_
        simp -implicitDefEqProofs (maxSteps := 10000000) (disch := omega) only [seqQ_normal, blockQ_normal, aC_skip, opsK_eq, runI_nil, runI_none, runI_some, AI.dst, putP_eq, guard_ff, o_mv, o_pick, o_bin, o_own, pick_ff, n_add, n_neq, wp_ok, ev_r, ev_c, setB_r, putS, Sf.set, Sf.reg, mask_eq, maskR_nil, maskR_cons, getR, setR, maskL, Sf.disAt, dis_lit, ↓reduceIte, Nat.reduceEqDiff, reduceCtorEq, Bool.false_eq_true, cond_no, IntWalk.i64_in, up_addL, f6_34e, f6_37e, f6_37l]
        exact hnx
    · have hS0 : 0 < P1.S.length := List.length_pos_iff.2 hS
      obtain ⟨j1, j2, j3⟩ := k3 hS
      have hV0 : P1.V.length = 0 := by rw [j1]; rfl
      simp -implicitDefEqProofs (maxSteps := 10000000) (disch := omega) only [seqQ_normal, opsK_eq, runI_nil, runI_none, runI_some, AI.dst, putP_eq, guard_tt, guard_ff, o_mv, o_pick, o_bin, o_ext, o_own, o_call, pick_tt, extV, n_gtr, wp_ok, bind_ok, ofOpt_some, ev_r, ev_c, ev_f, putS, Sf.set, Sf.reg, mask_eq, maskR_nil, maskR_cons, getR, setR, maskL, Sf.disAt, id, dis_lit, dis_ptr, dis_tup, own2_lit, List.map_cons, List.map_nil, List.getElem?_cons_zero, List.getElem?_cons_succ, ↓reduceIte, Nat.reduceEqDiff, reduceCtorEq, Bool.false_eq_true, guard_yes, guard_no, f6_32e, f6_33e, f6_33l]
      refine call_p rfl e_f13 (clen_pure h5) rfl ?_
      simp -implicitDefEqProofs (maxSteps := 10000000) (disch := omega) only [runI_some, AI.dst, guard_tt, o_mv, o_call, ev_r, ev_f, putS, Sf.set, Sf.reg, getR, setR, id, dis_ptr, List.map_cons, List.map_nil, ↓reduceIte, Nat.reduceEqDiff, reduceCtorEq]
      refine call_p rfl e_f17 (ccap_pure h5) rfl ?_
      simp -implicitDefEqProofs (maxSteps := 10000000) (disch := omega) only [guard_tup, runI_none, runI_some, skipI_eq, AI.dst, putP_eq, guard_tt, guard_ff, o_mv, o_pick, o_bin, o_call, pick_tt, pick_ff, n_neq, n_gtr, wp_ok, ev_r, ev_c, ev_f, putS, Sf.set, Sf.reg, getR, setR, id, dis_lit, dis_ptr, List.map_cons, List.map_nil, ↓reduceIte, Nat.reduceEqDiff, reduceCtorEq, Bool.false_eq_true, guard_yes, guard_no]
      refine call_p rfl e_f18 (cclosed_pure h5) rfl ?_
      rw [j3]
      simp -implicitDefEqProofs (maxSteps := 10000000) (disch := omega) only [runI_none, runI_some, AI.dst, putP_eq, guard_ff, o_mv, o_pick, o_call, pick_tt, pick_ff, wp_ok, ev_r, ev_c, ev_f, putS, Sf.set, Sf.reg, getR, setR, id, dis_lit, dis_ptr, List.map_cons, List.map_nil, ↓reduceIte, Nat.reduceEqDiff, reduceCtorEq, Bool.false_eq_true]
      refine call_p rfl e_f13 (clen_pure h5) rfl ?_
      simp -implicitDefEqProofs (maxSteps := 10000000) (disch := omega) only [runI_none, runI_some, AI.dst, putP_eq, guard_ff, o_mv, o_pick, o_bin, o_call, pick_ff, n_gtr, wp_ok, ev_r, ev_c, ev_f, putS, Sf.set, Sf.reg, getR, setR, id, dis_lit, dis_ptr, List.map_cons, List.map_nil, ↓reduceIte, Nat.reduceEqDiff, reduceCtorEq, Bool.false_eq_true, guard_no]
      refine call_p rfl e_f17 (ccap_pure h5) rfl ?_
      simp -implicitDefEqProofs (maxSteps := 10000000) (disch := omega) only [seqQ_normal, blockQ_normal, aC_skip, opsK_eq, runI_nil, runI_none, runI_some, AI.dst, putP_eq, guard_ff, o_mv, o_pick, o_bin, o_own, pick_ff, n_add, n_neq, wp_ok, ev_r, ev_c, setB_r, putS, Sf.set, Sf.reg, mask_eq, maskR_nil, maskR_cons, getR, setR, maskL, Sf.disAt, dis_lit, ↓reduceIte, Nat.reduceEqDiff, reduceCtorEq, Bool.false_eq_true, cond_no, IntWalk.i64_in, up_addL, f6_34e, f6_37e, f6_37l]
      exact hnx
  · simp -implicitDefEqProofs (maxSteps := 10000000) (disch := omega) only [seqQ_normal, seqQ_exit, aC_exit, opsK_eq, runI_nil, runI_none, putP_eq, o_mv, o_bin, o_len, lenI, n_lss, wp_ok, ev_r, setB_r, putS, Sf.set, Sf.reg, mask_eq, maskR_nil, maskR_cons, getR, setR, maskL, dis_lit, dis_sl, ↓reduceIte, Nat.reduceEqDiff, reduceCtorEq, List.length_map, cond_no, f6_22e, f6_23e, f6_24e, f6_24l, f6_25e, casAV]
    exact hKe _ _ _ (hQ st P bv h2 h3 ⟨by have := h4.1; omega, by have := h4.2.1; omega, by have := h4.2.2.1; omega, by have := h4.2.2.2.1; omega, by have := h4.2.2.2.2.1; omega, h4.2.2.2.2.2⟩)
end Go.Fx.YtohlpjfhkejjgaaFx

