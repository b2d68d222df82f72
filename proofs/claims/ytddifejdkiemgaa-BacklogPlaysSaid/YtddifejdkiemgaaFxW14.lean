/- What the functions that the statement reaches compute: part 14. -/
import Derived.Test.YtddifejdkiemgaaFxW13
namespace Go.Fx.YtddifejdkiemgaaFx
open Go Go.Fx
attribute [local irreducible] aC runI headI loopI

set_option maxRecDepth 100000
set_option maxHeartbeats 8000000

theorem bPush_cases (n : Nat) (cl : Bool) (L : Qu) (g : Nat) (c : Int) : (∃ e : Int, e ≠ 0 ∧ bPush n cl L g c = (L, g, e)) ∨ (cl = false ∧ bPush n cl L g c = (L ++ [(g + 1, c)], g + 1, 0)) := by
  unfold bPush
  split
  · exact .inl ⟨2, by decide, rfl⟩
  split
  · exact .inl ⟨14, by decide, rfl⟩
  rename_i h
  split
  · exact .inl ⟨11, by decide, rfl⟩
  split
  · exact .inl ⟨7, by decide, rfl⟩
  · exact .inr ⟨by simpa using h, rfl⟩
theorem gAV_snoc (l : List Int) (x : Int) : gAV (l ++ [x]) = .sl true 1 (ints l ++ [.lit (.int .i64 x)]) := by unfold gAV; rw [if_neg (by simp), ints_app]; rfl
theorem gAV_cons (x : Int) (l : List Int) : gAV (x :: l) = .sl true 1 (.lit (.int .i64 x) :: ints l) := by unfold gAV; rw [if_neg (by simp)]; rfl

theorem bholds_loop {b q0 mid0 tid0 n : Nat} (hn : n ≤ 128) {st0 : St} (h0 : BkIs st0 b q0 mid0 tid0 n false [] 0) (l : List Bc) (hl : l.length ≤ 40) (Q : Exit → Sf → St → Prop)
    (hQ : ∀ st, Q (.exit 0) ⟨[], []⟩ st) :
    aC Go.Proofs.Try.prog id false f5_25 (hlSf l b [] false 0) st0 Q := by
  rw [f5_25w]
  refine loop_op (A := Nat × Qu × Nat × Bool × Nat × Nat × Nat × St) (fun a => l.length - a.1) (fun a => hlSf l b (conns a.2.1) a.2.2.2.1 a.1) (fun a => a.2.2.2.2.2.2.2)
    (fun a => a.1 ≤ l.length ∧ BkIs a.2.2.2.2.2.2.2 b a.2.2.2.2.1 a.2.2.2.2.2.1 a.2.2.2.2.2.2.1 n a.2.2.2.1 a.2.1 a.2.2.1 ∧ a.2.2.1 ≤ a.1 ∧ (a.2.2.2.1 = true → a.2.1 = [])) (0, [], 0, false, q0, mid0, tid0, st0) ⟨by simp, h0, by simp, by simp⟩ (Sf.le_refl _) rfl ?_
  rintro ⟨i, L, g, cl, q, mid, tid, st⟩ ⟨h1, h2, h3, h4⟩ K hK hKe hKr
  simp only at h1 h2 h3 h4
  have hlen := h2.len
  have hcl2 : (conns L).length = L.length := by simp [conns]
  by_cases hi : i < l.length
  · obtain ⟨⟨w, c⟩, hw⟩ : ∃ a, a = l[i] := ⟨_, rfl⟩
    have e1 : (l.map bcAV).getD i .any = .agg [.lit (.int .i64 w), .lit (.int .i64 c)] := by simp [List.getD, hi, ← hw, bcAV]
    have hgo0 : ∀ L' g' cl' q' mid' tid' st', BkIs st' b q' mid' tid' n cl' L' g' → g' ≤ i + 1 → (cl' = true → L' = []) → aC Go.Proofs.Try.prog id false f5_90 ⟨[(1, bcsAV l), (5, .ptr b 0), (7, gAV (conns L')), (8, .lit (.bool cl')), (9, .lit (.int .i64 (i : Nat)))], []⟩ st' (blockQ 1 (seqQ (aC Go.Proofs.Try.prog id false f5_95) K)) := by
      intro L' g' cl' q' mid' tid' st' a1 a2 a3
      refine bh_check0 a1 (by omega) a3 fun st'' a4 => ?_
      have := hK (i + 1, L', g', cl', q', mid', tid', st'') (hlSf l b (conns L') cl' (i + 1)) ⟨by simp only; omega, a4, a2, a3⟩ (by simp only; omega) (Sf.le_refl _)
      unfold hlSf at this
      unfold hkSf
      rcases gAV_cases (conns L') with ⟨e, _⟩ | ⟨e, _⟩
      all_goals
        rw [e] at this ⊢
        simp only [bcsAV] at this ⊢
        simp -implicitDefEqProofs (maxSteps := 10000000) (disch := omega) only [seqQ_normal, blockQ_normal, opsK_eq, runI_nil, runI_none, putP_eq, o_mv, o_bin, o_own, n_add, wp_ok, ev_r, ev_c, putS, Sf.set, Sf.reg, mask_eq, maskR_nil, maskR_cons, getR, setR, maskL, Sf.disAt, dis_lit, ↓reduceIte, Nat.reduceEqDiff, IntWalk.i64_in, up_addL, f5_95e, f5_95l]
        exact this
    have hgo1 : ∀ L' g' cl' q' mid' tid' st' (c : Int), BkIs st' b q' mid' tid' n cl' L' g' → g' ≤ i + 1 → (cl' = true → L' = []) → aC Go.Proofs.Try.prog id false f5_90 ⟨[(1, bcsAV l), (5, .ptr b 0), (7, gAV (conns L')), (8, .lit (.bool cl')), (9, .lit (.int .i64 (i : Nat))), (10, .lit (.int .i64 c)), (60, .lit (.bool false))], []⟩ st' (blockQ 1 (seqQ (aC Go.Proofs.Try.prog id false f5_95) K)) := by
      intro L' g' cl' q' mid' tid' st' c a1 a2 a3
      refine bh_check1 a1 (by omega) a3 c fun st'' a4 => ?_
      have := hK (i + 1, L', g', cl', q', mid', tid', st'') (hlSf l b (conns L') cl' (i + 1)) ⟨by simp only; omega, a4, a2, a3⟩ (by simp only; omega) (Sf.le_refl _)
      unfold hlSf at this
      unfold hkSf
      rcases gAV_cases (conns L') with ⟨e, _⟩ | ⟨e, _⟩
      all_goals
        rw [e] at this ⊢
        simp only [bcsAV] at this ⊢
        simp -implicitDefEqProofs (maxSteps := 10000000) (disch := omega) only [seqQ_normal, blockQ_normal, opsK_eq, runI_nil, runI_none, putP_eq, o_mv, o_bin, o_own, n_add, wp_ok, ev_r, ev_c, putS, Sf.set, Sf.reg, mask_eq, maskR_nil, maskR_cons, getR, setR, maskL, Sf.disAt, dis_lit, ↓reduceIte, Nat.reduceEqDiff, IntWalk.i64_in, up_addL, f5_95e, f5_95l]
        exact this
    have hgo2 : ∀ L' g' cl' q' mid' tid' st' (c : Int), BkIs st' b q' mid' tid' n cl' L' g' → g' ≤ i + 1 → (cl' = true → L' = []) → aC Go.Proofs.Try.prog id false f5_90 ⟨[(1, bcsAV l), (5, .ptr b 0), (7, gAV (conns L')), (8, .lit (.bool cl')), (9, .lit (.int .i64 (i : Nat))), (11, .lit (.int .i64 c)), (73, .lit (.bool false))], []⟩ st' (blockQ 1 (seqQ (aC Go.Proofs.Try.prog id false f5_95) K)) := by
      intro L' g' cl' q' mid' tid' st' c a1 a2 a3
      refine bh_check2 a1 (by omega) a3 c fun st'' a4 => ?_
      have := hK (i + 1, L', g', cl', q', mid', tid', st'') (hlSf l b (conns L') cl' (i + 1)) ⟨by simp only; omega, a4, a2, a3⟩ (by simp only; omega) (Sf.le_refl _)
      unfold hlSf at this
      unfold hkSf
      rcases gAV_cases (conns L') with ⟨e, _⟩ | ⟨e, _⟩
      all_goals
        rw [e] at this ⊢
        simp only [bcsAV] at this ⊢
        simp -implicitDefEqProofs (maxSteps := 10000000) (disch := omega) only [seqQ_normal, blockQ_normal, opsK_eq, runI_nil, runI_none, putP_eq, o_mv, o_bin, o_own, n_add, wp_ok, ev_r, ev_c, putS, Sf.set, Sf.reg, mask_eq, maskR_nil, maskR_cons, getR, setR, maskL, Sf.disAt, dis_lit, ↓reduceIte, Nat.reduceEqDiff, IntWalk.i64_in, up_addL, f5_95e, f5_95l]
        exact this
    have hgo3 : ∀ L' g' cl' q' mid' tid' st' (c : Int), BkIs st' b q' mid' tid' n cl' L' g' → g' ≤ i + 1 → (cl' = true → L' = []) → aC Go.Proofs.Try.prog id false f5_90 ⟨[(1, bcsAV l), (5, .ptr b 0), (7, gAV (conns L')), (8, .lit (.bool cl')), (9, .lit (.int .i64 (i : Nat))), (10, .lit (.int .i64 c)), (91, .lit (.bool false))], []⟩ st' (blockQ 1 (seqQ (aC Go.Proofs.Try.prog id false f5_95) K)) := by
      intro L' g' cl' q' mid' tid' st' c a1 a2 a3
      refine bh_check3 a1 (by omega) a3 c fun st'' a4 => ?_
      have := hK (i + 1, L', g', cl', q', mid', tid', st'') (hlSf l b (conns L') cl' (i + 1)) ⟨by simp only; omega, a4, a2, a3⟩ (by simp only; omega) (Sf.le_refl _)
      unfold hlSf at this
      unfold hkSf
      rcases gAV_cases (conns L') with ⟨e, _⟩ | ⟨e, _⟩
      all_goals
        rw [e] at this ⊢
        simp only [bcsAV] at this ⊢
        simp -implicitDefEqProofs (maxSteps := 10000000) (disch := omega) only [seqQ_normal, blockQ_normal, opsK_eq, runI_nil, runI_none, putP_eq, o_mv, o_bin, o_own, n_add, wp_ok, ev_r, ev_c, putS, Sf.set, Sf.reg, mask_eq, maskR_nil, maskR_cons, getR, setR, maskL, Sf.disAt, dis_lit, ↓reduceIte, Nat.reduceEqDiff, IntWalk.i64_in, up_addL, f5_95e, f5_95l]
        exact this
    have hgo4 : ∀ L' g' cl' q' mid' tid' st', BkIs st' b q' mid' tid' n cl' L' g' → g' ≤ i + 1 → (cl' = true → L' = []) → aC Go.Proofs.Try.prog id false f5_90 ⟨[(1, bcsAV l), (5, .ptr b 0), (7, gAV (conns L')), (8, .lit (.bool cl')), (9, .lit (.int .i64 (i : Nat))), (14, .lit (.slice none 0 0)), (108, .lit (.bool false))], []⟩ st' (blockQ 1 (seqQ (aC Go.Proofs.Try.prog id false f5_95) K)) := by
      intro L' g' cl' q' mid' tid' st' a1 a2 a3
      refine bh_check4 a1 (by omega) a3 fun st'' a4 => ?_
      have := hK (i + 1, L', g', cl', q', mid', tid', st'') (hlSf l b (conns L') cl' (i + 1)) ⟨by simp only; omega, a4, a2, a3⟩ (by simp only; omega) (Sf.le_refl _)
      unfold hlSf at this
      unfold hkSf
      rcases gAV_cases (conns L') with ⟨e, _⟩ | ⟨e, _⟩
      all_goals
        rw [e] at this ⊢
        simp only [bcsAV] at this ⊢
        simp -implicitDefEqProofs (maxSteps := 10000000) (disch := omega) only [seqQ_normal, blockQ_normal, opsK_eq, runI_nil, runI_none, putP_eq, o_mv, o_bin, o_own, n_add, wp_ok, ev_r, ev_c, putS, Sf.set, Sf.reg, mask_eq, maskR_nil, maskR_cons, getR, setR, maskL, Sf.disAt, dis_lit, ↓reduceIte, Nat.reduceEqDiff, IntWalk.i64_in, up_addL, f5_95e, f5_95l]
        exact this
    have hgo5 : ∀ L' g' cl' q' mid' tid' st', BkIs st' b q' mid' tid' n cl' L' g' → g' ≤ i + 1 → (cl' = true → L' = []) → aC Go.Proofs.Try.prog id false f5_90 ⟨[(1, bcsAV l), (5, .ptr b 0), (7, gAV (conns L')), (8, .lit (.bool cl')), (9, .lit (.int .i64 (i : Nat))), (100, .lit (.bool false))], []⟩ st' (blockQ 1 (seqQ (aC Go.Proofs.Try.prog id false f5_95) K)) := by
      intro L' g' cl' q' mid' tid' st' a1 a2 a3
      refine bh_check5 a1 (by omega) a3 fun st'' a4 => ?_
      have := hK (i + 1, L', g', cl', q', mid', tid', st'') (hlSf l b (conns L') cl' (i + 1)) ⟨by simp only; omega, a4, a2, a3⟩ (by simp only; omega) (Sf.le_refl _)
      unfold hlSf at this
      unfold hkSf
      rcases gAV_cases (conns L') with ⟨e, _⟩ | ⟨e, _⟩
      all_goals
        rw [e] at this ⊢
        simp only [bcsAV] at this ⊢
        simp -implicitDefEqProofs (maxSteps := 10000000) (disch := omega) only [seqQ_normal, blockQ_normal, opsK_eq, runI_nil, runI_none, putP_eq, o_mv, o_bin, o_own, n_add, wp_ok, ev_r, ev_c, putS, Sf.set, Sf.reg, mask_eq, maskR_nil, maskR_cons, getR, setR, maskL, Sf.disAt, dis_lit, ↓reduceIte, Nat.reduceEqDiff, IntWalk.i64_in, up_addL, f5_95e, f5_95l]
        exact this
    unfold hlSf
    obtain ⟨x, hx⟩ : ∃ x, x = gAV (conns L) := ⟨_, rfl⟩
    have hcases : (x = .lit (.slice none 0 0) ∧ conns L = []) ∨ (x = .sl true 1 (ints (conns L)) ∧ conns L ≠ []) := by rw [hx]; exact gAV_cases _
    have hdisx : x.dis = lAV (conns L) := by rw [hx]; exact gAV_dis _
    simp only [← hx]
    by_cases w0 : w = 0
    · subst w0
      have hp := bpush_calls h2 (by omega) (by omega) c
      rcases bPush_cases n cl L g c with ⟨e, he, hb⟩ | ⟨hcl, hb⟩
      · rw [hb] at hp
        rcases hcases with ⟨rfl, _⟩ | ⟨rfl, _⟩
        all_goals
          simp -implicitDefEqProofs (maxSteps := 10000000) (disch := omega) only [seqQ_normal, aC_skip, opsK_eq, runI_nil, runI_none, putP_eq, cond_tt, o_mv, o_bin, o_addr, o_ixS, o_load, o_len, o_own, o_call, ixSV, loadV, ixA, lenI, addA, derefI, takeI_none, n_eql, n_lss, wp_ok, bind_ok, bind_req, ev_r, ev_c, ev_f, setB_r, putS, Sf.set, Sf.reg, mask_eq, maskR_nil, maskR_cons, getR, setR, maskL, Sf.disAt, id, dis_lit, dis_ptr, dis_sl, cells_agg, List.map_cons, List.map_nil, List.drop_zero, List.drop_succ_cons, Int.toNat_natCast, ↓reduceIte, Nat.reduceEqDiff, decide_true, List.length_map, req_dec, cond_yes, and_pre, f5_26e, f5_27e, f5_28e, f5_28l, f5_29e, f5_30e, f5_31e, f5_32e, f5_33e, f5_33l, f5_34e, f5_35e, f5_36e, f5_36l, f5_37e, f5_38e, f5_39e, f5_39l, f5_40e, f5_41e, f5_42e, f5_42l, bcsAV, e1]
          refine call_a rfl e_f16 hp rfl fun r st1 hr => ?_
          obtain ⟨rfl, a1, _⟩ := hr
          have hg := hgo1 L g cl q mid tid st1 c a1 (by omega) h4
          rw [← hx] at hg
          simp only [bcsAV] at hg
          simp -implicitDefEqProofs (maxSteps := 10000000) (disch := omega) only [seqQ_normal, blockQ_normal, aC_skip, opsK_eq, runI_nil, runI_none, putP_eq, cond_ff, o_bin, n_eql, wp_ok, ev_r, ev_c, setB_r, putS, Sf.set, Sf.reg, mask_eq, maskR_nil, maskR_cons, getR, setR, maskL, ↓reduceIte, Nat.reduceEqDiff, decide_false, f5_43e, he]
          exact hg
      · rw [hb] at hp
        rcases hcases with ⟨rfl, hz⟩ | ⟨rfl, _⟩
        all_goals
          simp -implicitDefEqProofs (maxSteps := 10000000) (disch := omega) only [seqQ_normal, aC_skip, opsK_eq, runI_nil, runI_none, putP_eq, cond_tt, o_mv, o_bin, o_addr, o_ixS, o_load, o_len, o_own, o_call, ixSV, loadV, ixA, lenI, addA, derefI, takeI_none, n_eql, n_lss, wp_ok, bind_ok, bind_req, ev_r, ev_c, ev_f, setB_r, putS, Sf.set, Sf.reg, mask_eq, maskR_nil, maskR_cons, getR, setR, maskL, Sf.disAt, id, dis_lit, dis_ptr, dis_sl, cells_agg, List.map_cons, List.map_nil, List.drop_zero, List.drop_succ_cons, Int.toNat_natCast, ↓reduceIte, Nat.reduceEqDiff, decide_true, List.length_map, req_dec, cond_yes, and_pre, f5_26e, f5_27e, f5_28e, f5_28l, f5_29e, f5_30e, f5_31e, f5_32e, f5_33e, f5_33l, f5_34e, f5_35e, f5_36e, f5_36l, f5_37e, f5_38e, f5_39e, f5_39l, f5_40e, f5_41e, f5_42e, f5_42l, bcsAV, e1]
          refine call_a rfl e_f16 hp rfl fun r st1 hr => ?_
          obtain ⟨rfl, a1, _⟩ := hr
          have hg := hgo0 _ _ cl q mid tid st1 a1 (show g + 1 ≤ i + 1 by omega) (fun e => by rw [hcl] at e; cases e)
          simp only at hg
          rw [conns_app, show conns [(g + 1, c)] = [c] from rfl, gAV_snoc] at hg
          simp only [bcsAV] at hg
          have hil := ints_len (conns L)
          first
            | rw [hz, show ints ([] : List Int) = [] from rfl] at hg
              simp -implicitDefEqProofs (maxSteps := 10000000) (disch := omega) only [and_self, seqQ_normal, blockQ_normal, opsK_eq, runI_nil, runI_none, putP_eq, cond_tt, o_mv, o_bin, o_bsl, o_own, o_appS, bslV, appSX, List.isEmpty_cons, List.reduceReplicate, appNewI, srcA, fillA, n_eql, wp_ok, bind_ok, req_tt, ev_r, ev_c, setB_r, putS, Sf.set, Sf.reg, mask_eq, maskR_nil, maskR_cons, getR, setR, maskL, Sf.disAt, dis_lit, dis_sl, cells_lit, solid1_lit, solid_eq, List.map_cons, List.map_nil, List.length_cons, List.length_nil, List.all_cons, List.all_nil, List.set_cons_zero, ↓reduceIte, Nat.reduceEqDiff, Nat.reduceLT, Bool.and_true, and_true, Nat.zero_add, decide_true, Bool.false_eq_true, room_of, f5_43e, f5_44e, f5_44l]
              exact hg
            | simp -implicitDefEqProofs (maxSteps := 10000000) (disch := omega) only [and_self, seqQ_normal, blockQ_normal, opsK_eq, runI_nil, runI_none, putP_eq, cond_tt, o_mv, o_bin, o_bsl, o_own, o_appS, bslV, appSX, List.reduceReplicate, appOwnI, srcA, fillA, n_eql, wp_ok, bind_ok, req_tt, ev_r, ev_c, setB_r, putS, Sf.set, Sf.reg, mask_eq, maskR_nil, maskR_cons, getR, setR, maskL, Sf.disAt, dis_lit, dis_sl, cells_lit, solid1_lit, solid_eq, List.map_cons, List.map_nil, List.length_cons, List.length_nil, List.all_cons, List.all_nil, List.set_cons_zero, ↓reduceIte, Nat.reduceEqDiff, Nat.reduceLT, Bool.and_true, and_true, Nat.zero_add, decide_true, room_of, f5_43e, f5_44e, f5_44l, hil]
              exact hg
    by_cases w1 : w = 1
    · subst w1
      have hp := bpop_calls h2 (by omega)
      have hno : ∀ e : Int, e ≠ 0 → bPop cl L = (L, 0, e) → aC Go.Proofs.Try.prog id false f5_26 ⟨[(1, bcsAV l), (5, .ptr b 0), (7, x), (8, .lit (.bool cl)), (9, .lit (.int .i64 (i : Nat)))], []⟩ st K := by
        intro e he hb
        rw [hb] at hp
        rcases hcases with ⟨rfl, _⟩ | ⟨rfl, _⟩
        all_goals
          simp -implicitDefEqProofs (maxSteps := 10000000) (disch := omega) only [seqQ_normal, aC_skip, opsK_eq, runI_nil, runI_none, putP_eq, cond_tt, cond_ff, o_mv, o_bin, o_addr, o_ixS, o_load, o_len, o_own, o_call, ixSV, loadV, ixA, lenI, addA, derefI, takeI_none, n_eql, n_lss, wp_ok, bind_ok, bind_req, ev_r, ev_c, ev_f, setB_r, putS, Sf.set, Sf.reg, mask_eq, maskR_nil, maskR_cons, getR, setR, maskL, Sf.disAt, id, dis_lit, dis_ptr, dis_sl, cells_agg, List.map_cons, List.map_nil, List.drop_zero, List.drop_succ_cons, Int.toNat_natCast, ↓reduceIte, Nat.reduceEqDiff, Int.reduceEq, decide_true, decide_false, List.length_map, req_dec, cond_yes, and_pre, f5_26e, f5_27e, f5_28e, f5_28l, f5_29e, f5_30e, f5_31e, f5_32e, f5_33e, f5_33l, f5_34e, f5_35e, f5_36e, f5_36l, f5_37e, f5_38e, f5_39e, f5_39l, f5_40e, f5_45e, f5_46e, f5_46l, f5_47e, f5_48e, f5_49e, f5_49l, bcsAV, e1]
          refine call_a rfl e_f20 hp rfl fun r st1 hr => ?_
          obtain ⟨rfl, a1, _⟩ := hr
          have hg := hgo2 L g cl q mid tid st1 0 a1 (by omega) h4
          rw [← hx] at hg
          simp only [bcsAV] at hg
          simp -implicitDefEqProofs (maxSteps := 10000000) (disch := omega) only [seqQ_normal, blockQ_normal, aC_skip, opsK_eq, runI_nil, runI_none, putP_eq, cond_ff, o_mv, o_bin, o_ext, o_own, extV, n_eql, wp_ok, bind_ok, ofOpt_some, ev_r, ev_c, setB_r, putS, Sf.set, Sf.reg, mask_eq, maskR_nil, maskR_cons, getR, setR, maskL, Sf.disAt, dis_lit, dis_tup, own2_lit, List.map_cons, List.map_nil, List.getElem?_cons_zero, List.getElem?_cons_succ, ↓reduceIte, Nat.reduceEqDiff, decide_false, f5_50e, f5_51e, f5_51l, f5_52e, he]
          exact hg
      cases cl
      case true => exact hno 14 (by decide) rfl
      rcases L with _ | ⟨⟨t, v⟩, B⟩
      · exact hno 16 (by decide) rfl
      · have hb : bPop false ((t, v) :: B) = (B, v, 0) := rfl
        rw [hb] at hp
        have hxc : x = .sl true 1 (.lit (.int .i64 v) :: ints (conns B)) := by rw [hx]; exact gAV_cons v (conns B)
        subst hxc
        have hbl : (conns B).length = B.length := by simp [conns]
        simp only [List.length_cons] at hlen
        have hwo := fun st => without_pure [] (conns B) v (by simp) (by omega) st
        simp only [List.nil_append, List.length_nil] at hwo
        have hil := ints_len (conns B)
        simp -implicitDefEqProofs (maxSteps := 10000000) (disch := omega) only [seqQ_normal, aC_skip, opsK_eq, runI_nil, runI_none, putP_eq, cond_tt, cond_ff, o_mv, o_bin, o_addr, o_ixS, o_load, o_len, o_own, o_call, ixSV, loadV, ixA, lenI, addA, derefI, takeI_none, n_eql, n_lss, wp_ok, bind_ok, bind_req, ev_r, ev_c, ev_f, setB_r, putS, Sf.set, Sf.reg, mask_eq, maskR_nil, maskR_cons, getR, setR, maskL, Sf.disAt, id, dis_lit, dis_ptr, dis_sl, cells_agg, List.map_cons, List.map_nil, List.drop_zero, List.drop_succ_cons, Int.toNat_natCast, ↓reduceIte, Nat.reduceEqDiff, Int.reduceEq, decide_true, decide_false, List.length_map, req_dec, cond_yes, and_pre, f5_26e, f5_27e, f5_28e, f5_28l, f5_29e, f5_30e, f5_31e, f5_32e, f5_33e, f5_33l, f5_34e, f5_35e, f5_36e, f5_36l, f5_37e, f5_38e, f5_39e, f5_39l, f5_40e, f5_45e, f5_46e, f5_46l, f5_47e, f5_48e, f5_49e, f5_49l, bcsAV, e1]
        refine call_a rfl e_f20 hp rfl fun r st1 hr => ?_
        obtain ⟨rfl, a1, _⟩ := hr
        have hg := hgo0 B g false q mid tid st1 a1 (by omega) (fun e => by cases e)
        simp only [bcsAV] at hg
        simp -implicitDefEqProofs (maxSteps := 10000000) (disch := omega) only [seqQ_normal, aC_skip, opsK_eq, runI_nil, runI_none, runI_some, AI.dst, putP_eq, cond_tt, cond_ff, guard_ff, o_mv, o_pick, o_bin, o_ext, o_ixS, o_load, o_len, o_own, o_call, pick_ff, extV, ixSV, loadV, ixA, lenI, derefI, takeI_none, n_eql, n_neq, wp_ok, bind_ok, bind_req, ofOpt_some, ev_r, ev_c, ev_f, setB_r, putS, Sf.set, Sf.reg, mask_eq, maskR_nil, maskR_cons, getR, setR, maskL, Sf.disAt, id, dis_lit, dis_sl, dis_tup, own2_lit, cells_lit, List.map_cons, List.map_nil, List.length_cons, List.getElem?_cons_zero, List.getElem?_cons_succ, List.getD_cons_zero, Int.toNat_zero, ↓reduceIte, Nat.reduceEqDiff, Int.reduceLE, Bool.true_and, true_and, not_true_eq_false, decide_true, decide_false, Bool.false_eq_true, req_dec, guard_no, f5_50e, f5_51e, f5_51l, f5_52e, f5_53e, f5_54e, f5_55e, f5_55l, f5_56e, f5_59e, f5_59l, hil, hbl]
        refine call_p rfl e_f21 (hwo _) rfl ?_
        rcases gAV_cases (conns B) with ⟨e, _⟩ | ⟨e, _⟩
        all_goals
          rw [e] at hg ⊢
          simp -implicitDefEqProofs (maxSteps := 10000000) (disch := omega) only [seqQ_normal, blockQ_normal, opsK_eq, runI_nil, runI_none, o_own, putS, Sf.set, Sf.reg, mask_eq, maskR_nil, maskR_cons, getR, setR, maskL, Sf.disAt, dis_lit, dis_sl, ↓reduceIte, Nat.reduceEqDiff]
          exact hg
    by_cases w2 : w = 2
    · subst w2
      have hno : ∀ e : Int, e ≠ 0 → ACalls Go.Proofs.Try.prog n_f22 [.ptr b 0, .lit (.int .i64 c)] st (fun r st' => r = .lit (.int .i64 e) ∧ st' = st) → aC Go.Proofs.Try.prog id false f5_26 ⟨[(1, bcsAV l), (5, .ptr b 0), (7, x), (8, .lit (.bool cl)), (9, .lit (.int .i64 (i : Nat)))], []⟩ st K := by
        intro e he hp
        have hg := hgo3 L g cl q mid tid st c h2 (by omega) h4
        rw [← hx] at hg
        simp only [bcsAV] at hg
        rcases hcases with ⟨rfl, _⟩ | ⟨rfl, _⟩
        all_goals
          simp -implicitDefEqProofs (maxSteps := 10000000) (disch := omega) only [seqQ_normal, aC_skip, opsK_eq, runI_nil, runI_none, putP_eq, cond_tt, cond_ff, o_mv, o_bin, o_addr, o_ixS, o_load, o_len, o_own, o_call, ixSV, loadV, ixA, lenI, addA, derefI, takeI_none, n_eql, n_lss, wp_ok, bind_ok, bind_req, ev_r, ev_c, ev_f, setB_r, putS, Sf.set, Sf.reg, mask_eq, maskR_nil, maskR_cons, getR, setR, maskL, Sf.disAt, id, dis_lit, dis_ptr, dis_sl, cells_agg, List.map_cons, List.map_nil, List.drop_zero, List.drop_succ_cons, Int.toNat_natCast, ↓reduceIte, Nat.reduceEqDiff, Int.reduceEq, decide_true, decide_false, List.length_map, req_dec, cond_yes, and_pre, f5_26e, f5_27e, f5_28e, f5_28l, f5_29e, f5_30e, f5_31e, f5_32e, f5_33e, f5_33l, f5_34e, f5_35e, f5_36e, f5_36l, f5_37e, f5_38e, f5_39e, f5_39l, f5_40e, f5_45e, f5_46e, f5_46l, f5_47e, f5_60e, f5_61e, f5_61l, f5_62e, f5_63e, f5_64e, f5_64l, bcsAV, e1]
          refine call_a rfl e_f22 hp rfl fun r st1 hr => ?_
          obtain ⟨rfl, rfl⟩ := hr
          simp -implicitDefEqProofs (maxSteps := 10000000) (disch := omega) only [seqQ_normal, blockQ_normal, aC_skip, opsK_eq, runI_nil, runI_none, putP_eq, cond_ff, o_bin, n_eql, wp_ok, ev_r, ev_c, setB_r, putS, Sf.set, Sf.reg, mask_eq, maskR_nil, maskR_cons, getR, setR, maskL, ↓reduceIte, Nat.reduceEqDiff, decide_false, f5_65e, he]
          exact hg
      by_cases hc0 : c < 0
      · exact hno 2 (by decide) (bremove_neg h2 hc0)
      by_cases hm : c ∈ conns L
      · obtain ⟨⟨t, v⟩, hmem, hv⟩ := List.mem_map.1 hm
        simp only at hv
        subst hv
        obtain ⟨A, B, rfl⟩ := List.append_of_mem hmem
        have hcl : cl = false := by cases cl with | false => rfl | true => exact absurd (h4 rfl) (by simp)
        subst hcl
        have hcon : conns (A ++ (t, v) :: B) = conns A ++ v :: conns B := by simp [conns]
        have hAn : v ∉ conns A := fun hA => by
          have := h2.nd
          rw [hcon] at this
          exact (List.nodup_append.1 this).2.2 v hA v List.mem_cons_self rfl
        have hal : (conns A).length = A.length := by simp [conns]
        have hbl : (conns B).length = B.length := by simp [conns]
        simp only [List.length_append, List.length_cons] at hlen
        have hfi := fun st => find_some (conns A) (conns B) v hAn (by omega) st
        have hwo := fun st => without_pure (conns A) (conns B) v (by omega) (by omega) st
        rw [hcon] at hcases
        rcases hcases with ⟨_, hz⟩ | ⟨rfl, _⟩
        · simp at hz
        simp -implicitDefEqProofs (maxSteps := 10000000) (disch := omega) only [seqQ_normal, aC_skip, opsK_eq, runI_nil, runI_none, putP_eq, cond_tt, cond_ff, o_mv, o_bin, o_addr, o_ixS, o_load, o_len, o_own, o_call, ixSV, loadV, ixA, lenI, addA, derefI, takeI_none, n_eql, n_lss, wp_ok, bind_ok, bind_req, ev_r, ev_c, ev_f, setB_r, putS, Sf.set, Sf.reg, mask_eq, maskR_nil, maskR_cons, getR, setR, maskL, Sf.disAt, id, dis_lit, dis_ptr, dis_sl, cells_agg, List.map_cons, List.map_nil, List.drop_zero, List.drop_succ_cons, Int.toNat_natCast, ↓reduceIte, Nat.reduceEqDiff, Int.reduceEq, decide_true, decide_false, List.length_map, req_dec, cond_yes, and_pre, f5_26e, f5_27e, f5_28e, f5_28l, f5_29e, f5_30e, f5_31e, f5_32e, f5_33e, f5_33l, f5_34e, f5_35e, f5_36e, f5_36l, f5_37e, f5_38e, f5_39e, f5_39l, f5_40e, f5_45e, f5_46e, f5_46l, f5_47e, f5_60e, f5_61e, f5_61l, f5_62e, f5_63e, f5_64e, f5_64l, bcsAV, e1]
        refine call_a rfl e_f22 (bremove_calls h2 (by omega)) rfl fun r st1 hr => ?_
        obtain ⟨rfl, a1, _⟩ := hr
        have hg := hgo0 (A ++ B) g false q mid tid st1 a1 (by omega) (fun e => by cases e)
        rw [conns_app] at hg
        simp only [bcsAV] at hg
        simp -implicitDefEqProofs (maxSteps := 10000000) (disch := omega) only [seqQ_normal, opsK_eq, runI_nil, runI_none, putP_eq, cond_tt, o_mv, o_bin, o_call, n_eql, wp_ok, ev_r, ev_c, ev_f, setB_r, putS, Sf.set, Sf.reg, mask_eq, maskR_nil, maskR_cons, getR, setR, maskL, id, dis_lit, dis_sl, List.map_cons, List.map_nil, ↓reduceIte, Nat.reduceEqDiff, decide_true, f5_65e, f5_66e, f5_67e, f5_67l]
        refine call_p rfl e_f23 (hfi _) rfl ?_
        simp -implicitDefEqProofs (maxSteps := 10000000) (disch := omega) only [seqQ_normal, aC_skip, opsK_eq, runI_nil, runI_none, putP_eq, o_mv, o_bin, o_own, o_call, n_lss, wp_ok, ev_r, ev_c, ev_f, setB_r, putS, Sf.set, Sf.reg, mask_eq, maskR_nil, maskR_cons, getR, setR, maskL, Sf.disAt, id, dis_lit, dis_sl, List.map_cons, List.map_nil, ↓reduceIte, Nat.reduceEqDiff, cond_no, f5_68e, f5_69e, f5_70e, f5_70l, f5_71e, f5_74e, f5_74l]
        refine call_p rfl e_f21 (hwo _) rfl ?_
        rcases gAV_cases (conns A ++ conns B) with ⟨e, _⟩ | ⟨e, _⟩
        all_goals
          rw [e] at hg ⊢
          simp -implicitDefEqProofs (maxSteps := 10000000) (disch := omega) only [seqQ_normal, blockQ_normal, opsK_eq, runI_nil, runI_none, o_own, putS, Sf.set, Sf.reg, mask_eq, maskR_nil, maskR_cons, getR, setR, maskL, Sf.disAt, dis_lit, dis_sl, ↓reduceIte, Nat.reduceEqDiff]
          exact hg
      · exact hno 9 (by decide) (bremove_none h2 (by omega) hm)
    by_cases w3 : w = 3
    · subst w3
      cases cl
      case true =>
        have hL0 := h4 rfl
        have hg := hgo4 L g true q mid tid st h2 (by omega) h4
        rw [← hx] at hg
        simp only [bcsAV] at hg
        rcases hcases with ⟨rfl, _⟩ | ⟨rfl, hz⟩
        · simp -implicitDefEqProofs (maxSteps := 10000000) (disch := omega) only [seqQ_normal, aC_skip, opsK_eq, runI_nil, runI_none, putP_eq, cond_tt, cond_ff, o_mv, o_bin, o_addr, o_ixS, o_load, o_len, o_own, o_call, ixSV, loadV, ixA, lenI, addA, derefI, takeI_none, n_eql, n_lss, wp_ok, bind_ok, bind_req, ev_r, ev_c, ev_f, setB_r, putS, Sf.set, Sf.reg, mask_eq, maskR_nil, maskR_cons, getR, setR, maskL, Sf.disAt, id, dis_lit, dis_ptr, dis_sl, cells_agg, List.map_cons, List.map_nil, List.drop_zero, List.drop_succ_cons, Int.toNat_natCast, ↓reduceIte, Nat.reduceEqDiff, Int.reduceEq, decide_true, decide_false, List.length_map, req_dec, cond_yes, and_pre, f5_26e, f5_27e, f5_28e, f5_28l, f5_29e, f5_30e, f5_31e, f5_32e, f5_33e, f5_33l, f5_34e, f5_35e, f5_36e, f5_36l, f5_37e, f5_38e, f5_39e, f5_39l, f5_40e, f5_45e, f5_46e, f5_46l, f5_47e, f5_60e, f5_61e, f5_61l, f5_62e, f5_75e, f5_76e, f5_76l, f5_77e, f5_78e, f5_79e, f5_79l, bcsAV, e1]
          refine call_a rfl e_f24 (bclose_closed h2) rfl fun r st1 hr => ?_
          obtain ⟨rfl, rfl⟩ := hr
          simp -implicitDefEqProofs (maxSteps := 10000000) (disch := omega) only [seqQ_normal, blockQ_normal, aC_skip, opsK_eq, runI_nil, runI_none, putP_eq, cond_ff, o_mv, o_bin, o_ext, o_own, extV, n_eql, wp_ok, bind_ok, ofOpt_some, ev_r, ev_c, setB_r, putS, Sf.set, Sf.reg, mask_eq, maskR_nil, maskR_cons, getR, setR, maskL, Sf.disAt, dis_lit, dis_tup, own2_lit, List.map_cons, List.map_nil, List.getElem?_cons_zero, List.getElem?_cons_succ, ↓reduceIte, Nat.reduceEqDiff, Int.reduceEq, decide_false, f5_80e, f5_81e, f5_81l, f5_82e]
          exact hg
        · exact absurd (by rw [hL0]; rfl) hz
      have hs : ∀ st, PCalls Go.Proofs.Try.prog n_f25 [lAV (conns L), lAV (conns L)] st (.lit (.bool true)) := fun st => by have := lsame_l (conns L) (conns L) (by omega) (by omega) st; simpa using this
      have hcc := bclose_calls h2 (by omega)
      rw [← hdisx] at hs hcc
      rcases hcases with ⟨rfl, hz⟩ | ⟨rfl, _⟩
      all_goals
        simp -implicitDefEqProofs (maxSteps := 10000000) (disch := omega) only [seqQ_normal, aC_skip, opsK_eq, runI_nil, runI_none, putP_eq, cond_tt, cond_ff, o_mv, o_bin, o_addr, o_ixS, o_load, o_len, o_own, o_call, ixSV, loadV, ixA, lenI, addA, derefI, takeI_none, n_eql, n_lss, wp_ok, bind_ok, bind_req, ev_r, ev_c, ev_f, setB_r, putS, Sf.set, Sf.reg, mask_eq, maskR_nil, maskR_cons, getR, setR, maskL, Sf.disAt, id, dis_lit, dis_ptr, dis_sl, cells_agg, List.map_cons, List.map_nil, List.drop_zero, List.drop_succ_cons, Int.toNat_natCast, ↓reduceIte, Nat.reduceEqDiff, Int.reduceEq, decide_true, decide_false, List.length_map, req_dec, cond_yes, and_pre, f5_26e, f5_27e, f5_28e, f5_28l, f5_29e, f5_30e, f5_31e, f5_32e, f5_33e, f5_33l, f5_34e, f5_35e, f5_36e, f5_36l, f5_37e, f5_38e, f5_39e, f5_39l, f5_40e, f5_45e, f5_46e, f5_46l, f5_47e, f5_60e, f5_61e, f5_61l, f5_62e, f5_75e, f5_76e, f5_76l, f5_77e, f5_78e, f5_79e, f5_79l, bcsAV, e1]
        refine call_a rfl e_f24 hcc rfl fun r st1 hr => ?_
        obtain ⟨rfl, q', mid', tid', a1, _⟩ := hr
        have hg := hgo0 [] 0 true q' mid' tid' st1 a1 (by omega) (fun _ => rfl)
        rw [show gAV (conns []) = .lit (.slice none 0 0) from rfl] at hg
        simp only [bcsAV] at hg
        simp -implicitDefEqProofs (maxSteps := 10000000) (disch := omega) only [seqQ_normal, opsK_eq, runI_nil, runI_none, putP_eq, cond_tt, o_mv, o_bin, o_ext, o_own, o_call, extV, n_eql, wp_ok, bind_ok, ofOpt_some, ev_r, ev_c, ev_f, setB_r, putS, Sf.set, Sf.reg, mask_eq, maskR_nil, maskR_cons, getR, setR, maskL, Sf.disAt, id, dis_lit, dis_sl, dis_tup, own2_lit, own2_sl, List.map_cons, List.map_nil, List.getElem?_cons_zero, List.getElem?_cons_succ, ↓reduceIte, Nat.reduceEqDiff, decide_true, f5_80e, f5_81e, f5_81l, f5_82e, f5_83e, f5_84e, f5_85e, f5_85l]
        refine call_p rfl e_f25 (hs _) rfl ?_
        simp -implicitDefEqProofs (maxSteps := 10000000) (disch := omega) only [seqQ_normal, blockQ_normal, aC_skip, opsK_eq, runI_nil, runI_none, putP_eq, cond_ff, o_mv, o_un, unA, wp_ok, ev_r, ev_c, setB_r, putS, Sf.set, Sf.reg, mask_eq, maskR_nil, maskR_cons, getR, setR, maskL, dis_lit, ↓reduceIte, Nat.reduceEqDiff, Bool.not_true, f5_86e, f5_89e, f5_89l]
        exact hg
    · have hg := hgo5 L g cl q mid tid st h2 (by omega) h4
      rw [← hx] at hg
      simp only [bcsAV] at hg
      rcases hcases with ⟨rfl, _⟩ | ⟨rfl, _⟩
      all_goals
        simp -implicitDefEqProofs (maxSteps := 10000000) (disch := omega) only [seqQ_normal, blockQ_normal, aC_skip, opsK_eq, runI_nil, runI_none, putP_eq, cond_ff, o_mv, o_bin, o_addr, o_ixS, o_load, o_len, o_own, ixSV, loadV, ixA, lenI, addA, derefI, takeI_none, n_eql, n_lss, wp_ok, bind_ok, bind_req, ev_r, ev_c, setB_r, putS, Sf.set, Sf.reg, mask_eq, maskR_nil, maskR_cons, getR, setR, maskL, Sf.disAt, dis_lit, dis_sl, cells_agg, List.drop_zero, List.drop_succ_cons, Int.toNat_natCast, ↓reduceIte, Nat.reduceEqDiff, decide_false, List.length_map, req_dec, cond_yes, and_pre, f5_26e, f5_27e, f5_28e, f5_28l, f5_29e, f5_30e, f5_31e, f5_32e, f5_33e, f5_33l, f5_34e, f5_35e, f5_36e, f5_36l, f5_37e, f5_38e, f5_39e, f5_39l, f5_40e, f5_45e, f5_46e, f5_46l, f5_47e, f5_60e, f5_61e, f5_61l, f5_62e, f5_75e, f5_76e, f5_76l, f5_77e, bcsAV, e1, w0, w1, w2, w3]
        exact hg
  · rcases gAV_cases (conns L) with ⟨e, _⟩ | ⟨e, _⟩
    all_goals
      unfold hlSf
      rw [e]
      simp -implicitDefEqProofs (maxSteps := 10000000) (disch := omega) only [seqQ_normal, seqQ_exit, aC_exit, opsK_eq, runI_nil, runI_none, putP_eq, o_mv, o_bin, o_len, lenI, n_lss, wp_ok, ev_r, setB_r, putS, Sf.set, Sf.reg, mask_eq, maskR_nil, maskR_cons, getR, setR, maskL, dis_lit, dis_sl, ↓reduceIte, Nat.reduceEqDiff, List.length_map, cond_no, f5_26e, f5_27e, f5_28e, f5_28l, f5_29e, bcsAV]
      exact hKe _ _ _ (hQ _)
end Go.Fx.YtddifejdkiemgaaFx

