/- What the functions that the statement reaches compute: part 18. -/
import Derived.Test.YtohlpjfhkejjgaaFxW17
namespace Go.Fx.YtohlpjfhkejjgaaFx
open Go Go.Fx
attribute [local irreducible] aC runI headI loopI

set_option maxRecDepth 100000
set_option maxHeartbeats 8000000

/-- The values received so far. -/
def oI (r : Nat) : AV := if r = 0 then .lit (.slice none 0 0) else .sl true 1 (ints (ordL r))
theorem oI_cases (r : Nat) : (oI r = .lit (.slice none 0 0) ∧ r = 0) ∨ (oI r = .sl true 1 (ints (ordL r)) ∧ r ≠ 0) := by
  unfold oI
  by_cases h : r = 0
  · rw [if_pos h]; exact .inl ⟨rfl, h⟩
  · rw [if_neg h]; exact .inr ⟨rfl, h⟩
theorem oI_succ (r : Nat) : oI (r + 1) = .sl true 1 (ints (ordL r) ++ [.lit (.int .i64 ((r + 1 : Nat) : Int))]) := by
  unfold oI; rw [if_neg (by omega), ordL_succ, ints_app]; rfl

def oSf (n : Nat) (l : List Ca) (c s r i : Nat) : Sf := ⟨[(0, .lit (.int .i64 (n : Nat))), (1, casAV l), (5, .ptr c 0), (7, .lit (.int .i64 (s : Nat))), (8, .lit (.int .i64 (r : Nat))), (9, oI r), (10, .lit (.int .i64 (i : Nat)))], []⟩

/-- The checks after each call. -/
theorem order_check {st : St} {c q0 m0 q1 m1 wid : Nat} {bv : AV} {P : ChP} {n s r i : Nat} {l : List Ca} (h : ChIs st c P q0 m0 q1 m1 wid bv) (ho : Od P n s r) (hs : s ≤ 1000) {K : Exit → Sf → St → Prop} (hK : K .normal ⟨[(0, .lit (.int .i64 (n : Nat))), (1, casAV l), (5, .ptr c 0), (7, .lit (.int .i64 (s : Nat))), (8, .lit (.int .i64 (r : Nat))), (9, oI r), (10, .lit (.int .i64 (i : Nat))), (166, .lit (.bool false))], []⟩ st) :
    aC Go.Proofs.Try.prog id false f3_78 (oSf n l c s r i) st K := by
  have hlen := ho.len
  obtain ⟨⟨k1, k2, k3, k4⟩, _, _⟩ := ho
  unfold oSf at *
  rcases oI_cases r with ⟨er, hr⟩ | ⟨er, hr⟩
  all_goals
    rw [er] at hK ⊢
    simp -implicitDefEqProofs (maxSteps := 10000000) (disch := omega) only [runI_none, o_mv, o_call, ev_r, ev_f, putS, Sf.set, Sf.reg, getR, setR, id, dis_ptr, List.map_cons, List.map_nil, ↓reduceIte, Nat.reduceEqDiff, reduceCtorEq, f3_78e, f3_79e, f3_79l, casAV]
    refine call_p rfl e_f12 (cwaiting_pure h) rfl ?_
    simp only [casAV] at hK
    by_cases hS : P.S = []
    · have hS0 : P.S.length = 0 := by rw [hS]; rfl
      by_cases hV : P.V = []
      · have hV0 : P.V.length = 0 := by rw [hV]; rfl
        simp -implicitDefEqProofs (maxSteps := 10000000) (disch := omega) only [seqQ_normal, opsK_eq, runI_nil, runI_none, runI_some, skipI_eq, AI.dst, putP_eq, guard_ff, o_mv, o_pick, o_bin, o_ext, o_own, o_call, pick_ff, extV, n_gtr, wp_ok, bind_ok, ofOpt_some, ev_r, ev_c, ev_f, putS, Sf.set, Sf.reg, mask_eq, maskR_nil, maskR_cons, getR, setR, maskL, Sf.disAt, id, dis_lit, dis_ptr, dis_tup, own2_lit, List.map_cons, List.map_nil, List.getElem?_cons_zero, List.getElem?_cons_succ, ↓reduceIte, Nat.reduceEqDiff, reduceCtorEq, Bool.false_eq_true, guard_no, f3_80e, f3_81e, f3_81l]
        refine call_p rfl e_f13 (clen_pure h) rfl ?_
        simp -implicitDefEqProofs (maxSteps := 10000000) (disch := omega) only [seqQ_normal, aC_skip, opsK_eq, runI_nil, runI_none, runI_some, AI.dst, putP_eq, guard_ff, o_mv, o_pick, o_bin, pick_ff, n_add, n_neq, wp_ok, ev_r, ev_c, setB_r, putS, Sf.set, Sf.reg, mask_eq, maskR_nil, maskR_cons, getR, setR, maskL, dis_lit, ↓reduceIte, Nat.reduceEqDiff, reduceCtorEq, Bool.false_eq_true, cond_no, IntWalk.i64_in, up_add, f3_82e]
        exact hK
      · have hV0 : 0 < P.V.length := List.length_pos_iff.2 hV
        obtain ⟨j1, j2⟩ := k4 hV
        have hB0 : P.buf.length = 0 := by rw [j1]; rfl
        simp -implicitDefEqProofs (maxSteps := 10000000) (disch := omega) only [seqQ_normal, opsK_eq, runI_nil, runI_none, runI_some, skipI_eq, AI.dst, putP_eq, guard_tt, guard_ff, o_mv, o_pick, o_bin, o_ext, o_own, o_call, pick_ff, extV, n_gtr, wp_ok, bind_ok, ofOpt_some, ev_r, ev_c, ev_f, putS, Sf.set, Sf.reg, mask_eq, maskR_nil, maskR_cons, getR, setR, maskL, Sf.disAt, id, dis_lit, dis_ptr, dis_tup, own2_lit, List.map_cons, List.map_nil, List.getElem?_cons_zero, List.getElem?_cons_succ, ↓reduceIte, Nat.reduceEqDiff, reduceCtorEq, Bool.false_eq_true, guard_yes, guard_no, f3_80e, f3_81e, f3_81l]
        refine call_p rfl e_f13 (clen_pure h) rfl ?_
        simp -implicitDefEqProofs (maxSteps := 10000000) (disch := omega) only [runI_none, runI_some, AI.dst, putP_eq, guard_tt, guard_ff, o_mv, o_pick, o_bin, o_call, pick_tt, pick_ff, n_neq, wp_ok, ev_r, ev_c, ev_f, putS, Sf.set, Sf.reg, getR, setR, id, dis_lit, dis_ptr, List.map_cons, List.map_nil, ↓reduceIte, Nat.reduceEqDiff, reduceCtorEq, Bool.false_eq_true, guard_no]
        refine call_p rfl e_f13 (clen_pure h) rfl ?_
        simp -implicitDefEqProofs (maxSteps := 10000000) (disch := omega) only [seqQ_normal, aC_skip, opsK_eq, runI_nil, runI_none, runI_some, AI.dst, putP_eq, guard_ff, o_mv, o_pick, o_bin, pick_ff, n_add, n_neq, wp_ok, ev_r, ev_c, setB_r, putS, Sf.set, Sf.reg, mask_eq, maskR_nil, maskR_cons, getR, setR, maskL, dis_lit, ↓reduceIte, Nat.reduceEqDiff, reduceCtorEq, Bool.false_eq_true, cond_no, IntWalk.i64_in, up_add, f3_82e]
        exact hK
    · have hS0 : 0 < P.S.length := List.length_pos_iff.2 hS
      obtain ⟨j1, j2, j3⟩ := k3 hS
      have hV0 : P.V.length = 0 := by rw [j1]; rfl
      simp -implicitDefEqProofs (maxSteps := 10000000) (disch := omega) only [seqQ_normal, opsK_eq, runI_nil, runI_none, runI_some, AI.dst, putP_eq, guard_tt, guard_ff, o_mv, o_pick, o_bin, o_ext, o_own, o_call, pick_tt, extV, n_gtr, wp_ok, bind_ok, ofOpt_some, ev_r, ev_c, ev_f, putS, Sf.set, Sf.reg, mask_eq, maskR_nil, maskR_cons, getR, setR, maskL, Sf.disAt, id, dis_lit, dis_ptr, dis_tup, own2_lit, List.map_cons, List.map_nil, List.getElem?_cons_zero, List.getElem?_cons_succ, ↓reduceIte, Nat.reduceEqDiff, reduceCtorEq, Bool.false_eq_true, guard_yes, guard_no, f3_80e, f3_81e, f3_81l]
      refine call_p rfl e_f13 (clen_pure h) rfl ?_
      simp -implicitDefEqProofs (maxSteps := 10000000) (disch := omega) only [runI_none, runI_some, skipI_eq, AI.dst, putP_eq, guard_tt, guard_ff, o_mv, o_pick, o_bin, o_call, pick_tt, pick_ff, n_neq, n_gtr, wp_ok, ev_r, ev_c, ev_f, putS, Sf.set, Sf.reg, getR, setR, id, dis_lit, dis_ptr, List.map_cons, List.map_nil, ↓reduceIte, Nat.reduceEqDiff, reduceCtorEq, Bool.false_eq_true, guard_no]
      refine call_p rfl e_f13 (clen_pure h) rfl ?_
      simp -implicitDefEqProofs (maxSteps := 10000000) (disch := omega) only [seqQ_normal, aC_skip, opsK_eq, runI_nil, runI_none, runI_some, AI.dst, putP_eq, guard_ff, o_mv, o_pick, o_bin, pick_ff, n_add, n_neq, wp_ok, ev_r, ev_c, setB_r, putS, Sf.set, Sf.reg, mask_eq, maskR_nil, maskR_cons, getR, setR, maskL, dis_lit, ↓reduceIte, Nat.reduceEqDiff, reduceCtorEq, Bool.false_eq_true, cond_no, IntWalk.i64_in, up_add, f3_82e]
      exact hK

/-- The calls, one by one. -/
theorem order_loop {st : St} {c q0 m0 q1 m1 wid : Nat} {bv : AV} {n : Nat} (h : ChIs st c (newP n) q0 m0 q1 m1 wid bv) (hn : n ≤ 20) (l : List Ca) (hl : l.length ≤ 60) (Q : Exit → Sf → St → Prop)
    (hQ : ∀ st' r, r ≤ 1000 → Q (.exit 0) ⟨[(9, oI r)], []⟩ st') :
    aC Go.Proofs.Try.prog id false f3_25 (oSf n l c 0 0 0) st Q := by
  rw [f3_25w]
  refine loop_op (A := Nat × Nat × Nat × ChP × AV × St) (fun a => l.length - a.1) (fun a => oSf n l c a.2.1 a.2.2.1 a.1) (fun a => a.2.2.2.2.2)
    (fun a => a.1 ≤ l.length ∧ a.2.1 ≤ a.1 ∧ ChIs a.2.2.2.2.2 c a.2.2.2.1 q0 m0 q1 m1 wid a.2.2.2.2.1 ∧ Od a.2.2.2.1 n a.2.1 a.2.2.1 ∧ Bd a.2.2.2.1 (1 + a.1)) (0, 0, 0, newP n, bv, st) ⟨by simp, by simp, h, Od.new n, bd_new (by omega)⟩ (Sf.le_refl _) rfl ?_
  rintro ⟨i, s, r, P, bv, st⟩ ⟨h1, h2, h3, h4, h5⟩ K hK hKe hKr
  simp only at h1 h2 h3 h4 h5
  have hsr := h4.len
  by_cases hi : i < l.length
  · obtain ⟨⟨w, t, v⟩, hw⟩ : ∃ a, a = l[i] := ⟨_, rfl⟩
    have e1 : (l.map caAV).getD i .any = .agg [.lit (.int .i64 w), .lit (.int .i64 t), .lit (.int .i64 v)] := by simp [List.getD, hi, ← hw, caAV]
    -- the next round
    have hnx : ∀ s' r' P' bv' st', s' ≤ i + 1 → ChIs st' c P' q0 m0 q1 m1 wid bv' → Od P' n s' r' → Bd P' (1 + (i + 1)) → K .normal (oSf n l c s' r' (i + 1)) st' := fun s' r' P' bv' st' g1 g2 g3 g4 =>
      hK (i + 1, s', r', P', bv', st') _ ⟨by simp only; omega, g1, g2, g3, g4⟩ (by simp only; omega) (Sf.le_refl _)
    have hchk : ∀ s' r' P' bv' st', s' ≤ i + 1 → ChIs st' c P' q0 m0 q1 m1 wid bv' → Od P' n s' r' → Bd P' (1 + (i + 1)) → aC Go.Proofs.Try.prog id false f3_78 (oSf n l c s' r' i) st' (blockQ 1 (seqQ (aC Go.Proofs.Try.prog id false f3_85) K)) := by
      intro s' r' P' bv' st' g1 g2 g3 g4
      refine order_check g2 g3 (by omega) ?_
      have := hnx s' r' P' bv' st' g1 g2 g3 g4
      unfold oSf at this
      rcases oI_cases r' with ⟨er, _⟩ | ⟨er, _⟩
      all_goals
        rw [er] at this ⊢
        simp only [casAV] at this
        simp -implicitDefEqProofs (maxSteps := 10000000) (disch := omega) only [seqQ_normal, blockQ_normal, opsK_eq, runI_nil, runI_none, putP_eq, o_mv, o_bin, o_own, n_add, wp_ok, ev_r, ev_c, putS, Sf.set, Sf.reg, mask_eq, maskR_nil, maskR_cons, getR, setR, maskL, Sf.disAt, dis_lit, ↓reduceIte, Nat.reduceEqDiff, reduceCtorEq, IntWalk.i64_in, up_addL, f3_85e, f3_85l, casAV]
        exact this
    by_cases hw03 : 0 ≤ w ∧ w ≤ 3
    · have hd := cdo_calls h3 (w, t, ((s + 1 : Nat) : Int)) (n := 1 + i) ⟨h5, by omega⟩
      have hbd := bd_do h5 (w, t, ((s + 1 : Nat) : Int))
      obtain ⟨s', r', ho, hoc⟩ := od_do h4 (t := t) hw03 (v := ((s + 1 : Nat) : Int)) rfl
      generalize pDo P (w, t, ((s + 1 : Nat) : Int)) = R at *
      obtain ⟨P', xv, xd, xe, xr⟩ := R
      simp only [caAV] at hd ho hbd
      have hgo : ∀ st', ChPost st c P' q0 m0 q1 m1 wid bv st' → aC Go.Proofs.Try.prog id false f3_78 (oSf n l c s' r' i) st' (blockQ 1 (seqQ (aC Go.Proofs.Try.prog id false f3_85) K)) := by
        rintro st' ⟨bv', g, _, _⟩
        refine hchk s' r' P' bv' st' ?_ g ho hbd.1
        cases hoc <;> omega
      unfold oSf at hgo ⊢
      have hrl : (ints (ordL r)).length = r := by rw [ints_len, ordL_len]
      have hall : ∀ (x : AV), (x = .lit (.slice none 0 0) ∧ r = 0) ∨ (x = .sl true 1 (ints (ordL r)) ∧ r ≠ 0) → oI r = x →
          aC Go.Proofs.Try.prog id false f3_26 ⟨[(0, .lit (.int .i64 (n : Nat))), (1, casAV l), (5, .ptr c 0), (7, .lit (.int .i64 (s : Nat))), (8, .lit (.int .i64 (r : Nat))), (9, x), (10, .lit (.int .i64 (i : Nat)))], []⟩ st K := by
        intro x hx hox
        cases hoc with
        | no e1' e2' =>
          simp only at e1' e2'
          subst e2'
          have hi0 : itsAV [] = .lit (.slice none 0 0) := rfl
          simp only [rsAV, hi0] at hd
          rcases hx with ⟨rfl, hr0⟩ | ⟨rfl, hr0⟩
          all_goals
            simp -implicitDefEqProofs (maxSteps := 10000000) (disch := omega) only [seqQ_normal, aC_skip, opsK_eq, runI_nil, runI_none, runI_some, AI.dst, putP_eq, guard_ff, o_mv, o_pick, o_bin, o_addr, o_ixS, o_load, o_len, o_newL, o_store, o_call, pick_ff, ixSV, loadV, boxX, writeX, ixA, lenI, addA, derefI, takeI_none, takeI_some, n_add, n_lss, n_gtr, wp_ok, bind_ok, bind_req, ofOpt_some, req_tt, ev_r, ev_c, ev_f, evOwn_r, disOp_r, setB_r, putS, Sf.set, Sf.reg, mask_eq, maskR_nil, maskR_cons, getR, setR, maskL, Sf.disAt, Sf.newLoc, Sf.setLoc, look, killR, drop1, id, dis_lit, dis_ptr, dis_sl, dis_agg, own1_lit, cells_lit, cells_agg, solid1_lit, solid_eq, kill_lit, kill_ptr, kill_cptr, kill_sl, kill_agg, List.map_cons, List.map_nil, List.length_cons, List.length_nil, List.all_cons, List.all_nil, List.drop_zero, List.take_succ_cons, List.take_zero, List.set_cons_zero, List.set_cons_succ, Int.toNat_natCast, ↓reduceIte, Nat.reduceEqDiff, Nat.reduceAdd, Nat.reduceLeDiff, Bool.true_and, Bool.and_true, and_true, true_and, reduceCtorEq, Nat.zero_add, Nat.add_zero, decide_true, Bool.false_eq_true, List.length_map, req_dec, cond_yes, cond_no, guard_no, IntWalk.i64_in, up_addL, and_pre, setAt_nil, setAt_cons, f3_26e, f3_27e, f3_28e, f3_28l, f3_29e, f3_30e, f3_31e, f3_32e, f3_33e, f3_33l, f3_34e, f3_35e, f3_36e, f3_36l, f3_37e, f3_38e, f3_39e, f3_39l, f3_40e, f3_41e, f3_41l, casAV, e1]
            refine call_a rfl e_f11 hd rfl fun q st1 hq => ?_
            obtain ⟨rfl, hp⟩ := hq
            simp -implicitDefEqProofs (maxSteps := 10000000) (disch := omega) only [seqQ_normal, aC_skip, opsK_eq, runI_nil, runI_none, runI_some, skipI_eq, AI.dst, putP_eq, cond_ff, guard_ff, o_mv, o_pick, o_bin, o_addr, o_load, o_newL, o_store, pick_ff, loadV, boxX, writeX, addA, derefI, takeI_none, n_eql, wp_ok, bind_ok, ofOpt_some, ev_r, ev_c, evOwn_r, disOp_r, setB_r, putS, Sf.set, Sf.reg, mask_eq, maskR_nil, maskR_cons, getR, setR, maskL, Sf.disAt, Sf.newLoc, Sf.setLoc, look, killR, drop1, dis_lit, dis_agg, own1_lit, cells_agg, solid1_lit, solid_eq, kill_lit, kill_ptr, kill_lptr, kill_sl, kill_agg, List.map_cons, List.map_nil, List.length_cons, List.length_nil, List.all_cons, List.all_nil, List.drop_zero, List.drop_succ_cons, List.set_cons_zero, List.set_cons_succ, ↓reduceIte, Nat.reduceEqDiff, Nat.reduceAdd, Nat.reduceLeDiff, Bool.true_and, Bool.and_true, and_true, true_and, reduceCtorEq, Nat.zero_add, guard_no, setAt_nil, setAt_cons, f3_42e, f3_43e, f3_44e, f3_44l, f3_45e, f3_47e, f3_48e, f3_49e, f3_49l, f3_50e, f3_54e, f3_55e, f3_56e, f3_56l, f3_57e]
            rw [f3_58w]
            refine loop_rounds 1 ?_
            simp -implicitDefEqProofs (maxSteps := 10000000) (disch := omega) only [seqQ_normal, seqQ_exit, blockQ_exit, aC_exit, opsK_eq, runI_nil, runI_none, putP_eq, cond_ff, unrQ_exit, o_mv, o_bin, o_addr, o_load, o_len, loadV, lenI, addA, derefI, takeI_none, n_lss, wp_ok, bind_ok, ofOpt_some, ev_r, setB_r, putS, Sf.set, Sf.reg, mask_eq, maskR_nil, maskR_cons, getR, setR, maskL, look, dis_lit, List.drop_zero, List.drop_succ_cons, ↓reduceIte, Nat.reduceEqDiff, Int.reduceLT, reduceCtorEq, Nat.zero_add, decide_false, f3_59e, f3_60e, f3_61e, f3_61l, f3_62e, loopN_succ]
            have := hgo st1 hp
            rw [hox] at this
            simp only [casAV] at this
            exact this
        | put e1' e2' e3' =>
          simp only at e1' e2'
          subst e2' e1'
          have hi0 : itsAV [] = .lit (.slice none 0 0) := rfl
          simp only [rsAV, hi0] at hd
          have hrem : ∀ w : Int, w = 0 ∨ w = 2 → Int.tmod w 2 = 0 := by
            rintro w (rfl | rfl) <;> rfl
          have hrem := hrem w e3'
          cases xd
          all_goals
            rcases hx with ⟨rfl, hr0⟩ | ⟨rfl, hr0⟩
            all_goals
              simp -implicitDefEqProofs (maxSteps := 10000000) (disch := omega) only [seqQ_normal, aC_skip, opsK_eq, runI_nil, runI_none, runI_some, AI.dst, putP_eq, guard_ff, o_mv, o_pick, o_bin, o_addr, o_ixS, o_load, o_len, o_newL, o_store, o_call, pick_ff, ixSV, loadV, boxX, writeX, ixA, lenI, addA, derefI, takeI_none, takeI_some, n_add, n_lss, n_gtr, wp_ok, bind_ok, bind_req, ofOpt_some, req_tt, ev_r, ev_c, ev_f, evOwn_r, disOp_r, setB_r, putS, Sf.set, Sf.reg, mask_eq, maskR_nil, maskR_cons, getR, setR, maskL, Sf.disAt, Sf.newLoc, Sf.setLoc, look, killR, drop1, id, dis_lit, dis_ptr, dis_sl, dis_agg, own1_lit, cells_lit, cells_agg, solid1_lit, solid_eq, kill_lit, kill_ptr, kill_cptr, kill_sl, kill_agg, List.map_cons, List.map_nil, List.length_cons, List.length_nil, List.all_cons, List.all_nil, List.drop_zero, List.take_succ_cons, List.take_zero, List.set_cons_zero, List.set_cons_succ, Int.toNat_natCast, ↓reduceIte, Nat.reduceEqDiff, Nat.reduceAdd, Nat.reduceLeDiff, Bool.true_and, Bool.and_true, and_true, true_and, reduceCtorEq, Nat.zero_add, Nat.add_zero, decide_true, Bool.false_eq_true, List.length_map, req_dec, cond_yes, cond_no, guard_no, IntWalk.i64_in, up_addL, and_pre, setAt_nil, setAt_cons, f3_26e, f3_27e, f3_28e, f3_28l, f3_29e, f3_30e, f3_31e, f3_32e, f3_33e, f3_33l, f3_34e, f3_35e, f3_36e, f3_36l, f3_37e, f3_38e, f3_39e, f3_39l, f3_40e, f3_41e, f3_41l, casAV, e1]
              refine call_a rfl e_f11 hd rfl fun q st1 hq => ?_
              obtain ⟨rfl, hp⟩ := hq
              have hg := hgo st1 hp
              rw [hox] at hg
              simp only [casAV] at hg
              simp -implicitDefEqProofs (maxSteps := 10000000) (disch := omega) only [seqQ_normal, aC_skip, opsK_eq, runI_nil, runI_none, runI_some, skipI_eq, AI.dst, putP_eq, cond_ff, guard_tt, guard_ff, o_mv, o_pick, o_bin, o_addr, o_load, o_own, o_newL, o_store, pick_tt, pick_ff, loadV, boxX, writeX, addA, derefI, takeI_none, n_add, n_eql, wp_ok, bind_ok, ofOpt_some, req_tt, ev_r, ev_c, evOwn_r, disOp_r, setB_r, putS, Sf.set, Sf.reg, mask_eq, maskR_nil, maskR_cons, getR, setR, maskL, Sf.disAt, Sf.newLoc, Sf.setLoc, look, killR, drop1, dis_lit, dis_agg, own1_lit, cells_agg, solid1_lit, solid_eq, kill_lit, kill_ptr, kill_lptr, kill_sl, kill_agg, List.map_cons, List.map_nil, List.length_cons, List.length_nil, List.all_cons, List.all_nil, List.drop_zero, List.drop_succ_cons, List.set_cons_zero, List.set_cons_succ, ↓reduceIte, Nat.reduceEqDiff, Nat.reduceAdd, Nat.reduceLeDiff, Bool.true_and, Bool.and_true, and_true, true_and, reduceCtorEq, Nat.zero_add, Nat.add_zero, decide_true, cond_yes, cond_no, IntWalk.i64_in, n_rem, IntWalk.rem_in, up_addL, setAt_nil, setAt_cons, f3_42e, f3_43e, f3_44e, f3_44l, f3_45e, f3_46e, f3_46l, f3_47e, f3_48e, f3_49e, f3_49l, f3_50e, f3_54e, f3_55e, f3_56e, f3_56l, f3_57e]
              rw [f3_58w]
              refine loop_rounds 1 ?_
              simp -implicitDefEqProofs (maxSteps := 10000000) (disch := omega) only [seqQ_normal, seqQ_exit, blockQ_exit, aC_exit, opsK_eq, runI_nil, runI_none, putP_eq, cond_ff, unrQ_exit, o_mv, o_bin, o_addr, o_load, o_len, loadV, lenI, addA, derefI, takeI_none, n_lss, wp_ok, bind_ok, ofOpt_some, ev_r, setB_r, putS, Sf.set, Sf.reg, mask_eq, maskR_nil, maskR_cons, getR, setR, maskL, look, dis_lit, List.drop_zero, List.drop_succ_cons, ↓reduceIte, Nat.reduceEqDiff, Int.reduceLT, reduceCtorEq, Nat.zero_add, decide_false, f3_59e, f3_60e, f3_61e, f3_61l, f3_62e, loopN_succ]
              exact hg
        | give u e1' e2' e3' e4' =>
          simp only at e1' e2'
          subst e2' e1'
          have hi1 : itsAV [(u, ((s + 1 : Nat) : Int), 0)] = .sl false 4 [.agg [.lit (.int .i64 u), .lit (.int .i64 0), .lit (.int .i64 ((s + 1 : Nat) : Int)), .lit (.int .i64 0)]] := rfl
          simp only [rsAV, hi1] at hd
          have hrem : ∀ w : Int, w = 0 ∨ w = 2 → Int.tmod w 2 = 0 := by
            rintro w (rfl | rfl) <;> rfl
          have hrem := hrem w e3'
          rw [e4'] at hd hgo hi1 ⊢
          cases xd
          all_goals
            rcases hx with ⟨rfl, hr0⟩ | ⟨rfl, hr0⟩
            all_goals
              simp -implicitDefEqProofs (maxSteps := 10000000) (disch := omega) only [seqQ_normal, aC_skip, opsK_eq, runI_nil, runI_none, runI_some, AI.dst, putP_eq, guard_ff, o_mv, o_pick, o_bin, o_addr, o_ixS, o_load, o_len, o_newL, o_store, o_call, pick_ff, ixSV, loadV, boxX, writeX, ixA, lenI, addA, derefI, takeI_none, takeI_some, n_add, n_lss, n_gtr, wp_ok, bind_ok, bind_req, ofOpt_some, req_tt, ev_r, ev_c, ev_f, evOwn_r, disOp_r, setB_r, putS, Sf.set, Sf.reg, mask_eq, maskR_nil, maskR_cons, getR, setR, maskL, Sf.disAt, Sf.newLoc, Sf.setLoc, look, killR, drop1, id, dis_lit, dis_ptr, dis_sl, dis_agg, own1_lit, cells_lit, cells_agg, solid1_lit, solid_eq, kill_lit, kill_ptr, kill_cptr, kill_sl, kill_agg, List.map_cons, List.map_nil, List.length_cons, List.length_nil, List.all_cons, List.all_nil, List.drop_zero, List.take_succ_cons, List.take_zero, List.set_cons_zero, List.set_cons_succ, Int.toNat_natCast, ↓reduceIte, Nat.reduceEqDiff, Nat.reduceAdd, Nat.reduceLeDiff, Bool.true_and, Bool.and_true, and_true, true_and, reduceCtorEq, Nat.zero_add, Nat.add_zero, decide_true, Bool.false_eq_true, List.length_map, req_dec, cond_yes, cond_no, guard_no, IntWalk.i64_in, up_addL, and_pre, setAt_nil, setAt_cons, f3_26e, f3_27e, f3_28e, f3_28l, f3_29e, f3_30e, f3_31e, f3_32e, f3_33e, f3_33l, f3_34e, f3_35e, f3_36e, f3_36l, f3_37e, f3_38e, f3_39e, f3_39l, f3_40e, f3_41e, f3_41l, casAV, e1]
              refine call_a rfl e_f11 hd rfl fun q st1 hq => ?_
              obtain ⟨rfl, hp⟩ := hq
              have hg := hgo st1 hp
              rw [oI_succ] at hg
              simp only [casAV] at hg
              simp -implicitDefEqProofs (maxSteps := 10000000) (disch := omega) only [seqQ_normal, aC_skip, opsK_eq, runI_nil, runI_none, runI_some, skipI_eq, AI.dst, putP_eq, cond_ff, guard_tt, guard_ff, o_mv, o_pick, o_bin, o_addr, o_load, o_own, o_newL, o_store, pick_tt, pick_ff, loadV, boxX, writeX, addA, derefI, takeI_none, n_add, n_eql, wp_ok, bind_ok, ofOpt_some, req_tt, ev_r, ev_c, evOwn_r, disOp_r, setB_r, putS, Sf.set, Sf.reg, mask_eq, maskR_nil, maskR_cons, getR, setR, maskL, Sf.disAt, Sf.newLoc, Sf.setLoc, look, killR, drop1, dis_lit, dis_agg, own1_lit, own1_sl, cells_agg, solid1_lit, solid1_sl, solid_eq, kill_lit, kill_ptr, kill_lptr, kill_sl, kill_agg, List.map_cons, List.map_nil, List.length_cons, List.length_nil, List.all_cons, List.all_nil, List.drop_zero, List.drop_succ_cons, List.set_cons_zero, List.set_cons_succ, ↓reduceIte, Nat.reduceEqDiff, Nat.reduceAdd, Nat.reduceLeDiff, Bool.true_and, Bool.and_true, and_true, true_and, reduceCtorEq, Nat.zero_add, Nat.add_zero, decide_true, cond_yes, cond_no, IntWalk.i64_in, n_rem, IntWalk.rem_in, up_addL, setAt_nil, setAt_cons, f3_42e, f3_43e, f3_44e, f3_44l, f3_45e, f3_46e, f3_46l, f3_47e, f3_48e, f3_49e, f3_49l, f3_50e, f3_54e, f3_55e, f3_56e, f3_56l, f3_57e]
              rw [f3_58w]
              refine loop_rounds 2 ?_
              simp -implicitDefEqProofs (maxSteps := 10000000) (disch := omega) only [and_self, seqQ_normal, seqQ_exit, blockQ_normal, blockQ_exit, aC_skip, aC_exit, opsK_eq, runI_nil, runI_none, putP_eq, cond_tt, cond_ff, unrQ_normal, unrQ_exit, o_mv, o_bin, o_addr, o_ixS, o_load, o_bsl, o_len, o_own, o_appS, ixSV, loadV, bslV, appSX, List.isEmpty_cons, List.reduceReplicate, ixA, lenI, addA, derefI, takeI_none, appNewI, appOwnI, srcA, fillA, n_add, n_neq, n_lss, wp_ok, bind_ok, bind_req, ofOpt_some, req_tt, ev_r, ev_c, setB_r, putS, Sf.set, Sf.reg, mask_eq, maskR_nil, maskR_cons, getR, setR, maskL, Sf.disAt, look, dis_lit, dis_sl, cells_lit, cells_agg, solid1_lit, solid_eq, List.map_cons, List.map_nil, List.length_cons, List.length_nil, List.getD_cons_zero, List.all_cons, List.all_nil, List.drop_zero, List.drop_succ_cons, List.set_cons_zero, Int.toNat_zero, Int.cast_ofNat_Int, ↓reduceIte, Nat.reduceEqDiff, Nat.reduceLT, Int.reduceLT, Int.reduceLE, Bool.and_true, and_true, reduceCtorEq, Nat.zero_add, not_true_eq_false, decide_true, decide_false, Bool.false_eq_true, room_of, cond_yes, IntWalk.i64_in, up_addL, Int.zero_add, f3_59e, f3_60e, f3_61e, f3_61l, f3_62e, f3_63e, f3_64e, f3_65e, f3_66e, f3_67e, f3_67l, f3_68e, f3_71e, f3_72e, f3_72l, f3_73e, f3_74e, f3_75e, f3_75l, f3_76e, f3_76l, f3_77e, f3_77l, loopN_succ, hrl]
              first | exact hg | (rw [show ints (ordL r) = [] by rw [hr0]; rfl, List.nil_append] at hg; exact hg)
        | get e1' e2' e3' e4' e5' =>
          simp only at e1' e2' e4' e5'
          subst e1' e4' e5'
          have hrem : ∀ w : Int, w = 1 ∨ w = 3 → Int.tmod w 2 = 1 := by
            rintro w (rfl | rfl) <;> rfl
          have hrem := hrem w e3'
          rcases e2' with rfl | ⟨u, rfl⟩
          · have hi0 : itsAV [] = .lit (.slice none 0 0) := rfl
            simp only [rsAV, hi0] at hd
            rcases hx with ⟨rfl, hr0⟩ | ⟨rfl, hr0⟩
            all_goals
              simp -implicitDefEqProofs (maxSteps := 10000000) (disch := omega) only [seqQ_normal, aC_skip, opsK_eq, runI_nil, runI_none, runI_some, AI.dst, putP_eq, guard_ff, o_mv, o_pick, o_bin, o_addr, o_ixS, o_load, o_len, o_newL, o_store, o_call, pick_ff, ixSV, loadV, boxX, writeX, ixA, lenI, addA, derefI, takeI_none, takeI_some, n_add, n_lss, n_gtr, wp_ok, bind_ok, bind_req, ofOpt_some, req_tt, ev_r, ev_c, ev_f, evOwn_r, disOp_r, setB_r, putS, Sf.set, Sf.reg, mask_eq, maskR_nil, maskR_cons, getR, setR, maskL, Sf.disAt, Sf.newLoc, Sf.setLoc, look, killR, drop1, id, dis_lit, dis_ptr, dis_sl, dis_agg, own1_lit, cells_lit, cells_agg, solid1_lit, solid_eq, kill_lit, kill_ptr, kill_cptr, kill_sl, kill_agg, List.map_cons, List.map_nil, List.length_cons, List.length_nil, List.all_cons, List.all_nil, List.drop_zero, List.take_succ_cons, List.take_zero, List.set_cons_zero, List.set_cons_succ, Int.toNat_natCast, ↓reduceIte, Nat.reduceEqDiff, Nat.reduceAdd, Nat.reduceLeDiff, Bool.true_and, Bool.and_true, and_true, true_and, reduceCtorEq, Nat.zero_add, Nat.add_zero, decide_true, Bool.false_eq_true, List.length_map, req_dec, cond_yes, cond_no, guard_no, IntWalk.i64_in, up_addL, and_pre, setAt_nil, setAt_cons, f3_26e, f3_27e, f3_28e, f3_28l, f3_29e, f3_30e, f3_31e, f3_32e, f3_33e, f3_33l, f3_34e, f3_35e, f3_36e, f3_36l, f3_37e, f3_38e, f3_39e, f3_39l, f3_40e, f3_41e, f3_41l, casAV, e1]
              refine call_a rfl e_f11 hd rfl fun q st1 hq => ?_
              obtain ⟨rfl, hp⟩ := hq
              have hg := hgo st1 hp
              rw [oI_succ] at hg
              simp only [casAV] at hg
              simp -implicitDefEqProofs (maxSteps := 10000000) (disch := omega) only [and_self, seqQ_normal, aC_skip, opsK_eq, runI_nil, runI_none, runI_some, AI.dst, putP_eq, guard_tt, o_mv, o_pick, o_bin, o_addr, o_load, o_bsl, o_own, o_appS, o_newL, o_store, pick_tt, loadV, bslV, appSX, boxX, writeX, List.isEmpty_cons, List.reduceReplicate, addA, derefI, takeI_none, appNewI, appOwnI, srcA, fillA, n_add, n_eql, wp_ok, bind_ok, ofOpt_some, req_tt, ev_r, ev_c, evOwn_r, disOp_r, setB_r, putS, Sf.set, Sf.reg, mask_eq, maskR_nil, maskR_cons, getR, setR, maskL, Sf.disAt, Sf.newLoc, Sf.setLoc, look, killR, drop1, dis_lit, dis_sl, dis_agg, own1_lit, cells_lit, cells_agg, solid1_lit, solid_eq, kill_lit, kill_ptr, kill_lptr, kill_sl, kill_agg, List.map_cons, List.map_nil, List.length_cons, List.length_nil, List.all_cons, List.all_nil, List.drop_zero, List.drop_succ_cons, List.set_cons_zero, List.set_cons_succ, ↓reduceIte, Nat.reduceEqDiff, Nat.reduceAdd, Nat.reduceLT, Nat.reduceLeDiff, Bool.true_and, Bool.and_true, and_true, true_and, reduceCtorEq, Nat.zero_add, Nat.add_zero, decide_true, Bool.false_eq_true, room_of, cond_yes, cond_no, IntWalk.i64_in, n_rem, IntWalk.rem_in, up_addL, setAt_nil, setAt_cons, f3_42e, f3_43e, f3_44e, f3_44l, f3_45e, f3_47e, f3_48e, f3_49e, f3_49l, f3_50e, f3_51e, f3_52e, f3_52l, f3_53e, f3_53l, f3_54e, f3_55e, f3_56e, f3_56l, f3_57e, hrl]
              rw [f3_58w]
              refine loop_rounds 1 ?_
              simp -implicitDefEqProofs (maxSteps := 10000000) (disch := omega) only [seqQ_normal, seqQ_exit, blockQ_exit, aC_exit, opsK_eq, runI_nil, runI_none, putP_eq, cond_ff, unrQ_exit, o_mv, o_bin, o_addr, o_load, o_len, loadV, lenI, addA, derefI, takeI_none, n_lss, wp_ok, bind_ok, ofOpt_some, ev_r, setB_r, putS, Sf.set, Sf.reg, mask_eq, maskR_nil, maskR_cons, getR, setR, maskL, look, dis_lit, List.drop_zero, List.drop_succ_cons, ↓reduceIte, Nat.reduceEqDiff, Int.reduceLT, reduceCtorEq, Nat.zero_add, decide_false, f3_59e, f3_60e, f3_61e, f3_61l, f3_62e, loopN_succ]
              first | exact hg | (rw [show ints (ordL r) = [] by rw [hr0]; rfl, List.nil_append] at hg; exact hg)
          · have hi1 : itsAV [(u, 0, 0)] = .sl false 4 [.agg [.lit (.int .i64 u), .lit (.int .i64 0), .lit (.int .i64 0), .lit (.int .i64 0)]] := rfl
            simp only [rsAV, hi1] at hd
            rcases hx with ⟨rfl, hr0⟩ | ⟨rfl, hr0⟩
            all_goals
              simp -implicitDefEqProofs (maxSteps := 10000000) (disch := omega) only [seqQ_normal, aC_skip, opsK_eq, runI_nil, runI_none, runI_some, AI.dst, putP_eq, guard_ff, o_mv, o_pick, o_bin, o_addr, o_ixS, o_load, o_len, o_newL, o_store, o_call, pick_ff, ixSV, loadV, boxX, writeX, ixA, lenI, addA, derefI, takeI_none, takeI_some, n_add, n_lss, n_gtr, wp_ok, bind_ok, bind_req, ofOpt_some, req_tt, ev_r, ev_c, ev_f, evOwn_r, disOp_r, setB_r, putS, Sf.set, Sf.reg, mask_eq, maskR_nil, maskR_cons, getR, setR, maskL, Sf.disAt, Sf.newLoc, Sf.setLoc, look, killR, drop1, id, dis_lit, dis_ptr, dis_sl, dis_agg, own1_lit, cells_lit, cells_agg, solid1_lit, solid_eq, kill_lit, kill_ptr, kill_cptr, kill_sl, kill_agg, List.map_cons, List.map_nil, List.length_cons, List.length_nil, List.all_cons, List.all_nil, List.drop_zero, List.take_succ_cons, List.take_zero, List.set_cons_zero, List.set_cons_succ, Int.toNat_natCast, ↓reduceIte, Nat.reduceEqDiff, Nat.reduceAdd, Nat.reduceLeDiff, Bool.true_and, Bool.and_true, and_true, true_and, reduceCtorEq, Nat.zero_add, Nat.add_zero, decide_true, Bool.false_eq_true, List.length_map, req_dec, cond_yes, cond_no, guard_no, IntWalk.i64_in, up_addL, and_pre, setAt_nil, setAt_cons, f3_26e, f3_27e, f3_28e, f3_28l, f3_29e, f3_30e, f3_31e, f3_32e, f3_33e, f3_33l, f3_34e, f3_35e, f3_36e, f3_36l, f3_37e, f3_38e, f3_39e, f3_39l, f3_40e, f3_41e, f3_41l, casAV, e1]
              refine call_a rfl e_f11 hd rfl fun q st1 hq => ?_
              obtain ⟨rfl, hp⟩ := hq
              have hg := hgo st1 hp
              rw [oI_succ] at hg
              simp only [casAV] at hg
              simp -implicitDefEqProofs (maxSteps := 10000000) (disch := omega) only [and_self, seqQ_normal, aC_skip, opsK_eq, runI_nil, runI_none, runI_some, AI.dst, putP_eq, guard_tt, o_mv, o_pick, o_bin, o_addr, o_load, o_bsl, o_own, o_appS, o_newL, o_store, pick_tt, loadV, bslV, appSX, boxX, writeX, List.isEmpty_cons, List.reduceReplicate, addA, derefI, takeI_none, appNewI, appOwnI, srcA, fillA, n_add, n_eql, wp_ok, bind_ok, ofOpt_some, req_tt, ev_r, ev_c, evOwn_r, disOp_r, setB_r, putS, Sf.set, Sf.reg, mask_eq, maskR_nil, maskR_cons, getR, setR, maskL, Sf.disAt, Sf.newLoc, Sf.setLoc, look, killR, drop1, dis_lit, dis_sl, dis_agg, own1_lit, own1_sl, cells_lit, cells_agg, solid1_lit, solid1_sl, solid_eq, kill_lit, kill_ptr, kill_lptr, kill_sl, kill_agg, List.map_cons, List.map_nil, List.length_cons, List.length_nil, List.all_cons, List.all_nil, List.drop_zero, List.drop_succ_cons, List.set_cons_zero, List.set_cons_succ, ↓reduceIte, Nat.reduceEqDiff, Nat.reduceAdd, Nat.reduceLT, Nat.reduceLeDiff, Bool.true_and, Bool.and_true, and_true, true_and, reduceCtorEq, Nat.zero_add, Nat.add_zero, decide_true, Bool.false_eq_true, room_of, cond_yes, cond_no, IntWalk.i64_in, n_rem, IntWalk.rem_in, up_addL, setAt_nil, setAt_cons, f3_42e, f3_43e, f3_44e, f3_44l, f3_45e, f3_47e, f3_48e, f3_49e, f3_49l, f3_50e, f3_51e, f3_52e, f3_52l, f3_53e, f3_53l, f3_54e, f3_55e, f3_56e, f3_56l, f3_57e, hrl]
              rw [f3_58w]
              refine loop_rounds 2 ?_
              simp -implicitDefEqProofs (maxSteps := 10000000) (disch := omega) only [and_self, seqQ_normal, seqQ_exit, blockQ_normal, blockQ_exit, aC_skip, aC_exit, opsK_eq, runI_nil, runI_none, putP_eq, cond_tt, cond_ff, unrQ_normal, unrQ_exit, o_mv, o_bin, o_addr, o_ixS, o_load, o_len, o_own, ixSV, loadV, ixA, lenI, addA, derefI, takeI_none, n_add, n_neq, n_lss, wp_ok, bind_ok, bind_req, ofOpt_some, req_tt, ev_r, ev_c, setB_r, putS, Sf.set, Sf.reg, mask_eq, maskR_nil, maskR_cons, getR, setR, maskL, Sf.disAt, look, dis_lit, dis_sl, cells_agg, List.length_cons, List.length_nil, List.getD_cons_zero, List.drop_zero, List.drop_succ_cons, Int.toNat_zero, Int.cast_ofNat_Int, ↓reduceIte, Nat.reduceEqDiff, Int.reduceLT, Int.reduceLE, reduceCtorEq, Nat.zero_add, not_true_eq_false, decide_true, decide_false, IntWalk.i64_in, Int.zero_add, f3_59e, f3_60e, f3_61e, f3_61l, f3_62e, f3_63e, f3_64e, f3_65e, f3_66e, f3_67e, f3_67l, f3_68e, f3_71e, f3_72e, f3_72l, f3_73e, f3_77e, f3_77l, loopN_succ]
              first | exact hg | (rw [show ints (ordL r) = [] by rw [hr0]; rfl, List.nil_append] at hg; exact hg)
        | wait e1' e2' e3' e5' =>
          simp only at e1' e2' e5'
          subst e2' e1' e5'
          have hi0 : itsAV [] = .lit (.slice none 0 0) := rfl
          simp only [rsAV, hi0] at hd
          have hrem : ∀ w : Int, w = 1 ∨ w = 3 → Int.tmod w 2 = 1 := by
            rintro w (rfl | rfl) <;> rfl
          have hrem := hrem w e3'
          rcases hx with ⟨rfl, hr0⟩ | ⟨rfl, hr0⟩
          all_goals
            simp -implicitDefEqProofs (maxSteps := 10000000) (disch := omega) only [seqQ_normal, aC_skip, opsK_eq, runI_nil, runI_none, runI_some, AI.dst, putP_eq, guard_ff, o_mv, o_pick, o_bin, o_addr, o_ixS, o_load, o_len, o_newL, o_store, o_call, pick_ff, ixSV, loadV, boxX, writeX, ixA, lenI, addA, derefI, takeI_none, takeI_some, n_add, n_lss, n_gtr, wp_ok, bind_ok, bind_req, ofOpt_some, req_tt, ev_r, ev_c, ev_f, evOwn_r, disOp_r, setB_r, putS, Sf.set, Sf.reg, mask_eq, maskR_nil, maskR_cons, getR, setR, maskL, Sf.disAt, Sf.newLoc, Sf.setLoc, look, killR, drop1, id, dis_lit, dis_ptr, dis_sl, dis_agg, own1_lit, cells_lit, cells_agg, solid1_lit, solid_eq, kill_lit, kill_ptr, kill_cptr, kill_sl, kill_agg, List.map_cons, List.map_nil, List.length_cons, List.length_nil, List.all_cons, List.all_nil, List.drop_zero, List.take_succ_cons, List.take_zero, List.set_cons_zero, List.set_cons_succ, Int.toNat_natCast, ↓reduceIte, Nat.reduceEqDiff, Nat.reduceAdd, Nat.reduceLeDiff, Bool.true_and, Bool.and_true, and_true, true_and, reduceCtorEq, Nat.zero_add, Nat.add_zero, decide_true, Bool.false_eq_true, List.length_map, req_dec, cond_yes, cond_no, guard_no, IntWalk.i64_in, up_addL, and_pre, setAt_nil, setAt_cons, f3_26e, f3_27e, f3_28e, f3_28l, f3_29e, f3_30e, f3_31e, f3_32e, f3_33e, f3_33l, f3_34e, f3_35e, f3_36e, f3_36l, f3_37e, f3_38e, f3_39e, f3_39l, f3_40e, f3_41e, f3_41l, casAV, e1]
            refine call_a rfl e_f11 hd rfl fun q st1 hq => ?_
            obtain ⟨rfl, hp⟩ := hq
            have hg := hgo st1 hp
            rw [hox] at hg
            simp only [casAV] at hg
            simp -implicitDefEqProofs (maxSteps := 10000000) (disch := omega) only [seqQ_normal, aC_skip, opsK_eq, runI_nil, runI_none, runI_some, skipI_eq, AI.dst, putP_eq, cond_ff, guard_tt, guard_ff, o_mv, o_pick, o_bin, o_addr, o_load, o_newL, o_store, pick_tt, pick_ff, loadV, boxX, writeX, addA, derefI, takeI_none, n_eql, wp_ok, bind_ok, ofOpt_some, req_tt, ev_r, ev_c, evOwn_r, disOp_r, setB_r, putS, Sf.set, Sf.reg, mask_eq, maskR_nil, maskR_cons, getR, setR, maskL, Sf.disAt, Sf.newLoc, Sf.setLoc, look, killR, drop1, dis_lit, dis_agg, own1_lit, cells_agg, solid1_lit, solid_eq, kill_lit, kill_ptr, kill_lptr, kill_sl, kill_agg, List.map_cons, List.map_nil, List.length_cons, List.length_nil, List.all_cons, List.all_nil, List.drop_zero, List.drop_succ_cons, List.set_cons_zero, List.set_cons_succ, ↓reduceIte, Nat.reduceEqDiff, Nat.reduceAdd, Nat.reduceLeDiff, Bool.true_and, Bool.and_true, and_true, true_and, reduceCtorEq, Nat.zero_add, Nat.add_zero, decide_true, cond_no, n_rem, IntWalk.rem_in, setAt_nil, setAt_cons, f3_42e, f3_43e, f3_44e, f3_44l, f3_45e, f3_47e, f3_48e, f3_49e, f3_49l, f3_50e, f3_54e, f3_55e, f3_56e, f3_56l, f3_57e]
            rw [f3_58w]
            refine loop_rounds 1 ?_
            simp -implicitDefEqProofs (maxSteps := 10000000) (disch := omega) only [seqQ_normal, seqQ_exit, blockQ_exit, aC_exit, opsK_eq, runI_nil, runI_none, putP_eq, cond_ff, unrQ_exit, o_mv, o_bin, o_addr, o_load, o_len, loadV, lenI, addA, derefI, takeI_none, n_lss, wp_ok, bind_ok, ofOpt_some, ev_r, setB_r, putS, Sf.set, Sf.reg, mask_eq, maskR_nil, maskR_cons, getR, setR, maskL, look, dis_lit, List.drop_zero, List.drop_succ_cons, ↓reduceIte, Nat.reduceEqDiff, Int.reduceLT, reduceCtorEq, Nat.zero_add, decide_false, f3_59e, f3_60e, f3_61e, f3_61l, f3_62e, loopN_succ]
            exact hg
      exact hall _ (oI_cases r) rfl
    · have hwo : w < 0 ∨ 3 < w := by omega
      have := hnx s r P bv st (by omega) h3 h4 (by unfold Bd at *; omega)
      unfold oSf at this ⊢
      rcases hwo with hwo | hwo
      all_goals
        rcases oI_cases r with ⟨er, _⟩ | ⟨er, _⟩
        all_goals
          rw [er] at this ⊢
          simp only [casAV] at this
          simp -implicitDefEqProofs (maxSteps := 10000000) (disch := omega) only [seqQ_normal, seqQ_exit, blockQ_exit, aC_skip, aC_exit, opsK_eq, runI_nil, runI_none, runI_some, skipI_eq, AI.dst, putP_eq, cond_tt, guard_tt, guard_ff, o_mv, o_pick, o_bin, o_addr, o_ixS, o_load, o_len, o_own, o_newL, o_store, pick_tt, pick_ff, ixSV, loadV, boxX, writeX, ixA, lenI, addA, derefI, takeI_none, takeI_some, n_add, n_lss, n_gtr, wp_ok, bind_ok, bind_req, ofOpt_some, req_tt, ev_r, ev_c, evOwn_r, disOp_r, setB_r, putS, Sf.set, Sf.reg, mask_eq, maskR_nil, maskR_cons, getR, setR, maskL, Sf.disAt, Sf.newLoc, Sf.setLoc, look, killR, drop1, dis_lit, dis_sl, dis_agg, own1_lit, cells_agg, solid1_lit, solid_eq, kill_lit, kill_ptr, kill_cptr, kill_sl, kill_agg, List.map_cons, List.map_nil, List.length_cons, List.length_nil, List.all_cons, List.all_nil, List.drop_zero, List.take_succ_cons, List.take_zero, List.set_cons_zero, List.set_cons_succ, Int.toNat_natCast, ↓reduceIte, Nat.reduceEqDiff, Nat.reduceAdd, Nat.reduceLeDiff, Bool.true_and, Bool.and_true, and_true, true_and, reduceCtorEq, Nat.zero_add, Nat.add_zero, decide_true, Bool.false_eq_true, List.length_map, req_dec, cond_yes, guard_yes, guard_no, IntWalk.i64_in, up_addL, and_pre, setAt_nil, setAt_cons, f3_26e, f3_27e, f3_28e, f3_28l, f3_29e, f3_30e, f3_31e, f3_32e, f3_33e, f3_33l, f3_34e, f3_35e, f3_36e, f3_36l, f3_37e, f3_85e, f3_85l, casAV, e1]
          exact this
  · unfold oSf
    have := hQ st r (by omega)
    rcases oI_cases r with ⟨er, _⟩ | ⟨er, _⟩
    all_goals
      rw [er] at this ⊢
      simp -implicitDefEqProofs (maxSteps := 10000000) (disch := omega) only [seqQ_normal, seqQ_exit, aC_exit, opsK_eq, runI_nil, runI_none, putP_eq, o_mv, o_bin, o_len, lenI, n_lss, wp_ok, ev_r, setB_r, putS, Sf.set, Sf.reg, mask_eq, maskR_nil, maskR_cons, getR, setR, maskL, dis_lit, dis_sl, ↓reduceIte, Nat.reduceEqDiff, reduceCtorEq, List.length_map, cond_no, f3_26e, f3_27e, f3_28e, f3_28l, f3_29e, casAV]
      exact hKe _ _ _ this

/-- The values are 1, 2, 3 and so on. -/
theorem order_last (r : Nat) (hr : r ≤ 1000) (st : St) (Q : Exit → Sf → St → Prop) (hQ : Q (.exit 4) ⟨[], []⟩ st) :
    aC Go.Proofs.Try.prog id false f3_90 ⟨[(9, oI r), (16, .lit (.int .i64 0))], []⟩ st Q := by
  rcases oI_cases r with ⟨er, hr0⟩ | ⟨er, hr0⟩
  · rw [er, f3_90w]
    refine loop_rounds 1 ?_
    simp -implicitDefEqProofs (maxSteps := 10000000) (disch := omega) only [seqQ_normal, seqQ_exit, aC_exit, opsK_eq, runI_nil, runI_none, putP_eq, cond_ff, unrQ_exit, o_mv, o_bin, o_len, lenI, n_lss, wp_ok, ev_r, setB_r, putS, Sf.set, Sf.reg, mask_eq, maskR_nil, maskR_cons, getR, setR, maskL, dis_lit, ↓reduceIte, Nat.reduceEqDiff, Int.reduceLT, decide_false, f3_91e, f3_92e, f3_93e, f3_93l, f3_94e, loopN_succ]
    exact hQ
  · rw [er, f3_90w]
    refine loop_op (A := Nat) (fun a => r - a) (fun a => ⟨[(9, .sl true 1 (ints (ordL r))), (16, .lit (.int .i64 (a : Nat)))], []⟩) (fun _ => st) (fun a => a ≤ r) 0 (by omega) (Sf.le_refl _) rfl ?_
    rintro i h1 K hK hKe hKr
    have hrl : (ints (ordL r)).length = r := by rw [ints_len, ordL_len]
    by_cases hi : i < r
    · have e1 : (ints (ordL r)).getD i .any = .lit (.int .i64 ((i + 1 : Nat) : Int)) := by
        have := ordL_get hi
        simp [ints, List.getD, List.getElem?_map, this]
      simp -implicitDefEqProofs (maxSteps := 10000000) (disch := omega) only [seqQ_normal, blockQ_normal, aC_skip, opsK_eq, runI_nil, runI_none, putP_eq, cond_ff, o_mv, o_bin, o_ixS, o_load, o_len, o_own, ixSV, loadV, ixA, lenI, derefI, takeI_none, n_add, n_neq, n_lss, wp_ok, bind_ok, bind_req, ev_r, ev_c, setB_r, putS, Sf.set, Sf.reg, mask_eq, maskR_nil, maskR_cons, getR, setR, maskL, Sf.disAt, dis_lit, dis_sl, cells_lit, Int.toNat_natCast, ↓reduceIte, Nat.reduceEqDiff, not_true_eq_false, decide_false, req_dec, cond_yes, IntWalk.i64_in, up_addL, and_pre, f3_91e, f3_92e, f3_93e, f3_93l, f3_94e, f3_95e, f3_96e, f3_97e, f3_98e, f3_98l, f3_99e, f3_102e, f3_102l, hrl, e1]
      exact hK (i + 1) _ (by omega) (by omega) (Sf.le_refl _)
    · simp -implicitDefEqProofs (maxSteps := 10000000) (disch := omega) only [seqQ_normal, seqQ_exit, aC_exit, opsK_eq, runI_nil, runI_none, putP_eq, o_mv, o_bin, o_len, lenI, n_lss, wp_ok, ev_r, setB_r, putS, Sf.set, Sf.reg, mask_eq, maskR_nil, maskR_cons, getR, setR, maskL, dis_lit, dis_sl, ↓reduceIte, Nat.reduceEqDiff, cond_no, f3_91e, f3_92e, f3_93e, f3_93l, f3_94e, hrl]
      exact hKe _ _ _ hQ

theorem channelOrder_law (n : Int) (l : List Ca) : ACalls Go.Proofs.Try.prog n_f3 [.lit (.int .i64 n), casAV l] ⟨[]⟩ (fun v _ => v = .lit (.bool true)) := by
  refine acalls_op hmix k_f3 rfl rfl fun Q hQ => ?_
  unfold aFun c_f3
  simp -implicitDefEqProofs (maxSteps := 10000000) (disch := omega) only [seqQ_normal, opsK_eq, runI_nil, runI_none, o_mv, o_call, ev_r, ev_c, ev_f, putS, Sf.set, Sf.reg, mask_eq, maskR_nil, maskR_cons, getR, setR, maskL, regs0, id, dis_lit, dis_sl, List.map_cons, List.map_nil, ↓reduceIte, Nat.reduceEqDiff, reduceCtorEq, Nat.zero_add, f3_1e, f3_2e, f3_2l, f3_3e, f3_4e, f3_4l, casAV]
  by_cases hn : n < 0 ∨ 4096 < n
  · refine call_p rfl e_f9 (cnew_err hn _) rfl ?_
    rcases hn with hn | hn
    all_goals
      simp -implicitDefEqProofs (maxSteps := 10000000) (disch := omega) only [seqQ_normal, opsK_eq, runI_nil, runI_none, runI_some, skipI_eq, AI.dst, putP_eq, cond_tt, guard_tt, guard_ff, o_mv, o_pick, o_bin, o_ext, o_own, o_call, pick_tt, pick_ff, extV, n_lss, n_gtr, wp_ok, bind_ok, ofOpt_some, ev_r, ev_c, ev_f, setB_r, putS, Sf.set, Sf.reg, mask_eq, maskR_nil, maskR_cons, getR, setR, maskL, Sf.disAt, id, dis_lit, dis_tup, own2_lit, List.map_cons, List.map_nil, List.getElem?_cons_zero, List.getElem?_cons_succ, ↓reduceIte, Nat.reduceEqDiff, reduceCtorEq, Bool.false_eq_true, guard_yes, guard_no, f3_5e, f3_6e, f3_7e, f3_7l, f3_8e, f3_9e, f3_10e, f3_10l]
      refine call_a rfl e_f10 (known36 _) rfl fun r st1 hr => ?_
      subst hr
      simp -implicitDefEqProofs (maxSteps := 10000000) (disch := omega) only [seqQ_normal, seqQ_ret, aC_ret, opsK_eq, retQ_ret, retI, runI_nil, runI_none, o_own, wp_ok, putS, Sf.set, Sf.reg, mask_eq, maskR_nil, maskR_cons, getR, setR, maskL, Sf.disAt, dis_lit, noL_lit, ↓reduceIte, Nat.reduceEqDiff, Bool.true_and, true_and, reduceCtorEq]
      exact hQ _ _ rfl
  obtain ⟨k, rfl⟩ : ∃ k : Nat, n = (k : Int) := ⟨n.toNat, by omega⟩
  have hk : k ≤ 4096 := by omega
  refine call_a rfl e_f9 (cnew_ex hk _) rfl fun r st1 hr => ?_
  obtain ⟨c, q0, m0, q1, m1, wid, bv, rfl, h0⟩ := hr
  by_cases hk20 : 20 < k
  · simp -implicitDefEqProofs (maxSteps := 10000000) (disch := omega) only [seqQ_normal, opsK_eq, runI_nil, runI_none, runI_some, skipI_eq, AI.dst, putP_eq, cond_tt, guard_tt, guard_ff, o_mv, o_pick, o_bin, o_ext, o_own, o_call, pick_tt, pick_ff, extV, n_lss, n_gtr, wp_ok, bind_ok, ofOpt_some, ev_r, ev_c, ev_f, setB_r, putS, Sf.set, Sf.reg, mask_eq, maskR_nil, maskR_cons, getR, setR, maskL, Sf.disAt, id, dis_lit, dis_ptr, dis_tup, own2_lit, own2_ptr, List.map_cons, List.map_nil, List.getElem?_cons_zero, List.getElem?_cons_succ, ↓reduceIte, Nat.reduceEqDiff, reduceCtorEq, Bool.false_eq_true, guard_yes, guard_no, f3_5e, f3_6e, f3_7e, f3_7l, f3_8e, f3_9e, f3_10e, f3_10l]
    refine call_a rfl e_f10 (known36 _) rfl fun r st1 hr => ?_
    subst hr
    simp -implicitDefEqProofs (maxSteps := 10000000) (disch := omega) only [seqQ_normal, seqQ_ret, aC_ret, opsK_eq, retQ_ret, retI, runI_nil, runI_none, o_own, wp_ok, putS, Sf.set, Sf.reg, mask_eq, maskR_nil, maskR_cons, getR, setR, maskL, Sf.disAt, dis_lit, noL_lit, ↓reduceIte, Nat.reduceEqDiff, Bool.true_and, true_and, reduceCtorEq]
    exact hQ _ _ rfl
  by_cases hl : 60 < l.length
  · simp -implicitDefEqProofs (maxSteps := 10000000) (disch := omega) only [seqQ_normal, opsK_eq, runI_nil, runI_none, runI_some, AI.dst, putP_eq, guard_ff, o_mv, o_pick, o_bin, o_ext, o_len, o_own, o_call, pick_ff, extV, lenI, n_lss, n_gtr, wp_ok, bind_ok, ofOpt_some, ev_r, ev_c, ev_f, setB_r, putS, Sf.set, Sf.reg, mask_eq, maskR_nil, maskR_cons, getR, setR, maskL, Sf.disAt, id, dis_lit, dis_ptr, dis_sl, dis_tup, own2_lit, own2_ptr, List.map_cons, List.map_nil, List.getElem?_cons_zero, List.getElem?_cons_succ, ↓reduceIte, Nat.reduceEqDiff, reduceCtorEq, Bool.false_eq_true, List.length_map, cond_yes, guard_no, f3_5e, f3_6e, f3_7e, f3_7l, f3_8e, f3_9e, f3_10e, f3_10l]
    refine call_a rfl e_f10 (known36 _) rfl fun r st1 hr => ?_
    subst hr
    simp -implicitDefEqProofs (maxSteps := 10000000) (disch := omega) only [seqQ_normal, seqQ_ret, aC_ret, opsK_eq, retQ_ret, retI, runI_nil, runI_none, o_own, wp_ok, putS, Sf.set, Sf.reg, mask_eq, maskR_nil, maskR_cons, getR, setR, maskL, Sf.disAt, dis_lit, noL_lit, ↓reduceIte, Nat.reduceEqDiff, Bool.true_and, true_and, reduceCtorEq]
    exact hQ _ _ rfl
  simp -implicitDefEqProofs (maxSteps := 10000000) (disch := omega) only [seqQ_normal, aC_skip, opsK_eq, runI_nil, runI_none, runI_some, AI.dst, putP_eq, cond_ff, guard_ff, o_mv, o_pick, o_bin, o_ext, o_len, o_own, pick_ff, extV, n_nileq, eqNilI, isNilI, lenI, n_neq, n_lss, n_gtr, wp_ok, bind_ok, ofOpt_some, ev_r, ev_c, setB_r, putS, Sf.set, Sf.reg, mask_eq, maskR_nil, maskR_cons, getR, setR, maskL, Sf.disAt, dis_lit, dis_ptr, dis_sl, dis_tup, own2_lit, own2_ptr, List.map_cons, List.map_nil, List.getElem?_cons_zero, List.getElem?_cons_succ, ↓reduceIte, Nat.reduceEqDiff, reduceCtorEq, not_true_eq_false, decide_false, Bool.false_eq_true, List.length_map, cond_no, guard_no, f3_5e, f3_6e, f3_7e, f3_7l, f3_8e, f3_11e, f3_12e, f3_13e, f3_13l, f3_14e, f3_17e, f3_18e, f3_18l, f3_19e, f3_20e, f3_20l, f3_21e, f3_22e, f3_23e, f3_23l, f3_24e]
  refine order_loop h0 (by omega) l (by omega) _ fun st2 r hr => ?_
  have hlast : ∀ Q, Q (.exit 4) ⟨[], []⟩ st2 → aC Go.Proofs.Try.prog id false f3_90 ⟨[(9, oI r), (16, .lit (.int .i64 0))], []⟩ st2 Q := fun Q => order_last r hr st2 Q
  rcases oI_cases r with ⟨er, _⟩ | ⟨er, _⟩
  all_goals
    rw [er] at hlast ⊢
    simp -implicitDefEqProofs (maxSteps := 10000000) (disch := omega) only [seqQ_normal, blockQ_exit, opsK_eq, runI_nil, runI_none, o_mv, ev_c, putS, Sf.set, mask_eq, maskR_nil, maskR_cons, getR, setR, maskL, dis_lit, ↓reduceIte, Nat.reduceEqDiff, f3_86e, f3_87e, f3_88e, f3_88l, f3_89e]
    refine hlast _ ?_
    simp -implicitDefEqProofs (maxSteps := 10000000) (disch := omega) only [seqQ_normal, blockQ_exit, runI_none, o_call, ev_f, id, List.map_nil, ↓reduceIte, f3_103e, f3_104e, f3_104l]
    refine call_a rfl e_f10 (known36 _) rfl fun r st1 hr => ?_
    subst hr
    simp -implicitDefEqProofs (maxSteps := 10000000) (disch := omega) only [seqQ_normal, aC_ret, opsK_eq, retQ_ret, retI, runI_nil, runI_none, o_own, wp_ok, putS, Sf.set, Sf.reg, mask_eq, maskR_nil, maskR_cons, getR, setR, maskL, Sf.disAt, dis_lit, noL_lit, ↓reduceIte, Nat.reduceEqDiff, Bool.true_and, true_and]
    exact hQ _ _ rfl

theorem channelOrder_top {n : Int} {l : List (Int × Int × Int × Unit)} : ACalls Go.Proofs.Try.prog n_f3 [.lit (.int .i64 n), .sl false 3 (l.map fun x => .agg [.lit (.int .i64 x.1), .lit (.int .i64 x.2.1), .lit (.int .i64 x.2.2.1)])] ⟨[]⟩ (fun v _ => v = .lit (.bool true)) := by
  rw [cas_lit]
  exact channelOrder_law n _
end Go.Fx.YtohlpjfhkejjgaaFx

