/- What the functions that the statement reaches compute: part 20. -/
import Derived.Test.YtddifejdkiemgaaFxW19
namespace Go.Fx.YtddifejdkiemgaaFx
open Go Go.Fx
attribute [local irreducible] aC runI headI loopI

set_option maxRecDepth 100000
set_option maxHeartbeats 8000000

def plSf (l : List Bc) (b n : Nat) (L : List Int) (cl : Bool) (i : Nat) : Sf := ⟨[(1, bcsAV l), (5, .ptr b 0), (7, .lptr 7 0), (8, .lit (.int .i64 (i : Nat)))], [(7, [.lit (.int .i64 (n : Nat)), lAV L, .lit (.bool cl)])]⟩

theorem bplays_loop {b0 q0 mid0 tid0 n : Nat} (hn : 1 ≤ n ∧ n ≤ 128) {st0 : St} (h0 : BkIs st0 b0 q0 mid0 tid0 n false [] 0) (l : List Bc) (hl : l.length ≤ 40) (Q : Exit → Sf → St → Prop)
    (hQ : ∀ st, Q (.exit 0) ⟨[], []⟩ st) :
    aC Go.Proofs.Try.prog id false f6_23 (plSf l b0 n [] false 0) st0 Q := by
  rw [f6_23w]
  refine loop_op (A := Nat × Nat × Qu × Nat × Bool × Nat × Nat × Nat × St) (fun a => l.length - a.1) (fun a => plSf l a.2.1 n (conns a.2.2.1) a.2.2.2.2.1 a.1) (fun a => a.2.2.2.2.2.2.2.2)
    (fun a => a.1 ≤ l.length ∧ BkIs a.2.2.2.2.2.2.2.2 a.2.1 a.2.2.2.2.2.1 a.2.2.2.2.2.2.1 a.2.2.2.2.2.2.2.1 n a.2.2.2.2.1 a.2.2.1 a.2.2.2.1 ∧ a.2.2.2.1 ≤ 128 + a.1 ∧ (a.2.2.2.2.1 = true → a.2.2.1 = [])) (0, b0, [], 0, false, q0, mid0, tid0, st0) ⟨by simp, h0, by simp, by simp⟩ (Sf.le_refl _) rfl ?_
  rintro ⟨i, b, L, g, cl, q, mid, tid, st⟩ ⟨h1, h2, h3, h4⟩ K hK hKe hKr
  simp only at h1 h2 h3 h4
  unfold plSf
  rcases lAV_cases (conns L) with ⟨ex, hx⟩ | ⟨ex, hx⟩
  all_goals
    have hst := step_any h2 hn (by omega) h4
    unfold kAV at hst
    rw [ex] at hst ⊢
    by_cases hi : i < l.length
    · obtain ⟨⟨w, c⟩, hw⟩ : ∃ a, a = l[i] := ⟨_, rfl⟩
      have e1 : (l.map bcAV).getD i .any = .agg [.lit (.int .i64 w), .lit (.int .i64 c)] := by simp [List.getD, hi, ← hw, bcAV]
      have hst := hst (w, c)
      unfold bcAV at hst
      simp -implicitDefEqProofs (maxSteps := 10000000) (disch := omega) only [seqQ_normal, aC_skip, opsK_eq, runI_nil, runI_none, putP_eq, o_mv, o_bin, o_len, lenI, n_lss, wp_ok, ev_r, setB_r, putS, Sf.set, Sf.reg, mask_eq, maskR_nil, maskR_cons, getR, setR, maskL, look, dis_lit, dis_sl, ↓reduceIte, Nat.reduceEqDiff, Bool.true_and, true_and, List.length_map, cond_yes, f6_24e, f6_25e, f6_26e, f6_26l, f6_27e, f6_28e, f6_29e, f6_30e, f6_31e, f6_31h, f6_31p, f6_31l, bcsAV]
      refine draw_m ⟨[]⟩ (St.sub_nil _) ?_
      simp -implicitDefEqProofs (maxSteps := 10000000) (disch := omega) only [List.contains_nil, List.contains_cons, Nat.reduceBEq, Bool.or_false, m_nil, m_none, m_val, mm_mv, mm_ixS, mm_load, atM_eq, dropM, dropP, dropQ, aiDrop, ixSV, loadV, ixA, derefI, takeI_some, wp_ok, bind_ok, bind_req, ofOpt_some, req_tt, ev_r, ev_f, putS, Sf.set, Sf.reg, getR, setR, look, dropL, id, dis_lit, dis_ptr, dis_sl, dis_agg, own1_lit, own1_sl, cells_agg, List.map_cons, List.map_nil, List.length_cons, List.length_nil, List.append_nil, List.nil_append, List.cons_append, List.drop_zero, List.take_succ_cons, List.take_zero, Int.toNat_natCast, ↓reduceIte, Nat.reduceEqDiff, Nat.reduceAdd, Nat.reduceLeDiff, Nat.zero_add, or_false, decide_true, Bool.false_eq_true, List.length_map, req_dec, and_pre, e1]
      refine call_m rfl e_f27 hst rfl ?_
      simp -implicitDefEqProofs (maxSteps := 10000000) (disch := omega) only [List.contains_nil, List.contains_cons, Nat.reduceBEq, Bool.or_false, Bool.or_true, ksB, storesOf, newsOf, appsOf, distinctB, nstB, nstsOf, hm_nil, hm_hole, hm_none, holeK_eq, hm_new, mm_newL, AI.dst, putS, putN, Sf.set, setR, List.all_cons, List.all_nil, List.nil_append, List.cons_append, ↓reduceIte, Nat.reduceEqDiff, Bool.true_and, Bool.and_true, and_true, true_and, or_true, or_false, Bool.not_false]
      rintro r st1 ⟨c', q', mid', tid', L', g', cl', rfl, a1, a2, a3⟩
      refine ⟨St.sub_nil _, ?_⟩
      have hlen := a1.len
      have hb := bis_true a1 (by omega) a3
      unfold kAV at hb ⊢
      rcases lAV_cases (conns L') with ⟨ey, hy⟩ | ⟨ey, hy⟩
      all_goals
        rw [ey] at hb ⊢
        simp -implicitDefEqProofs (maxSteps := 10000000) (disch := omega) only [List.contains_nil, List.contains_cons, Nat.reduceBEq, Bool.or_false, Bool.or_true, ksB, storesOf, newsOf, appsOf, distinctB, finSS, finNN, headNst_eq, nstB, nstsOf, nstOf, Option.getD_some, nst_beq, m_nil, m_none, m_val, mm_mv, mm_ext, postM_eq, compM_nil, compM_t, compM_tn, compM_f, tailM_eq, finK_eq, m_new, m_nst, mm_newL, mm_store, and_self, seqQ_normal, opsK_eq, runI_nil, runI_none, runI_some, AI.dst, putP_eq, guard_ff, o_mv, o_pick, o_bin, o_un, o_load, o_own, o_call, pick_ff, extV, loadV, n_nileq, eqNilI, isNilI, derefI, takeI_some, unA, wp_ok, bind_ok, bind_req, ofOpt_some, req_tt, ev_r, ev_c, ev_f, putS, Sf.set, Sf.reg, mask_eq, maskR_nil, maskR_cons, getR, setR, maskL, Sf.disAt, Sf.newLoc, look, killR, drop1, id, dis_lit, dis_ptr, dis_agg, dis_tup, own1_lit, own1_sl, own2_lit, own2_ptr, own2_agg, cells_agg, solid1_lit, solid1_sl, solid_eq, kill_any, kill_lit, kill_ptr, kill_lptr, kill_cptr, kill_sl, kill_agg, kill_tup, List.map_cons, List.map_nil, List.length_cons, List.length_nil, List.getElem?_cons_zero, List.getElem?_cons_succ, List.all_cons, List.all_nil, List.nil_append, List.cons_append, List.drop_zero, List.take_succ_cons, List.take_zero, ↓reduceIte, Nat.reduceEqDiff, Nat.reduceAdd, Nat.reduceLeDiff, Bool.true_and, Bool.and_true, and_true, true_and, Nat.zero_add, or_true, or_false, decide_true, Bool.not_true, Bool.not_false, Bool.false_eq_true, f6_32e, f6_33e, f6_34e, f6_34l]
        refine call_a rfl e_f15 hb rfl fun r st2 hr => ?_
        obtain ⟨rfl, b1, b2⟩ := hr
        simp -implicitDefEqProofs (maxSteps := 10000000) (disch := omega) only [List.contains_nil, h_nil, h_none, hh_mv, hh_load, val_head, tail_nil, seqQ_normal, blockQ_normal, aC_skip, opsK_eq, runI_nil, runI_none, runI_some, AI.dst, putP_eq, cond_ff, guard_ff, o_mv, o_pick, o_bin, o_un, o_own, o_store, pick_ff, loadV, boxX, writeX, derefI, takeI_some, unA, n_add, wp_ok, bind_ok, bind_req, ofOpt_some, req_tt, ev_r, ev_c, evOwn_r, disOp_r, setB_r, putS, Sf.set, Sf.reg, mask_eq, maskR_nil, maskR_cons, getR, setR, maskL, Sf.disAt, Sf.setLoc, look, drop1, dropL, dis_lit, dis_ptr, dis_agg, own1_lit, own1_sl, cells_agg, solid1_lit, solid1_sl, solid_eq, List.map_cons, List.map_nil, List.length_cons, List.length_nil, List.all_cons, List.all_nil, List.drop_zero, List.take_succ_cons, List.take_zero, List.set_cons_zero, List.set_cons_succ, ↓reduceIte, Nat.reduceEqDiff, Nat.reduceAdd, Nat.reduceLeDiff, Bool.true_and, Bool.and_true, and_true, true_and, Nat.zero_add, decide_true, Bool.not_true, Bool.false_eq_true, IntWalk.i64_in, up_addL, setAt_nil, setAt_cons, f6_35e, f6_38e, f6_38h, f6_38l, f6_39e, f6_39l]
        have hlt := a1.lts
        have := hK (i + 1, c', L', g', cl', q', mid', tid', st2) (plSf l c' n (conns L') cl' (i + 1)) ⟨by simp only; omega, a1.at fun j hj => b2 j (hlt j hj), by simp only; omega, a3⟩ (by simp only; omega) (Sf.le_refl _)
        unfold plSf at this
        rw [ey] at this
        simp only [bcsAV] at this
        exact this
    · simp -implicitDefEqProofs (maxSteps := 10000000) (disch := omega) only [seqQ_normal, seqQ_exit, aC_exit, opsK_eq, runI_nil, runI_none, putP_eq, o_mv, o_bin, o_len, lenI, n_lss, wp_ok, ev_r, setB_r, putS, Sf.set, Sf.reg, mask_eq, maskR_nil, maskR_cons, getR, setR, maskL, look, dis_lit, dis_sl, ↓reduceIte, Nat.reduceEqDiff, List.length_map, cond_no, f6_24e, f6_25e, f6_26e, f6_26l, f6_27e, bcsAV]
      refine hKe _ _ _ ?_
      exact hQ _

theorem backlogPlays_law (n : Int) (l : List Bc) : ACalls Go.Proofs.Try.prog n_f6 [.lit (.int .i64 n), bcsAV l] ⟨[]⟩ (fun v _ => v = .lit (.bool true)) := by
  refine acalls_op hmix k_f6 rfl rfl fun Q hQ => ?_
  unfold aFun c_f6
  by_cases h1 : n < 1
  · simp -implicitDefEqProofs (maxSteps := 10000000) (disch := omega) only [seqQ_normal, opsK_eq, runI_nil, runI_none, runI_some, skipI_eq, AI.dst, putP_eq, cond_tt, guard_tt, o_mv, o_pick, o_bin, o_call, pick_tt, n_lss, wp_ok, ev_r, ev_c, ev_f, setB_r, putS, Sf.set, Sf.reg, mask_eq, maskR_nil, maskR_cons, getR, setR, maskL, regs0, id, dis_lit, dis_sl, List.map_nil, ↓reduceIte, Nat.reduceEqDiff, reduceCtorEq, Nat.zero_add, Bool.false_eq_true, guard_yes, f6_1e, f6_2e, f6_2l, f6_3e, f6_4e, f6_5e, f6_5l, f6_6e, f6_7e, f6_8e, f6_8l, bcsAV]
    refine call_a rfl e_f14 (known18 _) rfl fun r st1 hr => ?_
    subst hr
    simp -implicitDefEqProofs (maxSteps := 10000000) (disch := omega) only [seqQ_normal, seqQ_ret, aC_ret, opsK_eq, retQ_ret, retI, runI_nil, runI_none, o_own, wp_ok, putS, Sf.set, Sf.reg, mask_eq, maskR_nil, maskR_cons, getR, setR, maskL, Sf.disAt, dis_lit, noL_lit, ↓reduceIte, Nat.reduceEqDiff, Bool.true_and, true_and, reduceCtorEq]
    exact hQ _ _ rfl
  by_cases h2 : 128 < n
  · simp -implicitDefEqProofs (maxSteps := 10000000) (disch := omega) only [seqQ_normal, opsK_eq, runI_nil, runI_none, runI_some, skipI_eq, AI.dst, putP_eq, cond_tt, guard_tt, guard_ff, o_mv, o_pick, o_bin, o_call, pick_tt, pick_ff, n_lss, n_gtr, wp_ok, ev_r, ev_c, ev_f, setB_r, putS, Sf.set, Sf.reg, mask_eq, maskR_nil, maskR_cons, getR, setR, maskL, regs0, id, dis_lit, dis_sl, List.map_nil, ↓reduceIte, Nat.reduceEqDiff, reduceCtorEq, Nat.zero_add, Bool.false_eq_true, guard_yes, guard_no, f6_1e, f6_2e, f6_2l, f6_3e, f6_4e, f6_5e, f6_5l, f6_6e, f6_7e, f6_8e, f6_8l, bcsAV]
    refine call_a rfl e_f14 (known18 _) rfl fun r st1 hr => ?_
    subst hr
    simp -implicitDefEqProofs (maxSteps := 10000000) (disch := omega) only [seqQ_normal, seqQ_ret, aC_ret, opsK_eq, retQ_ret, retI, runI_nil, runI_none, o_own, wp_ok, putS, Sf.set, Sf.reg, mask_eq, maskR_nil, maskR_cons, getR, setR, maskL, Sf.disAt, dis_lit, noL_lit, ↓reduceIte, Nat.reduceEqDiff, Bool.true_and, true_and, reduceCtorEq]
    exact hQ _ _ rfl
  obtain ⟨k, rfl⟩ : ∃ k : Nat, n = (k : Int) := ⟨n.toNat, by omega⟩
  by_cases h3 : 40 < l.length
  · simp -implicitDefEqProofs (maxSteps := 10000000) (disch := omega) only [seqQ_normal, opsK_eq, runI_nil, runI_none, runI_some, AI.dst, putP_eq, guard_ff, o_mv, o_pick, o_bin, o_len, o_call, pick_ff, lenI, n_lss, n_gtr, wp_ok, ev_r, ev_c, ev_f, setB_r, putS, Sf.set, Sf.reg, mask_eq, maskR_nil, maskR_cons, getR, setR, maskL, regs0, id, dis_lit, dis_sl, List.map_nil, ↓reduceIte, Nat.reduceEqDiff, reduceCtorEq, Nat.zero_add, Bool.false_eq_true, List.length_map, cond_yes, guard_no, f6_1e, f6_2e, f6_2l, f6_3e, f6_4e, f6_5e, f6_5l, f6_6e, f6_7e, f6_8e, f6_8l, bcsAV]
    refine call_a rfl e_f14 (known18 _) rfl fun r st1 hr => ?_
    subst hr
    simp -implicitDefEqProofs (maxSteps := 10000000) (disch := omega) only [seqQ_normal, seqQ_ret, aC_ret, opsK_eq, retQ_ret, retI, runI_nil, runI_none, o_own, wp_ok, putS, Sf.set, Sf.reg, mask_eq, maskR_nil, maskR_cons, getR, setR, maskL, Sf.disAt, dis_lit, noL_lit, ↓reduceIte, Nat.reduceEqDiff, Bool.true_and, true_and, reduceCtorEq]
    exact hQ _ _ rfl
  simp -implicitDefEqProofs (maxSteps := 10000000) (disch := omega) only [seqQ_normal, aC_skip, opsK_eq, runI_nil, runI_none, runI_some, AI.dst, putP_eq, guard_ff, o_mv, o_pick, o_bin, o_len, o_call, pick_ff, lenI, n_lss, n_gtr, wp_ok, ev_r, ev_c, ev_f, setB_r, putS, Sf.set, Sf.reg, mask_eq, maskR_nil, maskR_cons, getR, setR, maskL, regs0, id, dis_lit, dis_sl, List.map_cons, List.map_nil, ↓reduceIte, Nat.reduceEqDiff, reduceCtorEq, Nat.zero_add, Bool.false_eq_true, List.length_map, cond_no, guard_no, f6_1e, f6_2e, f6_2l, f6_3e, f6_4e, f6_5e, f6_5l, f6_6e, f6_9e, f6_10e, f6_10l, bcsAV]
  refine call_a rfl e_f13 (bnew_calls (n := k) (by omega) _) rfl fun r st0 hr => ?_
  obtain ⟨rfl, h0, _⟩ := hr
  generalize (St.boxes ⟨[]⟩).length + 3 = b at *
  generalize (St.boxes ⟨[]⟩).length + 1 = q at *
  generalize (St.boxes ⟨[]⟩).length + 2 = tid at *
  generalize (St.boxes ⟨[]⟩).length = mid at *
  simp -implicitDefEqProofs (maxSteps := 10000000) (disch := omega) only [and_self, seqQ_normal, aC_skip, opsK_eq, runI_nil, runI_none, runI_some, AI.dst, putP_eq, cond_ff, guard_ff, o_mv, o_pick, o_bin, o_ext, o_bst, o_own, o_newL, o_store, pick_ff, extV, bstV, boxX, writeX, n_nileq, eqNilI, isNilI, buildA, n_neq, wp_ok, bind_ok, ofOpt_some, ev_r, ev_c, evOwn_r, disOp_r, setB_r, putS, Sf.set, Sf.reg, mask_eq, maskR_nil, maskR_cons, getR, setR, maskL, Sf.disAt, Sf.newLoc, Sf.setLoc, look, killR, drop1, dis_lit, dis_ptr, dis_agg, dis_tup, own1_lit, own2_lit, own2_ptr, cells_lit, cells_agg, solid1_lit, solid_eq, kill_lit, kill_ptr, kill_sl, kill_agg, List.map_cons, List.map_nil, List.length_cons, List.length_nil, List.getElem?_cons_zero, List.getElem?_cons_succ, List.all_cons, List.all_nil, List.set_cons_zero, List.set_cons_succ, ↓reduceIte, Nat.reduceEqDiff, Nat.reduceAdd, Nat.reduceLeDiff, Bool.true_and, Bool.and_true, and_true, true_and, reduceCtorEq, Nat.zero_add, not_true_eq_false, decide_false, Bool.false_eq_true, setAt_nil, setAt_cons, f6_11e, f6_12e, f6_13e, f6_13l, f6_14e, f6_17e, f6_18e, f6_18l, f6_19e, f6_20e, f6_21e, f6_21l, f6_22e]
  refine bplays_loop (by omega) h0 l (by omega) _ fun st1 => ?_
  simp -implicitDefEqProofs (maxSteps := 10000000) (disch := omega) only [seqQ_normal, blockQ_exit, runI_none, o_call, ev_f, id, List.map_nil, ↓reduceIte, f6_40e, f6_41e, f6_41l]
  refine call_a rfl e_f14 (known18 _) rfl fun r st1 hr => ?_
  subst hr
  simp -implicitDefEqProofs (maxSteps := 10000000) (disch := omega) only [seqQ_normal, aC_ret, opsK_eq, retQ_ret, retI, runI_nil, runI_none, o_own, wp_ok, putS, Sf.set, Sf.reg, mask_eq, maskR_nil, maskR_cons, getR, setR, maskL, Sf.disAt, dis_lit, noL_lit, ↓reduceIte, Nat.reduceEqDiff, Bool.true_and, true_and]
  exact hQ _ _ rfl

theorem backlogPlays_top {n : Int} {l : List (Int × Int × Unit)} : ACalls Go.Proofs.Try.prog n_f6 [.lit (.int .i64 n), .sl false 2 (l.map fun x => .agg [.lit (.int .i64 x.1), .lit (.int .i64 x.2.1)])] ⟨[]⟩ (fun v _ => v = .lit (.bool true)) := by
  rw [bcs_lit]
  exact backlogPlays_law n _
end Go.Fx.YtddifejdkiemgaaFx

