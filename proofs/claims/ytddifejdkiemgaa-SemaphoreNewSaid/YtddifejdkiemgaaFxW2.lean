/- What the functions that the statement reaches compute: part 2. -/
import Derived.Test.YtddifejdkiemgaaFxW1
namespace Go.Fx.YtddifejdkiemgaaFx
open Go Go.Fx
attribute [local irreducible] aC runI headI loopI

set_option maxRecDepth 100000
set_option maxHeartbeats 4000000

theorem qpush_full {q mid g : Nat} {L : Qu} {v : Int} {st : St} (h : QIs st q mid L g) (hlen : 4096 ≤ L.length) (hlen2 : L.length < 1000000) :
    ACalls Go.Proofs.Try.prog n_f48 [.ptr q 0, .lit (.int .i64 v)] st (fun r st' => r = .tup [.lit (.int .u64 0), .lit (.int .i64 7)] ∧ st' = st) := by
  refine acalls_op hmix k_f48 rfl rfl fun Q hQ => ?_
  unfold aFun c_f48
  obtain ⟨m, hm, hl, hml⟩ := h.mp
  have hg := h.get
  simp -implicitDefEqProofs (maxSteps := 10000000) (disch := omega) only [seqQ_normal, opsK_eq, runI_nil, runI_none, o_mv, o_call, ev_r, ev_c, ev_f, putS, Sf.set, Sf.reg, mask_eq, maskR_nil, maskR_cons, getR, setR, maskL, regs0, id, dis_lit, dis_ptr, List.map_cons, List.map_nil, ↓reduceIte, Nat.reduceEqDiff, reduceCtorEq, Nat.zero_add, f48_1e, f48_2e, f48_2l, f48_3e, f48_4e, f48_5e, f48_6e, f48_6l]
  refine call_p rfl e_f68 (qzero_pure hg) rfl ?_
  simp -implicitDefEqProofs (maxSteps := 10000000) (disch := omega) only [seqQ_normal, seqQ_ret, blockQ_ret, aC_ret, opsK_eq, retQ_ret, retI, resI, resL, runI_nil, runI_none, putP_eq, cond_ff, o_mv, o_bin, o_addr, o_load, o_nilck, o_len, o_own, loadV, nilckV, addA, derefI, takeI_none, n_geq, wp_ok, bind_ok, ofOpt_some, ev_r, ev_c, setB_r, putS, Sf.set, Sf.reg, mask_eq, maskR_nil, maskR_cons, getR, setR, maskL, Sf.disAt, dis_lit, dis_ptr, dis_map, noL_lit, noL_tup, List.all_cons, List.all_nil, List.drop_zero, List.drop_succ_cons, ↓reduceIte, Nat.reduceEqDiff, Bool.true_and, Bool.and_true, and_true, true_and, reduceCtorEq, Nat.zero_add, cond_yes, f48_7e, f48_10e, f48_11e, f48_11l, f48_12e, f48_13e, f48_14e, f48_14l, hg, lenI_enc, hml]
  exact hQ _ _ ⟨rfl, rfl⟩

theorem qpush_calls {q mid g : Nat} {L : Qu} {v : Int} {st : St} (h : QIs st q mid L g) (hlen : L.length < 4096) (hgb : g < 1000000) :
    ACalls Go.Proofs.Try.prog n_f48 [.ptr q 0, .lit (.int .i64 v)] st (fun r st' => r = .tup [.lit (.int .u64 ((g + 1 : Nat))), .lit (.int .i64 0)] ∧ QIs st' q mid (L ++ [(g + 1, v)]) (g + 1) ∧ Oth st st' [q, mid]) := by
  refine acalls_op hmix k_f48 rfl rfl fun Q hQ => ?_
  unfold aFun c_f48
  obtain ⟨m, hm, hl, hml⟩ := h.mp
  have hg := h.get
  have hne := h.ne
  have hlt := h.ltq
  have hfr := h.fresh
  have hnq : mid ∉ [q] := by simp [hne]
  have hqm : q ∉ [mid] := by simp; exact fun e => hne e.symm
  simp -implicitDefEqProofs (maxSteps := 10000000) (disch := omega) only [seqQ_normal, opsK_eq, runI_nil, runI_none, o_mv, o_call, ev_r, ev_c, ev_f, putS, Sf.set, Sf.reg, mask_eq, maskR_nil, maskR_cons, getR, setR, maskL, regs0, id, dis_lit, dis_ptr, List.map_cons, List.map_nil, ↓reduceIte, Nat.reduceEqDiff, reduceCtorEq, Nat.zero_add, f48_1e, f48_2e, f48_2l, f48_3e, f48_4e, f48_5e, f48_6e, f48_6l]
  refine call_p rfl e_f68 (qzero_pure hg) rfl ?_
  by_cases hL : L = []
  · subst hL
    simp -implicitDefEqProofs (maxSteps := 10000000) (disch := omega) only [h_nil, h_none, hh_mv, hh_addr, hh_load, hh_nilck, hh_bst, val_head, tail_nil, and_self, seqQ_normal, blockQ_normal, aC_skip, opsK_eq, runI_nil, runI_none, putP_eq, cond_ff, o_mv, o_bin, o_addr, o_load, o_nilck, o_len, o_own, o_store, o_upd, loadV, nilckV, bstV, boxX, writeX, addA, derefI, takeI_none, buildA, n_add, n_geq, wp_ok, bind_ok, ofOpt_some, ev_r, ev_c, evOwn_r, disOp_r, setB_r, putS, Sf.set, Sf.reg, mask_eq, maskR_nil, maskR_cons, getR, setR, maskL, Sf.disAt, dropL, dis_lit, dis_ptr, dis_map, cells_lit, cells_agg, solid1_lit, solid_eq, List.map_cons, List.map_nil, List.length_cons, List.length_nil, List.getElem?_cons_zero, List.getElem?_cons_succ, List.all_cons, List.all_nil, List.drop_zero, List.drop_succ_cons, List.set_cons_zero, List.set_cons_succ, Int.cast_ofNat_Int, ↓reduceIte, Nat.reduceEqDiff, Nat.reduceAdd, Nat.reduceLeDiff, Bool.true_and, Bool.and_true, and_true, true_and, reduceCtorEq, Nat.zero_add, Nat.add_zero, cond_no, IntWalk.u64_in, up_addL, get_set, setAt_nil, setAt_cons, f48_7e, f48_10e, f48_11e, f48_11l, f48_12e, f48_15e, f48_16e, f48_16l, f48_17e, f48_18e, f48_18h, f48_18l, hg, lenI_enc, hml, nxtOf, lastT]
    refine upd_step (b := (v, 0, 0)) (hm.set hne) rfl rfl fun st2 hm2 ho2 => ?_
    have hg2 : st2.get q = some [.lit (.int .u64 0), .lit (.int .u64 0), .lit (.int .u64 ((g : Int) + 1)), .map mid] := (ho2.get hqm).trans (get_set hlt)
    have hlt2 : q < st2.boxes.length := get_lt hg2
    simp -implicitDefEqProofs (maxSteps := 10000000) (disch := omega) only [seqQ_normal, aC_ret, opsK_eq, retQ_ret, retI, resI, resL, runI_nil, runI_none, putP_eq, cond_tt, o_mv, o_bin, o_addr, o_load, o_nilck, o_own, o_store, loadV, nilckV, boxX, writeX, addA, derefI, takeI_none, n_eql, wp_ok, bind_ok, ofOpt_some, ev_r, ev_c, evOwn_r, disOp_r, setB_r, putS, Sf.set, Sf.reg, mask_eq, maskR_nil, maskR_cons, getR, setR, maskL, Sf.disAt, dis_lit, dis_ptr, cells_lit, solid1_lit, solid_eq, noL_lit, noL_tup, List.length_cons, List.length_nil, List.all_cons, List.all_nil, List.drop_zero, List.drop_succ_cons, List.set_cons_zero, List.set_cons_succ, ↓reduceIte, Nat.reduceEqDiff, Nat.reduceAdd, Nat.reduceLeDiff, Bool.true_and, Bool.and_true, and_true, true_and, reduceCtorEq, Nat.zero_add, Nat.add_zero, decide_true, up_addL, get_set, setAt_nil, setAt_cons, set_set, f48_19e, f48_20e, f48_21e, f48_21l, f48_22e, f48_23e, f48_23l, f48_29e, f48_30e, f48_30l, f48_31e, f48_32e, f48_32l, hg2]
    have ho : Oth st (st2.set q [.lit (.int .u64 ((g : Int) + 1)), .lit (.int .u64 ((g : Int) + 1)), .lit (.int .u64 ((g : Int) + 1)), .map mid]) [q, mid] := ((Oth.set st q _ (by simp)).trans (ho2.mono (by simp))).trans (Oth.set _ _ _ (by simp))
    refine hQ _ _ ⟨rfl, h.push (v := v) (m' := updP (g + 1 : Nat) (v, 0, 0) m) (get_set hlt2) (hm2.set hne) (fun t => ?_) ?_, ho⟩
    · rw [look_upd, hl t]
      simp only [List.nil_append, nodeA, nxtOf]
      by_cases e : t = g + 1
      · subst e; simp
      · have : ¬ (t : Int) = ((g + 1 : Nat) : Int) := by omega
        rw [if_neg this, if_neg e]
    · rw [len_upd, hl, nodeA_none hfr]
      simp [hml]
  · have hlm := last_mem (p := 0) hL
    have hlp := h.pos _ hlm
    obtain ⟨x, hx⟩ := nodeA_some (p := 0) hlm
    have hnil := h.nil_iff
    have hL0 : ((lastT 0 L : Int) = 0) = False := by simp; omega
    have hlg : lastT 0 L ≠ g + 1 := fun e => hfr (e ▸ hlm)
    simp -implicitDefEqProofs (maxSteps := 10000000) (disch := omega) only [h_nil, h_none, hh_mv, hh_addr, hh_load, hh_nilck, hh_bst, val_head, tail_nil, and_self, seqQ_normal, blockQ_normal, aC_skip, opsK_eq, runI_nil, runI_none, putP_eq, cond_ff, o_mv, o_bin, o_addr, o_load, o_nilck, o_len, o_own, o_store, o_upd, loadV, nilckV, bstV, boxX, writeX, addA, derefI, takeI_none, buildA, n_add, n_geq, wp_ok, bind_ok, ofOpt_some, ev_r, ev_c, evOwn_r, disOp_r, setB_r, putS, Sf.set, Sf.reg, mask_eq, maskR_nil, maskR_cons, getR, setR, maskL, Sf.disAt, dropL, dis_lit, dis_ptr, dis_map, cells_lit, cells_agg, solid1_lit, solid_eq, List.map_cons, List.map_nil, List.length_cons, List.length_nil, List.getElem?_cons_zero, List.getElem?_cons_succ, List.all_cons, List.all_nil, List.drop_zero, List.drop_succ_cons, List.set_cons_zero, List.set_cons_succ, ↓reduceIte, Nat.reduceEqDiff, Nat.reduceAdd, Nat.reduceLeDiff, Bool.true_and, Bool.and_true, and_true, true_and, reduceCtorEq, Nat.zero_add, Nat.add_zero, cond_no, IntWalk.u64_in, up_addL, get_set, setAt_nil, setAt_cons, f48_7e, f48_10e, f48_11e, f48_11l, f48_12e, f48_15e, f48_16e, f48_16l, f48_17e, f48_18e, f48_18h, f48_18l, hg, lenI_enc, hml]
    refine upd_step (b := (v, lastT 0 L, 0)) (hm.set hne) rfl rfl fun st2 hm2 ho2 => ?_
    have hg2 : st2.get q = some [.lit (.int .u64 (nxtOf L 0 : Nat)), .lit (.int .u64 (lastT 0 L : Nat)), .lit (.int .u64 ((g : Int) + 1)), .map mid] := (ho2.get hqm).trans (get_set hlt)
    have hlt2 : q < st2.boxes.length := get_lt hg2
    have hk : ∀ z, lookupI (.int .u64) z false st2 (.map mid) (.lit (.int .u64 (lastT 0 L : Nat))) = .ok (ndAV x) := fun z => by
      rw [lookI_enc hm2, look_upd, if_neg (by omega), hl, hx]; rfl
    simp -implicitDefEqProofs (maxSteps := 10000000) (disch := omega) only [List.contains_nil, List.contains_cons, Nat.reduceBEq, Bool.or_false, ksB, storesOf, newsOf, appsOf, distinctB, finSS, finNN, nstB, nstsOf, nstOf, Option.getD_none, h_nil, h_none, hh_mv, hh_addr, hh_load, hh_nilck, hh_lookup, hh_newL, val_head, tail_nil, tail_eq, cons_new, seqQ_normal, opsK_eq, runI_nil, runI_none, putP_eq, cond_ff, o_mv, o_bin, o_addr, o_load, o_nilck, o_store, o_upd, loadV, nilckV, boxX, writeX, addA, derefI, takeI_none, takeI_some, n_eql, wp_ok, bind_ok, bind_req, ofOpt_some, req_tt, ev_r, ev_c, evOwn_r, disOp_r, setB_r, putS, Sf.set, Sf.reg, mask_eq, maskR_nil, maskR_cons, getR, setR, maskL, Sf.disAt, Sf.newLoc, Sf.setLoc, look, killR, drop1, dropL, dis_lit, dis_ptr, dis_map, dis_agg, own1_lit, cells_lit, cells_agg, solid1_lit, solid_eq, kill_any, kill_lit, kill_ptr, kill_map, kill_agg, List.map_cons, List.map_nil, List.length_cons, List.length_nil, List.all_cons, List.all_nil, List.nil_append, List.drop_zero, List.drop_succ_cons, List.take_succ_cons, List.take_zero, List.set_cons_zero, List.set_cons_succ, ↓reduceIte, Nat.reduceEqDiff, Nat.reduceAdd, Nat.reduceLeDiff, Bool.true_and, Bool.and_true, and_true, true_and, reduceCtorEq, Nat.zero_add, Nat.add_zero, or_false, decide_true, decide_false, Bool.not_false, Bool.false_eq_true, up_addL, setAt_nil, setAt_cons, f48_19e, f48_20e, f48_21e, f48_21l, f48_22e, f48_24e, f48_25e, f48_25h, f48_25l, f48_26e, f48_27e, f48_27l, f48_28e, f48_28h, f48_28l, hg2, hL0, hk, ndAV]
    refine upd_step (b := (x.1, x.2.1, g + 1)) hm2 rfl rfl fun st3 hm3 ho3 => ?_
    have hg3 : st3.get q = some [.lit (.int .u64 (nxtOf L 0 : Nat)), .lit (.int .u64 (lastT 0 L : Nat)), .lit (.int .u64 ((g : Int) + 1)), .map mid] := (ho3.get hqm).trans hg2
    have hlt3 : q < st3.boxes.length := get_lt hg3
    simp -implicitDefEqProofs (maxSteps := 10000000) (disch := omega) only [seqQ_normal, aC_ret, opsK_eq, retQ_ret, retI, resI, resL, runI_nil, runI_none, putP_eq, o_mv, o_addr, o_load, o_nilck, o_own, o_store, loadV, nilckV, boxX, writeX, addA, derefI, takeI_none, wp_ok, bind_ok, ofOpt_some, ev_r, ev_c, evOwn_r, disOp_r, putS, Sf.set, Sf.reg, mask_eq, maskR_nil, maskR_cons, getR, setR, maskL, Sf.disAt, dis_lit, dis_ptr, cells_lit, solid1_lit, solid_eq, noL_lit, noL_tup, List.length_cons, List.length_nil, List.all_cons, List.all_nil, List.drop_zero, List.drop_succ_cons, List.set_cons_zero, List.set_cons_succ, ↓reduceIte, Nat.reduceEqDiff, Nat.reduceAdd, Nat.reduceLeDiff, Bool.true_and, Bool.and_true, and_true, true_and, reduceCtorEq, Nat.zero_add, Nat.add_zero, up_addL, get_set, setAt_nil, setAt_cons, f48_29e, f48_30e, f48_30l, f48_31e, f48_32e, f48_32l, hg3]
    have ho : Oth st (st3.set q [.lit (.int .u64 (nxtOf L 0 : Nat)), .lit (.int .u64 ((g : Int) + 1)), .lit (.int .u64 ((g : Int) + 1)), .map mid]) [q, mid] := (((Oth.set st q _ (by simp)).trans (ho2.mono (by simp))).trans (ho3.mono (by simp))).trans (Oth.set _ _ _ (by simp))
    have hnx : nxtOf (L ++ [(g + 1, v)]) 0 = nxtOf L 0 := by cases L with
      | nil => exact absurd rfl hL
      | cons _ _ => rfl
    refine hQ _ _ ⟨rfl, h.push (v := v) (by rw [hnx]; exact get_set hlt3) (hm3.set hne) (fun t => ?_) ?_, ho⟩
    · rw [look_upd, look_upd, hl t, nodeA_push h.nd hfr hL]
      by_cases e : t = lastT 0 L
      · subst e; simp [hx]
      · have e1 : ¬ (t : Int) = (lastT 0 L : Nat) := by omega
        rw [if_neg e1, if_neg e]
        by_cases e2 : t = g + 1
        · subst e2; simp
        · have e3 : ¬ (t : Int) = ((g + 1 : Nat) : Int) := by omega
          rw [if_neg e3, if_neg e2]
    · have h1 : lookP ((g + 1 : Nat) : Int) m = none := by rw [hl, nodeA_none hfr]
      have h2 : lookP ((lastT 0 L : Nat) : Int) (updP ((g + 1 : Nat) : Int) (v, lastT 0 L, 0) m) = some x := by rw [look_upd, if_neg (by omega), hl, hx]
      rw [len_upd, h2, len_upd, h1]
      simp [hml]

theorem qremove_none {q mid g t : Nat} {L : Qu} {st : St} (h : QIs st q mid L g) (ht : t ∉ ticks L) :
    ACalls Go.Proofs.Try.prog n_f51 [.ptr q 0, .lit (.int .u64 (t : Nat))] st (fun r st' => r = .tup [.lit (.int .i64 0), .lit (.int .i64 9)] ∧ st' = st) := by
  refine acalls_op hmix k_f51 rfl rfl fun Q hQ => ?_
  unfold aFun c_f51
  obtain ⟨m, hm, hl, hml⟩ := h.mp
  have hg := h.get
  have hk : ∀ z, lookupI (.int .u64) z true st (.map mid) (.lit (.int .u64 (t : Nat))) = .ok (.tup [z, .lit (.bool false)]) := fun z => by
    rw [lookI_enc hm, hl, nodeA_none ht]; rfl
  simp -implicitDefEqProofs (maxSteps := 10000000) (disch := omega) only [seqQ_normal, opsK_eq, runI_nil, runI_none, o_mv, o_call, ev_r, ev_c, ev_f, putS, Sf.set, Sf.reg, mask_eq, maskR_nil, maskR_cons, getR, setR, maskL, regs0, id, dis_lit, dis_ptr, List.map_cons, List.map_nil, ↓reduceIte, Nat.reduceEqDiff, reduceCtorEq, Nat.zero_add, f51_1e, f51_2e, f51_2l, f51_3e, f51_4e, f51_5e, f51_5l]
  refine call_p rfl e_f68 (qzero_pure hg) rfl ?_
  simp -implicitDefEqProofs (maxSteps := 10000000) (disch := omega) only [seqQ_normal, seqQ_ret, aC_skip, aC_ret, opsK_eq, retQ_ret, retI, resI, resL, runI_nil, runI_none, putP_eq, cond_tt, cond_ff, o_mv, o_un, o_ext, o_addr, o_load, o_nilck, o_lookup, o_own, o_newL, o_store, extV, loadV, nilckV, boxX, writeX, addA, derefI, takeI_none, unA, wp_ok, bind_ok, ofOpt_some, ev_r, ev_c, evOwn_r, disOp_r, setB_r, putS, Sf.set, Sf.reg, mask_eq, maskR_nil, maskR_cons, getR, setR, maskL, Sf.disAt, Sf.newLoc, Sf.setLoc, look, killR, drop1, dis_lit, dis_ptr, dis_map, dis_agg, dis_tup, own1_lit, own2_lit, own2_agg, cells_agg, solid1_lit, solid_eq, noL_lit, noL_tup, kill_lit, kill_ptr, kill_map, kill_agg, kill_tup, List.map_cons, List.map_nil, List.length_cons, List.length_nil, List.getElem?_cons_zero, List.getElem?_cons_succ, List.all_cons, List.all_nil, List.drop_zero, List.drop_succ_cons, ↓reduceIte, Nat.reduceEqDiff, Nat.reduceAdd, Nat.reduceLeDiff, Bool.true_and, Bool.and_true, and_true, true_and, reduceCtorEq, Nat.zero_add, Bool.not_false, setAt_nil, setAt_cons, f51_6e, f51_9e, f51_10e, f51_10l, f51_11e, f51_12e, f51_13e, f51_13l, f51_14e, f51_15e, f51_16e, f51_16l, hg, hk]
  exact hQ _ _ ⟨rfl, rfl⟩

theorem qremove_calls {q mid g t : Nat} {v : Int} {A B : Qu} {st : St} (h : QIs st q mid (A ++ (t, v) :: B) g) (hgb : g < 1000000) :
    ACalls Go.Proofs.Try.prog n_f51 [.ptr q 0, .lit (.int .u64 (t : Nat))] st (fun r st' => r = .tup [.lit (.int .i64 v), .lit (.int .i64 0)] ∧ QIs st' q mid (A ++ B) g ∧ Oth st st' [q, mid]) := by
  refine acalls_op hmix k_f51 rfl rfl fun Q hQ => ?_
  unfold aFun c_f51
  obtain ⟨m, hm, hl, hml⟩ := h.mp
  have hg := h.get
  have hne := h.ne
  have hlt := h.ltq
  have hnd := h.nd
  have hqm : q ∉ [mid] := by simp; exact fun e => hne e.symm
  have h1 : t ∉ ticks A ∧ t ∉ ticks B := by
    rw [ticks_app] at hnd
    obtain ⟨_, h2, h3⟩ := List.nodup_append.1 hnd
    exact ⟨fun e => h3 t e t (by simp [ticks]) rfl, (List.nodup_cons.1 h2).1⟩
  have hat := nodeA_at (v := v) (B := B) h1.1
  have hk : ∀ z, lookupI (.int .u64) z true st (.map mid) (.lit (.int .u64 (t : Nat))) = .ok (.tup [ndAV (v, lastT 0 A, nxtOf B 0), .lit (.bool true)]) := fun z => by
    rw [lookI_enc hm, hl, hat]; rfl
  have hposA : A ≠ [] → 0 < lastT 0 A := fun e => (h.pos _ (by rw [ticks_app]; exact List.mem_append_left _ (last_mem e))).1
  have hposB : B ≠ [] → 0 < nxtOf B 0 ∧ nxtOf B 0 ∈ ticks B := fun e => by
    cases B with
    | nil => exact absurd rfl e
    | cons x r => exact ⟨(h.pos _ (by rw [ticks_app]; simp [ticks, nxtOf])).1, by simp [ticks, nxtOf]⟩
  have hlx : ∀ t' : Nat, lookP (t' : Int) (delP (t : Int) m) = if t' = t then none else nodeA 0 (A ++ (t, v) :: B) 0 t' := fun t' => by
    rw [look_del _ _ hm.nd, hl]
    by_cases e : t' = t
    · subst e; simp
    · have : ¬ (t' : Int) = (t : Int) := by omega
      rw [if_neg this, if_neg e]
  have hdel : (delP (t : Int) m).length = (A ++ B).length := by
    rw [len_del, hl, hat]; simp [hml]
  simp -implicitDefEqProofs (maxSteps := 10000000) (disch := omega) only [seqQ_normal, opsK_eq, runI_nil, runI_none, o_mv, o_call, ev_r, ev_c, ev_f, putS, Sf.set, Sf.reg, mask_eq, maskR_nil, maskR_cons, getR, setR, maskL, regs0, id, dis_lit, dis_ptr, List.map_cons, List.map_nil, ↓reduceIte, Nat.reduceEqDiff, reduceCtorEq, Nat.zero_add, f51_1e, f51_2e, f51_2l, f51_3e, f51_4e, f51_5e, f51_5l]
  refine call_p rfl e_f68 (qzero_pure hg) rfl ?_
  simp -implicitDefEqProofs (maxSteps := 10000000) (disch := omega) only [seqQ_normal, aC_skip, opsK_eq, runI_nil, runI_none, putP_eq, cond_ff, o_mv, o_un, o_ext, o_addr, o_load, o_nilck, o_lookup, o_own, o_newL, o_store, o_del, extV, loadV, nilckV, boxX, writeX, addA, derefI, takeI_none, unA, wp_ok, bind_ok, ofOpt_some, ev_r, evOwn_r, disOp_r, setB_r, putS, Sf.set, Sf.reg, mask_eq, maskR_nil, maskR_cons, getR, setR, maskL, Sf.disAt, Sf.newLoc, Sf.setLoc, look, killR, drop1, dis_lit, dis_ptr, dis_map, dis_agg, dis_tup, own1_lit, own2_lit, own2_agg, cells_agg, solid1_lit, solid_eq, kill_lit, kill_ptr, kill_map, kill_agg, kill_tup, List.map_cons, List.map_nil, List.length_cons, List.length_nil, List.getElem?_cons_zero, List.getElem?_cons_succ, List.all_cons, List.all_nil, List.drop_zero, List.drop_succ_cons, List.set_cons_zero, List.set_cons_succ, ↓reduceIte, Nat.reduceEqDiff, Nat.reduceAdd, Nat.reduceLeDiff, Bool.true_and, Bool.and_true, and_true, true_and, reduceCtorEq, Nat.zero_add, Bool.not_true, setAt_nil, setAt_cons, f51_6e, f51_9e, f51_10e, f51_10l, f51_11e, f51_12e, f51_13e, f51_13l, f51_14e, f51_17e, f51_18e, f51_18l, hg, hk, ndAV]
  refine del_step hm fun st2 hm2 ho2 => ?_
  have hg2 : st2.get q = _ := (ho2.get hqm).trans hg
  have hlt2 : q < st2.boxes.length := get_lt hg2
  have hfin : ∀ t' : Nat, nodeA 0 (A ++ B) 0 t' = _ := fun t' => nodeA_del (t := t') hnd
  have hAB : ∀ x ∈ ticks A, x ∉ ticks B := by
    rw [ticks_app] at hnd
    obtain ⟨_, h2, h3⟩ := List.nodup_append.1 hnd
    exact fun x hx hb => h3 x hx x (by simp only [ticks, List.map_cons, List.mem_cons]; exact .inr hb) rfl
  by_cases hA : A = []
  · subst hA
    have e0 : lastT 0 ([] : Qu) = 0 := rfl
    by_cases hB : B = []
    · subst hB
      simp -implicitDefEqProofs (maxSteps := 10000000) (disch := omega) only [seqQ_normal, aC_ret, opsK_eq, retQ_ret, retI, resI, resL, runI_nil, runI_none, putP_eq, cond_tt, o_mv, o_bin, o_addr, o_load, o_nilck, o_own, o_store, loadV, nilckV, boxX, writeX, addA, derefI, takeI_none, n_eql, wp_ok, bind_ok, ofOpt_some, ev_r, ev_c, evOwn_r, disOp_r, setB_r, putS, Sf.set, Sf.reg, mask_eq, maskR_nil, maskR_cons, getR, setR, maskL, Sf.disAt, look, dis_lit, dis_ptr, cells_lit, solid1_lit, solid_eq, noL_lit, noL_tup, List.length_cons, List.length_nil, List.all_cons, List.all_nil, List.nil_append, List.drop_zero, List.drop_succ_cons, List.set_cons_zero, List.set_cons_succ, Int.cast_ofNat_Int, ↓reduceIte, Nat.reduceEqDiff, Nat.reduceAdd, Nat.reduceLeDiff, Bool.true_and, Bool.and_true, and_true, true_and, reduceCtorEq, Nat.zero_add, Nat.add_zero, decide_true, get_set, setAt_nil, setAt_cons, set_set, f51_19e, f51_20e, f51_21e, f51_21l, f51_22e, f51_23e, f51_23l, f51_29e, f51_30e, f51_31e, f51_31l, f51_32e, f51_33e, f51_33l, f51_39e, f51_40e, f51_40l, hg2, e0, nxtOf]
      refine hQ _ _ ⟨rfl, h.del (A := []) (B := []) (m' := delP (t : Int) m) (get_set hlt2) (hm2.set hne) (fun t' => ?_) hdel, (ho2.mono (by simp)).trans (Oth.set _ _ _ (by simp))⟩
      rw [hlx, hfin]
      by_cases e : t' = t
      · simp [e]
      · simp [e]
    · obtain ⟨hp, hw⟩ := hposB hB
      have hn0 : ((nxtOf B 0 : Int) = 0) = False := by simp; omega
      have hnl : nxtOf (([] : Qu) ++ (t, v) :: B) 0 = t := rfl
      have hll : lastT 0 (([] : Qu) ++ (t, v) :: B) = lastT 0 B := by rw [last_app]; exact last_ne hB
      have hwt : nxtOf B 0 ≠ t := fun e => h1.2 (e ▸ hw)
      obtain ⟨y, hy⟩ := nodeA_some (L := [] ++ (t, v) :: B) (p := 0) (t := nxtOf B 0) (by rw [ticks_app]; simp only [ticks, List.map_cons, List.mem_append, List.mem_cons]; exact .inr (.inr hw))
      have hk2 : ∀ z, lookupI (.int .u64) z false (st2.set q [.lit (.int .u64 (nxtOf B 0 : Nat)), .lit (.int .u64 (lastT 0 ((t, v) :: B) : Nat)), .lit (.int .u64 (g : Nat)), .map mid]) (.map mid) (.lit (.int .u64 (nxtOf B 0 : Nat))) = .ok (ndAV y) := fun z => by
        rw [lookI_enc (hm2.set hne), hlx, if_neg hwt, hy]; rfl
      simp only [e0]
      simp -implicitDefEqProofs (maxSteps := 10000000) (disch := omega) only [List.contains_nil, List.contains_cons, Nat.reduceBEq, Bool.or_false, ksB, storesOf, newsOf, appsOf, distinctB, finSS, finNN, nstB, nstsOf, nstOf, Option.getD_none, h_nil, h_none, hh_mv, hh_addr, hh_load, hh_nilck, hh_lookup, hh_newL, val_head, tail_nil, tail_eq, cons_new, seqQ_normal, opsK_eq, runI_nil, runI_none, putP_eq, cond_tt, cond_ff, o_mv, o_bin, o_addr, o_load, o_nilck, o_store, o_upd, loadV, nilckV, boxX, writeX, addA, derefI, takeI_none, takeI_some, n_eql, wp_ok, bind_ok, bind_req, ofOpt_some, req_tt, ev_r, ev_c, evOwn_r, disOp_r, setB_r, putS, Sf.set, Sf.reg, mask_eq, maskR_nil, maskR_cons, getR, setR, maskL, Sf.disAt, Sf.newLoc, Sf.setLoc, look, killR, drop1, dropL, dis_lit, dis_ptr, dis_map, dis_agg, own1_lit, cells_lit, cells_agg, solid1_lit, solid_eq, kill_any, kill_lit, kill_ptr, kill_lptr, kill_map, kill_agg, List.map_cons, List.map_nil, List.length_cons, List.length_nil, List.all_cons, List.all_nil, List.nil_append, List.drop_zero, List.drop_succ_cons, List.take_succ_cons, List.take_zero, List.set_cons_zero, List.set_cons_succ, Int.cast_ofNat_Int, ↓reduceIte, Nat.reduceEqDiff, Nat.reduceAdd, Nat.reduceLeDiff, Bool.true_and, Bool.and_true, and_true, true_and, reduceCtorEq, Nat.zero_add, Nat.add_zero, or_false, decide_true, decide_false, Bool.not_false, Bool.false_eq_true, get_set, setAt_nil, setAt_cons, f51_19e, f51_20e, f51_21e, f51_21l, f51_22e, f51_23e, f51_23l, f51_29e, f51_30e, f51_31e, f51_31l, f51_32e, f51_34e, f51_35e, f51_35h, f51_35l, f51_36e, f51_37e, f51_37l, f51_38e, f51_38h, f51_38l, hg2, hn0, hk2, ndAV]
      refine upd_step (b := (y.1, 0, y.2.2)) (hm2.set hne) rfl rfl fun st3 hm3 ho3 => ?_
      simp -implicitDefEqProofs (maxSteps := 10000000) (disch := omega) only [seqQ_normal, aC_ret, opsK_eq, retQ_ret, retI, resI, resL, runI_nil, runI_none, putP_eq, o_mv, o_addr, o_load, o_own, loadV, addA, derefI, takeI_none, wp_ok, bind_ok, ofOpt_some, ev_r, ev_c, putS, Sf.set, Sf.reg, mask_eq, maskR_nil, maskR_cons, getR, setR, maskL, Sf.disAt, look, dis_lit, noL_lit, noL_tup, List.all_cons, List.all_nil, List.drop_zero, ↓reduceIte, Nat.reduceEqDiff, Bool.true_and, Bool.and_true, and_true, true_and, reduceCtorEq, Nat.add_zero, f51_39e, f51_40e, f51_40l]
      have hg3 : st3.get q = some [.lit (.int .u64 (nxtOf B 0 : Nat)), .lit (.int .u64 (lastT 0 ((t, v) :: B) : Nat)), .lit (.int .u64 (g : Nat)), .map mid] := (ho3.get hqm).trans (get_set hlt2)
      refine hQ _ _ ⟨rfl, h.del (A := []) (B := B) (by rw [hg3, show lastT 0 ((t, v) :: B) = lastT 0 B from hll]; rfl) hm3 (fun t' => ?_) ?_, ((ho2.mono (by simp)).trans (Oth.set _ _ _ (by simp))).trans (ho3.mono (by simp))⟩
      · rw [look_upd, hlx, hfin]
        by_cases e : t' = t
        · subst e
          have : ¬ (t' : Int) = (nxtOf B 0 : Nat) := by omega
          rw [if_neg this, if_pos rfl, if_pos rfl]
        · by_cases e2 : t' = nxtOf B 0
          · subst e2
            rw [if_pos rfl, if_neg hwt, if_neg (fun q => q.1 rfl), if_pos ⟨hB, rfl⟩, hy]; rfl
          · have : ¬ (t' : Int) = (nxtOf B 0 : Nat) := by omega
            rw [if_neg this, if_neg e, if_neg e, if_neg (fun q => q.1 rfl), if_neg (fun q => e2 q.2)]
      · rw [len_upd, hlx, if_neg hwt, hy]; simpa using hdel
  · have hp := hposA hA
    have hb0 : ((lastT 0 A : Int) = 0) = False := by simp; omega
    have hbm := last_mem (p := 0) hA
    have hbt : lastT 0 A ≠ t := fun e => h1.1 (e ▸ hbm)
    have hnl : nxtOf (A ++ (t, v) :: B) 0 = nxtOf A 0 := by cases A with
      | nil => exact absurd rfl hA
      | cons _ _ => rfl
    have hnl2 : nxtOf (A ++ B) 0 = nxtOf A 0 := by cases A with
      | nil => exact absurd rfl hA
      | cons _ _ => rfl
    obtain ⟨y, hy⟩ := nodeA_some (L := A ++ (t, v) :: B) (p := 0) (t := lastT 0 A) (by rw [ticks_app]; exact List.mem_append_left _ hbm)
    have hk2 : ∀ z, lookupI (.int .u64) z false st2 (.map mid) (.lit (.int .u64 (lastT 0 A : Nat))) = .ok (ndAV y) := fun z => by
      rw [lookI_enc hm2, hlx, if_neg hbt, hy]; rfl
    simp -implicitDefEqProofs (maxSteps := 10000000) (disch := omega) only [List.contains_nil, List.contains_cons, Nat.reduceBEq, Bool.or_false, ksB, storesOf, newsOf, appsOf, distinctB, finSS, finNN, nstB, nstsOf, nstOf, Option.getD_none, h_nil, h_none, hh_mv, hh_addr, hh_load, hh_nilck, hh_lookup, hh_newL, val_head, tail_nil, tail_eq, cons_new, seqQ_normal, opsK_eq, runI_nil, runI_none, putP_eq, cond_ff, o_bin, o_addr, o_load, o_store, o_upd, loadV, nilckV, boxX, writeX, addA, derefI, takeI_none, takeI_some, n_eql, wp_ok, bind_ok, bind_req, ofOpt_some, req_tt, ev_r, ev_c, evOwn_r, disOp_r, setB_r, putS, Sf.set, Sf.reg, mask_eq, maskR_nil, maskR_cons, getR, setR, maskL, Sf.disAt, Sf.newLoc, Sf.setLoc, look, killR, drop1, dropL, dis_lit, dis_ptr, dis_map, dis_agg, own1_lit, cells_lit, cells_agg, solid1_lit, solid_eq, kill_any, kill_lit, kill_ptr, kill_lptr, kill_map, kill_agg, List.map_cons, List.map_nil, List.length_cons, List.length_nil, List.all_cons, List.all_nil, List.nil_append, List.drop_zero, List.drop_succ_cons, List.take_succ_cons, List.take_zero, List.set_cons_zero, List.set_cons_succ, ↓reduceIte, Nat.reduceEqDiff, Nat.reduceAdd, Nat.reduceLeDiff, Bool.true_and, Bool.and_true, and_true, true_and, reduceCtorEq, Nat.zero_add, or_false, decide_true, decide_false, Bool.not_false, Bool.false_eq_true, setAt_nil, setAt_cons, f51_19e, f51_20e, f51_21e, f51_21l, f51_22e, f51_24e, f51_25e, f51_25h, f51_25l, f51_26e, f51_27e, f51_27l, f51_28e, f51_28h, f51_28l, hg2, hb0, hk2, ndAV]
    refine upd_step (b := (y.1, y.2.1, nxtOf B 0)) hm2 rfl rfl fun st3 hm3 ho3 => ?_
    have hg3 : st3.get q = _ := (ho3.get hqm).trans hg2
    have hlt3 : q < st3.boxes.length := get_lt hg3
    have hl3 : ∀ t' : Nat, lookP (t' : Int) (updP ((lastT 0 A : Nat) : Int) (y.1, y.2.1, nxtOf B 0) (delP (t : Int) m)) = if t' = lastT 0 A then some (y.1, y.2.1, nxtOf B 0) else if t' = t then none else nodeA 0 (A ++ (t, v) :: B) 0 t' := fun t' => by
      rw [look_upd, hlx]
      by_cases e : t' = lastT 0 A
      · subst e; simp
      · have : ¬ (t' : Int) = (lastT 0 A : Nat) := by omega
        rw [if_neg this, if_neg e]
    have hn3 : (updP ((lastT 0 A : Nat) : Int) (y.1, y.2.1, nxtOf B 0) (delP (t : Int) m)).length = (A ++ B).length := by
      rw [len_upd, hlx, if_neg hbt, hy]; simpa using hdel
    by_cases hB : B = []
    · subst hB
      simp -implicitDefEqProofs (maxSteps := 10000000) (disch := omega) only [seqQ_normal, aC_ret, opsK_eq, retQ_ret, retI, resI, resL, runI_nil, runI_none, putP_eq, cond_tt, o_mv, o_bin, o_addr, o_load, o_nilck, o_own, o_store, loadV, nilckV, boxX, writeX, addA, derefI, takeI_none, n_eql, wp_ok, bind_ok, ofOpt_some, ev_r, ev_c, evOwn_r, disOp_r, setB_r, putS, Sf.set, Sf.reg, mask_eq, maskR_nil, maskR_cons, getR, setR, maskL, Sf.disAt, look, dis_lit, dis_ptr, cells_lit, solid1_lit, solid_eq, noL_lit, noL_tup, List.length_cons, List.length_nil, List.all_cons, List.all_nil, List.drop_zero, List.drop_succ_cons, List.set_cons_zero, List.set_cons_succ, Int.cast_ofNat_Int, ↓reduceIte, Nat.reduceEqDiff, Nat.reduceAdd, Nat.reduceLeDiff, Bool.true_and, Bool.and_true, and_true, true_and, reduceCtorEq, Nat.zero_add, Nat.add_zero, decide_true, setAt_nil, setAt_cons, f51_29e, f51_30e, f51_31e, f51_31l, f51_32e, f51_33e, f51_33l, f51_39e, f51_40e, f51_40l, hg3, nxtOf]
      refine hQ _ _ ⟨rfl, h.del (A := A) (B := []) (by rw [hnl2, ← hnl, last_app]; exact get_set hlt3) (hm3.set hne) (fun t' => ?_) hn3, ((ho2.mono (by simp)).trans (ho3.mono (by simp))).trans (Oth.set _ _ _ (by simp))⟩
      rw [hl3, hfin]
      by_cases e : t' = lastT 0 A
      · subst e; simp [hbt, hA, hy, nxtOf]
      · simp [e]
    · obtain ⟨hpb, hw⟩ := hposB hB
      have hn0 : ((nxtOf B 0 : Int) = 0) = False := by simp; omega
      have hll : lastT 0 (A ++ (t, v) :: B) = lastT 0 (A ++ B) := by rw [last_app, last_app]; exact last_ne hB
      have hwt : nxtOf B 0 ≠ t := fun e => h1.2 (e ▸ hw)
      have hwb : nxtOf B 0 ≠ lastT 0 A := fun e => hAB _ hbm (e ▸ hw)
      obtain ⟨x, hx⟩ := nodeA_some (L := A ++ (t, v) :: B) (p := 0) (t := nxtOf B 0) (by rw [ticks_app]; simp only [ticks, List.map_cons, List.mem_append, List.mem_cons]; exact .inr (.inr hw))
      have hk3 : ∀ z, lookupI (.int .u64) z false st3 (.map mid) (.lit (.int .u64 (nxtOf B 0 : Nat))) = .ok (ndAV x) := fun z => by
        rw [lookI_enc hm3, hl3, if_neg hwb, if_neg hwt, hx]; rfl
      simp -implicitDefEqProofs (maxSteps := 10000000) (disch := omega) only [List.contains_nil, List.contains_cons, Nat.reduceBEq, Bool.or_false, ksB, storesOf, newsOf, appsOf, distinctB, finSS, finNN, nstB, nstsOf, nstOf, Option.getD_none, h_nil, h_none, hh_mv, hh_addr, hh_load, hh_nilck, hh_lookup, hh_newL, val_head, tail_nil, tail_eq, cons_new, seqQ_normal, opsK_eq, runI_nil, runI_none, putP_eq, cond_ff, o_bin, o_addr, o_load, o_store, o_upd, loadV, nilckV, boxX, writeX, addA, derefI, takeI_none, takeI_some, n_eql, wp_ok, bind_ok, bind_req, ofOpt_some, req_tt, ev_r, ev_c, evOwn_r, disOp_r, setB_r, putS, Sf.set, Sf.reg, mask_eq, maskR_nil, maskR_cons, getR, setR, maskL, Sf.disAt, Sf.newLoc, Sf.setLoc, look, killR, drop1, dropL, dis_lit, dis_ptr, dis_map, dis_agg, own1_lit, cells_lit, cells_agg, solid1_lit, solid_eq, kill_any, kill_lit, kill_ptr, kill_lptr, kill_map, kill_agg, List.map_cons, List.map_nil, List.length_cons, List.length_nil, List.all_cons, List.all_nil, List.nil_append, List.drop_zero, List.drop_succ_cons, List.take_succ_cons, List.take_zero, List.set_cons_zero, List.set_cons_succ, ↓reduceIte, Nat.reduceEqDiff, Nat.reduceAdd, Nat.reduceLeDiff, Bool.true_and, Bool.and_true, and_true, true_and, reduceCtorEq, Nat.zero_add, or_false, decide_true, decide_false, Bool.not_false, Bool.false_eq_true, setAt_nil, setAt_cons, f51_29e, f51_30e, f51_31e, f51_31l, f51_32e, f51_34e, f51_35e, f51_35h, f51_35l, f51_36e, f51_37e, f51_37l, f51_38e, f51_38h, f51_38l, hg3, hn0, hk3, ndAV]
      refine upd_step (b := (x.1, lastT 0 A, x.2.2)) hm3 rfl rfl fun st4 hm4 ho4 => ?_
      simp -implicitDefEqProofs (maxSteps := 10000000) (disch := omega) only [seqQ_normal, aC_ret, opsK_eq, retQ_ret, retI, resI, resL, runI_nil, runI_none, putP_eq, o_mv, o_addr, o_load, o_own, loadV, addA, derefI, takeI_none, wp_ok, bind_ok, ofOpt_some, ev_r, ev_c, putS, Sf.set, Sf.reg, mask_eq, maskR_nil, maskR_cons, getR, setR, maskL, Sf.disAt, look, dis_lit, noL_lit, noL_tup, List.all_cons, List.all_nil, List.drop_zero, ↓reduceIte, Nat.reduceEqDiff, Bool.true_and, Bool.and_true, and_true, true_and, reduceCtorEq, Nat.add_zero, f51_39e, f51_40e, f51_40l]
      have hg4 : st4.get q = _ := (ho4.get hqm).trans hg3
      refine hQ _ _ ⟨rfl, h.del (A := A) (B := B) (by rw [hnl2, ← hnl, ← hll]; exact hg4) hm4 (fun t' => ?_) ?_, ((ho2.mono (by simp)).trans (ho3.mono (by simp))).trans (ho4.mono (by simp))⟩
      · rw [look_upd, hl3, hfin]
        by_cases e2 : t' = nxtOf B 0
        · subst e2; simp [hwt, hwb, hB, hx]
        · have : ¬ (t' : Int) = (nxtOf B 0 : Nat) := by omega
          rw [if_neg this]
          by_cases e : t' = lastT 0 A
          · subst e; simp [hbt, hA, hy]
          · simp [e, e2]
      · rw [len_upd, hl3, if_neg hwb, if_neg hwt, hx]; simpa using hn3

theorem qpop_nil {q mid g : Nat} {st : St} (h : QIs st q mid [] g) :
    ACalls Go.Proofs.Try.prog n_f50 [.ptr q 0] st (fun r st' => r = .tup [.lit (.int .i64 0), .lit (.int .u64 0), .lit (.int .i64 9)] ∧ st' = st) := by
  refine acalls_op hmix k_f50 rfl rfl fun Q hQ => ?_
  unfold aFun c_f50
  simp -implicitDefEqProofs (maxSteps := 10000000) (disch := omega) only [seqQ_normal, opsK_eq, runI_nil, runI_none, o_mv, o_call, ev_r, ev_c, ev_f, putS, Sf.set, Sf.reg, mask_eq, maskR_nil, maskR_cons, getR, setR, maskL, regs0, id, dis_lit, dis_ptr, List.map_cons, List.map_nil, ↓reduceIte, Nat.reduceEqDiff, reduceCtorEq, f50_1e, f50_2e, f50_2l, f50_3e, f50_4e, f50_4l]
  refine call_p rfl e_f70 (qfront_pure h) rfl ?_
  simp -implicitDefEqProofs (maxSteps := 10000000) (disch := omega) only [seqQ_normal, aC_skip, aC_ret, opsK_eq, retQ_ret, retI, resI, resL, runI_nil, runI_none, putP_eq, cond_ff, o_mv, o_bin, o_ext, o_own, extV, n_eql, wp_ok, bind_ok, ofOpt_some, ev_r, ev_c, setB_r, putS, Sf.set, Sf.reg, mask_eq, maskR_nil, maskR_cons, getR, setR, maskL, Sf.disAt, dis_lit, dis_tup, own2_lit, noL_lit, noL_tup, List.map_cons, List.map_nil, List.getElem?_cons_zero, List.getElem?_cons_succ, List.all_cons, List.all_nil, ↓reduceIte, Nat.reduceEqDiff, Int.reduceEq, Bool.true_and, Bool.and_true, and_true, true_and, reduceCtorEq, decide_false, f50_5e, f50_6e, f50_7e, f50_7l, f50_8e, f50_10e, f50_11e, f50_11l]
  exact hQ _ _ ⟨rfl, rfl⟩

theorem qpop_calls {q mid g t : Nat} {v : Int} {B : Qu} {st : St} (h : QIs st q mid ((t, v) :: B) g) (hgb : g < 1000000) :
    ACalls Go.Proofs.Try.prog n_f50 [.ptr q 0] st (fun r st' => r = .tup [.lit (.int .i64 v), .lit (.int .u64 (t : Nat)), .lit (.int .i64 0)] ∧ QIs st' q mid B g ∧ Oth st st' [q, mid]) := by
  refine acalls_op hmix k_f50 rfl rfl fun Q hQ => ?_
  unfold aFun c_f50
  simp -implicitDefEqProofs (maxSteps := 10000000) (disch := omega) only [seqQ_normal, opsK_eq, runI_nil, runI_none, o_mv, o_call, ev_r, ev_c, ev_f, putS, Sf.set, Sf.reg, mask_eq, maskR_nil, maskR_cons, getR, setR, maskL, regs0, id, dis_lit, dis_ptr, List.map_cons, List.map_nil, ↓reduceIte, Nat.reduceEqDiff, reduceCtorEq, f50_1e, f50_2e, f50_2l, f50_3e, f50_4e, f50_4l]
  refine call_p rfl e_f70 (qfront_pure h) rfl ?_
  simp -implicitDefEqProofs (maxSteps := 10000000) (disch := omega) only [seqQ_normal, opsK_eq, runI_nil, runI_none, putP_eq, cond_tt, o_mv, o_bin, o_ext, o_own, o_call, extV, n_eql, wp_ok, bind_ok, ofOpt_some, ev_r, ev_c, ev_f, setB_r, putS, Sf.set, Sf.reg, mask_eq, maskR_nil, maskR_cons, getR, setR, maskL, Sf.disAt, id, dis_lit, dis_ptr, dis_tup, own2_lit, List.map_cons, List.map_nil, List.getElem?_cons_zero, List.getElem?_cons_succ, ↓reduceIte, Nat.reduceEqDiff, reduceCtorEq, decide_true, f50_5e, f50_6e, f50_7e, f50_7l, f50_8e, f50_9e, f50_9l]
  refine call_a rfl e_f51 (qremove_calls (A := []) h hgb) rfl fun r st' hr => ?_
  obtain ⟨rfl, h1, h2⟩ := hr
  simp -implicitDefEqProofs (maxSteps := 10000000) (disch := omega) only [seqQ_normal, aC_ret, opsK_eq, retQ_ret, retI, resI, resL, runI_nil, runI_none, o_mv, o_own, wp_ok, bind_ok, ev_r, putS, Sf.set, Sf.reg, mask_eq, maskR_nil, maskR_cons, getR, setR, maskL, Sf.disAt, dis_lit, noL_lit, noL_tup, List.all_cons, List.all_nil, ↓reduceIte, Nat.reduceEqDiff, Bool.true_and, Bool.and_true, and_true, true_and, reduceCtorEq, f50_10e, f50_11e, f50_11l]
  exact hQ _ _ ⟨rfl, h1, h2⟩
end Go.Fx.YtddifejdkiemgaaFx

