/- What the functions that the statement reaches compute: part 5. -/
import Derived.Test.YtenijlfcfmhmkaaFxW4
namespace Go.Fx.YtenijlfcfmhmkaaFx
open Go Go.Fx
attribute [local irreducible] aC runI headI loopI

set_option maxRecDepth 100000
set_option maxHeartbeats 4000000

/-! The reference's queue. -/
abbrev QS := Qu × Nat
def rqAV (s : QS) : AV := .agg [vsAV s.1, .lit (.int .u64 (s.2 : Nat))]
theorem vAV_nb (x : Nat × Int) : (vAV x).NB := .agg _ (by simp [nb_lit])
theorem vs_nb (L : Qu) (o : Bool) : (AV.sl o 2 (L.map vAV)).NB := .sl _ _ _ (fun x hx => by
  simp only [List.mem_map] at hx
  obtain ⟨y, _, rfl⟩ := hx
  exact vAV_nb y)
theorem rq_nb (s : QS) : (rqAV s).NB := .agg _ (by simp [nb_lit, vsAV, vs_nb])
theorem vs_dis (L : Qu) : (L.map vAV).map AV.dis = L.map vAV := by simp only [List.map_map]; rfl

theorem rpush_pure (s : QS) (v : Int) (h : s.1.length < 4096) (hg : s.2 < 1000000) (st : St) : PCalls Go.Proofs.Try.prog n_f50 [rqAV s, .lit (.int .i64 v)] st (.tup [rqAV (s.1 ++ [(s.2 + 1, v)], s.2 + 1), .lit (.int .u64 ((s.2 + 1 : Nat))), .lit (.int .i64 0)]) := by
  refine pure_lev hmix k_f50 rfl rfl (.tup _ (by simp [nb_lit, rq_nb])) (by simp [nb_lit, rq_nb]) (fun Q hQ => ?_) st
  unfold aFun c_f50
  obtain ⟨L, g⟩ := s
  simp only at h hg hQ
  rcases L with _ | ⟨x, L⟩
  · simp -implicitDefEqProofs (maxSteps := 10000000) (disch := omega) only [List.contains_nil, List.contains_cons, Nat.reduceBEq, Bool.or_false, ksB, storesOf, newsOf, appsOf, distinctB, finSS, finNN, headApp_nil, nstB, nstsOf, h_nil, h_none, hh_mv, hh_bin, hh_addr, hh_load, hh_bsl, hh_bst, hh_app, hh_store, hh_appS, headAddr_eq, headStore_eq, val_head, tail_eq, cons_store, and_self, seqQ_normal, aC_skip, aC_ret, opsK_eq, retQ_ret, retI, resI, resL, runI_nil, runI_none, putP_eq, o_mv, o_bin, o_addr, o_load, o_len, o_own, o_newL, o_boxL, loadV, bslV, bstV, boxX, List.isEmpty_cons, List.isEmpty_nil, List.reduceReplicate, lenI, addA, derefI, takeI_none, takeI_some, appNewI, srcA, fillA, buildA, n_add, n_geq, wp_ok, bind_ok, bind_req, ofOpt_some, req_tt, ev_r, ev_c, evOwn_r, setB_r, putS, Sf.set, Sf.reg, mask_eq, maskR_nil, maskR_cons, getR, setR, maskL, Sf.disAt, Sf.newLoc, Sf.setLoc, look, killR, drop1, dropL, regs0, dis_lit, dis_sl, dis_agg, own1_lit, own1_sl, cells_lit, cells_sl, cells_agg, solid1_lit, solid1_sl, solid_eq, noL_lit, noL_agg, noL_tup, kill_lit, kill_lptr, kill_agg, List.map_cons, List.map_nil, List.length_cons, List.length_nil, List.getElem?_cons_zero, List.getElem?_cons_succ, List.all_cons, List.all_nil, List.nil_append, List.drop_zero, List.drop_succ_cons, List.take_succ_cons, List.take_zero, List.set_cons_zero, List.set_cons_succ, Int.cast_ofNat_Int, ↓reduceIte, Nat.reduceEqDiff, Nat.reduceAdd, Nat.reduceLT, Nat.reduceLeDiff, Bool.true_and, Bool.and_true, and_true, true_and, reduceCtorEq, Nat.zero_add, Nat.add_zero, or_false, decide_true, Bool.not_false, Bool.false_eq_true, room_of, cond_no, IntWalk.u64_in, up_addL, setAt_nil, setAt_cons, f50_1e, f50_2e, f50_2l, f50_3e, f50_4e, f50_5e, f50_5l, f50_6e, f50_9e, f50_10e, f50_10h, f50_10l, rqAV, vsAV]
    refine hQ _ _ ?_
    simp only [rqAV, vsAV, vAV, List.nil_append, List.map_cons, List.map_nil]
    exact .refl _
  · simp only [List.length_cons] at h
    simp -implicitDefEqProofs (maxSteps := 10000000) (disch := omega) only [List.contains_nil, List.contains_cons, Nat.reduceBEq, Bool.or_false, ksB, storesOf, newsOf, appsOf, distinctB, finSS, finNN, headApp_own, appH_eq, nstB, nstsOf, h_nil, h_none, hh_mv, hh_bin, hh_addr, hh_load, hh_bsl, hh_bst, hh_app, hh_store, hh_appS, headAddr_eq, headStore_eq, val_head, tail_eq, cons_store, cons_app, and_self, seqQ_normal, aC_skip, aC_ret, opsK_eq, retQ_ret, retI, resI, resL, runI_nil, runI_none, putP_eq, o_mv, o_bin, o_addr, o_load, o_len, o_own, o_newL, o_boxL, loadV, bslV, bstV, boxX, List.isEmpty_cons, List.reduceReplicate, lenI, addA, derefI, takeI_none, takeI_some, appNewI, appOwnI, srcA, fillA, buildA, n_add, n_geq, wp_ok, bind_ok, bind_req, ofOpt_some, req_tt, ev_r, ev_c, evOwn_r, setB_r, putS, Sf.set, Sf.reg, mask_eq, maskR_nil, maskR_cons, getR, setR, maskL, Sf.disAt, Sf.newLoc, Sf.setLoc, look, killR, drop1, dropL, regs0, dis_lit, dis_sl, dis_agg, own1_lit, own1_sl, cells_lit, cells_sl, cells_agg, solid1_lit, solid1_sl, solid_eq, noL_lit, noL_agg, noL_tup, kill_lit, kill_lptr, kill_agg, List.map_cons, List.map_nil, List.length_cons, List.length_nil, List.getElem?_cons_zero, List.getElem?_cons_succ, List.all_cons, List.all_nil, List.nil_append, List.cons_append, List.drop_zero, List.drop_succ_cons, List.take_succ_cons, List.take_zero, List.set_cons_zero, List.set_cons_succ, ↓reduceIte, Nat.reduceEqDiff, Nat.reduceAdd, Nat.reduceLT, Nat.reduceLeDiff, Bool.true_and, Bool.and_true, and_true, true_and, reduceCtorEq, Nat.zero_add, Nat.add_zero, or_false, decide_true, Bool.not_false, Bool.false_eq_true, List.length_map, room_of, cond_no, IntWalk.u64_in, up_addL, setAt_nil, setAt_cons, f50_1e, f50_2e, f50_2l, f50_3e, f50_4e, f50_5e, f50_5l, f50_6e, f50_9e, f50_10e, f50_10h, f50_10l, rqAV, vsAV, vs_dis]
    refine hQ _ _ ?_
    simp only [rqAV, vsAV, vAV, List.map_append, List.map_cons, List.map_nil, List.cons_append]
    exact .refl _

theorem rfront_pure (s : QS) (h : s.1.length < 1000000) (st : St) : PCalls Go.Proofs.Try.prog n_f27 [rqAV s] st
    (match s.1 with | [] => .tup [.lit (.int .i64 0), .lit (.int .u64 0), .lit (.int .i64 9)] | (t, v) :: _ => .tup [.lit (.int .i64 v), .lit (.int .u64 (t : Nat)), .lit (.int .i64 0)]) := by
  obtain ⟨L, g⟩ := s
  cases L with
  | nil =>
    refine pure_lev hmix k_f27 rfl rfl (.tup _ (by simp [nb_lit])) (by simp [nb_lit, rq_nb]) (fun Q hQ => ?_) st
    unfold aFun c_f27
    simp -implicitDefEqProofs (maxSteps := 10000000) (disch := omega) only [seqQ_normal, seqQ_ret, aC_ret, opsK_eq, retQ_ret, retI, resI, resL, runI_nil, runI_none, putP_eq, cond_tt, o_mv, o_bin, o_addr, o_load, o_len, o_boxL, loadV, boxX, lenI, addA, derefI, takeI_none, n_eql, wp_ok, bind_ok, ofOpt_some, ev_r, ev_c, evOwn_r, setB_r, putS, Sf.set, Sf.reg, mask_eq, maskR_nil, maskR_cons, getR, setR, maskL, Sf.newLoc, look, killR, drop1, regs0, dis_lit, dis_sl, dis_agg, own1_lit, own1_sl, cells_agg, solid1_lit, solid1_sl, solid_eq, noL_lit, noL_tup, kill_agg, List.map_cons, List.map_nil, List.length_cons, List.length_nil, List.all_cons, List.all_nil, List.drop_zero, Int.cast_ofNat_Int, ↓reduceIte, Nat.reduceEqDiff, Nat.reduceAdd, Bool.true_and, Bool.and_true, and_true, true_and, reduceCtorEq, Nat.zero_add, Nat.add_zero, decide_true, f27_1e, f27_2e, f27_2l, f27_3e, f27_4e, f27_5e, f27_5l, f27_6e, f27_7e, f27_8e, f27_8l, rqAV, vsAV]
    exact hQ _ _ (.refl _)
  | cons x L =>
    refine pure_lev hmix k_f27 rfl rfl (.tup _ (by simp [nb_lit])) (by simp [nb_lit, rq_nb]) (fun Q hQ => ?_) st
    unfold aFun c_f27
    simp only [List.length_cons] at h
    simp -implicitDefEqProofs (maxSteps := 10000000) (disch := omega) only [List.contains_nil, h_nil, h_none, hh_mv, hh_addr, hh_ixS, hh_load, val_head, tail_nil, seqQ_normal, aC_skip, aC_ret, opsK_eq, retQ_ret, retI, resI, resL, runI_nil, runI_none, putP_eq, o_mv, o_bin, o_addr, o_load, o_len, o_own, o_boxL, ixSV, loadV, boxX, ixA, lenI, addA, derefI, takeI_none, n_eql, wp_ok, bind_ok, bind_req, ofOpt_some, ev_r, ev_c, evOwn_r, setB_r, putS, Sf.set, Sf.reg, mask_eq, maskR_nil, maskR_cons, getR, setR, maskL, Sf.disAt, Sf.newLoc, look, killR, drop1, dropL, regs0, dis_lit, dis_sl, dis_agg, own1_lit, own1_sl, cells_agg, solid1_lit, solid1_sl, solid_eq, noL_lit, noL_tup, kill_agg, List.map_cons, List.map_nil, List.length_cons, List.length_nil, List.getD_cons_zero, List.all_cons, List.all_nil, List.drop_zero, List.drop_succ_cons, Int.toNat_zero, ↓reduceIte, Nat.reduceEqDiff, Nat.reduceAdd, Int.reduceLE, Bool.true_and, Bool.and_true, and_true, true_and, reduceCtorEq, Nat.zero_add, Nat.add_zero, Bool.false_eq_true, List.length_map, req_dec, cond_no, f27_1e, f27_2e, f27_2l, f27_3e, f27_4e, f27_5e, f27_5l, f27_6e, f27_9e, f27_10e, f27_10h, f27_10l, rqAV, vsAV, vAV]
    exact hQ _ _ (.refl _)

/-- Where a ticket stands. -/
def plc (t : Nat) : Qu → Nat → Option Nat
  | [], _ => none
  | (u, _) :: r, i => if u = t then some i else plc t r (i + 1)
theorem plc_none {t : Nat} : ∀ {L : Qu} {i : Nat}, plc t L i = none ↔ t ∉ ticks L
  | [], i => by simp [plc, ticks]
  | (u, v) :: r, i => by
    simp only [plc, ticks, List.map_cons, List.mem_cons, not_or]
    by_cases e : u = t
    · simp [e]
    · rw [if_neg e, plc_none]
      exact ⟨fun h => ⟨fun q => e q.symm, h⟩, fun h => h.2⟩
theorem plc_some {t : Nat} : ∀ {L : Qu} {i j : Nat}, plc t L i = some j → ∃ k, j = i + k ∧ ∃ h : k < L.length, L[k].1 = t ∧ ∀ q, ∀ h : q < k, (L[q]'(by omega)).1 ≠ t
  | (u, v) :: r, i, j, h => by
    simp only [plc] at h
    split at h
    · rename_i e
      cases h
      exact ⟨0, rfl, by simp, e, fun q hq => by omega⟩
    · rename_i e
      obtain ⟨k, h1, h2, h3, h4⟩ := plc_some h
      refine ⟨k + 1, by omega, by simp; omega, by simpa using h3, fun q hq => ?_⟩
      cases q with
      | zero => exact e
      | succ q => simpa using h4 q (by omega)
theorem plc_step {t : Nat} : ∀ {L : Qu} {i k : Nat} (h : k < L.length), (∀ q, ∀ h : q < k, (L[q]'(by omega)).1 ≠ t) → plc t L i = plc t (L.drop k) (i + k)
  | L, i, 0, h, _ => by simp
  | (u, v) :: r, i, k + 1, h, hq => by
    have h0 := hq 0 (by omega)
    simp only [List.getElem_cons_zero] at h0
    simp only [plc, List.drop_succ_cons]
    rw [if_neg h0, plc_step (k := k) (by simpa using h) fun q hk => by simpa using hq (q + 1) (by omega)]
    congr 1
    omega

theorem rplace_pure (s : QS) (t : Nat) (h : s.1.length < 1000000) (st : St) : PCalls Go.Proofs.Try.prog n_f53 [rqAV s, .lit (.int .u64 (t : Nat))] st
    (match plc t s.1 0 with | some i => .tup [.lit (.int .i64 (i : Nat)), .lit (.int .i64 0)] | none => .tup [.lit (.int .i64 0), .lit (.int .i64 9)]) := by
  obtain ⟨L, g⟩ := s
  simp only at h ⊢
  have hnb : (match plc t L 0 with | some i => AV.tup [.lit (.int .i64 (i : Nat)), .lit (.int .i64 0)] | none => .tup [.lit (.int .i64 0), .lit (.int .i64 9)]).NB := by
    split <;> exact .tup _ (by simp [nb_lit])
  refine pure_lev hmix k_f53 rfl rfl hnb (by simp [nb_lit, rq_nb]) (fun Q hQ => ?_) st
  unfold aFun c_f53
  simp -implicitDefEqProofs (maxSteps := 10000000) (disch := omega) only [seqQ_normal, opsK_eq, runI_nil, runI_none, o_mv, o_boxL, boxX, ev_c, evOwn_r, putS, Sf.set, Sf.reg, mask_eq, maskR_nil, maskR_cons, getR, setR, maskL, Sf.newLoc, look, killR, drop1, regs0, dis_lit, dis_agg, own1_lit, own1_sl, cells_agg, solid1_lit, solid1_sl, solid_eq, kill_lit, kill_agg, List.map_cons, List.map_nil, List.length_cons, List.length_nil, List.all_cons, List.all_nil, ↓reduceIte, Nat.reduceEqDiff, Nat.reduceAdd, Bool.true_and, Bool.and_true, and_true, true_and, reduceCtorEq, Nat.zero_add, f53_1e, f53_2e, f53_2l, f53_3e, f53_4e, f53_5e, f53_5l, f53_6e, rqAV, vsAV]
  rw [f53_7w]
  refine loop_op (A := Nat) (fun a => L.length - a) (fun a => ⟨[(1, .lit (.int .u64 (t : Nat))), (2, .lptr 2 0), (6, .lit (.int .i64 (a : Nat)))], [(2, [.sl false 2 (L.map vAV), .lit (.int .u64 (g : Nat))])]⟩) (fun _ => ⟨[]⟩)
    (fun a => a ≤ L.length ∧ plc t L 0 = plc t (L.drop a) a) 0 ⟨by simp, by simp⟩ (Sf.le_refl _) rfl ?_
  rintro i ⟨h1, h2⟩ K hK hKe hKr
  by_cases hi : i < L.length
  · have e1 : (L.map vAV).getD i .any = vAV L[i] := by simp [List.getD, hi]
    have e2 := h2
    rw [List.drop_eq_getElem_cons hi] at e2
    simp only [plc] at e2
    by_cases e : L[i].1 = t
    · rw [if_pos e] at e2
      rw [e2] at hQ
      simp -implicitDefEqProofs (maxSteps := 10000000) (disch := omega) only [seqQ_normal, seqQ_ret, blockQ_ret, aC_skip, aC_ret, opsK_eq, runI_nil, runI_none, putP_eq, cond_tt, o_mv, o_bin, o_addr, o_ixS, o_load, o_len, o_own, ixSV, loadV, ixA, lenI, addA, derefI, takeI_none, n_eql, n_lss, wp_ok, bind_ok, bind_req, ofOpt_some, ev_r, ev_c, setB_r, putS, Sf.set, Sf.reg, mask_eq, maskR_nil, maskR_cons, getR, setR, maskL, Sf.disAt, look, dis_lit, dis_sl, cells_agg, List.drop_zero, List.drop_succ_cons, Int.toNat_natCast, ↓reduceIte, Nat.reduceEqDiff, Nat.add_zero, decide_true, List.length_map, req_dec, cond_yes, and_pre, f53_8e, f53_9e, f53_10e, f53_10l, f53_11e, f53_12e, f53_13e, f53_14e, f53_15e, f53_15l, f53_16e, f53_17e, f53_18e, f53_18l, e1, vAV, e]
      refine hKr _ _ ?_
      simp -implicitDefEqProofs (maxSteps := 10000000) (disch := omega) only [seqQ_ret, blockQ_ret, retQ_ret, retI, resI, resL, wp_ok, bind_ok, Sf.reg, getR, dis_lit, noL_lit, noL_tup, List.all_cons, List.all_nil, ↓reduceIte, Nat.reduceEqDiff, Bool.true_and, Bool.and_true, and_true, true_and]
      exact hQ _ _ (.refl _)
    · rw [if_neg e] at e2
      have ne : ¬ ((L[i].1 : Nat) : Int) = ((t : Nat) : Int) := by omega
      simp -implicitDefEqProofs (maxSteps := 10000000) (disch := omega) only [seqQ_normal, blockQ_normal, aC_skip, opsK_eq, runI_nil, runI_none, putP_eq, cond_ff, o_mv, o_bin, o_addr, o_ixS, o_load, o_len, o_own, ixSV, loadV, ixA, lenI, addA, derefI, takeI_none, n_add, n_eql, n_lss, wp_ok, bind_ok, bind_req, ofOpt_some, ev_r, ev_c, setB_r, putS, Sf.set, Sf.reg, mask_eq, maskR_nil, maskR_cons, getR, setR, maskL, Sf.disAt, look, dis_lit, dis_sl, cells_agg, List.drop_zero, List.drop_succ_cons, Int.toNat_natCast, ↓reduceIte, Nat.reduceEqDiff, Nat.add_zero, decide_false, List.length_map, req_dec, cond_yes, IntWalk.i64_in, up_addL, and_pre, f53_8e, f53_9e, f53_10e, f53_10l, f53_11e, f53_12e, f53_13e, f53_14e, f53_15e, f53_15l, f53_16e, f53_19e, f53_19l, e1, vAV, ne]
      exact hK (i + 1) _ ⟨by omega, e2⟩ (by omega) (Sf.le_refl _)
  · have e : i = L.length := by omega
    subst e
    rw [List.drop_length] at h2
    simp only [plc] at h2
    rw [h2] at hQ
    simp -implicitDefEqProofs (maxSteps := 10000000) (disch := omega) only [seqQ_normal, seqQ_exit, aC_exit, opsK_eq, runI_nil, runI_none, putP_eq, o_mv, o_bin, o_addr, o_load, o_len, loadV, lenI, addA, derefI, takeI_none, n_lss, wp_ok, bind_ok, ofOpt_some, ev_r, setB_r, putS, Sf.set, Sf.reg, mask_eq, maskR_nil, maskR_cons, getR, setR, maskL, look, dis_lit, dis_sl, List.drop_zero, ↓reduceIte, Nat.reduceEqDiff, Nat.add_zero, List.length_map, cond_no, f53_8e, f53_9e, f53_10e, f53_10l, f53_11e]
    refine hKe _ _ _ ?_
    simp -implicitDefEqProofs (maxSteps := 10000000) (disch := omega) only [seqQ_normal, blockQ_exit, aC_ret, opsK_eq, retQ_ret, retI, resI, resL, runI_nil, runI_none, o_mv, wp_ok, bind_ok, ev_c, putS, Sf.set, Sf.reg, mask_eq, maskR_nil, maskR_cons, getR, setR, maskL, dis_lit, noL_lit, noL_tup, List.all_cons, List.all_nil, ↓reduceIte, Nat.reduceEqDiff, Bool.true_and, Bool.and_true, and_true, true_and, f53_20e, f53_21e, f53_21l]
    exact hQ _ _ (.refl _)

theorem take_dis (L : Qu) (i : Nat) : ((L.take i).map vAV).map AV.dis = (L.take i).map vAV := vs_dis _

theorem rremove_none (s : QS) (t : Nat) (h : s.1.length < 1000000) (hp : plc t s.1 0 = none) (st : St) : PCalls Go.Proofs.Try.prog n_f52 [rqAV s, .lit (.int .u64 (t : Nat))] st (.tup [rqAV s, .lit (.int .i64 0), .lit (.int .i64 9)]) := by
  refine pure_lev hmix k_f52 rfl rfl (.tup _ (by simp [nb_lit, rq_nb])) (by simp [nb_lit, rq_nb]) (fun Q hQ => ?_) st
  unfold aFun c_f52
  have hpl := fun st => rplace_pure s t h st
  obtain ⟨L, g⟩ := s
  simp only [hp, rqAV, vsAV] at hpl
  simp -implicitDefEqProofs (maxSteps := 10000000) (disch := omega) only [seqQ_normal, opsK_eq, runI_nil, runI_none, putP_eq, o_mv, o_load, o_newL, o_boxL, o_call, loadV, boxX, derefI, takeI_some, wp_ok, bind_ok, bind_req, ofOpt_some, req_tt, ev_r, ev_c, ev_f, evOwn_r, putS, Sf.set, Sf.reg, mask_eq, maskR_nil, maskR_cons, getR, setR, maskL, Sf.newLoc, look, killR, drop1, regs0, id, dis_lit, dis_agg, own1_lit, own1_sl, cells_agg, solid1_lit, solid1_sl, solid_eq, kill_lit, kill_lptr, kill_agg, List.map_cons, List.map_nil, List.length_cons, List.length_nil, List.all_cons, List.all_nil, List.drop_zero, List.take_succ_cons, List.take_zero, ↓reduceIte, Nat.reduceEqDiff, Nat.reduceAdd, Nat.reduceLeDiff, Bool.true_and, Bool.and_true, and_true, true_and, reduceCtorEq, Nat.zero_add, decide_true, f52_1e, f52_2e, f52_2l, f52_3e, f52_4e, f52_4l, rqAV, vsAV]
  refine call_p rfl e_f53 (hpl _) rfl ?_
  simp -implicitDefEqProofs (maxSteps := 10000000) (disch := omega) only [seqQ_normal, seqQ_ret, aC_ret, opsK_eq, retQ_ret, retI, resI, resL, runI_nil, runI_none, putP_eq, cond_tt, o_mv, o_bin, o_ext, o_load, o_own, o_store, extV, loadV, boxX, writeX, derefI, takeI_some, n_neq, wp_ok, bind_ok, bind_req, ofOpt_some, req_tt, ev_r, ev_c, evOwn_r, disOp_r, setB_r, putS, Sf.set, Sf.reg, mask_eq, maskR_nil, maskR_cons, getR, setR, maskL, Sf.disAt, Sf.setLoc, look, drop1, dis_lit, dis_agg, dis_tup, own1_lit, own1_sl, own2_lit, cells_agg, solid1_lit, solid1_sl, solid_eq, noL_lit, noL_agg, noL_tup, List.map_cons, List.map_nil, List.length_cons, List.length_nil, List.getElem?_cons_zero, List.getElem?_cons_succ, List.all_cons, List.all_nil, List.drop_zero, List.take_succ_cons, List.take_zero, List.set_cons_zero, List.set_cons_succ, ↓reduceIte, Nat.reduceEqDiff, Nat.reduceAdd, Nat.reduceLeDiff, Int.reduceEq, Bool.true_and, Bool.and_true, and_true, true_and, Nat.zero_add, not_false_eq_true, decide_true, setAt_nil, setAt_cons, f52_5e, f52_6e, f52_7e, f52_7l, f52_8e, f52_9e, f52_10e, f52_10l]
  refine hQ _ _ ?_
  simp only [rqAV, vsAV]
  exact .refl _

theorem rremove_some (s : QS) (t i : Nat) (h : s.1.length < 1000000) (hp : plc t s.1 0 = some i) (hi : i < s.1.length) (st : St) :
    PCalls Go.Proofs.Try.prog n_f52 [rqAV s, .lit (.int .u64 (t : Nat))] st (.tup [rqAV (s.1.take i ++ s.1.drop (i + 1), s.2), .lit (.int .i64 s.1[i].2), .lit (.int .i64 0)]) := by
  refine pure_lev hmix k_f52 rfl rfl (.tup _ (by simp [nb_lit, rq_nb])) (by simp [nb_lit, rq_nb]) (fun Q hQ => ?_) st
  unfold aFun c_f52
  have hpl := fun st => rplace_pure s t h st
  obtain ⟨L, g⟩ := s
  simp only [hp, rqAV, vsAV] at hpl
  simp only at hi h
  have e1 : (L.map vAV).getD i .any = vAV L[i] := by simp [List.getD, hi]
  have ht : List.take i (L.map vAV) = (L.take i).map vAV := by rw [List.map_take]
  have hd : List.drop (i + 1) (L.map vAV) = (L.drop (i + 1)).map vAV := by rw [List.map_drop]
  simp -implicitDefEqProofs (maxSteps := 10000000) (disch := omega) only [seqQ_normal, opsK_eq, runI_nil, runI_none, putP_eq, o_mv, o_load, o_newL, o_boxL, o_call, loadV, boxX, derefI, takeI_some, wp_ok, bind_ok, bind_req, ofOpt_some, req_tt, ev_r, ev_c, ev_f, evOwn_r, putS, Sf.set, Sf.reg, mask_eq, maskR_nil, maskR_cons, getR, setR, maskL, Sf.newLoc, look, killR, drop1, regs0, id, dis_lit, dis_agg, own1_lit, own1_sl, cells_agg, solid1_lit, solid1_sl, solid_eq, kill_lit, kill_lptr, kill_agg, List.map_cons, List.map_nil, List.length_cons, List.length_nil, List.all_cons, List.all_nil, List.drop_zero, List.take_succ_cons, List.take_zero, ↓reduceIte, Nat.reduceEqDiff, Nat.reduceAdd, Nat.reduceLeDiff, Bool.true_and, Bool.and_true, and_true, true_and, reduceCtorEq, Nat.zero_add, decide_true, f52_1e, f52_2e, f52_2l, f52_3e, f52_4e, f52_4l, rqAV, vsAV]
  refine call_p rfl e_f53 (hpl _) rfl ?_
  have hroom : ∀ l : Qu, l.length ≤ L.length → roomB l.length 16 = true := fun l hl => room_of (by omega)
  rcases L with _ | ⟨x, L⟩
  · cases hi
  rcases i with _ | i
  · rcases L with _ | ⟨y, L⟩
    · simp -implicitDefEqProofs (maxSteps := 10000000) (disch := omega) only [List.contains_nil, List.contains_cons, Nat.reduceBEq, Bool.or_false, ksB, storesOf, newsOf, appsOf, distinctB, finSS, finNN, headApp_nil, nstB, nstsOf, h_nil, h_none, hh_mv, hh_bin, hh_addr, hh_ixS, hh_load, hh_sliS, hh_bst, hh_app, hh_store, hh_appS, headAddr_eq, headStore_eq, val_head, tail_eq, cons_store, and_self, seqQ_normal, aC_skip, aC_ret, opsK_eq, retQ_ret, retI, resI, resL, runI_nil, runI_none, putP_eq, cond_ff, o_mv, o_bin, o_ext, o_own, extV, ixSV, loadV, sliSV, bstV, List.isEmpty_nil, ixA, ixTo, addA, derefI, takeI_none, takeI_some, appNewI, srcA, buildA, n_add, n_neq, wp_ok, bind_ok, bind_req, ofOpt_some, req_tt, ev_r, ev_c, setB_r, putS, Sf.set, Sf.reg, mask_eq, maskR_nil, maskR_cons, getR, setR, maskL, Sf.disAt, Sf.setLoc, look, drop1, dropL, dis_lit, dis_sl, dis_agg, dis_tup, own1_lit, own2_lit, cells_lit, cells_agg, solid1_lit, solid_eq, noL_lit, noL_agg, noL_tup, List.map_cons, List.map_nil, List.length_cons, List.length_nil, Option.map_some, Option.map_none, List.getElem?_cons_zero, List.getElem?_cons_succ, List.getD_cons_zero, List.all_cons, List.all_nil, List.nil_append, List.drop_zero, List.drop_succ_cons, List.take_succ_cons, List.take_zero, List.set_cons_zero, List.set_cons_succ, Int.toNat_zero, Int.toNat_one, Int.cast_ofNat_Int, ↓reduceIte, Nat.reduceEqDiff, Nat.reduceAdd, Nat.reduceLeDiff, Int.reduceLT, Int.reduceLE, Bool.true_and, Bool.and_true, and_true, true_and, Nat.zero_add, Nat.add_zero, not_true_eq_false, or_false, decide_true, decide_false, Bool.not_false, Bool.false_eq_true, IntWalk.i64_in, Int.zero_add, setAt_nil, setAt_cons, f52_5e, f52_6e, f52_7e, f52_7l, f52_8e, f52_11e, f52_12e, f52_12h, f52_12l, vAV]
      refine hQ _ _ ?_
      simp only [rqAV, vsAV, vAV, List.take_zero, List.drop_succ_cons, List.drop_zero, List.drop_nil, List.append_nil, List.map_nil, List.getElem_cons_zero]
      exact .tupL ⟨.aggL ⟨.nil _ _, .refl _, trivial⟩, .refl _, .refl _, trivial⟩
    · simp only [List.length_cons] at h
      simp -implicitDefEqProofs (maxSteps := 10000000) (disch := omega) only [List.contains_nil, List.contains_cons, Nat.reduceBEq, Bool.or_false, ksB, storesOf, newsOf, appsOf, distinctB, finSS, finNN, headApp_nil, nstB, nstsOf, h_nil, h_none, hh_mv, hh_bin, hh_addr, hh_ixS, hh_load, hh_sliS, hh_bst, hh_app, hh_store, hh_appS, headAddr_eq, headStore_eq, val_head, tail_eq, cons_store, and_self, seqQ_normal, aC_skip, aC_ret, opsK_eq, retQ_ret, retI, resI, resL, runI_nil, runI_none, putP_eq, cond_ff, o_mv, o_bin, o_ext, o_own, extV, ixSV, loadV, sliSV, bstV, List.isEmpty_cons, List.isEmpty_nil, ixA, ixTo, addA, derefI, takeI_none, takeI_some, appNewI, srcA, buildA, n_add, n_neq, wp_ok, bind_ok, bind_req, ofOpt_some, req_tt, ev_r, ev_c, setB_r, putS, Sf.set, Sf.reg, mask_eq, maskR_nil, maskR_cons, getR, setR, maskL, Sf.disAt, Sf.setLoc, look, drop1, dropL, dis_lit, dis_sl, dis_agg, dis_tup, own1_lit, own1_sl, own2_lit, cells_lit, cells_sl, cells_agg, solid1_lit, solid1_sl, solid_eq, noL_lit, noL_agg, noL_tup, List.map_cons, List.map_nil, List.length_cons, List.length_nil, Option.map_some, Option.map_none, List.getElem?_cons_zero, List.getElem?_cons_succ, List.getD_cons_zero, List.all_cons, List.all_nil, List.nil_append, List.drop_zero, List.drop_succ_cons, List.take_succ_cons, List.take_zero, List.set_cons_zero, List.set_cons_succ, Int.toNat_zero, Int.toNat_one, Int.cast_ofNat_Int, ↓reduceIte, Nat.reduceEqDiff, Nat.reduceAdd, Nat.reduceLeDiff, Int.reduceLE, Bool.true_and, Bool.and_true, and_true, true_and, Nat.zero_add, Nat.add_zero, not_true_eq_false, or_false, decide_true, decide_false, Bool.not_false, Bool.false_eq_true, take_map_len, List.length_map, req_dec, room_of, IntWalk.i64_in, Int.zero_add, setAt_nil, setAt_cons, f52_5e, f52_6e, f52_7e, f52_7l, f52_8e, f52_11e, f52_12e, f52_12h, f52_12l, vAV, vs_dis]
      refine hQ _ _ ?_
      simp only [rqAV, vsAV, vAV, List.take_zero, List.drop_succ_cons, List.drop_zero, List.nil_append, List.map_cons, List.getElem_cons_zero]
      exact .refl _
  · have hl : i < L.length := by simpa using hi
    simp only [List.length_cons] at h hroom
    have e1 : (L.map vAV).getD i .any = vAV (L[i]'hl) := by simp [List.getD, hl]
    have hr1 : (List.take i L).length = i := by simp; omega
    have hr2 : (List.drop (i + 1) L).length = L.length - (i + 1) := by simp
    simp only [List.map_cons, List.take_succ_cons, List.drop_succ_cons, List.cons.injEq, true_and] at ht hd
    rcases hd2 : List.drop (i + 1) L with _ | ⟨z, B⟩
    · rw [hd2] at hd
      simp only [List.map_nil] at hd
      simp -implicitDefEqProofs (maxSteps := 10000000) (disch := omega) only [List.contains_nil, List.contains_cons, Nat.reduceBEq, Bool.or_false, ksB, storesOf, newsOf, appsOf, distinctB, finSS, finNN, headApp_own, appH_eq, nstB, nstsOf, h_nil, h_none, hh_mv, hh_bin, hh_addr, hh_ixS, hh_load, hh_sliS, hh_bst, hh_app, hh_store, hh_appS, headAddr_eq, headStore_eq, val_head, tail_eq, cons_store, cons_app, and_self, seqQ_normal, aC_skip, aC_ret, opsK_eq, retQ_ret, retI, resI, resL, runI_nil, runI_none, putP_eq, cond_ff, o_mv, o_bin, o_ext, o_own, extV, ixSV, loadV, sliSV, bstV, List.isEmpty_cons, ixA, ixTo, addA, derefI, takeI_none, takeI_some, appNewI, appOwnI, srcA, buildA, n_add, n_neq, wp_ok, bind_ok, bind_req, ofOpt_some, req_tt, ev_r, ev_c, setB_r, putS, Sf.set, Sf.reg, mask_eq, maskR_nil, maskR_cons, getR, setR, maskL, Sf.disAt, Sf.setLoc, look, drop1, dropL, dis_lit, dis_sl, dis_agg, dis_tup, own1_lit, own1_sl, own2_lit, cells_lit, cells_sl, cells_agg, solid1_lit, solid1_sl, solid_eq, noL_lit, noL_agg, noL_tup, List.map_cons, List.map_nil, List.length_cons, List.length_nil, Option.map_some, Option.map_none, List.getElem?_cons_zero, List.getElem?_cons_succ, List.getD_cons_succ, List.all_cons, List.all_nil, List.append_nil, List.nil_append, List.cons_append, List.drop_zero, List.drop_succ_cons, List.take_succ_cons, List.take_zero, List.set_cons_zero, List.set_cons_succ, Int.toNat_natCast, ↓reduceIte, Nat.reduceEqDiff, Nat.reduceAdd, Nat.reduceLeDiff, Bool.true_and, Bool.and_true, and_true, true_and, Nat.zero_add, Nat.add_zero, not_true_eq_false, or_false, decide_true, decide_false, Bool.not_false, Bool.false_eq_true, take_map_len, List.length_map, req_dec, room_of, IntWalk.i64_in, up_addL, and_pre, setAt_nil, setAt_cons, f52_5e, f52_6e, f52_7e, f52_7l, f52_8e, f52_11e, f52_12e, f52_12h, f52_12l, vAV, vs_dis, ht, hd, e1, hr1]
      refine hQ _ _ ?_
      simp only [rqAV, vsAV, vAV, List.take_succ_cons, List.drop_succ_cons, hd2, List.append_nil, List.map_cons, List.getElem_cons_succ]
      exact .refl _
    · have hr3 : (z :: B).length = L.length - (i + 1) := by rw [← hd2]; exact hr2
      simp only [List.length_cons] at hr3
      rw [hd2] at hd
      simp only [List.map_cons] at hd
      simp -implicitDefEqProofs (maxSteps := 10000000) (disch := omega) only [List.contains_nil, List.contains_cons, Nat.reduceBEq, Bool.or_false, ksB, storesOf, newsOf, appsOf, distinctB, finSS, finNN, headApp_own, appH_eq, nstB, nstsOf, h_nil, h_none, hh_mv, hh_bin, hh_addr, hh_ixS, hh_load, hh_sliS, hh_bst, hh_app, hh_store, hh_appS, headAddr_eq, headStore_eq, val_head, tail_eq, cons_store, cons_app, and_self, seqQ_normal, aC_skip, aC_ret, opsK_eq, retQ_ret, retI, resI, resL, runI_nil, runI_none, putP_eq, cond_ff, o_mv, o_bin, o_ext, o_own, extV, ixSV, loadV, sliSV, bstV, List.isEmpty_cons, ixA, ixTo, addA, derefI, takeI_none, takeI_some, appNewI, appOwnI, srcA, buildA, n_add, n_neq, wp_ok, bind_ok, bind_req, ofOpt_some, req_tt, ev_r, ev_c, setB_r, putS, Sf.set, Sf.reg, mask_eq, maskR_nil, maskR_cons, getR, setR, maskL, Sf.disAt, Sf.setLoc, look, drop1, dropL, dis_lit, dis_sl, dis_agg, dis_tup, own1_lit, own1_sl, own2_lit, cells_lit, cells_sl, cells_agg, solid1_lit, solid1_sl, solid_eq, noL_lit, noL_agg, noL_tup, List.map_cons, List.map_nil, List.length_cons, List.length_nil, Option.map_some, Option.map_none, List.getElem?_cons_zero, List.getElem?_cons_succ, List.getD_cons_succ, List.all_cons, List.all_nil, List.nil_append, List.cons_append, List.drop_zero, List.drop_succ_cons, List.take_succ_cons, List.take_zero, List.set_cons_zero, List.set_cons_succ, Int.toNat_natCast, ↓reduceIte, Nat.reduceEqDiff, Nat.reduceAdd, Nat.reduceLeDiff, Bool.true_and, Bool.and_true, and_true, true_and, Nat.zero_add, Nat.add_zero, not_true_eq_false, or_false, decide_true, decide_false, Bool.not_false, Bool.false_eq_true, take_map_len, List.length_map, req_dec, room_of, IntWalk.i64_in, up_addL, and_pre, setAt_nil, setAt_cons, f52_5e, f52_6e, f52_7e, f52_7l, f52_8e, f52_11e, f52_12e, f52_12h, f52_12l, vAV, vs_dis, ht, hd, e1, hr1]
      refine hQ _ _ ?_
      simp only [rqAV, vsAV, vAV, List.take_succ_cons, List.drop_succ_cons, hd2, List.cons_append, List.map_cons, List.map_append, List.getElem_cons_succ]
      exact .refl _
end Go.Fx.YtenijlfcfmhmkaaFx

