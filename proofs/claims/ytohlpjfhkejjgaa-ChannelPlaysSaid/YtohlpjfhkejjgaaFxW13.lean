/- What the functions that the statement reaches compute: part 13. -/
import Derived.Test.YtohlpjfhkejjgaaFxW12
namespace Go.Fx.YtohlpjfhkejjgaaFx
open Go Go.Fx
attribute [local irreducible] aC runI headI loopI

set_option maxRecDepth 100000
set_option maxHeartbeats 4000000

theorem bd_send {P : ChP} {n : Nat} (h : Bd P n) (v : Int) : Bd (pTrySend P v).1 (n + 1) ∧ (pTrySend P v).2.1.length ≤ 1 := by
  unfold Bd at *
  unfold pTrySend
  split
  · exact ⟨by first | omega | (simp only; omega), by simp⟩
  · split
    · rename_i hV
      have : P.V.length = _ := congrArg List.length hV
      simp only [List.length_cons] at this
      exact ⟨by simp only; omega, by simp⟩
    · split
      · simp only [List.length_append, List.length_singleton]; exact ⟨by first | omega | (simp only; omega), by simp⟩
      · exact ⟨by first | omega | (simp only; omega), by simp⟩
theorem bd_recv {P : ChP} {n : Nat} (h : Bd P n) : Bd (pTryReceive P).1 (n + 1) ∧ (pTryReceive P).2.2.1.length ≤ 1 := by
  unfold Bd at *
  unfold pTryReceive
  split
  · rename_i hS
    have : P.S.length = _ := congrArg List.length hS
    simp only [List.length_cons] at this
    simp only [List.length_tail, List.length_append, List.length_singleton]
    exact ⟨by first | omega | (simp only; omega), by simp⟩
  · split
    · exact ⟨by first | omega | (simp only; omega), by simp⟩
    · rename_i hB
      have : P.buf.length = _ := congrArg List.length hB
      simp only [List.length_cons] at this
      exact ⟨by simp only; omega, by simp⟩
theorem bd_do {P : ChP} {n : Nat} (h : Bd P n) (a : Ca) : Bd (pDo P a).1 (n + 1) ∧ (pDo P a).2.2.2.1.length ≤ 2 * n + 1 := by
  have h1 := fun v => bd_send h v
  have h2 := bd_recv h
  unfold pDo
  split
  · unfold pSend
    split
    · unfold Bd at *; exact ⟨by simp only; omega, by simp⟩
    · split
      · unfold Bd at *; simp only [List.length_append, List.length_singleton]; exact ⟨by first | omega | (simp only; omega), by simp⟩
      · exact ⟨(h1 _).1, by have := (h1 a.2.2).2; simp only; omega⟩
  split
  · unfold pReceive
    split
    · unfold Bd at *; exact ⟨by simp only; omega, by simp⟩
    · split
      · unfold Bd at *; simp only [List.length_append, List.length_singleton]; exact ⟨by first | omega | (simp only; omega), by simp⟩
      · exact ⟨h2.1, by have := h2.2; simp only; omega⟩
  split
  · exact ⟨(h1 _).1, by have := (h1 a.2.2).2; simp only; omega⟩
  split
  · exact ⟨h2.1, by have := h2.2; simp only; omega⟩
  split
  · unfold pCancel
    have f1 := List.length_filter_le (fun x : W3 => x.2.1 != a.2.1) P.S
    have f2 := List.length_filter_le (fun x : W3 => x.2.1 != a.2.1) P.V
    unfold Bd at *
    split
    · exact ⟨by simp only; omega, by simp⟩
    · split <;> exact ⟨by simp only; omega, by simp⟩
  · unfold pClose
    unfold Bd at *
    split
    · exact ⟨by simp only; omega, by simp⟩
    · simp only [List.length_append, List.length_map, List.length_nil]
      exact ⟨by omega, by omega⟩

section
variable {st : St} {c q0 m0 q1 m1 wid : Nat} {bv : AV} {P : ChP}

theorem rsAV_facts (x : Rs) : (rsAV x).dis = rsAV x ∧ (rsAV x).noL = true := by
  obtain ⟨w1, w2, w3, w4, w5, w6, w7⟩ := itsAV_facts x.2.2.1
  simp only [rsAV, AV.dis, List.map_cons, List.map_nil, w2]
  exact ⟨rfl, rfl⟩

theorem creturns_calls (h : ChIs st c P q0 m0 q1 m1 wid bv) (a : Ca) (y : Rs) {n : Nat} (hb : Bd P n ∧ n < 3000) (hy : y.2.2.1.length ≤ 1000) :
    ACalls Go.Proofs.Try.prog n_f25 [.ptr c 0, caAV a, rsAV y] st (fun r st' => r = .lit (.bool (decide ((pDo P a).2 = y))) ∧ ChPost st c (pDo P a).1 q0 m0 q1 m1 wid bv st') := by
  have hd := cdo_calls h a hb
  have hl := (bd_do hb.1 a).2
  obtain ⟨w1, w2, w3, w4, w5, w6, w7⟩ := itsAV_facts y.2.2.1
  have he : ∀ st, PCalls Go.Proofs.Try.prog n_f23 [(rsAV (pDo P a).2).dis, (rsAV y).dis] st (.lit (.bool (decide ((pDo P a).2 = y)))) := fun st => by
    rw [(rsAV_facts _).1, (rsAV_facts _).1]
    exact requal_pure _ _ (by omega) (by omega) st
  generalize pDo P a = R at *
  obtain ⟨P', x⟩ := R
  simp only at hd hl he
  obtain ⟨u1, u2, u3, u4, u5, u6, u7⟩ := itsAV_facts x.2.2.1
  refine acalls_op hmix k_f25 rfl rfl fun Q hQ => ?_
  unfold aFun c_f25
  simp -implicitDefEqProofs (maxSteps := 10000000) (disch := omega) only [seqQ_normal, opsK_eq, runI_nil, runI_none, o_mv, o_boxL, boxX, ev_c, evOwn_r, putS, Sf.set, Sf.reg, mask_eq, maskR_nil, maskR_cons, getR, setR, maskL, Sf.newLoc, look, killR, drop1, regs0, dis_lit, dis_ptr, dis_agg, own1_lit, cells_agg, solid1_lit, solid_eq, kill_ptr, kill_lptr, kill_agg, List.map_cons, List.map_nil, List.length_cons, List.length_nil, List.all_cons, List.all_nil, ↓reduceIte, Nat.reduceEqDiff, Nat.reduceAdd, Bool.true_and, Bool.and_true, and_true, true_and, reduceCtorEq, Nat.zero_add, f25_1e, f25_2e, f25_2l, f25_3e, f25_4e, f25_4h, f25_4p, f25_4l, caAV, rsAV, w2, w4]
  refine draw_m ⟨[]⟩ (St.sub_nil _) ?_
  simp -implicitDefEqProofs (maxSteps := 10000000) (disch := omega) only [m_nil, m_none, m_val, mm_mv, mm_load, atM_eq, loadV, derefI, takeI_some, wp_ok, bind_ok, bind_req, ofOpt_some, req_tt, ev_r, ev_f, putS, Sf.set, Sf.reg, getR, setR, look, id, dis_ptr, dis_agg, own1_lit, List.map_cons, List.map_nil, List.length_cons, List.length_nil, List.nil_append, List.cons_append, List.drop_zero, List.take_succ_cons, List.take_zero, ↓reduceIte, Nat.reduceEqDiff, Nat.reduceAdd, Nat.reduceLeDiff, reduceCtorEq, Nat.zero_add, decide_true]
  refine call_m rfl e_f11 hd rfl ?_
  simp -implicitDefEqProofs (maxSteps := 10000000) (disch := omega) only [mm_load, hm_nil, hm_none, hm_val, loadV, derefI, takeI_some, wp_ok, bind_ok, bind_req, ofOpt_some, req_tt, ev_r, putS, Sf.set, Sf.reg, getR, setR, look, dis_agg, own1_lit, List.map_cons, List.map_nil, List.length_cons, List.length_nil, List.nil_append, List.drop_zero, List.take_succ_cons, List.take_zero, ↓reduceIte, Nat.reduceEqDiff, Nat.reduceAdd, Nat.reduceLeDiff, reduceCtorEq, Nat.zero_add, decide_true, rsAV, w2]
  rintro r st1 ⟨rfl, h1⟩
  refine ⟨St.sub_nil _, ?_⟩
  simp -implicitDefEqProofs (maxSteps := 10000000) (disch := omega) only [m_nil, m_none, m_val, mm_load, postM_eq, compM_nil, compM_f, tailM_eq, and_self, runI_none, o_call, loadV, derefI, takeI_some, wp_ok, bind_ok, bind_req, ofOpt_some, req_tt, ev_r, ev_f, putS, Sf.set, Sf.reg, getR, setR, look, id, dis_agg, own1_lit, List.map_cons, List.map_nil, List.length_cons, List.length_nil, List.nil_append, List.drop_zero, List.take_succ_cons, List.take_zero, ↓reduceIte, Nat.reduceEqDiff, Nat.reduceAdd, Nat.reduceLeDiff, Bool.true_and, true_and, reduceCtorEq, Nat.zero_add, decide_true, w2]

  refine call_p rfl e_f23 (he _) rfl ?_
  simp -implicitDefEqProofs (maxSteps := 10000000) (disch := omega) only [seqQ_normal, aC_ret, opsK_eq, retQ_ret, retI, runI_nil, runI_none, o_own, wp_ok, putS, Sf.set, Sf.reg, mask_eq, maskR_nil, maskR_cons, getR, setR, maskL, Sf.disAt, dis_lit, noL_lit, ↓reduceIte, Nat.reduceEqDiff, Bool.true_and, true_and, reduceCtorEq]
  exact hQ _ _ ⟨rfl, h1⟩
end
end Go.Fx.YtohlpjfhkejjgaaFx

