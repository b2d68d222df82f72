/- What the functions that the statement reaches compute: part 16. -/
import Derived.Test.YtddifejdkiemgaaFxW15
namespace Go.Fx.YtddifejdkiemgaaFx
open Go Go.Fx
attribute [local irreducible] aC runI headI loopI

set_option maxRecDepth 100000
set_option maxHeartbeats 8000000

theorem bPush_new {n : Nat} {L : Qu} {g : Nat} {c : Int} (h0 : 0 ≤ c) (h1 : c ∉ conns L) (h2 : L.length < n) : bPush n false L g c = (L ++ [(g + 1, c)], g + 1, 0) := by
  unfold bPush
  rw [if_neg (by omega), if_neg (by simp), if_neg h1, if_neg (by omega)]

theorem bcopy_calls {st0 : St} {b q mid tid n g : Nat} {cl : Bool} {L : Qu} (h : BkIs st0 b q mid tid n cl L g) (hn : 1 ≤ n ∧ n ≤ 128) (hcl : cl = true → L = []) : ACalls Go.Proofs.Try.prog n_f28 [.ptr b 0] st0
    (fun r st' => ∃ c q' mid' tid' L' g', r = .ptr c 0 ∧ BkIs st' c q' mid' tid' n cl L' g' ∧ conns L' = conns L ∧ g' ≤ n ∧ st0.boxes.length ≤ c ∧ st0.boxes.length ≤ q' ∧ st0.boxes.length ≤ mid' ∧ st0.boxes.length ≤ tid' ∧ st0.boxes.length ≤ st'.boxes.length ∧ ∀ i, i < st0.boxes.length → st'.boxes[i]? = st0.boxes[i]?) := by
  have hg := h.get
  have hlt := h.lts
  have hlen := h.len
  have hcl2 : (conns L).length = L.length := by simp [conns]
  refine acalls_op hmix k_f28 rfl rfl fun Q hQ => ?_
  unfold aFun c_f28
  simp -implicitDefEqProofs (maxSteps := 10000000) (disch := omega) only [seqQ_normal, opsK_eq, runI_nil, runI_none, o_mv, o_call, ev_r, ev_c, ev_f, putS, Sf.set, Sf.reg, mask_eq, maskR_nil, maskR_cons, getR, setR, maskL, regs0, id, dis_lit, dis_ptr, List.map_cons, List.map_nil, ↓reduceIte, reduceCtorEq, f28_1e, f28_2e, f28_2l, f28_3e, f28_4e, f28_5e, f28_5l]
  refine call_p rfl e_f46 (bnone_pure hg) rfl ?_
  simp -implicitDefEqProofs (maxSteps := 10000000) (disch := omega) only [seqQ_normal, aC_skip, opsK_eq, runI_nil, runI_none, putP_eq, cond_ff, o_mv, o_addr, o_load, o_nilck, o_call, loadV, nilckV, addA, derefI, takeI_none, wp_ok, bind_ok, ofOpt_some, ev_r, ev_f, setB_r, putS, Sf.set, Sf.reg, mask_eq, maskR_nil, maskR_cons, getR, setR, maskL, id, dis_lit, dis_ptr, List.map_cons, List.map_nil, List.drop_zero, List.drop_succ_cons, ↓reduceIte, Nat.reduceEqDiff, reduceCtorEq, Nat.zero_add, f28_6e, f28_9e, f28_10e, f28_10l, hg]
  refine call_a rfl e_f13 (bnew_calls hn st0) rfl fun r st1 hr => ?_
  obtain ⟨rfl, h1, hl1, hk1⟩ := hr
  have hb1 : BkIs st1 b q mid tid n cl L g := h.at fun i hi => hk1 i (hlt i hi)
  simp -implicitDefEqProofs (maxSteps := 10000000) (disch := omega) only [seqQ_normal, opsK_eq, runI_nil, runI_none, putP_eq, o_mv, o_ext, o_own, o_call, extV, wp_ok, bind_ok, ofOpt_some, ev_r, ev_f, putS, Sf.set, Sf.reg, mask_eq, maskR_nil, maskR_cons, getR, setR, maskL, Sf.disAt, id, dis_lit, dis_ptr, dis_tup, own2_lit, own2_ptr, List.map_cons, List.map_nil, List.getElem?_cons_zero, List.getElem?_cons_succ, ↓reduceIte, Nat.reduceEqDiff, reduceCtorEq, f28_11e, f28_12e, f28_13e, f28_13l]
  refine call_a rfl e_f19 (bwaiting_calls hb1 (by omega)) rfl fun r st2 hr => ?_
  obtain ⟨rfl, hl2, hk2⟩ := hr
  have h2 := h1.at (st' := st2) fun i hi => hk2 i (h1.lts i hi)
  have hk : ∀ i, i < st0.boxes.length → st2.boxes[i]? = st0.boxes[i]? := fun i hi => (hk2 i (by omega)).trans (hk1 i hi)
  have hl : st0.boxes.length ≤ st2.boxes.length := by omega
  clear hk2 hl2 hk1 hb1 h1 hl1
  obtain ⟨c, hc⟩ : ∃ c, c = st0.boxes.length + 3 := ⟨_, rfl⟩
  obtain ⟨q', hq'⟩ : ∃ q', q' = st0.boxes.length + 1 := ⟨_, rfl⟩
  obtain ⟨tid', ht'⟩ : ∃ tid', tid' = st0.boxes.length + 2 := ⟨_, rfl⟩
  obtain ⟨mid', hm'⟩ : ∃ mid', mid' = st0.boxes.length := ⟨_, rfl⟩
  have h3 : BkIs st2 c q' mid' tid' n false [] 0 := by rw [hc, hq', ht', hm']; exact h2
  rw [← hc]
  have hfin : ∀ st L', BkIs st c q' mid' tid' n false L' L.length → conns L' = conns L → st0.boxes.length ≤ st.boxes.length → (∀ i, i < st0.boxes.length → st.boxes[i]? = st0.boxes[i]?) → aC Go.Proofs.Try.prog id false f28_26 ⟨[(0, .ptr b 0), (3, .ptr c 0)], []⟩ st (retQ [RI.tmp 2] Q) := by
    intro st L' a1 a2 a3 a4
    have gb : st.get b = _ := (get_at (a4 b (hlt b (by simp)))).trans hg
    have gc := a1.get
    have gcl := get_lt gc
    simp -implicitDefEqProofs (maxSteps := 10000000) (disch := omega) only [seqQ_normal, aC_ret, opsK_eq, retQ_ret, retI, runI_nil, runI_none, putP_eq, o_mv, o_addr, o_load, o_nilck, o_own, o_store, loadV, nilckV, boxX, writeX, addA, derefI, takeI_none, wp_ok, bind_ok, ofOpt_some, ev_r, evOwn_r, disOp_r, putS, Sf.set, Sf.reg, mask_eq, maskR_nil, maskR_cons, getR, setR, maskL, Sf.disAt, dis_lit, dis_ptr, cells_lit, solid1_lit, solid_eq, noL_ptr, List.length_cons, List.length_nil, List.all_cons, List.all_nil, List.drop_zero, List.drop_succ_cons, List.set_cons_zero, List.set_cons_succ, ↓reduceIte, Nat.reduceEqDiff, Nat.reduceAdd, Nat.reduceLeDiff, Bool.true_and, Bool.and_true, and_true, true_and, reduceCtorEq, Nat.zero_add, setAt_nil, setAt_cons, f28_26e, f28_27e, f28_27l, f28_28e, f28_29e, f28_29l, gb, gc]
    have hset : ∀ i, i ≠ c → (st.set c [.ptr q' 0, .lit (.int .i64 (n : Nat)), .lit (.bool cl), .map tid']).boxes[i]? = st.boxes[i]? := fun i hi => set_at hi
    obtain ⟨i1, i2, i3, i4, i5⟩ := a1.ids
    obtain ⟨m, hm, hml⟩ := a1.ti
    refine hQ _ _ ⟨c, q', mid', tid', L', L.length, rfl, ⟨get_set gcl, a1.qi.at (hset _ (by omega)) (hset _ (by omega)), ⟨m, hm.at (hset _ (by omega)), hml⟩, a1.nd, a1.pos, a1.len, a1.ids⟩, a2, hlen, by omega, by omega, by omega, by omega, by rw [len_set]; exact a3, fun j hj => ?_⟩
    rw [hset j (by omega)]
    exact a4 j hj
  have hil := ints_len (conns L)
  unfold lAV
  by_cases hz : conns L = []
  · rw [if_pos hz]
    have hL0 : L.length = 0 := by rw [← hcl2, hz]; rfl
    simp -implicitDefEqProofs (maxSteps := 10000000) (disch := omega) only [seqQ_normal, opsK_eq, runI_nil, runI_none, putP_eq, o_mv, o_len, lenI, wp_ok, ev_r, ev_c, putS, Sf.set, Sf.reg, mask_eq, maskR_nil, maskR_cons, getR, setR, maskL, dis_lit, ↓reduceIte, Nat.reduceEqDiff, reduceCtorEq, f28_14e]
    rw [f28_15w]
    refine loop_rounds 1 ?_
    simp -implicitDefEqProofs (maxSteps := 10000000) (disch := omega) only [seqQ_normal, seqQ_exit, blockQ_exit, aC_exit, opsK_eq, runI_nil, runI_none, putP_eq, cond_ff, unrQ_exit, o_bin, n_lss, wp_ok, ev_r, setB_r, putS, Sf.set, Sf.reg, mask_eq, maskR_nil, maskR_cons, getR, setR, maskL, ↓reduceIte, Nat.reduceEqDiff, Int.reduceLT, reduceCtorEq, decide_false, f28_16e, f28_17e, f28_17l, f28_18e, f28_19e, loopN_succ]
    exact hfin st2 [] (by rw [hL0]; exact h3) hz.symm hl hk
  · rw [if_neg hz]
    simp -implicitDefEqProofs (maxSteps := 10000000) (disch := omega) only [seqQ_normal, opsK_eq, runI_nil, runI_none, putP_eq, o_mv, o_len, lenI, wp_ok, ev_r, ev_c, putS, Sf.set, Sf.reg, mask_eq, maskR_nil, maskR_cons, getR, setR, maskL, dis_lit, ↓reduceIte, Nat.reduceEqDiff, reduceCtorEq, f28_14e, hil]
    rw [f28_15w]
    refine loop_op (A := Nat × Qu × St) (fun a => (conns L).length - a.1) (fun a => ⟨[(0, .ptr b 0), (3, .ptr c 0), (18, .sl false 1 (ints (conns L))), (19, .lit (.int .i64 ((conns L).length : Nat))), (20, .lit (.int .i64 (a.1 : Nat)))], []⟩) (fun a => a.2.2)
      (fun a => a.1 ≤ (conns L).length ∧ BkIs a.2.2 c q' mid' tid' n false a.2.1 a.1 ∧ conns a.2.1 = (conns L).take a.1 ∧ st0.boxes.length ≤ a.2.2.boxes.length ∧ ∀ i, i < st0.boxes.length → a.2.2.boxes[i]? = st0.boxes[i]?) (0, [], st2) ⟨by simp, h3, by simp [conns], hl, hk⟩ (Sf.le_refl _) rfl ?_
    rintro ⟨i, L', st⟩ ⟨a1, a2, a3, a4, a5⟩ K hK hKe hKr
    simp only at a1 a2 a3 a4 a5
    by_cases hi : i < (conns L).length
    · have e1 : (ints (conns L)).getD i .any = .lit (.int .i64 (conns L)[i]) := by simp [ints, List.getD, hi]
      have hx0 := h.pos _ (List.getElem_mem hi)
      have hxn : (conns L)[i] ∉ conns L' := by
        rw [a3]
        intro hm
        have hnd := h.nd
        rw [← List.take_append_drop i (conns L), List.drop_eq_getElem_cons hi] at hnd
        exact (List.nodup_append.1 hnd).2.2 _ hm _ List.mem_cons_self rfl
      have hL'len : L'.length = i := by
        have h9 : (conns L').length = L'.length := by simp [conns]
        rw [← h9, a3, List.length_take]; omega
      have htk : (conns L).take (i + 1) = (conns L).take i ++ [(conns L)[i]] := List.take_succ_eq_append_getElem hi
      generalize (conns L)[i] = x at *
      have hp := bpush_calls a2 (by omega) (by omega) x
      rw [bPush_new hx0 hxn (by omega)] at hp
      simp -implicitDefEqProofs (maxSteps := 10000000) (disch := omega) only [seqQ_normal, aC_skip, opsK_eq, runI_nil, runI_none, putP_eq, o_mv, o_bin, o_ixS, o_load, o_own, o_call, ixSV, loadV, ixA, derefI, takeI_none, n_lss, wp_ok, bind_ok, bind_req, ev_r, ev_f, setB_r, putS, Sf.set, Sf.reg, mask_eq, maskR_nil, maskR_cons, getR, setR, maskL, Sf.disAt, id, dis_lit, dis_ptr, cells_lit, List.map_cons, List.map_nil, Int.toNat_natCast, ↓reduceIte, Nat.reduceEqDiff, reduceCtorEq, req_dec, cond_yes, and_pre, f28_16e, f28_17e, f28_17l, f28_18e, f28_19e, f28_20e, f28_21e, f28_22e, f28_23e, f28_23l, f28_24e, f28_24l, e1, hil]
      refine call_a rfl e_f16 hp rfl fun r st3 hr => ?_
      obtain ⟨rfl, a6, a7⟩ := hr
      simp -implicitDefEqProofs (maxSteps := 10000000) (disch := omega) only [seqQ_normal, blockQ_normal, opsK_eq, runI_nil, runI_none, putP_eq, o_mv, o_bin, n_add, wp_ok, ev_r, ev_c, putS, Sf.set, Sf.reg, mask_eq, maskR_nil, maskR_cons, getR, setR, maskL, dis_lit, ↓reduceIte, Nat.reduceEqDiff, reduceCtorEq, IntWalk.i64_in, up_addL, f28_25e, f28_25l]
      refine hK (i + 1, L' ++ [(i + 1, x)], st3) _ ⟨by simp only; omega, a6, ?_, Nat.le_trans a4 a7.1, fun j hj => ?_⟩ (by simp only; omega) (Sf.le_refl _)
      · simp only
        rw [conns_app, a3, htk]; rfl
      · simp only
        rw [a7.2 j (by omega) (by simp only [List.mem_cons, List.not_mem_nil, or_false]; omega)]
        exact a5 j hj
    · have hiL : i = L.length := by omega
      subst hiL
      simp -implicitDefEqProofs (maxSteps := 10000000) (disch := omega) only [seqQ_normal, seqQ_exit, aC_exit, opsK_eq, runI_nil, runI_none, putP_eq, o_bin, n_lss, wp_ok, ev_r, setB_r, putS, Sf.set, Sf.reg, mask_eq, maskR_nil, maskR_cons, getR, setR, maskL, ↓reduceIte, Nat.reduceEqDiff, reduceCtorEq, cond_no, f28_16e, f28_17e, f28_17l, f28_18e, f28_19e]
      refine hKe _ _ _ ?_
      simp -implicitDefEqProofs (maxSteps := 10000000) (disch := omega) only [seqQ_normal, blockQ_exit, ↓reduceIte]
      exact hfin st L' a2 (by rw [a3, ← hcl2, List.take_length]) a4 a5
end Go.Fx.YtddifejdkiemgaaFx

