/- What the functions that the statement reaches compute: part 6. -/
import Derived.Test.YtddifejdkiemgaaFxW5
namespace Go.Fx.YtddifejdkiemgaaFx
open Go Go.Fx
attribute [local irreducible] aC runI headI loopI

set_option maxRecDepth 100000
set_option maxHeartbeats 4000000

/-- A list that is grown, and the one that is read. -/
def gAV (l : List Int) : AV := if l = [] then .lit (.slice none 0 0) else .sl true 1 (ints l)
def lAV (l : List Int) : AV := if l = [] then .lit (.slice none 0 0) else .sl false 1 (ints l)
theorem gAV_cases (l : List Int) : (gAV l = .lit (.slice none 0 0) ∧ l = []) ∨ (gAV l = .sl true 1 (ints l) ∧ l ≠ []) := by
  unfold gAV
  by_cases h : l = []
  · rw [if_pos h]; exact .inl ⟨rfl, h⟩
  · rw [if_neg h]; exact .inr ⟨rfl, h⟩

/-- What is kept around the loop. -/
structure WaJ (st0 : St) (id : Nat) (r : Loop) (rs : List (Nat × AV)) (bw o q mid g : Nat) (L : Qu) (i : Nat) (st : St) : Prop where
  lp : st.isLp id r rs
  w : st.get bw = some [gAV ((conns L).take i)]
  o : st.get o = some [.ptr q 0]
  q : QIs st q mid L g
  old : ∀ id, id < st0.boxes.length → st.boxes[id]? = st0.boxes[id]?

theorem bwaiting_calls {st0 : St} {b q mid tid n g : Nat} {cl : Bool} {L : Qu} (h : BkIs st0 b q mid tid n cl L g) (hb : L.length < 100000) : ACalls Go.Proofs.Try.prog n_f19 [.ptr b 0] st0
    (fun r st' => r = lAV (conns L) ∧ st0.boxes.length ≤ st'.boxes.length ∧ ∀ id, id < st0.boxes.length → st'.boxes[id]? = st0.boxes[id]?) := by
  have hg := h.get
  have hlt := h.lts
  have lb := hlt b (by simp)
  refine acalls_op hmix k_f19 rfl rfl fun Q hQ => ?_
  unfold aFun c_f19
  simp -implicitDefEqProofs (maxSteps := 10000000) (disch := omega) only [seqQ_normal, opsK_eq, runI_nil, runI_none, o_mv, o_call, ev_r, ev_c, ev_f, putS, Sf.set, Sf.reg, mask_eq, maskR_nil, maskR_cons, getR, setR, maskL, regs0, id, dis_lit, dis_ptr, List.map_cons, List.map_nil, ↓reduceIte, Nat.reduceEqDiff, reduceCtorEq, f19_1e, f19_2e, f19_2l, f19_3e, f19_4e, f19_5e, f19_5l]
  refine call_p rfl e_f46 (bnone_pure hg) rfl ?_
  simp -implicitDefEqProofs (maxSteps := 10000000) (disch := omega) only [seqQ_normal, aC_skip, opsK_eq, runI_nil, runI_none, putP_eq, cond_ff, o_mv, o_addr, o_load, o_nilck, o_newB, loadV, nilckV, addA, derefI, wp_ok, ev_r, setB_r, putS, Sf.set, Sf.reg, mask_eq, maskR_nil, maskR_cons, getR, setR, maskL, dis_ptr, List.drop_zero, ↓reduceIte, Nat.reduceEqDiff, Bool.true_and, true_and, reduceCtorEq, Nat.add_zero, get_push_old, f19_6e, f19_9e, f19_10e, f19_10l, f19_11e, f19_12e, f19_13e, f19_13l]
  have h1 : QIs (st0.push (.cells [.lit (.slice none 0 0)])) q mid L g := h.qi.at (push_at (hlt q (by simp))) (push_at (hlt mid (by simp)))
  have hg1 : (st0.push (.cells [.lit (.slice none 0 0)])).get b = some [.ptr q 0, .lit (.int .i64 (n : Nat)), .lit (.bool cl), .map tid] := (get_at (push_at lb)).trans hg
  simp -implicitDefEqProofs (maxSteps := 10000000) (disch := omega) only [runI_none, putP_eq, o_call, takeI_none, wp_ok, bind_ok, ofOpt_some, ev_r, ev_f, putS, Sf.set, Sf.reg, getR, setR, id, dis_ptr, List.map_cons, List.map_nil, ↓reduceIte, Nat.reduceEqDiff, reduceCtorEq, hg]
  refine call_a rfl e_f49 (qall_calls h1) rfl fun x st1 hx => ?_
  obtain ⟨o, q', mid', rfl, ho, hq, l1, l2, l3, l4, hold⟩ := hx
  simp only [len_push] at l1 l2 l3 l4 hold
  have hw : st1.get st0.boxes.length = some [.lit (.slice none 0 0)] := (get_at (hold _ (by omega))).trans (get_push ..)
  have hol : ∀ id, id < st0.boxes.length → st1.boxes[id]? = st0.boxes[id]? := fun id hid => by rw [hold id (by omega), push_at hid]
  have hoL := get_lt ho
  have hqL := hq.ltq
  have hmL := hq.ltm
  simp -implicitDefEqProofs (maxSteps := 10000000) (disch := omega) only [seqQ_normal, opsK_eq, runI_nil, putS, Sf.set, mask_eq, maskR_nil, maskR_cons, getR, setR, maskL, ↓reduceIte, Nat.reduceEqDiff, reduceCtorEq, f19_14e]
  rw [f19_15w]
  refine ⟨rfl, range_a e_f69 fun r hy => ?_⟩
  simp -implicitDefEqProofs (maxSteps := 10000000) (disch := omega) only [getR, regsB_nil, regsB_cons, keep_eq, dis_any, dis_ptr, noL_any, noL_ptr, ↓reduceIte, Nat.reduceEqDiff] at hy
  simp -implicitDefEqProofs (maxSteps := 10000000) (disch := omega) only [getR, regsB_nil, regsB_cons, keep_eq, dis_any, dis_ptr, noL_any, noL_ptr, List.nil_append, List.cons_append, ↓reduceIte, Nat.reduceEqDiff]
  obtain ⟨rs, hrs⟩ : ∃ rs, rs = [(3, AV.ptr st0.boxes.length 0), (14, AV.any)] := ⟨_, rfl⟩
  have hsr : ∀ x y : AV, setRs rs [13, 14] [x, y] = [(3, AV.ptr st0.boxes.length 0), (14, y.dis), (13, x.dis)] := fun x y => by rw [hrs]; simp -implicitDefEqProofs (maxSteps := 10000000) (disch := omega) only [setR, setRs_nil, setRs_cons, ↓reduceIte, Nat.reduceEqDiff]
  rw [← hrs] at hy ⊢
  have b3 : ∀ id, id < st1.boxes.length → (st1.push (.lp r rs)).boxes[id]? = st1.boxes[id]? := fun id hid => push_at hid
  refine ⟨_, iter_calls (o := o) (q := q') (mid := mid') (g := g) (L := L) st1.boxes.length (WaJ st0 st1.boxes.length r rs st0.boxes.length o q' mid' g L) (fun _ => False) (fun i st' hJ => ⟨hJ.o, hJ.q⟩) (fun i hi st' hJ => ?_) ?_, fun v st' hQc => ?_⟩
  · refine round_a hy hJ.lp rfl ?_
    have hne : ∀ {b : Nat} {cs : List AV}, st'.get b = some cs → b ≠ st1.boxes.length := fun {b cs} hb e => by
      subst e
      have h1 := hJ.lp
      unfold St.isLp at h1
      unfold St.get at hb
      rw [h1] at hb; cases hb
    have hset : ∀ (r' : Loop) (b : Nat), b ≠ st1.boxes.length → (st'.setL st1.boxes.length r' rs).get b = st'.get b := fun r' b hb => get_at (setL_box hb)
    have gw := (hset (lpBusy r) _ (hne hJ.w)).trans hJ.w
    have nw := hne hJ.w
    have no := hne hJ.o
    have nq := hne hJ.q.get
    have nm : mid' ≠ st1.boxes.length := by omega
    have hlen : (conns L).length = L.length := by simp [conns]
    have hx : L[i].2 = (conns L)[i]'(by omega) := by simp [conns]
    have htk : (conns L).take (i + 1) = (conns L).take i ++ [L[i].2] := by rw [List.take_succ_eq_append_getElem (by omega), hx]
    have htl : ((conns L).take i).length = i := by simp; omega
    have hlp2 : (st'.setL st1.boxes.length (lpBusy r) rs).isLp st1.boxes.length (lpBusy r) rs := setL_isLp hJ.lp
    have gw2 := get_lt gw
    have hfin : ∀ X, X = gAV ((conns L).take (i + 1)) → ((st'.setL st1.boxes.length (lpBusy r) rs).set st0.boxes.length [X]).isLp st1.boxes.length (lpBusy r) rs ∧ WaJ st0 st1.boxes.length r rs st0.boxes.length o q' mid' g L (i + 1) (((st'.setL st1.boxes.length (lpBusy r) rs).set st0.boxes.length [X]).setL st1.boxes.length r rs) := fun X hX => by
      have hl3 : ((st'.setL st1.boxes.length (lpBusy r) rs).set st0.boxes.length [X]).isLp st1.boxes.length (lpBusy r) rs := isLp_at hlp2 (set_at (fun e => nw e.symm))
      have hb : ∀ b, b ≠ st1.boxes.length → b ≠ st0.boxes.length → (((st'.setL st1.boxes.length (lpBusy r) rs).set st0.boxes.length [X]).setL st1.boxes.length r rs).boxes[b]? = st'.boxes[b]? := fun b h1 h2 => by
        rw [setL_box h1, set_at h2, setL_box h1]
      refine ⟨hl3, setL_isLp hl3, ?_, ?_, ?_, fun id hid => ?_⟩
      · rw [get_at (setL_box nw), ← hX]; exact get_set gw2
      · rw [get_at (hb _ no (by omega))]; exact hJ.o
      · exact hJ.q.at (hb _ nq (by omega)) (hb _ nm (by omega))
      · rw [hb _ (by omega) (by omega)]; exact hJ.old id hid
    rw [hsr]
    have hnz : ∀ l : List Int, ∀ x : Int, gAV (l ++ [x]) = .sl true 1 (ints l ++ [.lit (.int .i64 x)]) := fun l x => by unfold gAV; rw [if_neg (by simp), ints_app]; rfl
    rcases gAV_cases ((conns L).take i) with ⟨e, hz⟩ | ⟨e, hz⟩
    · rw [e] at gw
      rw [hz] at htk
      simp -implicitDefEqProofs (maxSteps := 10000000) (disch := omega) only [Bool.or_false, and_self, blockQ_normal, opsK_eq, runI_nil, runI_none, putP_eq, o_mv, o_bsl, o_loadOwn, o_own, o_appS, o_store, loadV, bslV, loadOwnX, appSX, boxX, writeX, List.isEmpty_cons, List.reduceReplicate, derefI, takeI_none, appNewI, appOwnI, srcA, fillA, wp_ok, bind_ok, ofOpt_some, req_tt, ev_r, evOwn_r, disOp_r, putS, Sf.set, Sf.reg, mask_eq, maskR_nil, maskR_cons, getR, setR, maskL, Sf.disAt, assignQ_normal, endI_normal, dis_lit, dis_sl, cells_lit, cells_sl, solid1_lit, solid1_sl, solid_eq, List.map_cons, List.map_nil, List.length_cons, List.length_nil, List.getElem?_cons_zero, List.all_cons, List.all_nil, List.drop_zero, List.set_cons_zero, ↓reduceIte, Nat.reduceEqDiff, Nat.reduceLT, Nat.reduceLeDiff, Bool.true_and, Bool.and_true, and_true, true_and, reduceCtorEq, Nat.zero_add, or_false, Bool.false_eq_true, room_of, get_set, setAt_nil, setAt_cons, set_set, f19_16e, f19_16l, f19_17e, f19_18e, f19_18l, gw]
      exact ⟨hJ.lp, hfin _ (by first | (rw [htk, hnz]; done) | (rw [htk, hnz]; rfl))⟩
    · rw [e] at gw
      have hil := ints_len ((conns L).take i)
      simp -implicitDefEqProofs (maxSteps := 10000000) (disch := omega) only [Bool.or_false, and_self, blockQ_normal, opsK_eq, runI_nil, runI_none, putP_eq, o_mv, o_bsl, o_loadOwn, o_own, o_appS, o_store, loadV, bslV, loadOwnX, appSX, boxX, writeX, List.reduceReplicate, derefI, takeI_none, appNewI, appOwnI, srcA, fillA, wp_ok, wp_fail, bind_ok, ofOpt_some, req_tt, ev_r, evOwn_r, disOp_r, putS, Sf.set, Sf.reg, mask_eq, maskR_nil, maskR_cons, getR, setR, maskL, Sf.disAt, assignQ_normal, endI_normal, dis_lit, dis_sl, cells_lit, cells_sl, solid1_lit, solid1_sl, solid_eq, List.map_cons, List.map_nil, List.length_cons, List.length_nil, List.getElem?_cons_zero, List.all_cons, List.all_nil, List.drop_zero, List.set_cons_zero, ↓reduceIte, Nat.reduceEqDiff, Nat.reduceLT, Nat.reduceLeDiff, Bool.true_and, Bool.and_true, and_true, true_and, reduceCtorEq, Nat.zero_add, or_false, Bool.false_eq_true, room_of, get_set, setAt_nil, setAt_cons, set_set, f19_16e, f19_16l, f19_17e, f19_18e, f19_18l, gw]
      exact ⟨hJ.lp, hfin _ (by first | (rw [htk, hnz]; done) | (rw [htk, hnz]; rfl))⟩
  · refine ⟨push_isLp .., ?_, ?_, ?_, fun id hid => ?_⟩
    · rw [get_at (b3 _ (by omega))]; exact hw
    · rw [get_at (b3 _ (by omega))]; exact ho
    · exact hq.at (b3 _ (by omega)) (b3 _ (by omega))
    · rw [b3 _ (by omega)]; exact hol id hid
  · rcases hQc with hJ | hf
    · left
      refine ⟨hJ.lp, ?_⟩
      have hne : ∀ {b : Nat} {cs : List AV}, st'.get b = some cs → (st'.drop st1.boxes.length).get b = some cs := fun {b cs} hb => (get_at (drop_box_ne (fun e => by
        subst e
        have h1 := hJ.lp
        unfold St.isLp at h1
        unfold St.get at hb
        rw [h1] at hb; cases hb))).trans hb
      have gw := hne hJ.w
      have hll : (conns L).take L.length = conns L := List.take_of_length_le (by simp [conns])
      rw [hll] at gw
      have hold2 : ∀ id, id < st0.boxes.length → (st'.drop st1.boxes.length).boxes[id]? = st0.boxes[id]? := fun id hid => by rw [drop_box_ne (by omega)]; exact hJ.old id hid
      have hle : st0.boxes.length ≤ (st'.drop st1.boxes.length).boxes.length := by
        have := get_lt gw; omega
      have hfin : ∀ X, X = lAV (conns L) → Q X (st'.drop st1.boxes.length) := fun X hX => hQ _ _ ⟨hX, hle, hold2⟩
      rcases gAV_cases (conns L) with ⟨e, hz⟩ | ⟨e, hz⟩
      · rw [e] at gw
        simp -implicitDefEqProofs (maxSteps := 10000000) (disch := omega) only [seqQ_normal, blockQ_normal, aC_ret, opsK_eq, retQ_ret, retI, runI_nil, runI_none, putP_eq, o_load, o_own, loadV, derefI, takeI_none, wp_ok, bind_ok, ofOpt_some, ev_r, putS, Sf.set, Sf.reg, mask_eq, maskR_nil, maskR_cons, getR, setR, maskL, Sf.disAt, dis_lit, noL_lit, List.drop_zero, ↓reduceIte, Nat.reduceEqDiff, Bool.true_and, true_and, f19_19e, f19_20e, f19_20l, gw]
        exact hfin _ (by unfold lAV; rw [if_pos hz])
      · rw [e] at gw
        simp -implicitDefEqProofs (maxSteps := 10000000) (disch := omega) only [seqQ_normal, blockQ_normal, aC_ret, opsK_eq, retQ_ret, retI, runI_nil, runI_none, putP_eq, o_load, o_own, loadV, derefI, takeI_none, wp_ok, bind_ok, ofOpt_some, ev_r, putS, Sf.set, Sf.reg, mask_eq, maskR_nil, maskR_cons, getR, setR, maskL, Sf.disAt, dis_sl, noL_sl, List.drop_zero, ↓reduceIte, Nat.reduceEqDiff, Bool.true_and, true_and, f19_19e, f19_20e, f19_20l, gw]
        exact hfin _ (by unfold lAV; rw [if_neg hz])
    · exact hf.elim
end Go.Fx.YtddifejdkiemgaaFx

