/- What the functions that the statement reaches compute: part 4. -/
import Derived.Test.YtenijlfcfmhmkaaFxW3
namespace Go.Fx.YtenijlfcfmhmkaaFx
open Go Go.Fx
attribute [local irreducible] aC runI headI loopI

set_option maxRecDepth 100000
set_option maxHeartbeats 4000000

/-- A value with its ticket, as the reference has it. -/
def vAV (x : Nat × Int) : AV := .agg [.lit (.int .i64 x.2), .lit (.int .u64 (x.1 : Nat))]
def vsAV (L : Qu) : AV := .sl false 2 (L.map vAV)

theorem n_v_neq (a b c d : Int) : binI (.agg (.field 0 1 .int (.field 1 1 .int .tt))) .neq (.agg [.lit (.int .i64 a), .lit (.int .u64 b)]) (.agg [.lit (.int .i64 c), .lit (.int .u64 d)]) = .ok (.lit (.bool (decide ((a, b) ≠ (c, d))))) := by
  show Res.ok (AV.lit (.bool _)) = _
  have : (!((a == c) && ((b == d) && true))) = decide ((a, b) ≠ (c, d)) := Bool.eq_iff_iff.2 (by simp [Prod.ext_iff])
  rw [← this]

theorem qall_calls {q mid g : Nat} {L : Qu} {st : St} (h : QIs st q mid L g) : ACalls Go.Proofs.Try.prog n_f30 [.ptr q 0] st
    (fun r st' => ∃ o q' mid', r = .fn (.func n_f55) [] [.ptr o 0] ∧ st'.get o = some [.ptr q' 0] ∧ QIs st' q' mid' L g ∧ st.boxes.length ≤ o ∧ st.boxes.length ≤ q' ∧ st.boxes.length ≤ mid' ∧ st.boxes.length ≤ st'.boxes.length ∧ ∀ id, id < st.boxes.length → st'.boxes[id]? = st.boxes[id]?) := by
  refine acalls_op hmix k_f30 rfl rfl fun Q hQ => ?_
  unfold aFun c_f30
  simp -implicitDefEqProofs (maxSteps := 10000000) (disch := omega) only [seqQ_normal, opsK_eq, runI_nil, runI_none, o_mv, o_call, ev_r, ev_c, ev_f, putS, Sf.set, Sf.reg, mask_eq, maskR_nil, maskR_cons, getR, setR, maskL, regs0, id, dis_lit, dis_ptr, List.map_cons, List.map_nil, ↓reduceIte, reduceCtorEq, f30_1e, f30_2e, f30_2l, f30_3e, f30_4e, f30_4l]
  refine call_a rfl e_f37 (qcopy_calls h) rfl fun r st1 hr => ?_
  obtain ⟨rfl, hq, hlen, hold⟩ := hr
  simp -implicitDefEqProofs (maxSteps := 10000000) (disch := omega) only [seqQ_normal, aC_ret, opsK_eq, retQ_ret, retI, runI_nil, runI_none, putP_eq, o_mkfn, o_own, o_newB, o_store, mkfnV, boxX, writeX, wp_ok, ofOpt_some, ev_r, evOwn_r, disOp_r, putS, Sf.set, Sf.reg, mask_eq, maskR_nil, maskR_cons, getR, setR, maskL, Sf.disAt, id, dis_ptr, dis_fn, cells_ptr, solid1_ptr, solid_eq, noL_fn, List.map_cons, List.map_nil, List.length_cons, List.length_nil, List.all_cons, List.all_nil, List.nil_append, List.set_cons_zero, ↓reduceIte, Nat.reduceEqDiff, Nat.reduceLeDiff, Bool.true_and, Bool.and_true, and_true, true_and, reduceCtorEq, Nat.zero_add, get_push, set_push, setAt_nil, setAt_cons, f30_5e, f30_6e, f30_6l]
  refine hQ _ _ ⟨st1.boxes.length, _, _, rfl, get_push .., hq.at (push_at (by omega)) (push_at (by omega)), by omega, by omega, by omega, by rw [len_push]; omega, fun id hid => ?_⟩
  rw [push_at (by omega), hold id hid]

/-- What is kept around the loop. -/
structure AllJ (st0 : St) (id : Nat) (r : Loop) (rs : List (Nat × AV)) (bw bi br o q mid g : Nat) (L : Qu) (i : Nat) (st : St) : Prop where
  lp : st.isLp id r rs
  w : st.get bw = some [vsAV L]
  i : st.get bi = some [.lit (.int .i64 (i : Nat))]
  r : ∃ x, st.get br = some [x]
  o : st.get o = some [.ptr q 0]
  q : QIs st q mid L g
  old : ∀ id, id < st0.boxes.length → st.boxes[id]? = st0.boxes[id]?

theorem all_true {q mid g : Nat} {L : Qu} {st0 : St} (h : QIs st0 q mid L g) (hb : L.length < 1000000) : ACalls Go.Proofs.Try.prog n_f29 [.ptr q 0, vsAV L] st0
    (fun r st' => r = .lit (.bool true) ∧ st0.boxes.length ≤ st'.boxes.length ∧ ∀ id, id < st0.boxes.length → st'.boxes[id]? = st0.boxes[id]?) := by
  refine acalls_op hmix k_f29 rfl rfl fun Q hQ => ?_
  unfold aFun c_f29
  simp -implicitDefEqProofs (maxSteps := 10000000) (disch := omega) only [seqQ_normal, opsK_eq, runI_nil, runI_none, o_mv, o_newB, o_boxB, o_call, boxX, ev_r, ev_f, evOwn_r, disOp_r, putS, Sf.set, Sf.reg, mask_eq, maskR_nil, maskR_cons, getR, setR, maskL, Sf.disAt, regs0, id, dis_ptr, dis_sl, cells_sl, solid1_sl, solid_eq, List.map_cons, List.map_nil, List.length_cons, List.length_nil, List.all_cons, List.all_nil, ↓reduceIte, Nat.reduceEqDiff, Bool.true_and, Bool.and_true, and_true, true_and, reduceCtorEq, Nat.zero_add, len_push, f29_1e, f29_2e, f29_2l, f29_3e, f29_4e, f29_4l, vsAV]
  have h1 : QIs ((st0.push (.cells [.sl false 2 (L.map vAV)])).push (.cells [.lit (.bool false)])) q mid L g := h.at (by rw [push_at (by rw [len_push]; have := h.ltq; omega), push_at h.ltq]) (by rw [push_at (by rw [len_push]; have := h.ltm; omega), push_at h.ltm])
  refine call_a rfl e_f30 (qall_calls h1) rfl fun x st1 hx => ?_
  obtain ⟨o, q', mid', rfl, ho, hq, l1, l2, l3, l4, hold⟩ := hx
  simp only [len_push] at l1 l2 l3 l4 hold
  have hw : st1.get st0.boxes.length = some [vsAV L] := (get_at (hold _ (by omega))).trans (by
    rw [get_push_old (by rw [len_push]; omega)]; exact get_push ..)
  have hr : st1.get (st0.boxes.length + 1) = some [.lit (.bool false)] := (get_at (hold _ (by omega))).trans (by
    have := get_push (st0.push (.cells [.sl false 2 (L.map vAV)])) [.lit (.bool false)]
    rw [len_push] at this; exact this)
  have hol : ∀ id, id < st0.boxes.length → st1.boxes[id]? = st0.boxes[id]? := fun id hid => by rw [hold id (by omega), push_at (by rw [len_push]; omega), push_at hid]
  have hoL := get_lt ho
  have hqL := hq.ltq
  have hmL := hq.ltm
  simp -implicitDefEqProofs (maxSteps := 10000000) (disch := omega) only [seqQ_normal, aC_skip, opsK_eq, runI_nil, runI_none, putP_eq, cond_ff, o_mv, o_bin, o_own, o_newB, o_store, boxX, writeX, n_nileq, eqNilI, isNilI, wp_ok, bind_ok, ofOpt_some, ev_r, ev_c, evOwn_c, disOp_c, setB_r, putS, Sf.set, Sf.reg, mask_eq, maskR_nil, maskR_cons, getR, setR, maskL, Sf.disAt, dis_lit, dis_fn, cells_lit, solid1_lit, solid_eq, List.length_cons, List.length_nil, List.all_cons, List.all_nil, List.set_cons_zero, ↓reduceIte, Nat.reduceEqDiff, Nat.reduceLeDiff, Bool.true_and, Bool.and_true, and_true, true_and, reduceCtorEq, Nat.zero_add, get_push, set_push, setAt_nil, setAt_cons, f29_5e, f29_6e, f29_7e, f29_7l, f29_8e, f29_11e, f29_12e, f29_12l, f29_13e, f29_14e, f29_15e, f29_15l, f29_16e]
  rw [f29_17w]
  refine ⟨rfl, range_a e_f55 fun r hy => ?_⟩
  generalize hst2 : st1.push (.cells [.lit (.int .i64 0)]) = st2 at hy ⊢
  have e2 : st2.boxes.length = st1.boxes.length + 1 := by rw [← hst2, len_push]
  have b2 : ∀ id, id < st1.boxes.length → st2.boxes[id]? = st1.boxes[id]? := fun id hid => by rw [← hst2]; exact push_at hid
  have i2 : st2.get st1.boxes.length = some [.lit (.int .i64 0)] := by rw [← hst2]; exact get_push ..
  simp -implicitDefEqProofs (maxSteps := 10000000) (disch := omega) only [getR, regsB_nil, regsB_cons, keep_eq, dis_any, dis_ptr, noL_any, noL_ptr, ↓reduceIte, Nat.reduceEqDiff] at hy
  simp -implicitDefEqProofs (maxSteps := 10000000) (disch := omega) only [getR, regsB_nil, regsB_cons, keep_eq, dis_any, dis_ptr, noL_any, noL_ptr, List.nil_append, List.cons_append, ↓reduceIte, Nat.reduceEqDiff]
  obtain ⟨rs, hrs⟩ : ∃ rs, rs = [(3, AV.ptr st0.boxes.length 0), (4, AV.ptr (st0.boxes.length + 1) 0), (6, AV.ptr st1.boxes.length 0), (14, AV.any), (15, AV.any)] := ⟨_, rfl⟩
  have hsr : ∀ x y : AV, setRs rs [14, 15] [x, y] = [(3, AV.ptr st0.boxes.length 0), (4, AV.ptr (st0.boxes.length + 1) 0), (6, AV.ptr st1.boxes.length 0), (14, x.dis), (15, y.dis)] := fun x y => by rw [hrs]; simp -implicitDefEqProofs (maxSteps := 10000000) (disch := omega) only [setR, setRs_nil, setRs_cons, ↓reduceIte, Nat.reduceEqDiff]
  rw [← hrs] at hy ⊢
  have b3 : ∀ id, id < st2.boxes.length → (st2.push (.lp r rs)).boxes[id]? = st2.boxes[id]? := fun id hid => push_at hid
  refine ⟨_, iter_calls (o := o) (q := q') (mid := mid') (g := g) (L := L) st2.boxes.length (AllJ st0 st2.boxes.length r rs st0.boxes.length st1.boxes.length (st0.boxes.length + 1) o q' mid' g L) (fun _ => False) (fun i st' hJ => ⟨hJ.o, hJ.q⟩) (fun i hi st' hJ => ?_) ?_, fun v st' hQc => ?_⟩
  · refine round_a hy hJ.lp rfl ?_
    have hne : ∀ {b : Nat} {cs : List AV}, st'.get b = some cs → b ≠ st2.boxes.length := fun {b cs} hb e => by
      subst e
      have h1 := hJ.lp
      unfold St.isLp at h1
      unfold St.get at hb
      rw [h1] at hb; cases hb
    obtain ⟨xr, hxr⟩ := hJ.r
    have hset : ∀ (r' : Loop) (b : Nat), b ≠ st2.boxes.length → (st'.setL st2.boxes.length r' rs).get b = st'.get b := fun r' b hb => get_at (setL_box hb)
    have gw := (hset (lpBusy r) _ (hne hJ.w)).trans hJ.w
    have gi := (hset (lpBusy r) _ (hne hJ.i)).trans hJ.i
    unfold vsAV at gw
    have hlen := hJ.lp
    have e1 : (L.map vAV).getD i .any = vAV L[i] := by simp [List.getD, hi]
    rw [hsr]
    simp -implicitDefEqProofs (maxSteps := 10000000) (disch := omega) only [and_self, seqQ_normal, opsK_eq, runI_nil, runI_none, runI_some, AI.dst, putP_eq, guard_ff, o_mv, o_pick, o_bin, o_ixS, o_load, o_bst, o_len, o_own, pick_ff, ixSV, loadV, bstV, ixA, lenI, derefI, takeI_none, takeI_some, buildA, n_geq, wp_ok, bind_ok, bind_req, ofOpt_some, req_tt, ev_r, ev_c, putS, Sf.set, Sf.reg, mask_eq, maskR_nil, maskR_cons, getR, setR, maskL, Sf.disAt, assignQ_normal, dis_lit, dis_sl, dis_agg, own1_lit, cells_lit, cells_agg, solid1_lit, solid_eq, List.map_cons, List.map_nil, List.length_cons, List.length_nil, List.getElem?_cons_zero, List.getElem?_cons_succ, List.all_cons, List.all_nil, List.drop_zero, List.take_succ_cons, List.take_zero, List.set_cons_zero, List.set_cons_succ, Int.toNat_natCast, ↓reduceIte, Nat.reduceEqDiff, Nat.reduceAdd, Nat.reduceLeDiff, Bool.and_true, and_true, Nat.zero_add, decide_true, Bool.false_eq_true, List.length_map, req_dec, guard_no, and_pre, setAt_nil, setAt_cons, f29_18e, f29_19e, f29_19l, f29_20e, f29_20l, f29_21e, f29_22e, f29_23e, f29_24e, f29_24l, f29_25e, gw, gi, e1, vAV, n_v_neq]
    have gi2 := get_lt gi
    simp -implicitDefEqProofs (maxSteps := 10000000) (disch := omega) only [Bool.or_false, and_self, seqQ_normal, blockQ_normal, aC_skip, opsK_eq, runI_nil, runI_none, putP_eq, cond_ff, o_bin, o_load, o_store, loadV, boxX, writeX, derefI, takeI_none, n_add, wp_ok, bind_ok, ofOpt_some, ev_r, ev_c, evOwn_r, disOp_r, setB_r, putS, Sf.set, Sf.reg, mask_eq, maskR_nil, getR, setR, maskL, Sf.disAt, endI_normal, dis_lit, cells_lit, solid1_lit, solid_eq, List.length_cons, List.length_nil, List.all_cons, List.all_nil, List.drop_zero, List.set_cons_zero, ↓reduceIte, Nat.reduceEqDiff, Nat.reduceLeDiff, Bool.true_and, Bool.and_true, and_true, true_and, reduceCtorEq, Nat.zero_add, not_true_eq_false, or_false, decide_false, IntWalk.i64_in, up_addL, setAt_nil, setAt_cons, f29_28e, f29_28l, gi, ne_eq]
    have nw := hne hJ.w
    have ni := hne hJ.i
    have nr := hne hxr
    have no := hne hJ.o
    have nq := hne hJ.q.get
    have nm : mid' ≠ st2.boxes.length := by omega
    have hl2 : (st'.setL st2.boxes.length (lpBusy r) rs).isLp st2.boxes.length (lpBusy r) rs := setL_isLp hJ.lp
    have hl3 : ((st'.setL st2.boxes.length (lpBusy r) rs).set st1.boxes.length [.lit (.int .i64 ((i + 1 : Nat)))]).isLp st2.boxes.length (lpBusy r) rs := isLp_at hl2 (set_at (fun e => ni e.symm))
    have hb : ∀ b, b ≠ st2.boxes.length → b ≠ st1.boxes.length → (((st'.setL st2.boxes.length (lpBusy r) rs).set st1.boxes.length [.lit (.int .i64 ((i + 1 : Nat)))]).setL st2.boxes.length r rs).boxes[b]? = st'.boxes[b]? := fun b h1 h2 => by
      rw [setL_box h1, set_at h2, setL_box h1]
    refine ⟨hl3, setL_isLp hl3, ?_, ?_, ⟨xr, ?_⟩, ?_, ?_, fun id hid => ?_⟩
    · rw [get_at (hb _ nw (by omega))]; exact hJ.w
    · rw [get_at (setL_box ni)]
      exact get_set gi2
    · rw [get_at (hb _ nr (by omega))]; exact hxr
    · rw [get_at (hb _ no (by omega))]; exact hJ.o
    · exact hJ.q.at (hb _ nq (by omega)) (hb _ nm (by omega))
    · rw [hb _ (by omega) (by omega)]; exact hJ.old id hid
  · refine ⟨push_isLp .., ?_, ?_, ⟨.lit (.bool false), ?_⟩, ?_, ?_, fun id hid => ?_⟩
    · rw [get_at (b3 _ (by omega)), get_at (b2 _ (by omega))]; exact hw
    · rw [get_at (b3 _ (by omega))]; exact i2
    · rw [get_at (b3 _ (by omega)), get_at (b2 _ (by omega))]; exact hr
    · rw [get_at (b3 _ (by omega)), get_at (b2 _ (by omega))]; exact ho
    · exact (hq.at (b2 _ (by omega)) (b2 _ (by omega))).at (b3 _ (by omega)) (b3 _ (by omega))
    · rw [b3 _ (by omega), b2 _ (by omega)]; exact hol id hid
  · rcases hQc with hJ | hf
    · left
      refine ⟨hJ.lp, ?_⟩
      have hne : ∀ {b : Nat} {cs : List AV}, st'.get b = some cs → (st'.drop st2.boxes.length).get b = some cs := fun {b cs} hb => (get_at (drop_box_ne (fun e => by
        subst e
        have h1 := hJ.lp
        unfold St.isLp at h1
        unfold St.get at hb
        rw [h1] at hb; cases hb))).trans hb
      have gw := hne hJ.w
      have gi := hne hJ.i
      obtain ⟨xr, hxr⟩ := hJ.r
      have gr := hne hxr
      have glt := get_lt gr
      unfold vsAV at gw
      simp -implicitDefEqProofs (maxSteps := 10000000) (disch := omega) only [seqQ_normal, blockQ_normal, aC_ret, opsK_eq, retQ_ret, retI, resI, runI_nil, runI_none, putP_eq, o_bin, o_load, o_len, o_store, loadV, boxX, writeX, lenI, derefI, takeI_none, n_eql, wp_ok, bind_ok, ofOpt_some, ev_r, evOwn_r, disOp_r, putS, Sf.set, Sf.reg, mask_eq, maskR_nil, maskR_cons, getR, setR, maskL, Sf.disAt, dis_lit, dis_sl, cells_lit, solid1_lit, solid_eq, noL_lit, List.length_cons, List.length_nil, List.all_cons, List.all_nil, List.drop_zero, List.set_cons_zero, ↓reduceIte, Nat.reduceEqDiff, Nat.reduceLeDiff, Bool.true_and, Bool.and_true, and_true, true_and, Nat.zero_add, decide_true, List.length_map, get_set, setAt_nil, setAt_cons, f29_29e, f29_30e, f29_30l, gw, gi, gr]
      refine hQ _ _ ⟨rfl, ?_, fun id hid => ?_⟩
      · rw [len_set, drop_len]
        have := get_lt hJ.w
        omega
      · rw [set_at (by omega), drop_box_ne (by omega)]
        exact hJ.old id hid
    · exact hf.elim
end Go.Fx.YtenijlfcfmhmkaaFx

