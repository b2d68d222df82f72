/- What the functions that the statement reaches compute: part 15. -/
import Derived.Test.YtenijlfcfmhmkaaFxW14
namespace Go.Fx.YtenijlfcfmhmkaaFx
open Go Go.Fx
attribute [local irreducible] aC runI headI loopI

set_option maxRecDepth 100000
set_option maxHeartbeats 4000000

/-- What stays around a round over the iterator. -/
structure ItI (st : St) (stop : Int) (X : AV) (L L' : Qu) (g g' k b q mid o q' mid' : Nat) : Prop where
  hs : st.get 0 = some [.lit (.int .i64 stop)]
  hr : st.get 1 = some [.lit (.bool false)]
  hx : st.get 4 = some [X, .lit (.int .u64 (g : Nat))]
  hk : st.get b = some [.lit (.int .i64 (k : Nat))]
  ho : st.get o = some [.ptr q' 0]
  hc : QIs st q' mid' L g
  hq : QIs st q mid L' g'
  nq : ∀ i ∈ [0, 1, 4, b, o, q', mid'], i ≠ q ∧ i ≠ mid

theorem ItI.at {st st' : St} {stop : Int} {X : AV} {L L' : Qu} {g g' k b q mid o q' mid' : Nat} (h : ItI st stop X L L' g g' k b q mid o q' mid') (he : ∀ i, i < st.boxes.length → st'.boxes[i]? = st.boxes[i]?) : ItI st' stop X L L' g g' k b q mid o q' mid' :=
  ⟨(get_at (he _ (get_lt h.hs))).trans h.hs, (get_at (he _ (get_lt h.hr))).trans h.hr, (get_at (he _ (get_lt h.hx))).trans h.hx, (get_at (he _ (get_lt h.hk))).trans h.hk, (get_at (he _ (get_lt h.ho))).trans h.ho, h.hc.at (he _ h.hc.ltq) (he _ h.hc.ltm), h.hq.at (he _ h.hq.ltq) (he _ h.hq.ltm), h.nq⟩

/-- What is kept around the loop over the iterator: st0 is the state ahead of it. -/
structure IJ (st0 : St) (r : Loop) (rs : List (Nat × AV)) (i : Nat) (st : St) : Prop where
  lp : st.isLp (st0.boxes.length + 1) r rs
  c : st.get st0.boxes.length = some [.lit (.int .i64 (i : Nat))]
  old : ∀ id, id < st0.boxes.length → st.boxes[id]? = st0.boxes[id]?

theorem iter_range {stop : Int} {X : AV} {L L' : Qu} {g g' k b q mid o q' mid' : Nat} {st0 : St} (hX : OrNil L X) (hI : ItI st0 stop X L L' g g' k b q mid o q' mid') (hb : L.length ≤ 60) (Q : Exit → Sf → St → Prop)
    (hQ : ∀ st c, (∀ id, id < st0.boxes.length → st.boxes[id]? = st0.boxes[id]?) → st.get st0.boxes.length = some [.lit (.int .i64 (c : Nat))] →
      (k = 0 → (c = L.length ∧ (c = 0 ∨ (c : Int) < stop)) ∨ (c ≤ L.length ∧ 1 ≤ c ∧ (c = 1 ∨ (c : Int) ≤ stop) ∧ stop ≤ c)) → (k ≠ 0 → c = L.length) →
      ∀ e, (e = .normal ∨ e = .exit 4) → Q e ⟨[(3, .ptr 0 0), (4, .ptr 1 0), (5, .ptr q 0), (6, .ptr 4 0), (9, .fn (.func n_f55) [] [.ptr o 0]), (10, .ptr b 0), (11, .ptr st0.boxes.length 0), (46, .any), (47, .any)], []⟩ st) :
    aC Go.Proofs.Try.prog id false f6_57 ⟨[(3, .ptr 0 0), (4, .ptr 1 0), (5, .ptr q 0), (6, .ptr 4 0), (9, .fn (.func n_f55) [] [.ptr o 0]), (10, .ptr b 0), (11, .ptr st0.boxes.length 0), (45, .fn (.func n_f55) [] [.ptr o 0]), (46, .any), (47, .any)], []⟩ (st0.push (.cells [.lit (.int .i64 0)])) Q := by
  rw [f6_57w]
  refine ⟨rfl, range_a e_f55 fun r hy => ?_⟩
  generalize hst2 : st0.push (.cells [.lit (.int .i64 0)]) = st2 at hy ⊢
  have e2 : st2.boxes.length = st0.boxes.length + 1 := by rw [← hst2, len_push]
  have b2 : ∀ id, id < st0.boxes.length → st2.boxes[id]? = st0.boxes[id]? := fun id hid => by rw [← hst2]; exact push_at hid
  have i2 : st2.get st0.boxes.length = some [.lit (.int .i64 0)] := by rw [← hst2]; exact get_push ..
  simp -implicitDefEqProofs (maxSteps := 10000000) (disch := omega) only [getR, regsB_nil, regsB_cons, keep_eq, dis_any, dis_ptr, noL_any, noL_ptr, ↓reduceIte, Nat.reduceEqDiff] at hy
  simp -implicitDefEqProofs (maxSteps := 10000000) (disch := omega) only [getR, regsB_nil, regsB_cons, keep_eq, dis_any, dis_ptr, noL_any, noL_ptr, List.nil_append, List.cons_append, ↓reduceIte, Nat.reduceEqDiff]
  obtain ⟨rs, hrs⟩ : ∃ rs, rs = [(3, AV.ptr 0 0), (4, AV.ptr 1 0), (6, AV.ptr 4 0), (10, AV.ptr b 0), (11, AV.ptr st0.boxes.length 0), (46, AV.any), (47, AV.any)] := ⟨_, rfl⟩
  have hsr : ∀ x y : AV, setRs rs [46, 47] [x, y] = [(3, AV.ptr 0 0), (4, AV.ptr 1 0), (6, AV.ptr 4 0), (10, AV.ptr b 0), (11, AV.ptr st0.boxes.length 0), (46, x.dis), (47, y.dis)] := fun x y => by rw [hrs]; simp -implicitDefEqProofs (maxSteps := 10000000) (disch := omega) only [setR, setRs_nil, setRs_cons, ↓reduceIte, Nat.reduceEqDiff]
  rw [← hrs] at hy ⊢
  rw [e2] at hy ⊢
  have b3 : ∀ id, id < st2.boxes.length → (st2.push (.lp r rs)).boxes[id]? = st2.boxes[id]? := fun id hid => push_at hid
  have hIJ : ∀ {r' : Loop} {i : Nat} {st' : St}, IJ st0 r' rs i st' → ItI st' stop X L L' g g' k b q mid o q' mid' := fun h => hI.at h.old
  refine ⟨_, iter_calls (o := o) (q := q') (mid := mid') (g := g) (L := L) (st0.boxes.length + 1) (fun i st' => IJ st0 r rs i st' ∧ (k = 0 → i = 0 ∨ (i : Int) < stop)) (fun st' => ∃ c, IJ st0 (lpDone r (.exit 4)) rs c st' ∧ k = 0 ∧ c ≤ L.length ∧ 1 ≤ c ∧ (c = 1 ∨ (c : Int) ≤ stop) ∧ stop ≤ c) (fun i st' hJ => ⟨(hIJ hJ.1).ho, (hIJ hJ.1).hc⟩) (fun i hi st' hJ => ?_) ?_, fun v st' hQc => ?_⟩
  · obtain ⟨hJ, hJ2⟩ := hJ
    rcases hX with rfl | ⟨e, _⟩
    · refine round_a hy hJ.lp rfl ?_
      have hne : ∀ {b : Nat} {cs : List AV}, st'.get b = some cs → b ≠ st0.boxes.length + 1 := fun {b cs} hb e => by
        subst e
        have h1 := hJ.lp
        unfold St.isLp at h1
        unfold St.get at hb
        rw [h1] at hb; cases hb
      have hset : ∀ (r' : Loop) (b : Nat), b ≠ st0.boxes.length + 1 → (st'.setL (st0.boxes.length + 1) r' rs).get b = st'.get b := fun r' b hb => get_at (setL_box hb)
      have h2 := hIJ hJ
      have gs := (hset (lpBusy r) _ (hne h2.hs)).trans h2.hs
      have gx := (hset (lpBusy r) _ (hne h2.hx)).trans h2.hx
      have gk := (hset (lpBusy r) _ (hne h2.hk)).trans h2.hk
      have gc := (hset (lpBusy r) _ (hne hJ.c)).trans hJ.c
      unfold vsAV at gx
      have e1 : (L.map vAV).getD i .any = vAV L[i] := by simp [List.getD, hi]
      rw [hsr]
      have gc2 := get_lt gc
      have nc := hne hJ.c
      have ks := get_lt hI.hs
      have kk := get_lt hI.hk
      have hl2 : (st'.setL (st0.boxes.length + 1) (lpBusy r) rs).isLp (st0.boxes.length + 1) (lpBusy r) rs := setL_isLp hJ.lp
      have hl3 : ((st'.setL (st0.boxes.length + 1) (lpBusy r) rs).set st0.boxes.length [.lit (.int .i64 ((i + 1 : Nat)))]).isLp (st0.boxes.length + 1) (lpBusy r) rs := isLp_at hl2 (set_at (fun e => nc e.symm))
      have gs2 : ((st'.setL (st0.boxes.length + 1) (lpBusy r) rs).set st0.boxes.length [.lit (.int .i64 ((i + 1 : Nat)))]).get 0 = some [.lit (.int .i64 stop)] := (get_at (set_at (by omega))).trans gs
      have gk2 : ((st'.setL (st0.boxes.length + 1) (lpBusy r) rs).set st0.boxes.length [.lit (.int .i64 ((i + 1 : Nat)))]).get b = some [.lit (.int .i64 (k : Nat))] := (get_at (set_at (by omega))).trans gk
      have gc3 : ((st'.setL (st0.boxes.length + 1) (lpBusy r) rs).set st0.boxes.length [.lit (.int .i64 ((i + 1 : Nat)))]).get st0.boxes.length = some [.lit (.int .i64 ((i + 1 : Nat)))] := get_set gc2
      have hfin : ∀ r' : Loop, IJ st0 r' rs (i + 1) (((st'.setL (st0.boxes.length + 1) (lpBusy r) rs).set st0.boxes.length [.lit (.int .i64 ((i + 1 : Nat)))]).setL (st0.boxes.length + 1) r' rs) := fun r' =>
        ⟨setL_isLp hl3, (get_at (setL_box nc)).trans gc3, fun id hid => by rw [setL_box (by omega), set_at (by omega), setL_box (by omega)]; exact hJ.old id hid⟩
      simp -implicitDefEqProofs (maxSteps := 10000000) (disch := omega) only [Bool.false_or, and_self, seqQ_normal, aC_skip, opsK_eq, runI_nil, runI_none, runI_some, AI.dst, putP_eq, cond_ff, guard_ff, o_mv, o_pick, o_bin, o_addr, o_ixS, o_load, o_bst, o_len, o_own, o_store, pick_ff, ixSV, loadV, bstV, boxX, writeX, ixA, lenI, addA, derefI, takeI_none, takeI_some, buildA, n_add, n_geq, wp_ok, bind_ok, bind_req, ofOpt_some, req_tt, ev_r, ev_c, evOwn_r, disOp_r, setB_r, putS, Sf.set, Sf.reg, mask_eq, maskR_nil, maskR_cons, getR, setR, maskL, Sf.disAt, assignQ_normal, dis_lit, dis_sl, dis_agg, own1_lit, cells_lit, cells_agg, solid1_lit, solid_eq, List.map_cons, List.map_nil, List.length_cons, List.length_nil, List.getElem?_cons_zero, List.getElem?_cons_succ, List.all_cons, List.all_nil, List.drop_zero, List.take_succ_cons, List.take_zero, List.set_cons_zero, List.set_cons_succ, Int.toNat_natCast, ↓reduceIte, Nat.reduceEqDiff, Nat.reduceAdd, Nat.reduceLeDiff, Bool.true_and, Bool.and_true, and_true, true_and, reduceCtorEq, Nat.zero_add, Nat.add_zero, not_true_eq_false, false_or, decide_true, decide_false, Bool.false_eq_true, List.length_map, req_dec, guard_no, IntWalk.i64_in, up_addL, and_pre, setAt_nil, setAt_cons, f6_58e, f6_59e, f6_59l, f6_60e, f6_60l, f6_61e, f6_62e, f6_63e, f6_64e, f6_64l, f6_65e, f6_68e, f6_69e, f6_69l, f6_70e, f6_71e, f6_71l, gx, gc, e1, vAV, n_v_neq, ne_eq]
      refine ⟨hJ.lp, ?_⟩
      generalize (st'.setL (st0.boxes.length + 1) (lpBusy r) rs).set st0.boxes.length [.lit (.int .i64 ((i + 1 : Nat)))] = st3 at *
      by_cases hk0 : k = 0
      · by_cases hstop : stop ≤ ((i + 1 : Nat) : Int)
        · have hk1 : decide ((k : Int) = 0) = true := decide_eq_true (by omega)
          have hd : decide (((i + 1 : Nat) : Int) ≥ stop) = true := decide_eq_true hstop
          simp -implicitDefEqProofs (maxSteps := 10000000) (disch := omega) only [seqQ_normal, blockQ_exit, aC_exit, opsK_eq, runI_nil, runI_none, runI_some, AI.dst, putP_eq, cond_tt, guard_tt, o_mv, o_pick, o_bin, o_load, pick_tt, loadV, derefI, takeI_none, n_eql, n_geq, wp_ok, bind_ok, ofOpt_some, ev_r, ev_c, setB_r, putS, Sf.set, Sf.reg, mask_eq, maskR_nil, maskR_cons, getR, setR, maskL, endI_exit, dis_lit, List.drop_zero, ↓reduceIte, Nat.reduceEqDiff, Bool.true_and, true_and, Bool.false_eq_true, and_pre, f6_72e, gs2, gk2, gc3, hk1, hd]
          have := hJ2 hk0
          exact .inr ⟨i + 1, hfin _, hi, by omega, by omega, hstop⟩
        · have hk1 : decide ((k : Int) = 0) = true := decide_eq_true (by omega)
          have hd : decide (((i + 1 : Nat) : Int) ≥ stop) = false := decide_eq_false hstop
          simp -implicitDefEqProofs (maxSteps := 10000000) (disch := omega) only [seqQ_normal, blockQ_normal, aC_skip, opsK_eq, runI_nil, runI_none, runI_some, AI.dst, putP_eq, cond_ff, guard_tt, o_mv, o_pick, o_bin, o_load, pick_tt, loadV, derefI, takeI_none, n_eql, n_geq, wp_ok, bind_ok, ofOpt_some, ev_r, ev_c, setB_r, putS, Sf.set, Sf.reg, mask_eq, maskR_nil, maskR_cons, getR, setR, maskL, endI_normal, dis_lit, List.drop_zero, ↓reduceIte, Nat.reduceEqDiff, Bool.true_and, true_and, reduceCtorEq, and_pre, f6_72e, gs2, gk2, gc3, hk1, hd]
          exact .inl ⟨hfin _, fun _ => by omega⟩
      · have hk1 : decide ((k : Int) = 0) = false := decide_eq_false (by omega)
        simp -implicitDefEqProofs (maxSteps := 10000000) (disch := omega) only [seqQ_normal, blockQ_normal, aC_skip, opsK_eq, runI_nil, runI_none, runI_some, skipI_eq, AI.dst, putP_eq, cond_ff, guard_ff, o_mv, o_pick, o_bin, pick_ff, takeI_none, n_eql, wp_ok, bind_ok, ofOpt_some, ev_r, ev_c, setB_r, putS, Sf.set, Sf.reg, mask_eq, maskR_nil, maskR_cons, getR, setR, maskL, endI_normal, dis_lit, ↓reduceIte, Nat.reduceEqDiff, Bool.true_and, true_and, reduceCtorEq, and_pre, f6_72e, gk2, hk1]
        exact .inl ⟨hfin _, fun h => absurd h hk0⟩
    · rw [e] at hi; simp at hi
  · refine ⟨⟨(by rw [← e2]; exact push_isLp ..), ?_, fun id hid => ?_⟩, fun _ => .inl rfl⟩
    · rw [get_at (b3 _ (by omega))]; exact i2
    · rw [b3 _ (by omega), b2 _ (by omega)]
  · have hdr : ∀ {r' : Loop} {c : Nat} {st' : St}, IJ st0 r' rs c st' → (∀ id, id < st0.boxes.length → (st'.drop (st0.boxes.length + 1)).boxes[id]? = st0.boxes[id]?) ∧ (st'.drop (st0.boxes.length + 1)).get st0.boxes.length = some [.lit (.int .i64 (c : Nat))] := fun {r' c st'} h =>
      ⟨fun id hid => by rw [drop_box_ne (by omega)]; exact h.old id hid, by rw [get_at (drop_box_ne (by omega))]; exact h.c⟩
    rcases hQc with ⟨hJ, hJ2⟩ | ⟨c, hJ, hk, h1, h2, h3, h4⟩
    · left
      refine ⟨hJ.lp, ?_⟩
      simp -implicitDefEqProofs (maxSteps := 10000000) (disch := omega) only [mask_eq, maskR_nil, maskR_cons, getR, maskL, ↓reduceIte, Nat.reduceEqDiff]
      exact hQ _ L.length (hdr hJ).1 (hdr hJ).2 (fun h => .inl ⟨rfl, hJ2 h⟩) (fun _ => rfl) _ (.inl rfl)
    · right; right
      refine ⟨4, hJ.lp, ?_⟩
      simp -implicitDefEqProofs (maxSteps := 10000000) (disch := omega) only [mask_eq, maskR_nil, maskR_cons, getR, maskL, ↓reduceIte, Nat.reduceEqDiff]
      exact hQ _ c (hdr hJ).1 (hdr hJ).2 (fun _ => .inr ⟨h1, h2, h3, h4⟩) (fun h => absurd hk h) _ (.inr rfl)
end Go.Fx.YtenijlfcfmhmkaaFx

