/- What the functions that the statement reaches compute: part 12. -/
import Derived.Test.YtenijlfcfmhmkaaFxW11
namespace Go.Fx.YtenijlfcfmhmkaaFx
open Go Go.Fx
attribute [local irreducible] aC runI headI loopI

set_option maxRecDepth 100000
set_option maxHeartbeats 8000000

/-- The frame of the inner loop. -/
def hSf (l : List Fr) (p : List UInt8) (c : Int) (at_ got i n : Nat) (locs : List (Nat × List AV)) : Sf :=
  ⟨[(0, frsAV l), (1, .sl false 1 (BB p)), (2, .lit (.int .u16 c)), (7, .sl false 1 (BB (joinB l))), (9, .ptr 0 0), (10, .lit (.int .i64 (at_ : Nat))), (11, .lit (.int .i64 (got : Nat))), (12, .lit (.int .i64 ((joinB (l.take got)).length : Nat))), (13, .lit (.int .i64 (i : Nat))), (14, .lit (.int .i64 (n : Nat)))], locs⟩

/-- The frame of the outer loop. -/
def oSf (l : List Fr) (p : List UInt8) (c : Int) (at_ got i : Nat) : Sf :=
  ⟨[(0, frsAV l), (1, .sl false 1 (BB p)), (2, .lit (.int .u16 c)), (7, .sl false 1 (BB (joinB l))), (9, .ptr 0 0), (10, .lit (.int .i64 (at_ : Nat))), (11, .lit (.int .i64 (got : Nat))), (12, .lit (.int .i64 ((joinB (l.take got)).length : Nat))), (13, .lit (.int .i64 (i : Nat)))], []⟩

/-- The inner loop: all frames that there are. -/
theorem holds_inner (l : List Fr) (hf : l.length ≤ 12) (hs : ∀ f ∈ l, f.2.length ≤ 1024) (p : List UInt8) (c : Int) (i n at_ got : Nat) (rb : AV) (hi : i ≤ p.length) (hnp : p.length ≤ 40)
    (hat : at_ ≤ (joinB l).length) (hgot : got ≤ l.length) (hsum : (joinB (l.take got)).length ≤ at_) (hlast : i = p.length → at_ = (joinB l).length) (hn : n ≤ 100000) (hrb : Own1 rb (pend l at_ got)) (Q : Exit → Sf → St → Prop)
    (hQ : ∀ got' rb', got' ≤ l.length → (joinB (l.take got')).length ≤ at_ → Own1 rb' (pend l at_ got') → (i = p.length → got' = l.length) → Q (.exit 2) (oSf l p c at_ got' i) (RdS rb')) :
    aC Go.Proofs.Try.prog id false aqueductlaw43_FrameHolds_49 (hSf l p c at_ got i n []) (RdS rb) Q := by
  have hjl := joinB_len hs
  rw [aqueductlaw43_FrameHolds_49w]
  refine loop_op (A := Nat × AV) (fun a => l.length - a.1) (fun a => hSf l p c at_ a.1 i n []) (fun a => RdS a.2)
    (fun a => a.1 ≤ l.length ∧ (joinB (l.take a.1)).length ≤ at_ ∧ Own1 a.2 (pend l at_ a.1)) (got, rb) ⟨hgot, hsum, hrb⟩ ?_ rfl ?_
  · exact ⟨leR_refl _, leLo_nil _⟩
  rintro ⟨got, rb⟩ ⟨h1, h2, h3⟩ K hK hKe _
  simp only at h1 h2 h3
  have hpl := pend_len h2 hat
  have hx : _ ∧ _ := nxt_join (l.drop got) (at_ - (joinB (l.take got)).length) fun f hf => hs f (List.mem_of_mem_drop hf)
  rw [show (joinB (l.drop got)).take (at_ - (joinB (l.take got)).length) = pend l at_ got from rfl] at hx
  have hc := next_calls (RdS_rd h3) (by omega) hx.1
  have hgl : (joinB (l.take (got + 1))).length = (joinB (l.take (got + 1))).length := rfl
  have hbreak : (nxt (pend l at_ got)).2.1 = 0 → (i = p.length → got = l.length) := by
    intro h0 hil
    have hat := hlast hil
    have hsp := joinB_split l got
    obtain ⟨_, hx⟩ := hx
    rcases hx with ⟨_, h | ⟨f, r, h, hm⟩⟩ | ⟨f, r, _, _, h, _⟩
    · have := congrArg List.length h
      simp at this; omega
    · rw [h] at hsp
      simp only [joinB, List.length_append, enc_len] at hsp
      omega
    · omega
  have hcont : ¬ (nxt (pend l at_ got)).2.1 = 0 → got < l.length ∧ (nxt (pend l at_ got)).1 = l.getD got (0, []) ∧ (joinB (l.take (got + 1))).length = (joinB (l.take got)).length + (nxt (pend l at_ got)).1.2.length + 6 ∧
      (pend l at_ got).drop (nxt (pend l at_ got)).2.1 = pend l at_ (got + 1) ∧ (joinB (l.take (got + 1))).length ≤ at_ := by
    intro h0
    obtain ⟨_, hx⟩ := hx
    rcases hx with ⟨h, _⟩ | ⟨f, r, h, q1, q2, q3⟩
    · exact absurd h h0
    · obtain ⟨g1, g2, g3, g4⟩ := pend_next (l := l) (at_ := at_) (got := got) (by omega) h
      rw [q1, q2]
      exact ⟨g1, g2.symm, g3, g4, by omega⟩
  have hl0 : ∀ got, got < l.length → (l.map frAV).getD got .any = frAV (l.getD got (0, [])) := fun got h => by simp [List.getD, h]
  have hn0 := hx.1
  clear hx
  generalize nxt (pend l at_ got) = R at *
  obtain ⟨⟨fk, fb⟩, nn, ee⟩ := R
  simp only at hbreak hcont hn0
  subst hn0
  have hatb : at_ ≤ 100000 := by omega
  clear hat hgot hrb hlast
  have hcall : aC Go.Proofs.Try.prog id false aqueductlaw43_FrameHolds_54 ⟨(hSf l p c at_ got i n []).regs ++ [(87, .lit (.bool true))], []⟩ (RdS rb) K := by
    unfold hSf
    simp only [List.cons_append, List.nil_append]
    simp -implicitDefEqProofs (maxSteps := 10000000) (disch := omega) only [runI_none, o_mv, o_call, ev_r, ev_f, putS, Sf.set, Sf.reg, getR, setR, id, dis_ptr, List.map_cons, List.map_nil, ↓reduceIte, Nat.reduceEqDiff, reduceCtorEq, aqueductlaw43_FrameHolds_54e, aqueductlaw43_FrameHolds_55e, aqueductlaw43_FrameHolds_56e, aqueductlaw43_FrameHolds_56l]
    refine call_a rfl e_frame_Reader_Next hc rfl fun v st' hv => ?_
    obtain ⟨hv1, rb', hrb', hv2⟩ := hv
    subst hv1 hv2
    rw [RdS_set]
    simp -implicitDefEqProofs (maxSteps := 10000000) (disch := omega) only [seqQ_normal, aC_skip, opsK_eq, runI_nil, runI_none, putP_eq, cond_ff, o_mv, o_bin, o_un, o_ext, o_own, o_newL, o_store, extV, boxX, writeX, unA, n_neq, wp_ok, bind_ok, ofOpt_some, ev_r, ev_c, evOwn_r, disOp_r, setB_r, putS, Sf.set, Sf.reg, mask_eq, maskR_nil, maskR_cons, getR, setR, maskL, Sf.disAt, Sf.newLoc, Sf.setLoc, look, killR, drop1, dis_lit, dis_agg, dis_tup, own1_lit, own1_sl, own2_lit, own2_agg, cells_agg, solid1_lit, solid1_sl, solid_eq, kill_lit, kill_ptr, kill_sl, kill_agg, kill_tup, List.map_cons, List.map_nil, List.length_cons, List.length_nil, List.getElem?_cons_zero, List.getElem?_cons_succ, List.all_cons, List.all_nil, List.set_cons_zero, List.set_cons_succ, Int.cast_ofNat_Int, ↓reduceIte, Nat.reduceEqDiff, Nat.reduceAdd, Nat.reduceLeDiff, Bool.true_and, Bool.and_true, and_true, true_and, reduceCtorEq, Nat.zero_add, not_true_eq_false, decide_false, not_dec, setAt_nil, setAt_cons, aqueductlaw43_FrameHolds_57e, aqueductlaw43_FrameHolds_58e, aqueductlaw43_FrameHolds_59e, aqueductlaw43_FrameHolds_59l, aqueductlaw43_FrameHolds_60e, aqueductlaw43_FrameHolds_63e, aqueductlaw43_FrameHolds_64e, aqueductlaw43_FrameHolds_65e, aqueductlaw43_FrameHolds_65l, aqueductlaw43_FrameHolds_66e, nextV, frAV]
    by_cases h0 : nn = 0
    · have e0 : decide (0 < nn) = false := by simp [h0]
      subst h0
      simp only [List.drop_zero] at hrb'
      simp -implicitDefEqProofs (maxSteps := 10000000) (disch := omega) only [seqQ_exit, blockQ_exit, aC_exit, cond_tt, setB_r, Sf.set, mask_eq, maskR_nil, maskR_cons, getR, setR, maskL, kill_sl, ↓reduceIte, Nat.reduceEqDiff, Nat.reduceLT, reduceCtorEq, not_false_eq_true, decide_true, frsAV]
      exact hKe _ _ _ (hQ got rb' h1 h2 hrb' (fun hil => hbreak rfl hil))
    · have e0 : decide (0 < nn) = true := by simp; omega
      obtain ⟨g1, g2, g3, g4, g5⟩ := hcont h0
      rw [g4] at hrb'
      have hl1 : (l.map frAV).getD got .any = frAV (fk, fb) := by rw [hl0 got g1, ← g2]
      simp -implicitDefEqProofs (maxSteps := 10000000) (disch := omega) only [List.contains_nil, h_nil, h_none, h_some, hh_mv, hh_bin, hh_ixS, hh_load, hh_len, guardH_ff, val_head, tail_nil, seqQ_normal, aC_skip, runI_some, AI.dst, guard_ff, o_call, ixSV, loadV, ixA, lenI, derefI, takeI_some, n_geq, wp_ok, bind_ok, bind_req, ofOpt_some, req_tt, ev_r, ev_f, setB_r, putS, Sf.set, Sf.reg, getR, setR, look, dropL, id, dis_lit, dis_sl, dis_agg, own1_lit, own1_sl, cells_agg, kill_sl, List.map_cons, List.map_nil, List.length_cons, List.length_nil, List.drop_zero, List.take_succ_cons, List.take_zero, Int.toNat_natCast, ↓reduceIte, Nat.reduceEqDiff, Nat.reduceAdd, Nat.reduceLeDiff, reduceCtorEq, Nat.zero_add, decide_true, Bool.false_eq_true, List.length_map, req_dec, cond_no, guardH_no, and_pre, aqueductlaw43_FrameHolds_67e, aqueductlaw43_FrameHolds_68e, aqueductlaw43_FrameHolds_69e, aqueductlaw43_FrameHolds_69h, aqueductlaw43_FrameHolds_69l, hl1, frsAV, frAV]
      refine call_p rfl e_aqueductref43_Same (same_pure (fk, fb) (fk, fb) _) rfl ?_
      simp -implicitDefEqProofs (maxSteps := 10000000) (disch := omega) only [List.contains_nil, h_nil, h_none, hh_mv, hh_bin, hh_addr, hh_load, hh_len, val_head, tail_nil, seqQ_normal, blockQ_normal, aC_skip, opsK_eq, runI_nil, runI_none, runI_some, AI.dst, putP_eq, cond_ff, guard_ff, o_pick, o_un, o_own, pick_ff, loadV, lenI, addA, derefI, takeI_none, unA, n_add, wp_ok, bind_ok, ofOpt_some, ev_r, ev_c, setB_r, putS, Sf.set, Sf.reg, mask_eq, maskR_nil, maskR_cons, getR, setR, maskL, Sf.disAt, look, dropL, dis_lit, dis_sl, List.drop_zero, List.drop_succ_cons, ↓reduceIte, Nat.reduceEqDiff, reduceCtorEq, Nat.zero_add, decide_true, Bool.not_true, Bool.false_eq_true, BB_len, IntWalk.i64_in, up_add, up_addL, aqueductlaw43_FrameHolds_70e, aqueductlaw43_FrameHolds_73e, aqueductlaw43_FrameHolds_73h, aqueductlaw43_FrameHolds_73l]
      refine hK (got + 1, rb') _ ⟨by simp only; omega, g5, hrb'⟩ (by simp only; omega) ?_
      unfold hSf
      simp only
      rw [g3]
      exact Sf.le_refl _
  by_cases hil : i = p.length
  · unfold hSf
    simp -implicitDefEqProofs (maxSteps := 10000000) (disch := omega) only [seqQ_normal, aC_skip, opsK_eq, runI_nil, runI_none, runI_some, skipI_eq, AI.dst, putP_eq, cond_tt, guard_tt, o_mv, o_pick, o_bin, o_len, pick_tt, lenI, n_eql, wp_ok, ev_r, ev_c, setB_r, putS, Sf.set, Sf.reg, mask_eq, maskR_nil, maskR_cons, getR, setR, maskL, dis_lit, dis_sl, ↓reduceIte, Nat.reduceEqDiff, reduceCtorEq, Bool.false_eq_true, BB_len, guard_yes, aqueductlaw43_FrameHolds_50e, aqueductlaw43_FrameHolds_51e, aqueductlaw43_FrameHolds_52e, aqueductlaw43_FrameHolds_52l, aqueductlaw43_FrameHolds_53e]
    exact hcall
  · unfold hSf
    simp -implicitDefEqProofs (maxSteps := 10000000) (disch := omega) only [seqQ_normal, opsK_eq, runI_nil, runI_none, runI_some, AI.dst, putP_eq, guard_ff, o_mv, o_pick, o_bin, o_len, pick_ff, lenI, n_eql, wp_ok, req_tt, ev_r, ev_c, putS, Sf.set, Sf.reg, mask_eq, maskR_nil, maskR_cons, getR, setR, maskL, dis_lit, dis_sl, ↓reduceIte, Nat.reduceEqDiff, reduceCtorEq, Bool.false_eq_true, BB_len, guard_no, n_rem, IntWalk.rem_in, aqueductlaw43_FrameHolds_50e, aqueductlaw43_FrameHolds_51e, aqueductlaw43_FrameHolds_52e, aqueductlaw43_FrameHolds_52l, aqueductlaw43_FrameHolds_53e]
    refine cond_split (fun h => ?_) (fun h => ?_)
    · simp -implicitDefEqProofs (maxSteps := 10000000) (disch := omega) only [seqQ_normal, aC_skip, setB_r, Sf.set, setR, ↓reduceIte, Nat.reduceEqDiff, reduceCtorEq]
      exact hcall
    · simp -implicitDefEqProofs (maxSteps := 10000000) (disch := omega) only [seqQ_exit, aC_exit, setB_r, Sf.set, mask_eq, maskR_nil, maskR_cons, getR, setR, maskL, ↓reduceIte, Nat.reduceEqDiff, reduceCtorEq, frsAV]
      exact hKe _ _ _ (hQ got rb h1 h2 h3 (fun q => absurd q hil))
end Go.Fx.YtenijlfcfmhmkaaFx

