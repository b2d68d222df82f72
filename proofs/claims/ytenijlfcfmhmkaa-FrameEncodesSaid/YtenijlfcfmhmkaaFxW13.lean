/- What the functions that the statement reaches compute: part 13. -/
import Derived.Test.YtenijlfcfmhmkaaFxW12
namespace Go.Fx.YtenijlfcfmhmkaaFx
open Go Go.Fx
attribute [local irreducible] aC runI headI loopI

set_option maxRecDepth 100000
set_option maxHeartbeats 8000000

/-- The outer loop: part by part. -/
theorem holds_outer (l : List Fr) (hf : l.length ≤ 12) (hs : ∀ f ∈ l, f.2.length ≤ 1024) (p : List UInt8) (c : Int) (rb : AV) (hnp : p.length ≤ 40) (hrb : Own1 rb []) (Q : Exit → Sf → St → Prop)
    (hQ : ∀ rb', Own1 rb' [] → Q (.exit 0) ⟨[(0, frsAV l), (2, .lit (.int .u16 c)), (7, .sl false 1 (BB (joinB l))), (9, .ptr 0 0), (11, .lit (.int .i64 (l.length : Nat))), (12, .lit (.int .i64 ((joinB l).length : Nat)))], []⟩ (RdS rb')) :
    aC Go.Proofs.Try.prog id false aqueductlaw43_FrameHolds_25 (oSf l p c 0 0 0) (RdS rb) Q := by
  have hjl := joinB_len hs
  rw [aqueductlaw43_FrameHolds_25w]
  refine loop_op (A := Nat × Nat × Nat × AV) (fun a => p.length + 1 - a.1) (fun a => oSf l p c a.2.1 a.2.2.1 a.1) (fun a => RdS a.2.2.2)
    (fun a => a.1 ≤ p.length + 1 ∧ a.2.1 ≤ (joinB l).length ∧ a.2.2.1 ≤ l.length ∧ (joinB (l.take a.2.2.1)).length ≤ a.2.1 ∧ Own1 a.2.2.2 (pend l a.2.1 a.2.2.1) ∧ (a.1 = p.length + 1 → a.2.1 = (joinB l).length ∧ a.2.2.1 = l.length)) (0, 0, 0, rb) ⟨by simp, by simp, by simp, by simp [joinB], by simpa [pend, joinB] using hrb, by simp⟩ (Sf.le_refl _) rfl ?_
  rintro ⟨i, at_, got, rb⟩ ⟨h1, h2, h3, h4, h5, h6⟩ K hK hKe _
  simp only at h1 h2 h3 h4 h5 h6
  have hpl := pend_len h4 h2
  unfold oSf
  by_cases hi : i ≤ p.length
  · -- the part that is fed
    obtain ⟨n, hn1, hn2, hn3⟩ : ∃ n, at_ + n ≤ (joinB l).length ∧ (i = p.length → at_ + n = (joinB l).length) ∧ n = if i < p.length then min ((joinB l).length - at_) (p.getD i 0).toNat else (joinB l).length - at_ := by
      refine ⟨_, ?_, ?_, rfl⟩
      · split <;> omega
      · intro h; rw [if_neg (by omega)]; omega
    have hsl : ((joinB l).take (at_ + n)).length = at_ + n := by simp; omega
    have hfeed := feed_any (y := .sl false 1 (BB (((joinB l).take (at_ + n)).drop at_))) (RdS_rd h5) (Src.sl _ _ _) (by rw [List.length_drop, hsl]; omega) (by omega)
    rw [pend_feed h4] at hfeed
    have hstep : ∀ rb', Own1 rb' (pend l (at_ + n) got) → aC Go.Proofs.Try.prog id false aqueductlaw43_FrameHolds_45 ⟨[(0, frsAV l), (1, .sl false 1 (BB p)), (2, .lit (.int .u16 c)), (7, .sl false 1 (BB (joinB l))), (9, .ptr 0 0), (10, .lit (.int .i64 (at_ : Nat))), (11, .lit (.int .i64 (got : Nat))), (12, .lit (.int .i64 ((joinB (l.take got)).length : Nat))), (13, .lit (.int .i64 (i : Nat))), (14, .lit (.int .i64 (n : Nat))), (75, .lit (.bool false))], []⟩ (RdS rb')
        (blockQ 1 (seqQ (aC Go.Proofs.Try.prog id false aqueductlaw43_FrameHolds_79) K)) := by
      intro rb' hrb'
      simp -implicitDefEqProofs (maxSteps := 10000000) (disch := omega) only [seqQ_normal, opsK_eq, runI_nil, runI_none, putP_eq, o_mv, o_bin, o_own, n_add, wp_ok, ev_r, putS, Sf.set, Sf.reg, mask_eq, maskR_nil, maskR_cons, getR, setR, maskL, Sf.disAt, dis_lit, ↓reduceIte, Nat.reduceEqDiff, reduceCtorEq, IntWalk.i64_in, up_add, aqueductlaw43_FrameHolds_45e, aqueductlaw43_FrameHolds_46e, aqueductlaw43_FrameHolds_46l, aqueductlaw43_FrameHolds_47e, aqueductlaw43_FrameHolds_48e, frsAV]
      refine holds_inner l hf hs p c i n (at_ + n) got rb' hi hnp hn1 h3 (by omega) hn2 (by omega) hrb' _ fun got' rb' g1 g2 g3 g4 => ?_
      have hpl' := pend_len g2 hn1
      unfold oSf
      simp -implicitDefEqProofs (maxSteps := 10000000) (disch := omega) only [seqQ_normal, blockQ_exit, runI_none, o_mv, o_call, ev_r, ev_f, putS, Sf.set, Sf.reg, getR, setR, id, dis_ptr, List.map_cons, List.map_nil, ↓reduceIte, Nat.reduceEqDiff, reduceCtorEq, aqueductlaw43_FrameHolds_74e, aqueductlaw43_FrameHolds_75e, aqueductlaw43_FrameHolds_75l]
      refine call_a rfl e_frame_Reader_Pending (pending_any (RdS_rd g3)) rfl fun v st' hv => ?_
      obtain ⟨hv1, hv2⟩ := hv
      subst hv1 hv2
      rw [hpl']
      simp -implicitDefEqProofs (maxSteps := 10000000) (disch := omega) only [seqQ_normal, blockQ_normal, aC_skip, opsK_eq, runI_nil, runI_none, putP_eq, cond_ff, o_mv, o_bin, o_own, n_add, n_sub, n_neq, wp_ok, ev_r, ev_c, setB_r, putS, Sf.set, Sf.reg, mask_eq, maskR_nil, maskR_cons, getR, setR, maskL, Sf.disAt, dis_lit, ↓reduceIte, Nat.reduceEqDiff, reduceCtorEq, not_true_eq_false, decide_false, IntWalk.i64_in, up_addL, up_sub, aqueductlaw43_FrameHolds_76e, aqueductlaw43_FrameHolds_79e, aqueductlaw43_FrameHolds_79l, frsAV]
      refine hK (i + 1, at_ + n, got', rb') _ ⟨by simp only; omega, hn1, g1, g2, g3, fun e => ⟨hn2 (by omega), g4 (by omega)⟩⟩ (by simp only; omega) (Sf.le_refl _)
    have hfeed2 : ∀ v st', ((0 ≠ 0 ∧ v = AV.lit (.int .i64 8) ∧ st' = RdS rb) ∨ ((0 : Nat) = 0 ∧ v = .lit (.int .i64 0) ∧ ∃ rb', Own1 rb' (pend l (at_ + n) got) ∧ st' = (RdS rb).set 0 [rb', .lit (.int .i64 0)])) → v = .lit (.int .i64 0) ∧ ∃ rb', Own1 rb' (pend l (at_ + n) got) ∧ st' = RdS rb' := by
      rintro v st' (⟨h, _⟩ | ⟨_, h1, rb', h2, h3⟩)
      · exact absurd rfl h
      · exact ⟨h1, rb', h2, h3⟩
    have hfeed := ACalls.mono hfeed hfeed2
    by_cases hlt : i < p.length
    · rw [if_pos hlt] at hn3
      have hp8 := (p.getD i 0).toNat_lt
      have hgd : (BB p).getD i .any = .lit (.int .u8 (p.getD i 0).toNat) := BB_getD hlt
      have hmin : minmaxA true (.lit (.int .i64 ((((joinB l).length - at_ : Nat)) : Int))) (.lit (.int .i64 ((p.getD i 0).toNat : Nat))) = .ok (.lit (.int .i64 (n : Nat))) := by
        simp only [minmaxA, if_true]
        congr 4
        split <;> omega
      simp -implicitDefEqProofs (maxSteps := 10000000) (disch := omega) only [seqQ_normal, aC_skip, opsK_eq, runI_nil, runI_none, putP_eq, o_mv, o_bin, o_conv, o_ixS, o_load, o_sliS, o_len, o_mn, o_own, o_call, ixSV, loadV, sliSV, ixA, ixTo, lenI, convI, derefI, takeI_none, n_add, n_sub, n_lss, n_leq, wp_ok, bind_ok, bind_req, ev_r, ev_f, setB_r, putS, Sf.set, Sf.reg, mask_eq, maskR_nil, maskR_cons, getR, setR, maskL, Sf.disAt, id, dis_lit, dis_ptr, dis_sl, cells_lit, List.map_cons, List.map_nil, Option.map_some, Int.toNat_natCast, ↓reduceIte, Nat.reduceEqDiff, reduceCtorEq, BB_len, BB_take, BB_drop, req_dec, cond_yes, IntWalk.i64_in, up_add, up_sub, and_pre, aqueductlaw43_FrameHolds_26e, aqueductlaw43_FrameHolds_27e, aqueductlaw43_FrameHolds_28e, aqueductlaw43_FrameHolds_28l, aqueductlaw43_FrameHolds_29e, aqueductlaw43_FrameHolds_30e, aqueductlaw43_FrameHolds_31e, aqueductlaw43_FrameHolds_32e, aqueductlaw43_FrameHolds_33e, aqueductlaw43_FrameHolds_33l, aqueductlaw43_FrameHolds_34e, aqueductlaw43_FrameHolds_35e, aqueductlaw43_FrameHolds_36e, aqueductlaw43_FrameHolds_36l, aqueductlaw43_FrameHolds_37e, aqueductlaw43_FrameHolds_38e, aqueductlaw43_FrameHolds_38l, aqueductlaw43_FrameHolds_39e, aqueductlaw43_FrameHolds_40e, aqueductlaw43_FrameHolds_41e, aqueductlaw43_FrameHolds_41l, hgd, hmin]
      refine call_a rfl e_frame_Reader_Feed hfeed rfl fun v st' hv => ?_
      obtain ⟨hv1, rb', hrb', hv2⟩ := hv
      subst hv1 hv2
      simp -implicitDefEqProofs (maxSteps := 10000000) (disch := omega) only [seqQ_normal, aC_skip, opsK_eq, runI_nil, runI_none, putP_eq, cond_ff, o_bin, n_neq, wp_ok, ev_r, ev_c, setB_r, putS, Sf.set, Sf.reg, mask_eq, maskR_nil, maskR_cons, getR, setR, maskL, ↓reduceIte, Nat.reduceEqDiff, reduceCtorEq, not_true_eq_false, decide_false, aqueductlaw43_FrameHolds_42e, frsAV]
      exact hstep rb' hrb'
    · rw [if_neg hlt] at hn3
      subst hn3
      simp -implicitDefEqProofs (maxSteps := 10000000) (disch := omega) only [seqQ_normal, aC_skip, opsK_eq, runI_nil, runI_none, putP_eq, o_mv, o_bin, o_sliS, o_len, o_own, o_call, sliSV, ixTo, lenI, n_add, n_sub, n_lss, n_leq, wp_ok, bind_ok, bind_req, ev_r, ev_f, setB_r, putS, Sf.set, Sf.reg, mask_eq, maskR_nil, maskR_cons, getR, setR, maskL, Sf.disAt, id, dis_lit, dis_ptr, dis_sl, List.map_cons, List.map_nil, Option.map_some, Int.toNat_natCast, ↓reduceIte, Nat.reduceEqDiff, reduceCtorEq, BB_len, BB_take, BB_drop, req_dec, cond_yes, cond_no, IntWalk.i64_in, up_add, up_sub, and_pre, aqueductlaw43_FrameHolds_26e, aqueductlaw43_FrameHolds_27e, aqueductlaw43_FrameHolds_28e, aqueductlaw43_FrameHolds_28l, aqueductlaw43_FrameHolds_29e, aqueductlaw43_FrameHolds_30e, aqueductlaw43_FrameHolds_31e, aqueductlaw43_FrameHolds_32e, aqueductlaw43_FrameHolds_33e, aqueductlaw43_FrameHolds_33l, aqueductlaw43_FrameHolds_34e, aqueductlaw43_FrameHolds_35e, aqueductlaw43_FrameHolds_36e, aqueductlaw43_FrameHolds_36l, aqueductlaw43_FrameHolds_37e, aqueductlaw43_FrameHolds_39e, aqueductlaw43_FrameHolds_40e, aqueductlaw43_FrameHolds_41e, aqueductlaw43_FrameHolds_41l]
      refine call_a rfl e_frame_Reader_Feed hfeed rfl fun v st' hv => ?_
      obtain ⟨hv1, rb', hrb', hv2⟩ := hv
      subst hv1 hv2
      simp -implicitDefEqProofs (maxSteps := 10000000) (disch := omega) only [seqQ_normal, aC_skip, opsK_eq, runI_nil, runI_none, putP_eq, cond_ff, o_bin, n_neq, wp_ok, ev_r, ev_c, setB_r, putS, Sf.set, Sf.reg, mask_eq, maskR_nil, maskR_cons, getR, setR, maskL, ↓reduceIte, Nat.reduceEqDiff, reduceCtorEq, not_true_eq_false, decide_false, aqueductlaw43_FrameHolds_42e, frsAV]
      exact hstep rb' hrb'
  · have e : i = p.length + 1 := by omega
    obtain ⟨e1, e2⟩ := h6 e
    subst e1 e2
    have e3 : (joinB (l.take l.length)) = joinB l := by rw [List.take_length]
    have e4 : pend l (joinB l).length l.length = [] := by simp [pend, joinB]
    rw [e4] at h5
    rw [e3]
    simp -implicitDefEqProofs (maxSteps := 10000000) (disch := omega) only [seqQ_normal, seqQ_exit, aC_exit, opsK_eq, runI_nil, runI_none, putP_eq, o_mv, o_bin, o_len, lenI, n_leq, wp_ok, ev_r, setB_r, putS, Sf.set, Sf.reg, mask_eq, maskR_nil, maskR_cons, getR, setR, maskL, dis_lit, dis_sl, ↓reduceIte, Nat.reduceEqDiff, reduceCtorEq, BB_len, cond_no, aqueductlaw43_FrameHolds_26e, aqueductlaw43_FrameHolds_27e, aqueductlaw43_FrameHolds_28e, aqueductlaw43_FrameHolds_28l, aqueductlaw43_FrameHolds_29e, frsAV]
    exact hKe _ _ _ (hQ rb h5)
end Go.Fx.YtenijlfcfmhmkaaFx

