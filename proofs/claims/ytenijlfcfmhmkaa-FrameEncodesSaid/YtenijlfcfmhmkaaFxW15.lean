/- What the functions that the statement reaches compute: part 15. -/
import Derived.Test.YtenijlfcfmhmkaaFxW14
namespace Go.Fx.YtenijlfcfmhmkaaFx
open Go Go.Fx
attribute [local irreducible] aC runI headI loopI

set_option maxRecDepth 100000
set_option maxHeartbeats 8000000

theorem joinf_long (l : List Fr) (hf : fewB l = true) (hs : ¬ shortB l = true) (st : St) : PCalls Go.Proofs.Try.prog n_frame_Join [frsAV l] st (.tup [.lit (.slice none 0 0), .lit (.int .i64 5)]) := by
  refine pure_eq ?_ (.tup _ (by simp [AV.NB.lit])) (by simp [frs_nb]) st
  refine acalls_id hmix k_frame_Join rfl rfl ?_
  unfold aFun c_frame_Join
  simp -implicitDefEqProofs (maxSteps := 10000000) (disch := omega) only [seqQ_normal, opsK_eq, runI_nil, runI_none, putP_eq, o_mv, o_len, lenI, wp_ok, ev_r, ev_c, putS, Sf.set, Sf.reg, mask_eq, maskR_nil, maskR_cons, getR, setR, maskL, regs0, dis_lit, dis_sl, ↓reduceIte, Nat.reduceEqDiff, reduceCtorEq, List.length_map, frame_Join_1e, frame_Join_2e, frame_Join_2l, frame_Join_3e, frame_Join_4e, frame_Join_4l, frame_Join_5e, frame_Join_6e, frame_Join_7e, frame_Join_7l, frame_Join_8e, frsAV]
  rw [frame_Join_9w]
  obtain ⟨hf1, hf2⟩ := fewB_iff.1 hf
  refine loop_op (A := Nat × AV) (fun a => l.length - a.1) (fun a => ⟨[(4, a.2), (9, .sl false 2 (l.map frAV)), (10, .lit (.int .i64 l.length)), (11, .lit (.int .i64 (a.1 : Nat)))], []⟩) (fun _ => ⟨[]⟩)
    (fun a => a.1 ≤ l.length ∧ Own1 a.2 (joinB (l.take a.1)) ∧ ∀ f ∈ l.take a.1, f.2.length ≤ 1024) (0, .lit (.slice none 0 0)) ⟨by simp, .inr ⟨rfl, rfl⟩, by simp⟩ (Sf.le_refl _) rfl ?_
  rintro ⟨i, v⟩ ⟨h1, h2, h3⟩ K hK hKe hKr
  simp only at h1 h2 h3
  by_cases h : i < l.length
  · have e1 : (l.map frAV).getD i .any = frAV l[i] := by simp [List.getD, h]
    have hmem := hf2 l[i] (List.getElem_mem h)
    have hjl := joinB_len h3
    have hti : (l.take i).length = i := by simp; omega
    rw [hti] at hjl
    by_cases hb : l[i].2.length ≤ 1024
    · have hc := fun st => encode_pure l[i].1 l[i].2 hb st
      have hel := enc_len l[i].1 l[i].2
      have hnext : joinB (l.take i) ++ encB l[i].1 l[i].2 = joinB (l.take (i + 1)) := by
        rw [List.take_succ_eq_append_getElem h, joinB_app]; simp [joinB]
      have h3' : ∀ f ∈ l.take (i + 1), f.2.length ≤ 1024 := by
        rw [List.take_succ_eq_append_getElem h]
        intro f hf
        rcases List.mem_append.1 hf with hf | hf
        · exact h3 f hf
        · simp only [List.mem_singleton] at hf
          subst hf; exact hb
      have hemp : (BB (encB l[i].1 l[i].2)).isEmpty = false := by
        cases hq : encB l[i].1 l[i].2 with
        | nil => rw [hq] at hel; simp at hel
        | cons x r => rfl
      generalize encB l[i].1 l[i].2 = en at *
      rcases h2 with rfl | ⟨rfl, h0⟩
      · simp -implicitDefEqProofs (maxSteps := 10000000) (disch := omega) only [seqQ_normal, aC_skip, opsK_eq, runI_nil, runI_none, putP_eq, o_bin, o_ixS, o_load, o_newL, o_store, o_call, ixSV, loadV, boxX, writeX, ixA, derefI, takeI_some, n_lss, wp_ok, bind_ok, bind_req, ofOpt_some, req_tt, ev_r, ev_f, evOwn_r, disOp_r, setB_r, putS, Sf.set, Sf.reg, mask_eq, maskR_nil, maskR_cons, getR, setR, maskL, Sf.disAt, Sf.newLoc, Sf.setLoc, look, killR, drop1, id, dis_agg, own1_lit, own1_sl, cells_agg, solid1_lit, solid1_sl, solid_eq, kill_lit, kill_cptr, kill_sl, kill_agg, List.map_cons, List.map_nil, List.length_cons, List.length_nil, List.all_cons, List.all_nil, List.drop_zero, List.take_succ_cons, List.take_zero, List.set_cons_zero, List.set_cons_succ, Int.toNat_natCast, ↓reduceIte, Nat.reduceEqDiff, Nat.reduceAdd, Nat.reduceLeDiff, Bool.true_and, Bool.and_true, and_true, true_and, Nat.zero_add, decide_true, List.length_map, req_dec, cond_yes, and_pre, setAt_nil, setAt_cons, frame_Join_10e, frame_Join_11e, frame_Join_11l, frame_Join_12e, frame_Join_13e, frame_Join_14e, frame_Join_15e, frame_Join_16e, frame_Join_17e, frame_Join_17l, frame_Join_18e, frame_Join_19e, frame_Join_19l, e1, frAV]
        refine call_p rfl e_frame_Encode (hc _) rfl ?_
        simp -implicitDefEqProofs (maxSteps := 10000000) (disch := omega) only [seqQ_normal, blockQ_normal, aC_skip, opsK_eq, runI_nil, runI_none, putP_eq, cond_ff, o_mv, o_bin, o_ext, o_own, o_appS, extV, appSX, appOwnI, srcA, n_add, n_neq, wp_ok, bind_ok, ofOpt_some, req_tt, ev_r, ev_c, setB_r, putS, Sf.set, Sf.reg, mask_eq, maskR_nil, maskR_cons, getR, setR, maskL, Sf.disAt, dis_lit, dis_sl, dis_tup, own2_lit, own2_sl, List.map_cons, List.map_nil, List.getElem?_cons_zero, List.getElem?_cons_succ, ↓reduceIte, Nat.reduceEqDiff, not_true_eq_false, decide_false, BB_len, BB_app, BB_dis, room_of, IntWalk.i64_in, up_addL, frame_Join_20e, frame_Join_21e, frame_Join_22e, frame_Join_22l, frame_Join_23e, frame_Join_26e, frame_Join_26l, frame_Join_27e, frame_Join_27l, hnext]
        exact hK (i + 1, .sl true 1 (BB (joinB (l.take (i + 1))))) _ ⟨by simp only; omega, .inl rfl, h3'⟩ (by simp only; omega) (Sf.le_refl _)
      · simp -implicitDefEqProofs (maxSteps := 10000000) (disch := omega) only [seqQ_normal, aC_skip, opsK_eq, runI_nil, runI_none, putP_eq, o_bin, o_ixS, o_load, o_newL, o_store, o_call, ixSV, loadV, boxX, writeX, ixA, derefI, takeI_some, n_lss, wp_ok, bind_ok, bind_req, ofOpt_some, req_tt, ev_r, ev_f, evOwn_r, disOp_r, setB_r, putS, Sf.set, Sf.reg, mask_eq, maskR_nil, maskR_cons, getR, setR, maskL, Sf.disAt, Sf.newLoc, Sf.setLoc, look, killR, drop1, id, dis_agg, own1_lit, own1_sl, cells_agg, solid1_lit, solid1_sl, solid_eq, kill_lit, kill_cptr, kill_sl, kill_agg, List.map_cons, List.map_nil, List.length_cons, List.length_nil, List.all_cons, List.all_nil, List.drop_zero, List.take_succ_cons, List.take_zero, List.set_cons_zero, List.set_cons_succ, Int.toNat_natCast, ↓reduceIte, Nat.reduceEqDiff, Nat.reduceAdd, Nat.reduceLeDiff, Bool.true_and, Bool.and_true, and_true, true_and, Nat.zero_add, decide_true, List.length_map, req_dec, cond_yes, and_pre, setAt_nil, setAt_cons, frame_Join_10e, frame_Join_11e, frame_Join_11l, frame_Join_12e, frame_Join_13e, frame_Join_14e, frame_Join_15e, frame_Join_16e, frame_Join_17e, frame_Join_17l, frame_Join_18e, frame_Join_19e, frame_Join_19l, e1, frAV]
        refine call_p rfl e_frame_Encode (hc _) rfl ?_
        simp -implicitDefEqProofs (maxSteps := 10000000) (disch := omega) only [seqQ_normal, blockQ_normal, aC_skip, opsK_eq, runI_nil, runI_none, putP_eq, cond_ff, o_mv, o_bin, o_ext, o_own, o_appS, extV, appSX, appNewI, srcA, n_add, n_neq, wp_ok, bind_ok, ofOpt_some, req_tt, ev_r, ev_c, setB_r, putS, Sf.set, Sf.reg, mask_eq, maskR_nil, maskR_cons, getR, setR, maskL, Sf.disAt, dis_lit, dis_sl, dis_tup, own2_lit, own2_sl, List.map_cons, List.map_nil, List.getElem?_cons_zero, List.getElem?_cons_succ, ↓reduceIte, Nat.reduceEqDiff, not_true_eq_false, decide_false, Bool.false_eq_true, BB_len, BB_dis, room_of, IntWalk.i64_in, up_addL, frame_Join_20e, frame_Join_21e, frame_Join_22e, frame_Join_22l, frame_Join_23e, frame_Join_26e, frame_Join_26l, frame_Join_27e, frame_Join_27l, hemp]
        rw [h0, List.nil_append] at hnext
        exact hK (i + 1, .sl true 1 (BB en)) _ ⟨by simp only; omega, .inl (by simp only [← hnext]), h3'⟩ (by simp only; omega) (Sf.le_refl _)
    · have hc := fun st => encode_pure' l[i].1 l[i].2 hb (by omega) st
      rcases h2 with rfl | ⟨rfl, h0⟩
      · simp -implicitDefEqProofs (maxSteps := 10000000) (disch := omega) only [seqQ_normal, aC_skip, opsK_eq, runI_nil, runI_none, putP_eq, o_bin, o_ixS, o_load, o_newL, o_store, o_call, ixSV, loadV, boxX, writeX, ixA, derefI, takeI_some, n_lss, wp_ok, bind_ok, bind_req, ofOpt_some, req_tt, ev_r, ev_f, evOwn_r, disOp_r, setB_r, putS, Sf.set, Sf.reg, mask_eq, maskR_nil, maskR_cons, getR, setR, maskL, Sf.disAt, Sf.newLoc, Sf.setLoc, look, killR, drop1, id, dis_agg, own1_lit, own1_sl, cells_agg, solid1_lit, solid1_sl, solid_eq, kill_lit, kill_cptr, kill_sl, kill_agg, List.map_cons, List.map_nil, List.length_cons, List.length_nil, List.all_cons, List.all_nil, List.drop_zero, List.take_succ_cons, List.take_zero, List.set_cons_zero, List.set_cons_succ, Int.toNat_natCast, ↓reduceIte, Nat.reduceEqDiff, Nat.reduceAdd, Nat.reduceLeDiff, Bool.true_and, Bool.and_true, and_true, true_and, Nat.zero_add, decide_true, List.length_map, req_dec, cond_yes, and_pre, setAt_nil, setAt_cons, frame_Join_10e, frame_Join_11e, frame_Join_11l, frame_Join_12e, frame_Join_13e, frame_Join_14e, frame_Join_15e, frame_Join_16e, frame_Join_17e, frame_Join_17l, frame_Join_18e, frame_Join_19e, frame_Join_19l, e1, frAV]
        refine call_p rfl e_frame_Encode (hc _) rfl ?_
        simp -implicitDefEqProofs (maxSteps := 10000000) (disch := omega) only [seqQ_normal, seqQ_ret, blockQ_ret, aC_ret, opsK_eq, runI_nil, runI_none, putP_eq, cond_tt, o_mv, o_bin, o_ext, o_own, extV, n_neq, wp_ok, bind_ok, ofOpt_some, ev_r, ev_c, setB_r, putS, Sf.set, Sf.reg, mask_eq, maskR_nil, maskR_cons, getR, setR, maskL, Sf.disAt, dis_lit, dis_tup, own2_lit, List.map_cons, List.map_nil, List.getElem?_cons_zero, List.getElem?_cons_succ, ↓reduceIte, Nat.reduceEqDiff, Int.reduceEq, not_false_eq_true, decide_true, frame_Join_20e, frame_Join_21e, frame_Join_22e, frame_Join_22l, frame_Join_23e, frame_Join_24e, frame_Join_25e, frame_Join_25l]
        refine hKr _ _ ?_
        simp -implicitDefEqProofs (maxSteps := 10000000) (disch := omega) only [seqQ_ret, blockQ_ret, retQ_ret, retI, resI, resL, wp_ok, bind_ok, Sf.reg, getR, dis_lit, noL_lit, noL_tup, List.all_cons, List.all_nil, ↓reduceIte, Nat.reduceEqDiff, Bool.true_and, Bool.and_true, and_true, true_and]
        exact .tupL ⟨.refl _, .refl _, trivial⟩
      · simp -implicitDefEqProofs (maxSteps := 10000000) (disch := omega) only [seqQ_normal, aC_skip, opsK_eq, runI_nil, runI_none, putP_eq, o_bin, o_ixS, o_load, o_newL, o_store, o_call, ixSV, loadV, boxX, writeX, ixA, derefI, takeI_some, n_lss, wp_ok, bind_ok, bind_req, ofOpt_some, req_tt, ev_r, ev_f, evOwn_r, disOp_r, setB_r, putS, Sf.set, Sf.reg, mask_eq, maskR_nil, maskR_cons, getR, setR, maskL, Sf.disAt, Sf.newLoc, Sf.setLoc, look, killR, drop1, id, dis_agg, own1_lit, own1_sl, cells_agg, solid1_lit, solid1_sl, solid_eq, kill_lit, kill_cptr, kill_sl, kill_agg, List.map_cons, List.map_nil, List.length_cons, List.length_nil, List.all_cons, List.all_nil, List.drop_zero, List.take_succ_cons, List.take_zero, List.set_cons_zero, List.set_cons_succ, Int.toNat_natCast, ↓reduceIte, Nat.reduceEqDiff, Nat.reduceAdd, Nat.reduceLeDiff, Bool.true_and, Bool.and_true, and_true, true_and, Nat.zero_add, decide_true, List.length_map, req_dec, cond_yes, and_pre, setAt_nil, setAt_cons, frame_Join_10e, frame_Join_11e, frame_Join_11l, frame_Join_12e, frame_Join_13e, frame_Join_14e, frame_Join_15e, frame_Join_16e, frame_Join_17e, frame_Join_17l, frame_Join_18e, frame_Join_19e, frame_Join_19l, e1, frAV]
        refine call_p rfl e_frame_Encode (hc _) rfl ?_
        simp -implicitDefEqProofs (maxSteps := 10000000) (disch := omega) only [seqQ_normal, seqQ_ret, blockQ_ret, aC_ret, opsK_eq, runI_nil, runI_none, putP_eq, cond_tt, o_mv, o_bin, o_ext, o_own, extV, n_neq, wp_ok, bind_ok, ofOpt_some, ev_r, ev_c, setB_r, putS, Sf.set, Sf.reg, mask_eq, maskR_nil, maskR_cons, getR, setR, maskL, Sf.disAt, dis_lit, dis_tup, own2_lit, List.map_cons, List.map_nil, List.getElem?_cons_zero, List.getElem?_cons_succ, ↓reduceIte, Nat.reduceEqDiff, Int.reduceEq, not_false_eq_true, decide_true, frame_Join_20e, frame_Join_21e, frame_Join_22e, frame_Join_22l, frame_Join_23e, frame_Join_24e, frame_Join_25e, frame_Join_25l]
        refine hKr _ _ ?_
        simp -implicitDefEqProofs (maxSteps := 10000000) (disch := omega) only [seqQ_ret, blockQ_ret, retQ_ret, retI, resI, resL, wp_ok, bind_ok, Sf.reg, getR, dis_lit, noL_lit, noL_tup, List.all_cons, List.all_nil, ↓reduceIte, Nat.reduceEqDiff, Bool.true_and, Bool.and_true, and_true, true_and]
        exact .tupL ⟨.refl _, .refl _, trivial⟩
  · have e : i = l.length := by omega
    rw [e, List.take_length] at h3
    exact absurd (shortB_iff.2 h3) hs

theorem conv_box {st : St} {q c : Nat} {L : List UInt8} {e : List AV} (h : st.get q = some (BB L ++ e)) : convI st .bs (.bs q 1 0 L.length c) = .req true (.ok (.lit (.string (str L)))) := by
  simp only [convI, if_true, bsElems, h, ofOpt_some, bind_ok, Nat.mul_one, Nat.zero_add, List.drop_zero]
  rw [grp_one (by simp [BB_len]), show (BB L ++ e).take L.length = BB L from List.take_left' (BB_len L)]
  simp [BB_len, strOf_BB, Res.ofOpt, Res.bind]

theorem conv_nil (st : St) : convI st .bs (.lit (.slice none 0 0)) = .ok (.lit (.string (str []))) := rfl

/-- All bytes of a box are changed. -/
theorem enc_flip (l : AV) (want own : AV) (i q c : Nat) (L : List UInt8) (e : List AV) (hL : L.length ≤ 2000) (st : St) (hg : st.get q = some (BB L ++ e)) (Q : Exit → Sf → St → Prop)
    (hQ : ∀ st', Q (.exit 2) ⟨[(0, l), (3, want), (4, .lit (.int .i64 (i : Nat))), (5, own)], []⟩ st') :
    aC Go.Proofs.Try.prog id false aqueductlaw43_FrameEncodes_46 ⟨[(0, l), (3, want), (4, .lit (.int .i64 (i : Nat))), (5, own), (6, .bs q 1 0 L.length c), (8, .lit (.int .i64 0))], []⟩ st Q := by
  rw [aqueductlaw43_FrameEncodes_46w]
  refine loop_op (A := Nat × List UInt8 × St) (fun a => L.length - a.1) (fun a => ⟨[(0, l), (3, want), (4, .lit (.int .i64 (i : Nat))), (5, own), (6, .bs q 1 0 L.length c), (8, .lit (.int .i64 (a.1 : Nat)))], []⟩) (fun a => a.2.2)
    (fun a => a.1 ≤ L.length ∧ a.2.1.length = L.length ∧ a.2.2.get q = some (BB a.2.1 ++ e)) (0, L, st) ⟨by simp, rfl, hg⟩ (Sf.le_refl _) rfl ?_
  rintro ⟨k, B, st⟩ ⟨h1, h2, h3⟩ K hK hKe _
  simp only at h1 h2 h3
  by_cases hk : k < L.length
  · have hld : (BB B ++ e).drop k = .lit (.int .u8 (B.getD k 0).toNat) :: (BB B ++ e).drop (k + 1) := by
      have hkb : k < B.length := by omega
      rw [List.drop_eq_getElem_cons (by simp [BB_len]; omega)]
      congr 1
      simp [BB, List.getElem_append, hkb, ofByte, List.getD]
    simp -implicitDefEqProofs (maxSteps := 10000000) (disch := omega) only [seqQ_normal, blockQ_normal, aC_skip, opsK_eq, runI_nil, runI_none, putP_eq, o_mv, o_bin, o_un, o_ixS, o_load, o_len, o_own, o_store, ixSV, loadV, boxX, writeX, ixA, lenI, derefI, takeI_none, unA, n_add, n_lss, wp_ok, bind_ok, bind_req, ofOpt_some, ev_r, ev_c, evOwn_r, disOp_r, setB_r, putS, Sf.set, Sf.reg, mask_eq, maskR_nil, maskR_cons, getR, setR, maskL, Sf.disAt, dis_lit, dis_bs, cells_lit, solid1_lit, solid_eq, List.length_cons, List.length_nil, List.all_cons, List.all_nil, Int.toNat_natCast, ↓reduceIte, Nat.reduceEqDiff, Int.reduceNeg, Bool.true_and, Bool.and_true, and_true, true_and, reduceCtorEq, Nat.zero_add, BB_len, req_dec, cond_yes, IntWalk.i64_in, up_addL, and_pre, List.length_append, setAt_nil, setAt_cons, Nat.mul_one, aqueductlaw43_FrameEncodes_47e, aqueductlaw43_FrameEncodes_48e, aqueductlaw43_FrameEncodes_49e, aqueductlaw43_FrameEncodes_49l, aqueductlaw43_FrameEncodes_50e, aqueductlaw43_FrameEncodes_51e, aqueductlaw43_FrameEncodes_52e, aqueductlaw43_FrameEncodes_53e, aqueductlaw43_FrameEncodes_53l, aqueductlaw43_FrameEncodes_54e, aqueductlaw43_FrameEncodes_54l, h3, hld]
    rw [w_u8]
    generalize UInt8.ofNat (BitVec.ofInt IntKind.u8.bits (if IntKind.u8.signed = true then -1 else IntKind.u8.max) ^^^ BitVec.ofInt IntKind.u8.bits ((B.getD k 0).toNat : Int)).toNat = z
    refine hK (k + 1, B.set k z, st.set q ((BB B ++ e).set k (.lit (.int .u8 z.toNat)))) _ ⟨by simp only; omega, by simpa using h2, ?_⟩ (by simp only; omega) (Sf.le_refl _)
    simp only
    rw [get_set (get_lt h3), ← BB_set, List.set_append_left _ _ (by rw [BB_len]; omega)]
  · simp -implicitDefEqProofs (maxSteps := 10000000) (disch := omega) only [seqQ_normal, seqQ_exit, aC_exit, opsK_eq, runI_nil, runI_none, putP_eq, o_mv, o_bin, o_len, lenI, n_lss, wp_ok, ev_r, setB_r, putS, Sf.set, Sf.reg, mask_eq, maskR_nil, maskR_cons, getR, setR, maskL, dis_lit, dis_bs, ↓reduceIte, Nat.reduceEqDiff, reduceCtorEq, cond_no, aqueductlaw43_FrameEncodes_47e, aqueductlaw43_FrameEncodes_48e, aqueductlaw43_FrameEncodes_49e, aqueductlaw43_FrameEncodes_49l, aqueductlaw43_FrameEncodes_50e]
    exact hKe _ _ _ (hQ st)
end Go.Fx.YtenijlfcfmhmkaaFx

