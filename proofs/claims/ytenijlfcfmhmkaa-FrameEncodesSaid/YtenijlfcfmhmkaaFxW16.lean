/- What the functions that the statement reaches compute: part 16. -/
import Derived.Test.YtenijlfcfmhmkaaFxW15
namespace Go.Fx.YtenijlfcfmhmkaaFx
open Go Go.Fx
attribute [local irreducible] aC runI headI loopI

set_option maxRecDepth 100000
set_option maxHeartbeats 8000000

/-- What all frames that fit are encoded to. -/
def wantB (l : List Fr) : List UInt8 := joinB (l.filter fun f => decide (f.2.length ≤ 1024))
theorem wantB_short {l : List Fr} (h : ∀ f ∈ l, f.2.length ≤ 1024) : wantB l = joinB l := by
  unfold wantB
  rw [List.filter_eq_self.2 fun f hf => by simpa using h f hf]
theorem wantB_len {l : List Fr} : (wantB l).length ≤ 1030 * l.length := by
  have := joinB_len (l := l.filter fun f => decide (f.2.length ≤ 1024)) fun f hf => by simpa using (List.mem_filter.1 hf).2
  have h2 := List.length_filter_le (fun f : Fr => decide (f.2.length ≤ 1024)) l
  unfold wantB
  omega

theorem appNew_BB {st : St} {fb : List UInt8} {K : AV → Prop} (h : fb.length ≤ 1000000) (hK : ∀ u, Own1 u fb → K u) : (appNewI st 1 1 (.lit (.slice none 0 0)) (.sl false 1 (BB fb))).wp K := by
  rcases fb with _ | ⟨x, fb⟩
  · exact hK _ (.inr ⟨rfl, rfl⟩)
  · show Res.wp (Res.req _ _) K
    refine ⟨room_of (by simp [BB_len] at h ⊢; omega), ?_⟩
    have : (BB (x :: fb)).map AV.dis = BB (x :: fb) := BB_dis _
    show K (.sl true 1 ((BB (x :: fb)).map AV.dis))
    rw [this]
    exact hK _ (.inl rfl)

/-- The loop over all frames. -/
theorem encodes_loop (l : List Fr) (hf : fewB l = true) (Q : Exit → Sf → St → Prop)
    (hQ : ∀ w st, Own1 w (wantB l) → Q (.exit 0) ⟨[(0, frsAV l), (3, w)], []⟩ st) :
    aC Go.Proofs.Try.prog id false aqueductlaw43_FrameEncodes_15 ⟨[(0, frsAV l), (3, .lit (.slice none 0 0)), (4, .lit (.int .i64 0))], []⟩ ⟨[]⟩ Q := by
  obtain ⟨hf1, hf2⟩ := fewB_iff.1 hf
  rw [aqueductlaw43_FrameEncodes_15w]
  refine loop_op (A := Nat × AV × St) (fun a => l.length - a.1) (fun a => ⟨[(0, frsAV l), (3, a.2.1), (4, .lit (.int .i64 (a.1 : Nat)))], []⟩) (fun a => a.2.2)
    (fun a => a.1 ≤ l.length ∧ Own1 a.2.1 (wantB (l.take a.1))) (0, .lit (.slice none 0 0), ⟨[]⟩) ⟨by simp, .inr ⟨rfl, rfl⟩⟩ (Sf.le_refl _) rfl ?_
  rintro ⟨i, w, st⟩ ⟨h1, h2⟩ K hK hKe _
  simp only at h1 h2
  by_cases h : i < l.length
  · have e1 : (l.map frAV).getD i .any = frAV l[i] := by simp [List.getD, h]
    have hmem := hf2 l[i] (List.getElem_mem h)
    have hwl := wantB_len (l := l.take i)
    have hti : (l.take i).length = i := by simp; omega
    rw [hti] at hwl
    have hnx : wantB (l.take (i + 1)) = if l[i].2.length ≤ 1024 then wantB (l.take i) ++ encB l[i].1 l[i].2 else wantB (l.take i) := by
      rw [List.take_succ_eq_append_getElem h]
      unfold wantB
      rw [List.filter_append, joinB_app]
      split
      · rename_i q; simp [q, joinB]
      · rename_i q
        have : decide (l[i].2.length ≤ 1024) = false := by simpa using q
        simp [this, joinB]
    obtain ⟨⟨fk, fb⟩, hfe⟩ : ∃ f, f = l[i] := ⟨_, rfl⟩
    rw [← hfe] at e1 hmem hnx
    simp only at hmem hnx
    have hw : w.dis.dis = w.dis ∧ ∀ s, kill s w = w := by rcases h2 with rfl | ⟨rfl, _⟩ <;> exact ⟨rfl, fun _ => rfl⟩
    by_cases hb : fb.length ≤ 1024
    · rw [if_pos hb] at hnx
      have hrest : ∀ own : AV, Own1 own fb → aC Go.Proofs.Try.prog id false aqueductlaw43_FrameEncodes_24 ⟨[(0, frsAV l), (3, w), (4, .lit (.int .i64 (i : Nat))), (5, own)], []⟩ st (blockQ 1 (seqQ (aC Go.Proofs.Try.prog id false aqueductlaw43_FrameEncodes_62) K)) := by
        intro own hown
        have hz : isB own.dis fb := by rcases hown with rfl | ⟨rfl, rfl⟩ <;> first | exact .inl rfl | exact .inr ⟨rfl, rfl⟩
        have hen := encode_ok (k := fk) hz hb st
        have hrf := fun st => refEncode_pure fk fb hb st
        have hel := enc_len fk fb
        have hemp : (BB (encB fk fb)).isEmpty = false := by
          cases hq : encB fk fb with
          | nil => rw [hq] at hel; simp at hel
          | cons x r => rfl
        generalize encB fk fb = en at *
        have hcn : fb = [] → ∀ st, convI st .bs (.lit (.slice none 0 0)) = .ok (.lit (.string (str fb))) := fun e st => by rw [e]; rfl
        have hown2 : own = .sl true 1 (BB fb) ∨ (own = .lit (.slice none 0 0) ∧ ∀ st, convI st .bs (.lit (.slice none 0 0)) = .ok (.lit (.string (str fb)))) := by
          rcases hown with h | ⟨h1, h2⟩
          · exact .inl h
          · exact .inr ⟨h1, hcn h2⟩
        clear hcn hown
        rcases hown2 with rfl | ⟨rfl, hcn⟩
        · simp -implicitDefEqProofs (maxSteps := 10000000) (disch := omega) only [and_self, runI_none, putP_eq, o_mv, o_addr, o_ixS, o_load, o_bst, o_call, ixSV, loadV, bstV, ixA, addA, derefI, takeI_none, buildA, wp_ok, bind_ok, bind_req, ev_r, ev_f, putS, Sf.set, Sf.reg, getR, setR, id, dis_lit, dis_sl, cells_lit, cells_sl, cells_agg, solid1_lit, solid1_sl, solid_eq, List.map_cons, List.map_nil, List.length_cons, List.length_nil, List.getElem?_cons_zero, List.getElem?_cons_succ, List.all_cons, List.all_nil, List.drop_zero, List.set_cons_zero, List.set_cons_succ, Int.toNat_natCast, ↓reduceIte, Nat.reduceEqDiff, Nat.reduceAdd, Nat.reduceLeDiff, Bool.and_true, and_true, reduceCtorEq, Nat.zero_add, List.length_map, req_dec, and_pre, setAt_nil, setAt_cons, aqueductlaw43_FrameEncodes_24e, aqueductlaw43_FrameEncodes_25e, aqueductlaw43_FrameEncodes_25l, frsAV, frAV, e1]
          refine call_a rfl e_frame_Encode hen rfl fun v st' hv => ?_
          obtain ⟨e, he, hv1, hv2⟩ := hv
          subst hv1 hv2
          have hg := get_push st (BB en ++ e)
          have hcv : convI (st.push (.cells (BB en ++ e))) .bs (.bs st.boxes.length 1 0 (fb.length + 6) (fb.length + 6)) = .req true (.ok (.lit (.string (str en)))) := by rw [← hel]; exact conv_box hg
          generalize st.push (.cells (BB en ++ e)) = st2 at *
          simp -implicitDefEqProofs (maxSteps := 10000000) (disch := omega) only [h_none, h_some, hh_mv, hh_bin, hh_conv, hh_ixS, hh_load, hh_call, guardH_ff, val_head, seqQ_normal, aC_skip, opsK_eq, runI_nil, runI_none, AI.dst, putP_eq, o_mv, o_bin, o_ext, o_len, o_own, extV, ixSV, loadV, ixA, lenI, derefI, takeI_some, n_neq, n_gtr, wp_ok, bind_ok, bind_req, ofOpt_some, req_tt, ev_r, ev_c, ev_f, setB_r, putS, Sf.set, Sf.reg, mask_eq, maskR_nil, maskR_cons, getR, setR, maskL, Sf.disAt, dropL, id, dis_lit, dis_sl, dis_agg, dis_tup, dis_bs, own1_lit, own1_sl, own2_lit, own2_bs, cells_agg, List.map_cons, List.map_nil, List.length_cons, List.length_nil, List.getElem?_cons_zero, List.getElem?_cons_succ, List.take_succ_cons, List.take_zero, Int.toNat_natCast, ↓reduceIte, Nat.reduceEqDiff, Nat.reduceAdd, Nat.reduceLeDiff, reduceCtorEq, Nat.zero_add, not_true_eq_false, decide_true, decide_false, List.length_map, BB_len, req_dec, cond_no, and_pre, aqueductlaw43_FrameEncodes_26e, aqueductlaw43_FrameEncodes_27e, aqueductlaw43_FrameEncodes_28e, aqueductlaw43_FrameEncodes_28l, aqueductlaw43_FrameEncodes_29e, aqueductlaw43_FrameEncodes_36e, aqueductlaw43_FrameEncodes_37e, aqueductlaw43_FrameEncodes_38e, aqueductlaw43_FrameEncodes_38h, aqueductlaw43_FrameEncodes_38l, frAV, e1, hcv]
          refine call_h rfl e_aqueductref43_Encode (hrf _) rfl ?_
          simp -implicitDefEqProofs (maxSteps := 10000000) (disch := omega) only [h_nil, h_none, h_some, hh_mv, hh_pick, hh_bin, hh_conv, hh_addr, hh_ixS, hh_load, guardH_ff, cons_val, val_head, tail_nil, seqQ_normal, aC_skip, opsK_eq, runI_nil, runI_none, runI_some, AI.dst, putP_eq, cond_ff, guard_ff, o_mv, o_pick, o_bin, pick_ff, ixSV, loadV, ixA, addA, derefI, takeI_none, wp_ok, bind_ok, bind_req, ev_r, ev_c, setB_r, putS, Sf.set, Sf.reg, mask_eq, maskR_nil, maskR_cons, getR, setR, maskL, dis_lit, dis_sl, cells_agg, List.drop_zero, List.drop_succ_cons, Int.toNat_natCast, ↓reduceIte, Nat.reduceEqDiff, reduceCtorEq, not_true_eq_false, decide_false, Bool.false_eq_true, List.length_map, str_neq, req_dec, and_pre, aqueductlaw43_FrameEncodes_39e, aqueductlaw43_FrameEncodes_42e, aqueductlaw43_FrameEncodes_43e, aqueductlaw43_FrameEncodes_44e, aqueductlaw43_FrameEncodes_44l, aqueductlaw43_FrameEncodes_45e, frAV, e1, conv_sl]
          rw [← hel]
          refine enc_flip _ _ _ _ _ _ en e (by omega) st2 hg _ fun st3 => ?_
          simp -implicitDefEqProofs (maxSteps := 10000000) (disch := omega) only [h_nil, h_none, hh_mv, hh_conv, hh_addr, hh_ixS, hh_load, val_head, tail_nil, seqQ_normal, blockQ_exit, aC_skip, opsK_eq, runI_nil, runI_none, putP_eq, cond_ff, o_mv, o_bin, o_ixS, o_load, o_own, o_call, ixSV, loadV, ixA, addA, derefI, takeI_none, takeI_some, wp_ok, bind_ok, bind_req, req_tt, ev_r, ev_f, setB_r, putS, Sf.set, Sf.reg, mask_eq, maskR_nil, maskR_cons, getR, setR, maskL, Sf.disAt, dropL, id, dis_lit, dis_sl, dis_agg, own1_lit, own1_sl, cells_agg, List.map_cons, List.map_nil, List.length_cons, List.length_nil, List.drop_zero, List.drop_succ_cons, List.take_succ_cons, List.take_zero, Int.toNat_natCast, ↓reduceIte, Nat.reduceEqDiff, Nat.reduceAdd, Nat.reduceLeDiff, reduceCtorEq, Nat.zero_add, not_true_eq_false, decide_true, decide_false, List.length_map, str_neq, req_dec, and_pre, aqueductlaw43_FrameEncodes_55e, aqueductlaw43_FrameEncodes_56e, aqueductlaw43_FrameEncodes_57e, aqueductlaw43_FrameEncodes_57h, aqueductlaw43_FrameEncodes_57l, aqueductlaw43_FrameEncodes_58e, aqueductlaw43_FrameEncodes_61e, aqueductlaw43_FrameEncodes_61l, frAV, e1, conv_sl]
          refine call_p rfl e_aqueductref43_Encode (hrf _) rfl ?_
          rcases h2 with rfl | ⟨rfl, h0⟩
          · simp -implicitDefEqProofs (maxSteps := 10000000) (disch := omega) only [seqQ_normal, blockQ_normal, opsK_eq, runI_nil, runI_none, putP_eq, o_mv, o_bin, o_own, o_appS, appSX, appOwnI, srcA, n_add, wp_ok, bind_ok, req_tt, ev_r, ev_c, putS, Sf.set, Sf.reg, mask_eq, maskR_nil, maskR_cons, getR, setR, maskL, Sf.disAt, dis_lit, dis_sl, ↓reduceIte, Nat.reduceEqDiff, reduceCtorEq, BB_len, BB_app, BB_dis, room_of, IntWalk.i64_in, up_addL, aqueductlaw43_FrameEncodes_62e, aqueductlaw43_FrameEncodes_62l]
            refine hK (i + 1, .sl true 1 (BB (wantB (l.take (i + 1)))), st3) _ ⟨by simp only; omega, .inl rfl⟩ (by simp only; omega) ?_
            rw [hnx]
            exact Sf.le_refl _
          · simp -implicitDefEqProofs (maxSteps := 10000000) (disch := omega) only [seqQ_normal, blockQ_normal, opsK_eq, runI_nil, runI_none, putP_eq, o_mv, o_bin, o_own, o_appS, appSX, appNewI, srcA, n_add, wp_ok, bind_ok, req_tt, ev_r, ev_c, putS, Sf.set, Sf.reg, mask_eq, maskR_nil, maskR_cons, getR, setR, maskL, Sf.disAt, dis_lit, dis_sl, ↓reduceIte, Nat.reduceEqDiff, reduceCtorEq, Bool.false_eq_true, BB_len, BB_dis, room_of, IntWalk.i64_in, up_addL, aqueductlaw43_FrameEncodes_62e, aqueductlaw43_FrameEncodes_62l, hemp]
            refine hK (i + 1, .sl true 1 (BB en), st3) _ ⟨by simp only; omega, .inl ?_⟩ (by simp only; omega) (Sf.le_refl _)
            simp only
            rw [hnx, h0, List.nil_append]
        · simp -implicitDefEqProofs (maxSteps := 10000000) (disch := omega) only [and_self, runI_none, putP_eq, o_mv, o_addr, o_ixS, o_load, o_bst, o_call, ixSV, loadV, bstV, ixA, addA, derefI, takeI_none, buildA, wp_ok, bind_ok, bind_req, ev_r, ev_f, putS, Sf.set, Sf.reg, getR, setR, id, dis_lit, dis_sl, cells_lit, cells_agg, solid1_lit, solid_eq, List.map_cons, List.map_nil, List.length_cons, List.length_nil, List.getElem?_cons_zero, List.getElem?_cons_succ, List.all_cons, List.all_nil, List.drop_zero, List.set_cons_zero, List.set_cons_succ, Int.toNat_natCast, ↓reduceIte, Nat.reduceEqDiff, Nat.reduceAdd, Nat.reduceLeDiff, Bool.and_true, and_true, reduceCtorEq, Nat.zero_add, List.length_map, req_dec, and_pre, setAt_nil, setAt_cons, aqueductlaw43_FrameEncodes_24e, aqueductlaw43_FrameEncodes_25e, aqueductlaw43_FrameEncodes_25l, frsAV, frAV, e1]
          refine call_a rfl e_frame_Encode hen rfl fun v st' hv => ?_
          obtain ⟨e, he, hv1, hv2⟩ := hv
          subst hv1 hv2
          have hg := get_push st (BB en ++ e)
          have hcv : convI (st.push (.cells (BB en ++ e))) .bs (.bs st.boxes.length 1 0 (fb.length + 6) (fb.length + 6)) = .req true (.ok (.lit (.string (str en)))) := by rw [← hel]; exact conv_box hg
          generalize st.push (.cells (BB en ++ e)) = st2 at *
          simp -implicitDefEqProofs (maxSteps := 10000000) (disch := omega) only [h_none, h_some, hh_mv, hh_bin, hh_conv, hh_ixS, hh_load, hh_call, guardH_ff, val_head, seqQ_normal, aC_skip, opsK_eq, runI_nil, runI_none, AI.dst, putP_eq, o_mv, o_bin, o_ext, o_len, o_own, extV, ixSV, loadV, ixA, lenI, derefI, takeI_some, n_neq, n_gtr, wp_ok, bind_ok, bind_req, ofOpt_some, req_tt, ev_r, ev_c, ev_f, setB_r, putS, Sf.set, Sf.reg, mask_eq, maskR_nil, maskR_cons, getR, setR, maskL, Sf.disAt, dropL, id, dis_lit, dis_sl, dis_agg, dis_tup, dis_bs, own1_lit, own1_sl, own2_lit, own2_bs, cells_agg, List.map_cons, List.map_nil, List.length_cons, List.length_nil, List.getElem?_cons_zero, List.getElem?_cons_succ, List.take_succ_cons, List.take_zero, Int.toNat_natCast, ↓reduceIte, Nat.reduceEqDiff, Nat.reduceAdd, Nat.reduceLeDiff, reduceCtorEq, Nat.zero_add, not_true_eq_false, decide_true, decide_false, List.length_map, req_dec, cond_no, and_pre, aqueductlaw43_FrameEncodes_26e, aqueductlaw43_FrameEncodes_27e, aqueductlaw43_FrameEncodes_28e, aqueductlaw43_FrameEncodes_28l, aqueductlaw43_FrameEncodes_29e, aqueductlaw43_FrameEncodes_36e, aqueductlaw43_FrameEncodes_37e, aqueductlaw43_FrameEncodes_38e, aqueductlaw43_FrameEncodes_38h, aqueductlaw43_FrameEncodes_38l, frAV, e1, hcv]
          refine call_h rfl e_aqueductref43_Encode (hrf _) rfl ?_
          simp -implicitDefEqProofs (maxSteps := 10000000) (disch := omega) only [h_nil, h_none, h_some, hh_mv, hh_pick, hh_bin, hh_conv, hh_addr, hh_ixS, hh_load, guardH_ff, cons_val, val_head, tail_nil, seqQ_normal, aC_skip, opsK_eq, runI_nil, runI_none, runI_some, AI.dst, putP_eq, cond_ff, guard_ff, o_mv, o_pick, o_bin, pick_ff, ixSV, loadV, ixA, addA, derefI, takeI_none, wp_ok, bind_ok, bind_req, ev_r, ev_c, setB_r, putS, Sf.set, Sf.reg, mask_eq, maskR_nil, maskR_cons, getR, setR, maskL, dis_lit, dis_sl, cells_agg, List.drop_zero, List.drop_succ_cons, Int.toNat_natCast, ↓reduceIte, Nat.reduceEqDiff, reduceCtorEq, not_true_eq_false, decide_false, Bool.false_eq_true, List.length_map, str_neq, req_dec, and_pre, aqueductlaw43_FrameEncodes_39e, aqueductlaw43_FrameEncodes_42e, aqueductlaw43_FrameEncodes_43e, aqueductlaw43_FrameEncodes_44e, aqueductlaw43_FrameEncodes_44l, aqueductlaw43_FrameEncodes_45e, frAV, e1, conv_sl, hcn]
          rw [← hel]
          refine enc_flip _ _ _ _ _ _ en e (by omega) st2 hg _ fun st3 => ?_
          simp -implicitDefEqProofs (maxSteps := 10000000) (disch := omega) only [h_nil, h_none, hh_mv, hh_conv, hh_addr, hh_ixS, hh_load, val_head, tail_nil, seqQ_normal, blockQ_exit, aC_skip, opsK_eq, runI_nil, runI_none, putP_eq, cond_ff, o_mv, o_bin, o_ixS, o_load, o_own, o_call, ixSV, loadV, ixA, addA, derefI, takeI_none, takeI_some, wp_ok, bind_ok, bind_req, req_tt, ev_r, ev_f, setB_r, putS, Sf.set, Sf.reg, mask_eq, maskR_nil, maskR_cons, getR, setR, maskL, Sf.disAt, dropL, id, dis_lit, dis_sl, dis_agg, own1_lit, own1_sl, cells_agg, List.map_cons, List.map_nil, List.length_cons, List.length_nil, List.drop_zero, List.drop_succ_cons, List.take_succ_cons, List.take_zero, Int.toNat_natCast, ↓reduceIte, Nat.reduceEqDiff, Nat.reduceAdd, Nat.reduceLeDiff, reduceCtorEq, Nat.zero_add, not_true_eq_false, decide_true, decide_false, List.length_map, str_neq, req_dec, and_pre, aqueductlaw43_FrameEncodes_55e, aqueductlaw43_FrameEncodes_56e, aqueductlaw43_FrameEncodes_57e, aqueductlaw43_FrameEncodes_57h, aqueductlaw43_FrameEncodes_57l, aqueductlaw43_FrameEncodes_58e, aqueductlaw43_FrameEncodes_61e, aqueductlaw43_FrameEncodes_61l, frAV, e1, conv_sl, hcn]
          refine call_p rfl e_aqueductref43_Encode (hrf _) rfl ?_
          rcases h2 with rfl | ⟨rfl, h0⟩
          · simp -implicitDefEqProofs (maxSteps := 10000000) (disch := omega) only [seqQ_normal, blockQ_normal, opsK_eq, runI_nil, runI_none, putP_eq, o_mv, o_bin, o_own, o_appS, appSX, appOwnI, srcA, n_add, wp_ok, bind_ok, req_tt, ev_r, ev_c, putS, Sf.set, Sf.reg, mask_eq, maskR_nil, maskR_cons, getR, setR, maskL, Sf.disAt, dis_lit, dis_sl, ↓reduceIte, Nat.reduceEqDiff, reduceCtorEq, BB_len, BB_app, BB_dis, room_of, IntWalk.i64_in, up_addL, aqueductlaw43_FrameEncodes_62e, aqueductlaw43_FrameEncodes_62l]
            refine hK (i + 1, .sl true 1 (BB (wantB (l.take (i + 1)))), st3) _ ⟨by simp only; omega, .inl rfl⟩ (by simp only; omega) ?_
            rw [hnx]
            exact Sf.le_refl _
          · simp -implicitDefEqProofs (maxSteps := 10000000) (disch := omega) only [seqQ_normal, blockQ_normal, opsK_eq, runI_nil, runI_none, putP_eq, o_mv, o_bin, o_own, o_appS, appSX, appNewI, srcA, n_add, wp_ok, bind_ok, req_tt, ev_r, ev_c, putS, Sf.set, Sf.reg, mask_eq, maskR_nil, maskR_cons, getR, setR, maskL, Sf.disAt, dis_lit, dis_sl, ↓reduceIte, Nat.reduceEqDiff, reduceCtorEq, Bool.false_eq_true, BB_len, BB_dis, room_of, IntWalk.i64_in, up_addL, aqueductlaw43_FrameEncodes_62e, aqueductlaw43_FrameEncodes_62l, hemp]
            refine hK (i + 1, .sl true 1 (BB en), st3) _ ⟨by simp only; omega, .inl ?_⟩ (by simp only; omega) (Sf.le_refl _)
            simp only
            rw [hnx, h0, List.nil_append]
      simp -implicitDefEqProofs (maxSteps := 10000000) (disch := omega) only [seqQ_normal, aC_skip, opsK_eq, runI_nil, runI_none, putP_eq, o_mv, o_bin, o_addr, o_ixS, o_load, o_len, o_app, ixSV, loadV, ixA, lenI, addA, derefI, takeI_none, n_lss, wp_ok, bind_ok, bind_req, ev_r, ev_c, setB_r, putS, Sf.set, Sf.reg, mask_eq, maskR_nil, maskR_cons, getR, setR, maskL, dis_lit, dis_sl, cells_agg, List.drop_zero, List.drop_succ_cons, Int.toNat_natCast, ↓reduceIte, Nat.reduceEqDiff, reduceCtorEq, List.length_map, req_dec, cond_yes, and_pre, aqueductlaw43_FrameEncodes_16e, aqueductlaw43_FrameEncodes_17e, aqueductlaw43_FrameEncodes_18e, aqueductlaw43_FrameEncodes_18l, aqueductlaw43_FrameEncodes_19e, aqueductlaw43_FrameEncodes_20e, aqueductlaw43_FrameEncodes_21e, aqueductlaw43_FrameEncodes_22e, aqueductlaw43_FrameEncodes_23e, aqueductlaw43_FrameEncodes_23l, frsAV, frAV, e1]
      refine appNew_BB (by omega) fun own hown => ?_
      have hod : ∀ s, kill s own = own := by rcases hown with rfl | ⟨rfl, _⟩ <;> exact fun _ => rfl
      simp -implicitDefEqProofs (maxSteps := 10000000) (disch := omega) only [seqQ_normal, opsK_eq, runI_nil, runI_none, putP_eq, o_own, putS, Sf.set, Sf.reg, mask_eq, maskR_nil, maskR_cons, getR, setR, maskL, Sf.disAt, ↓reduceIte, Nat.reduceEqDiff, reduceCtorEq]
      exact hrest _ hown
    · rw [if_neg hb] at hnx
      have hcont : ∀ own : AV, Own1 own fb → aC Go.Proofs.Try.prog id false aqueductlaw43_FrameEncodes_24 ⟨[(0, frsAV l), (3, w), (4, .lit (.int .i64 (i : Nat))), (5, own)], []⟩ st (blockQ 1 (seqQ (aC Go.Proofs.Try.prog id false aqueductlaw43_FrameEncodes_62) K)) := by
        intro own hown
        rcases hown with rfl | ⟨rfl, h0⟩
        · have hen := encode_long (k := fk) (z := .sl false 1 (BB fb)) (.inl rfl) hb (by omega) st
          simp -implicitDefEqProofs (maxSteps := 10000000) (disch := omega) only [and_self, runI_none, putP_eq, o_mv, o_addr, o_ixS, o_load, o_bst, o_call, ixSV, loadV, bstV, ixA, addA, derefI, takeI_none, buildA, wp_ok, bind_ok, bind_req, ev_r, ev_f, putS, Sf.set, Sf.reg, getR, setR, id, dis_lit, dis_sl, cells_lit, cells_sl, cells_agg, solid1_lit, solid1_sl, solid_eq, List.map_cons, List.map_nil, List.length_cons, List.length_nil, List.getElem?_cons_zero, List.getElem?_cons_succ, List.all_cons, List.all_nil, List.drop_zero, List.set_cons_zero, List.set_cons_succ, Int.toNat_natCast, ↓reduceIte, Nat.reduceEqDiff, Nat.reduceAdd, Nat.reduceLeDiff, Bool.and_true, and_true, reduceCtorEq, Nat.zero_add, List.length_map, req_dec, and_pre, setAt_nil, setAt_cons, aqueductlaw43_FrameEncodes_24e, aqueductlaw43_FrameEncodes_25e, aqueductlaw43_FrameEncodes_25l, frsAV, frAV, e1]
          refine call_a rfl e_frame_Encode hen rfl fun v st' hv => ?_
          obtain ⟨hv1, hv2⟩ := hv
          subst hv1 hv2
          simp -implicitDefEqProofs (maxSteps := 10000000) (disch := omega) only [seqQ_normal, seqQ_exit, blockQ_exit, aC_skip, aC_exit, opsK_eq, runI_nil, runI_none, runI_some, AI.dst, putP_eq, cond_ff, guard_ff, o_mv, o_pick, o_bin, o_ext, o_len, o_own, pick_ff, extV, lenI, n_add, n_neq, n_gtr, wp_ok, bind_ok, ofOpt_some, ev_r, ev_c, setB_r, putS, Sf.set, Sf.reg, mask_eq, maskR_nil, maskR_cons, getR, setR, maskL, Sf.disAt, dis_lit, dis_sl, dis_tup, own2_lit, List.map_cons, List.map_nil, List.getElem?_cons_zero, List.getElem?_cons_succ, ↓reduceIte, Nat.reduceEqDiff, reduceCtorEq, not_true_eq_false, decide_false, Bool.false_eq_true, BB_len, cond_yes, IntWalk.i64_in, up_addL, aqueductlaw43_FrameEncodes_26e, aqueductlaw43_FrameEncodes_27e, aqueductlaw43_FrameEncodes_28e, aqueductlaw43_FrameEncodes_28l, aqueductlaw43_FrameEncodes_29e, aqueductlaw43_FrameEncodes_30e, aqueductlaw43_FrameEncodes_31e, aqueductlaw43_FrameEncodes_32e, aqueductlaw43_FrameEncodes_32l, aqueductlaw43_FrameEncodes_33e, aqueductlaw43_FrameEncodes_62e, aqueductlaw43_FrameEncodes_62l]
          exact hK (i + 1, w, _) _ ⟨by simp only; omega, by simp only; rw [hnx]; exact h2⟩ (by simp only; omega) (Sf.le_refl _)
        · rw [h0] at hb; exact absurd (by simp) hb
      simp -implicitDefEqProofs (maxSteps := 10000000) (disch := omega) only [seqQ_normal, aC_skip, opsK_eq, runI_nil, runI_none, putP_eq, o_mv, o_bin, o_addr, o_ixS, o_load, o_len, o_app, ixSV, loadV, ixA, lenI, addA, derefI, takeI_none, n_lss, wp_ok, bind_ok, bind_req, ev_r, ev_c, setB_r, putS, Sf.set, Sf.reg, mask_eq, maskR_nil, maskR_cons, getR, setR, maskL, dis_lit, dis_sl, cells_agg, List.drop_zero, List.drop_succ_cons, Int.toNat_natCast, ↓reduceIte, Nat.reduceEqDiff, reduceCtorEq, List.length_map, req_dec, cond_yes, and_pre, aqueductlaw43_FrameEncodes_16e, aqueductlaw43_FrameEncodes_17e, aqueductlaw43_FrameEncodes_18e, aqueductlaw43_FrameEncodes_18l, aqueductlaw43_FrameEncodes_19e, aqueductlaw43_FrameEncodes_20e, aqueductlaw43_FrameEncodes_21e, aqueductlaw43_FrameEncodes_22e, aqueductlaw43_FrameEncodes_23e, aqueductlaw43_FrameEncodes_23l, frsAV, frAV, e1]
      refine appNew_BB (by omega) fun own hown => ?_
      have hod : ∀ s, kill s own = own := by rcases hown with rfl | ⟨rfl, _⟩ <;> exact fun _ => rfl
      simp -implicitDefEqProofs (maxSteps := 10000000) (disch := omega) only [seqQ_normal, opsK_eq, runI_nil, runI_none, putP_eq, o_own, putS, Sf.set, Sf.reg, mask_eq, maskR_nil, maskR_cons, getR, setR, maskL, Sf.disAt, ↓reduceIte, Nat.reduceEqDiff, reduceCtorEq]
      exact hcont _ hown
  · have e : i = l.length := by omega
    rw [e, List.take_length] at h2
    simp -implicitDefEqProofs (maxSteps := 10000000) (disch := omega) only [seqQ_normal, seqQ_exit, aC_exit, opsK_eq, runI_nil, runI_none, putP_eq, o_mv, o_bin, o_len, lenI, n_lss, wp_ok, ev_r, setB_r, putS, Sf.set, Sf.reg, mask_eq, maskR_nil, maskR_cons, getR, setR, maskL, dis_lit, dis_sl, ↓reduceIte, Nat.reduceEqDiff, reduceCtorEq, List.length_map, cond_no, aqueductlaw43_FrameEncodes_16e, aqueductlaw43_FrameEncodes_17e, aqueductlaw43_FrameEncodes_18e, aqueductlaw43_FrameEncodes_18l, aqueductlaw43_FrameEncodes_19e, frsAV]
    exact hKe _ _ _ (hQ w st h2)

theorem frameEncodes_law (l : List Fr) (hl : l.length ≤ maxLen) (hm : ∀ f ∈ l, f.2.length ≤ maxLen) :
    ACalls Go.Proofs.Try.prog n_aqueductlaw43_FrameEncodes [frsAV l] ⟨[]⟩ (fun v _ => v = .lit (.bool true)) := by
  refine acalls_id hmix k_aqueductlaw43_FrameEncodes rfl rfl ?_
  unfold aFun c_aqueductlaw43_FrameEncodes
  simp only [maxLen] at hl hm
  simp -implicitDefEqProofs (maxSteps := 10000000) (disch := omega) only [seqQ_normal, opsK_eq, runI_nil, runI_none, o_mv, o_call, ev_r, ev_c, ev_f, putS, Sf.set, Sf.reg, mask_eq, maskR_nil, maskR_cons, getR, setR, maskL, regs0, id, dis_lit, dis_sl, List.map_cons, List.map_nil, ↓reduceIte, reduceCtorEq, aqueductlaw43_FrameEncodes_1e, aqueductlaw43_FrameEncodes_2e, aqueductlaw43_FrameEncodes_2l, aqueductlaw43_FrameEncodes_3e, aqueductlaw43_FrameEncodes_4e, aqueductlaw43_FrameEncodes_5e, aqueductlaw43_FrameEncodes_5l, frsAV]
  refine call_p rfl e_aqueductlaw43_few (few_pure l (by omega) (fun f h => by have := hm f h; omega) _) rfl ?_
  cases hfew : fewB l with
  | false =>
    simp -implicitDefEqProofs (maxSteps := 10000000) (disch := omega) only [seqQ_normal, opsK_eq, runI_nil, runI_none, putP_eq, cond_tt, o_un, o_call, unA, wp_ok, ev_r, ev_f, setB_r, putS, Sf.set, Sf.reg, mask_eq, maskR_nil, maskR_cons, getR, setR, maskL, id, List.map_nil, ↓reduceIte, Nat.reduceEqDiff, reduceCtorEq, Bool.not_false, aqueductlaw43_FrameEncodes_6e, aqueductlaw43_FrameEncodes_7e, aqueductlaw43_FrameEncodes_8e, aqueductlaw43_FrameEncodes_8l]
    refine call_p rfl e_aqueductlaw43_known (known_pure _) rfl ?_
    simp -implicitDefEqProofs (maxSteps := 10000000) (disch := omega) only [and_self, seqQ_normal, seqQ_ret, aC_ret, opsK_eq, retQ_ret, retI, runI_nil, runI_none, o_own, wp_ok, putS, Sf.set, Sf.reg, mask_eq, maskR_nil, maskR_cons, getR, setR, maskL, Sf.disAt, dis_lit, noL_lit, ↓reduceIte, Nat.reduceEqDiff, reduceCtorEq]
  | true =>
    have hf := fewB_iff.1 hfew
    simp -implicitDefEqProofs (maxSteps := 10000000) (disch := omega) only [seqQ_normal, aC_skip, opsK_eq, runI_nil, runI_none, putP_eq, cond_ff, o_mv, o_un, unA, wp_ok, ev_r, ev_c, setB_r, putS, Sf.set, Sf.reg, mask_eq, maskR_nil, maskR_cons, getR, setR, maskL, dis_lit, ↓reduceIte, Nat.reduceEqDiff, reduceCtorEq, Bool.not_true, aqueductlaw43_FrameEncodes_6e, aqueductlaw43_FrameEncodes_9e, aqueductlaw43_FrameEncodes_10e, aqueductlaw43_FrameEncodes_10l, aqueductlaw43_FrameEncodes_11e, aqueductlaw43_FrameEncodes_12e, aqueductlaw43_FrameEncodes_13e, aqueductlaw43_FrameEncodes_13l, aqueductlaw43_FrameEncodes_14e]
    refine encodes_loop l hfew _ fun w st hw => ?_
    have hwl := wantB_len (l := l)
    have hsp := fun st => short_pure l (by omega) (fun f h => by have := hm f h; omega) st
    cases hsh : shortB l with
    | false =>
      rcases hw with rfl | ⟨rfl, h0⟩
      all_goals
        simp -implicitDefEqProofs (maxSteps := 10000000) (disch := omega) only [seqQ_normal, blockQ_exit, runI_none, o_mv, o_call, ev_r, ev_f, putS, Sf.set, Sf.reg, getR, setR, id, dis_sl, List.map_cons, List.map_nil, ↓reduceIte, Nat.reduceEqDiff, reduceCtorEq, aqueductlaw43_FrameEncodes_63e, aqueductlaw43_FrameEncodes_64e, aqueductlaw43_FrameEncodes_64l, frsAV]
        refine call_p rfl e_frame_Join (joinf_long l hfew (by simp [hsh]) _) rfl ?_
        simp -implicitDefEqProofs (maxSteps := 10000000) (disch := omega) only [seqQ_normal, opsK_eq, runI_nil, runI_none, putP_eq, o_mv, o_ext, o_own, o_call, extV, wp_ok, bind_ok, ofOpt_some, ev_r, ev_f, putS, Sf.set, Sf.reg, mask_eq, maskR_nil, maskR_cons, getR, setR, maskL, Sf.disAt, id, dis_lit, dis_sl, dis_tup, own2_lit, List.map_cons, List.map_nil, List.getElem?_cons_zero, List.getElem?_cons_succ, ↓reduceIte, Nat.reduceEqDiff, reduceCtorEq, aqueductlaw43_FrameEncodes_65e, aqueductlaw43_FrameEncodes_66e, aqueductlaw43_FrameEncodes_67e, aqueductlaw43_FrameEncodes_67l]
        refine call_p rfl e_aqueductref43_Short (hsp _) rfl ?_
        rw [hsh]
        simp -implicitDefEqProofs (maxSteps := 10000000) (disch := omega) only [seqQ_normal, opsK_eq, runI_nil, runI_none, runI_some, AI.dst, putP_eq, cond_tt, guard_tt, o_mv, o_pick, o_bin, o_un, o_len, o_call, pick_tt, lenI, unA, n_eql, wp_ok, ev_r, ev_c, ev_f, setB_r, putS, Sf.set, Sf.reg, mask_eq, maskR_nil, maskR_cons, getR, setR, maskL, id, dis_lit, List.map_nil, ↓reduceIte, Nat.reduceEqDiff, reduceCtorEq, decide_true, Bool.not_false, aqueductlaw43_FrameEncodes_68e, aqueductlaw43_FrameEncodes_69e, aqueductlaw43_FrameEncodes_70e, aqueductlaw43_FrameEncodes_70l]
        refine call_p rfl e_aqueductlaw43_known (known_pure _) rfl ?_
        simp -implicitDefEqProofs (maxSteps := 10000000) (disch := omega) only [and_self, seqQ_normal, seqQ_ret, aC_ret, opsK_eq, retQ_ret, retI, runI_nil, runI_none, putP_eq, o_pick, o_own, pick_tt, wp_ok, ev_r, ev_c, putS, Sf.set, Sf.reg, mask_eq, maskR_nil, maskR_cons, getR, setR, maskL, Sf.disAt, dis_lit, noL_lit, ↓reduceIte, Nat.reduceEqDiff]
    | true =>
      have hs := shortB_iff.1 hsh
      have hwj := wantB_short hs
      have hjl := joinB_len hs
      rw [hwj] at hw
      have hcn : joinB l = [] → ∀ st, convI st .bs (.lit (.slice none 0 0)) = .ok (.lit (.string (str (joinB l)))) := fun e st => by rw [e]; rfl
      rcases hw with rfl | ⟨rfl, h0⟩
      · simp -implicitDefEqProofs (maxSteps := 10000000) (disch := omega) only [seqQ_normal, blockQ_exit, runI_none, o_mv, o_call, ev_r, ev_f, putS, Sf.set, Sf.reg, getR, setR, id, dis_sl, List.map_cons, List.map_nil, ↓reduceIte, Nat.reduceEqDiff, reduceCtorEq, aqueductlaw43_FrameEncodes_63e, aqueductlaw43_FrameEncodes_64e, aqueductlaw43_FrameEncodes_64l, frsAV]
        refine call_p rfl e_frame_Join (joinf_pure l hfew hsh _) rfl ?_
        simp -implicitDefEqProofs (maxSteps := 10000000) (disch := omega) only [seqQ_normal, opsK_eq, runI_nil, runI_none, putP_eq, o_mv, o_ext, o_own, o_call, extV, wp_ok, bind_ok, ofOpt_some, ev_r, ev_f, putS, Sf.set, Sf.reg, mask_eq, maskR_nil, maskR_cons, getR, setR, maskL, Sf.disAt, id, dis_lit, dis_sl, dis_tup, own2_lit, own2_sl, List.map_cons, List.map_nil, List.getElem?_cons_zero, List.getElem?_cons_succ, ↓reduceIte, Nat.reduceEqDiff, reduceCtorEq, aqueductlaw43_FrameEncodes_65e, aqueductlaw43_FrameEncodes_66e, aqueductlaw43_FrameEncodes_67e, aqueductlaw43_FrameEncodes_67l]
        refine call_p rfl e_aqueductref43_Short (hsp _) rfl ?_
        rw [hsh]
        simp -implicitDefEqProofs (maxSteps := 10000000) (disch := omega) only [seqQ_normal, aC_skip, opsK_eq, runI_nil, runI_none, runI_some, AI.dst, putP_eq, cond_ff, guard_tt, o_mv, o_pick, o_bin, o_un, o_conv, o_call, pick_tt, unA, n_eql, wp_ok, ev_r, ev_c, ev_f, setB_r, putS, Sf.set, Sf.reg, mask_eq, maskR_nil, maskR_cons, getR, setR, maskL, id, dis_lit, dis_sl, List.map_nil, ↓reduceIte, Nat.reduceEqDiff, reduceCtorEq, decide_true, Bool.not_true, str_eql, aqueductlaw43_FrameEncodes_68e, aqueductlaw43_FrameEncodes_71e, aqueductlaw43_FrameEncodes_72e, aqueductlaw43_FrameEncodes_72l, conv_sl]
        refine call_p rfl e_aqueductlaw43_known (known_pure _) rfl ?_
        simp -implicitDefEqProofs (maxSteps := 10000000) (disch := omega) only [and_self, seqQ_normal, aC_ret, opsK_eq, retQ_ret, retI, runI_nil, runI_none, putP_eq, o_pick, o_own, pick_tt, wp_ok, ev_r, ev_c, putS, Sf.set, Sf.reg, mask_eq, maskR_nil, maskR_cons, getR, setR, maskL, Sf.disAt, dis_lit, noL_lit, ↓reduceIte, Nat.reduceEqDiff]
      · simp -implicitDefEqProofs (maxSteps := 10000000) (disch := omega) only [seqQ_normal, blockQ_exit, runI_none, o_mv, o_call, ev_r, ev_f, putS, Sf.set, Sf.reg, getR, setR, id, dis_sl, List.map_cons, List.map_nil, ↓reduceIte, Nat.reduceEqDiff, reduceCtorEq, aqueductlaw43_FrameEncodes_63e, aqueductlaw43_FrameEncodes_64e, aqueductlaw43_FrameEncodes_64l, frsAV]
        refine call_p rfl e_frame_Join (joinf_pure l hfew hsh _) rfl ?_
        simp -implicitDefEqProofs (maxSteps := 10000000) (disch := omega) only [seqQ_normal, opsK_eq, runI_nil, runI_none, putP_eq, o_mv, o_ext, o_own, o_call, extV, wp_ok, bind_ok, ofOpt_some, ev_r, ev_f, putS, Sf.set, Sf.reg, mask_eq, maskR_nil, maskR_cons, getR, setR, maskL, Sf.disAt, id, dis_lit, dis_sl, dis_tup, own2_lit, own2_sl, List.map_cons, List.map_nil, List.getElem?_cons_zero, List.getElem?_cons_succ, ↓reduceIte, Nat.reduceEqDiff, reduceCtorEq, aqueductlaw43_FrameEncodes_65e, aqueductlaw43_FrameEncodes_66e, aqueductlaw43_FrameEncodes_67e, aqueductlaw43_FrameEncodes_67l]
        refine call_p rfl e_aqueductref43_Short (hsp _) rfl ?_
        rw [hsh]
        have hcn := hcn h0
        simp -implicitDefEqProofs (maxSteps := 10000000) (disch := omega) only [seqQ_normal, aC_skip, opsK_eq, runI_nil, runI_none, runI_some, AI.dst, putP_eq, cond_ff, guard_tt, o_mv, o_pick, o_bin, o_un, o_conv, o_call, pick_tt, unA, n_eql, wp_ok, ev_r, ev_c, ev_f, setB_r, putS, Sf.set, Sf.reg, mask_eq, maskR_nil, maskR_cons, getR, setR, maskL, id, dis_lit, dis_sl, List.map_nil, ↓reduceIte, Nat.reduceEqDiff, reduceCtorEq, decide_true, Bool.not_true, str_eql, aqueductlaw43_FrameEncodes_68e, aqueductlaw43_FrameEncodes_71e, aqueductlaw43_FrameEncodes_72e, aqueductlaw43_FrameEncodes_72l, conv_sl, hcn]
        refine call_p rfl e_aqueductlaw43_known (known_pure _) rfl ?_
        simp -implicitDefEqProofs (maxSteps := 10000000) (disch := omega) only [and_self, seqQ_normal, aC_ret, opsK_eq, retQ_ret, retI, runI_nil, runI_none, putP_eq, o_pick, o_own, pick_tt, wp_ok, ev_r, ev_c, putS, Sf.set, Sf.reg, mask_eq, maskR_nil, maskR_cons, getR, setR, maskL, Sf.disAt, dis_lit, noL_lit, ↓reduceIte, Nat.reduceEqDiff]

theorem frameEncodes_top {l : List (Int × List Int × Unit)} (hl : l.length ≤ maxLen ∧ ∀ x ∈ l, (0 ≤ x.1 ∧ x.1 ≤ 255) ∧ (x.2.1.length ≤ maxLen ∧ ∀ i ∈ x.2.1, 0 ≤ i ∧ i ≤ 255) ∧ True) :
    ACalls Go.Proofs.Try.prog n_aqueductlaw43_FrameEncodes [.sl false 2 (l.map fun x => .agg [.lit (.int .u8 x.1), .sl false 1 (x.2.1.map fun i => .lit (.int .u8 i))])] ⟨[]⟩ (fun v _ => v = .lit (.bool true)) := by
  rw [frs_lit fun x hx => ⟨(hl.2 x hx).1, (hl.2 x hx).2.1.1, (hl.2 x hx).2.1.2⟩]
  refine frameEncodes_law _ (by simpa using hl.1) (fun f hf => ?_)
  simp only [List.mem_map] at hf
  obtain ⟨x, hx, rfl⟩ := hf
  simpa using (hl.2 x hx).2.1.1
end Go.Fx.YtenijlfcfmhmkaaFx

