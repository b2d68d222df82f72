/- What the functions that the statement reaches compute: part 9. -/
import Derived.Test.YtenijlfcfmhmkaaFxW8
namespace Go.Fx.YtenijlfcfmhmkaaFx
open Go Go.Fx
attribute [local irreducible] aC runI headI loopI

set_option maxRecDepth 100000
set_option maxHeartbeats 4000000

theorem encode_pure (k : UInt8) (b : List UInt8) (hl : b.length ≤ 1024) (st : St) : PCalls Go.Proofs.Try.prog n_frame_Encode [frAV (k, b)] st (.tup [.sl false 1 (BB (encB k b)), .lit (.int .i64 0)]) := by
  refine pure_of ((encode_ok (z := .sl false 1 (BB b)) (.inl rfl) hl ⟨[]⟩).mono fun v st' h => ?_) (by simp only [List.mem_singleton, forall_eq]; exact frAV_nb (k, b)) st
  obtain ⟨e, he, rfl, rfl⟩ := h
  refine .tupL ⟨?_, .le _ _ (.refl _) (.lit _), trivial⟩
  have hel := enc_len k b
  refine MB.frz (.inr ⟨_, _, e, by rw [BB_len, hel], get_push _ _, by simp [BB_len, hel], by simp [BB_len, hel]⟩) (BB_lits _) (NBs.nil.push fun x hx => ?_)
  rcases List.mem_append.1 hx with hx | hx
  · exact BB_nb _ x hx
  · rw [he x hx]; exact .any
theorem encode_pure' (k : UInt8) (b : List UInt8) (hl : ¬ b.length ≤ 1024) (hm : b.length ≤ 1000000) (st : St) : PCalls Go.Proofs.Try.prog n_frame_Encode [frAV (k, b)] st (.tup [.lit (.slice none 0 0), .lit (.int .i64 5)]) := by
  refine pure_of ((encode_long (z := .sl false 1 (BB b)) (.inl rfl) hl hm ⟨[]⟩).mono fun v st' h => ?_) (by simp only [List.mem_singleton, forall_eq]; exact frAV_nb (k, b)) st
  obtain ⟨rfl, rfl⟩ := h
  exact .le _ _ (.refl _) (.tup _ (by simp [AV.NB.lit]))

abbrev Fr := UInt8 × List UInt8
def joinB : List Fr → List UInt8
  | [] => []
  | f :: l => encB f.1 f.2 ++ joinB l
def shortB (l : List Fr) : Bool := l.all fun f => decide (f.2.length ≤ 1024)
theorem shortB_iff {l : List Fr} : shortB l = true ↔ ∀ f ∈ l, f.2.length ≤ 1024 := by simp [shortB]
/-- At most twelve frames with at most 40 bytes each, or 1020 to 1030. -/
def fewB (l : List Fr) : Bool := decide (l.length ≤ 12) && l.all fun f => decide (f.2.length ≤ 40 ∨ 1020 ≤ f.2.length ∧ f.2.length ≤ 1030)
theorem fewB_iff {l : List Fr} : fewB l = true ↔ l.length ≤ 12 ∧ ∀ f ∈ l, f.2.length ≤ 40 ∨ 1020 ≤ f.2.length ∧ f.2.length ≤ 1030 := by simp [fewB]

theorem short_pure (l : List Fr) (hl : l.length ≤ 1000000) (hm : ∀ f ∈ l, f.2.length ≤ 9223372036854775807) (st : St) : PCalls Go.Proofs.Try.prog n_aqueductref43_Short [frsAV l] st (.lit (.bool (shortB l))) := by
  refine pure_eq ?_ (.lit _) (by simp [frs_nb]) st
  refine acalls_id hmix k_aqueductref43_Short rfl rfl ?_
  unfold aFun c_aqueductref43_Short
  simp -implicitDefEqProofs (maxSteps := 10000000) (disch := omega) only [seqQ_normal, opsK_eq, runI_nil, runI_none, o_mv, ev_c, putS, Sf.set, mask_eq, maskR_nil, maskR_cons, getR, setR, maskL, regs0, dis_lit, dis_sl, ↓reduceIte, reduceCtorEq, aqueductref43_Short_1e, aqueductref43_Short_2e, aqueductref43_Short_2l, aqueductref43_Short_3e, aqueductref43_Short_4e, aqueductref43_Short_5e, aqueductref43_Short_5l, aqueductref43_Short_6e, frsAV]
  rw [aqueductref43_Short_7w]
  refine loop_for (A := Nat) (fun a => l.length - a) (fun a => ⟨[(0, .sl false 2 (l.map frAV)), (3, .lit (.int .i64 (a : Nat)))], []⟩) (fun _ => ⟨[]⟩)
    (fun a => a ≤ l.length ∧ ∀ f ∈ l.take a, f.2.length ≤ 1024) 0 ⟨by omega, by simp⟩ (Sf.le_refl _) rfl ?_
  rintro i ⟨h1, h2⟩
  simp -implicitDefEqProofs (maxSteps := 10000000) (disch := omega) only [seqQ_normal, opsK_eq, runI_nil, runI_none, putP_eq, o_mv, o_bin, o_len, lenI, n_lss, wp_ok, ev_r, putS, Sf.set, Sf.reg, mask_eq, maskR_nil, maskR_cons, getR, setR, maskL, dis_lit, dis_sl, ↓reduceIte, Nat.reduceEqDiff, reduceCtorEq, List.length_map, aqueductref43_Short_8e, aqueductref43_Short_9e, aqueductref43_Short_10e, aqueductref43_Short_10l, aqueductref43_Short_11e]
  refine cond_split (fun h => ?_) (fun h => ?_)
  · have hi : i < l.length := by omega
    have e1 : (l.map frAV).getD i .any = frAV l[i] := by simp [List.getD, hi]
    have e2 := hm l[i] (List.getElem_mem hi)
    simp -implicitDefEqProofs (maxSteps := 10000000) (disch := omega) only [seqQ_normal, aC_skip, opsK_eq, runI_nil, runI_none, putP_eq, o_mv, o_bin, o_addr, o_ixS, o_load, o_len, ixSV, loadV, ixA, lenI, addA, derefI, takeI_none, n_gtr, wp_ok, bind_ok, bind_req, ev_r, ev_c, setB_r, putS, Sf.set, Sf.reg, mask_eq, maskR_nil, maskR_cons, getR, setR, maskL, dis_lit, dis_sl, cells_agg, List.drop_zero, List.drop_succ_cons, Int.toNat_natCast, ↓reduceIte, Nat.reduceEqDiff, reduceCtorEq, List.length_map, BB_len, req_dec, and_pre, aqueductref43_Short_12e, aqueductref43_Short_13e, aqueductref43_Short_14e, aqueductref43_Short_15e, aqueductref43_Short_15l, aqueductref43_Short_16e, e1, frAV]
    refine cond_split (fun h3 => ?_) (fun h3 => ?_)
    · simp -implicitDefEqProofs (maxSteps := 10000000) (disch := omega) only [stepQ_ret, seqQ_normal, seqQ_ret, blockQ_ret, aC_ret, opsK_eq, retQ_ret, retI, runI_nil, runI_none, o_mv, wp_ok, ev_c, setB_r, putS, Sf.set, Sf.reg, mask_eq, maskR_nil, maskR_cons, getR, setR, maskL, dis_lit, noL_lit, ↓reduceIte, Nat.reduceEqDiff, Bool.true_and, true_and, reduceCtorEq, aqueductref43_Short_17e, aqueductref43_Short_18e, aqueductref43_Short_18l]
      have : false = shortB l := by
        symm; rw [Bool.eq_false_iff]
        intro hs
        have := shortB_iff.1 hs l[i] (List.getElem_mem hi)
        omega
      rw [this]
      exact .refl _
    · simp -implicitDefEqProofs (maxSteps := 10000000) (disch := omega) only [stepQ_normal, seqQ_normal, blockQ_normal, aC_skip, opsK_eq, runI_nil, runI_none, putP_eq, o_mv, o_bin, o_own, n_add, wp_ok, ev_r, ev_c, setB_r, putS, Sf.set, Sf.reg, mask_eq, maskR_nil, maskR_cons, getR, setR, maskL, Sf.disAt, dis_lit, ↓reduceIte, Nat.reduceEqDiff, Bool.and_true, and_true, reduceCtorEq, IntWalk.i64_in, up_addL, aqueductref43_Short_19e, aqueductref43_Short_19l]
      refine ⟨i + 1, ⟨⟨by omega, ?_⟩, by omega⟩, leR_refl _, trivial⟩
      rw [List.take_succ_eq_append_getElem hi]
      intro f hf
      rcases List.mem_append.1 hf with hf | hf
      · exact h2 f hf
      · simp only [List.mem_singleton] at hf
        subst hf; omega
  · simp -implicitDefEqProofs (maxSteps := 10000000) (disch := omega) only [stepQ_exit, seqQ_normal, seqQ_exit, blockQ_exit, aC_exit, aC_ret, opsK_eq, retQ_ret, retI, runI_nil, runI_none, o_mv, wp_ok, ev_c, setB_r, putS, Sf.set, Sf.reg, mask_eq, maskR_nil, maskR_cons, getR, setR, maskL, dis_lit, noL_lit, ↓reduceIte, Nat.reduceEqDiff, Bool.true_and, true_and, reduceCtorEq, aqueductref43_Short_20e, aqueductref43_Short_21e, aqueductref43_Short_21l]
    have : true = shortB l := by
      symm; rw [shortB_iff]
      have e : i = l.length := by omega
      rw [e, List.take_length] at h2
      exact h2
    rw [this]
    exact .refl _

theorem joinB_app : ∀ (l r : List Fr), joinB (l ++ r) = joinB l ++ joinB r
  | [], r => rfl
  | f :: l, r => by simp only [List.cons_append, joinB, joinB_app l r, List.append_assoc]
theorem joinB_len : ∀ {l : List Fr}, (∀ f ∈ l, f.2.length ≤ 1024) → (joinB l).length ≤ 1030 * l.length
  | [], _ => by simp [joinB]
  | f :: l, h => by
    have h1 := h f (List.mem_cons_self ..)
    have h2 := joinB_len (l := l) fun g hg => h g (List.mem_cons_of_mem _ hg)
    simp only [joinB, List.length_append, enc_len, List.length_cons]
    omega

theorem joinf_pure (l : List Fr) (hf : fewB l = true) (hs : shortB l = true) (st : St) : PCalls Go.Proofs.Try.prog n_frame_Join [frsAV l] st (.tup [.sl false 1 (BB (joinB l)), .lit (.int .i64 0)]) := by
  refine pure_eq ?_ (.tup _ (by simp [AV.NB.lit, BB_slnb])) (by simp [frs_nb]) st
  refine acalls_id hmix k_frame_Join rfl rfl ?_
  unfold aFun c_frame_Join
  simp -implicitDefEqProofs (maxSteps := 10000000) (disch := omega) only [seqQ_normal, opsK_eq, runI_nil, runI_none, putP_eq, o_mv, o_len, lenI, wp_ok, ev_r, ev_c, putS, Sf.set, Sf.reg, mask_eq, maskR_nil, maskR_cons, getR, setR, maskL, regs0, dis_lit, dis_sl, ↓reduceIte, Nat.reduceEqDiff, reduceCtorEq, List.length_map, frame_Join_1e, frame_Join_2e, frame_Join_2l, frame_Join_3e, frame_Join_4e, frame_Join_4l, frame_Join_5e, frame_Join_6e, frame_Join_7e, frame_Join_7l, frame_Join_8e, frsAV]
  rw [frame_Join_9w]
  obtain ⟨hf1, _⟩ := fewB_iff.1 hf
  have hs := shortB_iff.1 hs
  refine loop_for (A := Nat × AV) (fun a => l.length - a.1) (fun a => ⟨[(4, a.2), (9, .sl false 2 (l.map frAV)), (10, .lit (.int .i64 l.length)), (11, .lit (.int .i64 (a.1 : Nat)))], []⟩) (fun _ => ⟨[]⟩)
    (fun a => a.1 ≤ l.length ∧ Own1 a.2 (joinB (l.take a.1))) (0, .lit (.slice none 0 0)) ⟨by simp, .inr ⟨rfl, rfl⟩⟩ (Sf.le_refl _) rfl ?_
  rintro ⟨i, v⟩ ⟨h1, h2⟩
  simp only at h1 h2
  have hvd : v.dis.le (.sl false 1 (BB (joinB (l.take i)))) := own1_le h2
  by_cases h : i < l.length
  · have e1 : (l.map frAV).getD i .any = frAV l[i] := by simp [List.getD, h]
    have hb := hs l[i] (List.getElem_mem h)
    have hc := fun st => encode_pure l[i].1 l[i].2 hb st
    have hnext : joinB (l.take i) ++ encB l[i].1 l[i].2 = joinB (l.take (i + 1)) := by
      rw [List.take_succ_eq_append_getElem h, joinB_app]; simp [joinB]
    have hel := enc_len l[i].1 l[i].2
    have hjl := joinB_len (l := l.take i) fun f hf => hs f (List.mem_of_mem_take hf)
    have hti : (l.take i).length = i := by simp; omega
    rw [hti] at hjl
    have hemp : (BB (encB l[i].1 l[i].2)).isEmpty = false := by
      cases hq : encB l[i].1 l[i].2 with
      | nil => rw [hq] at hel; simp at hel
      | cons x r => rfl
    generalize hen : encB l[i].1 l[i].2 = en at *
    rcases h2 with rfl | ⟨rfl, h0⟩
    · simp -implicitDefEqProofs (maxSteps := 10000000) (disch := omega) only [seqQ_normal, aC_skip, opsK_eq, runI_nil, runI_none, putP_eq, o_bin, o_ixS, o_load, o_newL, o_store, o_call, ixSV, loadV, boxX, writeX, ixA, derefI, takeI_some, n_lss, wp_ok, bind_ok, bind_req, ofOpt_some, req_tt, ev_r, ev_f, evOwn_r, disOp_r, setB_r, putS, Sf.set, Sf.reg, mask_eq, maskR_nil, maskR_cons, getR, setR, maskL, Sf.disAt, Sf.newLoc, Sf.setLoc, look, killR, drop1, id, dis_agg, own1_lit, own1_sl, cells_agg, solid1_lit, solid1_sl, solid_eq, kill_lit, kill_cptr, kill_sl, kill_agg, List.map_cons, List.map_nil, List.length_cons, List.length_nil, List.all_cons, List.all_nil, List.drop_zero, List.take_succ_cons, List.take_zero, List.set_cons_zero, List.set_cons_succ, Int.toNat_natCast, ↓reduceIte, Nat.reduceEqDiff, Nat.reduceAdd, Nat.reduceLeDiff, Bool.true_and, Bool.and_true, and_true, true_and, Nat.zero_add, decide_true, List.length_map, req_dec, cond_yes, and_pre, setAt_nil, setAt_cons, frame_Join_10e, frame_Join_11e, frame_Join_11l, frame_Join_12e, frame_Join_13e, frame_Join_14e, frame_Join_15e, frame_Join_16e, frame_Join_17e, frame_Join_17l, frame_Join_18e, frame_Join_19e, frame_Join_19l, e1, frAV]
      refine call_p rfl e_frame_Encode (hc _) rfl ?_
      simp -implicitDefEqProofs (maxSteps := 10000000) (disch := omega) only [stepQ_normal, seqQ_normal, blockQ_normal, aC_skip, opsK_eq, runI_nil, runI_none, putP_eq, cond_ff, o_mv, o_bin, o_ext, o_own, o_appS, extV, appSX, appOwnI, srcA, n_add, n_neq, wp_ok, bind_ok, ofOpt_some, req_tt, ev_r, ev_c, setB_r, putS, Sf.set, Sf.reg, mask_eq, maskR_nil, maskR_cons, getR, setR, maskL, Sf.disAt, dis_lit, dis_sl, dis_tup, own2_lit, own2_sl, List.map_cons, List.map_nil, List.getElem?_cons_zero, List.getElem?_cons_succ, ↓reduceIte, Nat.reduceEqDiff, Bool.and_true, and_true, not_true_eq_false, decide_false, BB_len, BB_app, BB_dis, room_of, IntWalk.i64_in, up_addL, frame_Join_20e, frame_Join_21e, frame_Join_22e, frame_Join_22l, frame_Join_23e, frame_Join_26e, frame_Join_26l, frame_Join_27e, frame_Join_27l, hnext]
      exact ⟨(i + 1, .sl true 1 (BB (joinB (l.take (i + 1))))), ⟨⟨by simp only; omega, .inl rfl⟩, by simp only; omega⟩, leR_refl _, trivial⟩
    · simp -implicitDefEqProofs (maxSteps := 10000000) (disch := omega) only [seqQ_normal, aC_skip, opsK_eq, runI_nil, runI_none, putP_eq, o_bin, o_ixS, o_load, o_newL, o_store, o_call, ixSV, loadV, boxX, writeX, ixA, derefI, takeI_some, n_lss, wp_ok, bind_ok, bind_req, ofOpt_some, req_tt, ev_r, ev_f, evOwn_r, disOp_r, setB_r, putS, Sf.set, Sf.reg, mask_eq, maskR_nil, maskR_cons, getR, setR, maskL, Sf.disAt, Sf.newLoc, Sf.setLoc, look, killR, drop1, id, dis_agg, own1_lit, own1_sl, cells_agg, solid1_lit, solid1_sl, solid_eq, kill_lit, kill_cptr, kill_sl, kill_agg, List.map_cons, List.map_nil, List.length_cons, List.length_nil, List.all_cons, List.all_nil, List.drop_zero, List.take_succ_cons, List.take_zero, List.set_cons_zero, List.set_cons_succ, Int.toNat_natCast, ↓reduceIte, Nat.reduceEqDiff, Nat.reduceAdd, Nat.reduceLeDiff, Bool.true_and, Bool.and_true, and_true, true_and, Nat.zero_add, decide_true, List.length_map, req_dec, cond_yes, and_pre, setAt_nil, setAt_cons, frame_Join_10e, frame_Join_11e, frame_Join_11l, frame_Join_12e, frame_Join_13e, frame_Join_14e, frame_Join_15e, frame_Join_16e, frame_Join_17e, frame_Join_17l, frame_Join_18e, frame_Join_19e, frame_Join_19l, e1, frAV]
      refine call_p rfl e_frame_Encode (hc _) rfl ?_
      simp -implicitDefEqProofs (maxSteps := 10000000) (disch := omega) only [stepQ_normal, seqQ_normal, blockQ_normal, aC_skip, opsK_eq, runI_nil, runI_none, putP_eq, cond_ff, o_mv, o_bin, o_ext, o_own, o_appS, extV, appSX, appNewI, srcA, n_add, n_neq, wp_ok, bind_ok, ofOpt_some, req_tt, ev_r, ev_c, setB_r, putS, Sf.set, Sf.reg, mask_eq, maskR_nil, maskR_cons, getR, setR, maskL, Sf.disAt, dis_lit, dis_sl, dis_tup, own2_lit, own2_sl, List.map_cons, List.map_nil, List.getElem?_cons_zero, List.getElem?_cons_succ, ↓reduceIte, Nat.reduceEqDiff, Bool.and_true, and_true, not_true_eq_false, decide_false, Bool.false_eq_true, BB_len, BB_dis, room_of, IntWalk.i64_in, up_addL, frame_Join_20e, frame_Join_21e, frame_Join_22e, frame_Join_22l, frame_Join_23e, frame_Join_26e, frame_Join_26l, frame_Join_27e, frame_Join_27l, hemp]
      rw [h0, List.nil_append] at hnext
      exact ⟨(i + 1, .sl true 1 (BB en)), ⟨⟨by simp only; omega, .inl (by simp only [← hnext])⟩, by simp only; omega⟩, leR_refl _, trivial⟩
  · have e : i = l.length := by omega
    rw [e, List.take_length] at h2 hvd
    rcases h2 with rfl | ⟨rfl, h0⟩
    · simp -implicitDefEqProofs (maxSteps := 10000000) (disch := omega) only [stepQ_exit, seqQ_normal, seqQ_exit, blockQ_exit, aC_exit, aC_ret, opsK_eq, retQ_ret, retI, resI, resL, runI_nil, runI_none, putP_eq, o_mv, o_bin, o_own, n_lss, wp_ok, bind_ok, ev_r, ev_c, setB_r, putS, Sf.set, Sf.reg, mask_eq, maskR_nil, maskR_cons, getR, setR, maskL, Sf.disAt, dis_lit, dis_sl, noL_lit, noL_sl, noL_tup, List.all_cons, List.all_nil, ↓reduceIte, Nat.reduceEqDiff, Bool.true_and, Bool.and_true, and_true, true_and, cond_no, frame_Join_10e, frame_Join_11e, frame_Join_11l, frame_Join_12e, frame_Join_13e, frame_Join_28e, frame_Join_29e, frame_Join_29l]
      exact .tupL ⟨.refl _, .refl _, trivial⟩
    · simp -implicitDefEqProofs (maxSteps := 10000000) (disch := omega) only [stepQ_exit, seqQ_normal, seqQ_exit, blockQ_exit, aC_exit, aC_ret, opsK_eq, retQ_ret, retI, resI, resL, runI_nil, runI_none, putP_eq, o_mv, o_bin, o_own, n_lss, wp_ok, bind_ok, ev_r, ev_c, setB_r, putS, Sf.set, Sf.reg, mask_eq, maskR_nil, maskR_cons, getR, setR, maskL, Sf.disAt, dis_lit, noL_lit, noL_tup, List.all_cons, List.all_nil, ↓reduceIte, Nat.reduceEqDiff, Bool.true_and, Bool.and_true, and_true, true_and, cond_no, frame_Join_10e, frame_Join_11e, frame_Join_11l, frame_Join_12e, frame_Join_13e, frame_Join_28e, frame_Join_29e, frame_Join_29l]
      exact .tupL ⟨hvd, .refl _, trivial⟩

theorem few_pure (l : List Fr) (hl : l.length ≤ 9223372036854775807) (hm : ∀ f ∈ l, f.2.length ≤ 9223372036854775807) (st : St) : PCalls Go.Proofs.Try.prog n_aqueductlaw43_few [frsAV l] st (.lit (.bool (fewB l))) := by
  refine pure_eq ?_ (.lit _) (by simp [frs_nb]) st
  refine acalls_id hmix k_aqueductlaw43_few rfl rfl ?_
  unfold aFun c_aqueductlaw43_few
  simp -implicitDefEqProofs (maxSteps := 10000000) (disch := omega) only [seqQ_normal, opsK_eq, runI_nil, runI_none, o_mv, ev_c, putS, Sf.set, mask_eq, maskR_nil, maskR_cons, getR, setR, maskL, regs0, dis_lit, dis_sl, ↓reduceIte, reduceCtorEq, aqueductlaw43_few_1e, aqueductlaw43_few_2e, aqueductlaw43_few_2l, aqueductlaw43_few_3e, aqueductlaw43_few_4e, aqueductlaw43_few_5e, aqueductlaw43_few_5l, aqueductlaw43_few_6e, frsAV]
  rw [aqueductlaw43_few_7w]
  refine loop_for (A := Nat) (fun a => l.length - a) (fun a => ⟨[(0, .sl false 2 (l.map frAV)), (3, .lit (.int .i64 (a : Nat)))], []⟩) (fun _ => ⟨[]⟩)
    (fun a => a ≤ l.length ∧ a ≤ 13 ∧ ∀ f ∈ l.take a, f.2.length ≤ 40 ∨ 1020 ≤ f.2.length ∧ f.2.length ≤ 1030) 0 ⟨by omega, by omega, by simp⟩ (Sf.le_refl _) rfl ?_
  rintro i ⟨h1, h13, h2⟩
  have hfin : ∀ b : Bool, b = fewB l → (AV.lit (.bool b)).le (.lit (.bool (fewB l))) := fun b e => by rw [e]; exact .refl _
  by_cases hi : i < l.length
  · have e1 : (l.map frAV).getD i .any = frAV l[i] := by simp [List.getD, hi]
    have e2 := hm l[i] (List.getElem_mem hi)
    have hcont : (l[i].2.length ≤ 40 ∨ 1020 ≤ l[i].2.length ∧ l[i].2.length ≤ 1030) → ∀ f ∈ l.take (i + 1), f.2.length ≤ 40 ∨ 1020 ≤ f.2.length ∧ f.2.length ≤ 1030 := by
      intro hq f hf
      rw [List.take_succ_eq_append_getElem hi] at hf
      rcases List.mem_append.1 hf with hf | hf
      · exact h2 f hf
      · simp only [List.mem_singleton] at hf
        subst hf; exact hq
    have hbad : ¬ (l[i].2.length ≤ 40 ∨ 1020 ≤ l[i].2.length ∧ l[i].2.length ≤ 1030) → false = fewB l := fun hq => by
      symm; rw [Bool.eq_false_iff]
      intro hs
      exact hq ((fewB_iff.1 hs).2 l[i] (List.getElem_mem hi))
    have hlong : ¬ i < 13 → decide ((l.length : Int) ≤ 12) = fewB l := fun hq => by
      simp only [fewB]
      have e : decide (l.length ≤ 12) = false := by simp; omega
      have e2 : decide ((l.length : Int) ≤ 12) = false := by simp; omega
      simp only [e, e2, Bool.false_and]
    (repeat' (first | omega | (simp -implicitDefEqProofs (maxSteps := 10000000) (disch := omega) only [stepQ_normal, stepQ_ret, stepQ_exit, guard_tup, seqQ_normal, seqQ_ret, seqQ_exit, blockQ_normal, blockQ_exit, blockQ_ret, aC_skip, aC_exit, aC_ret, opsK_eq, retQ_ret, retI, runI_nil, runI_none, runI_some, skipI_eq, AI.dst, putP_eq, cond_tt, cond_ff, guard_tt, guard_ff, o_mv, o_pick, o_bin, o_addr, o_ixS, o_load, o_len, o_own, pick_tt, pick_ff, ixSV, loadV, ixA, lenI, addA, derefI, takeI_none, n_add, n_lss, n_leq, n_gtr, wp_ok, bind_ok, bind_req, ev_r, ev_c, setB_r, putS, Sf.set, Sf.reg, mask_eq, maskR_nil, maskR_cons, getR, setR, maskL, Sf.disAt, dis_lit, dis_sl, cells_agg, noL_lit, List.drop_zero, List.drop_succ_cons, Int.toNat_natCast, ↓reduceIte, Nat.reduceEqDiff, Bool.true_and, Bool.and_true, and_true, true_and, reduceCtorEq, Bool.false_eq_true, List.length_map, BB_len, req_dec, guard_yes, IntWalk.i64_in, up_addL, and_pre, aqueductlaw43_few_8e, aqueductlaw43_few_9e, aqueductlaw43_few_10e, aqueductlaw43_few_10l, aqueductlaw43_few_11e, aqueductlaw43_few_12e, aqueductlaw43_few_13e, aqueductlaw43_few_14e, aqueductlaw43_few_15e, aqueductlaw43_few_15l, aqueductlaw43_few_16e, aqueductlaw43_few_17e, aqueductlaw43_few_17l, aqueductlaw43_few_18e, aqueductlaw43_few_19e, aqueductlaw43_few_20e, aqueductlaw43_few_20l, aqueductlaw43_few_21e, aqueductlaw43_few_21l, aqueductlaw43_few_22e, aqueductlaw43_few_23e, aqueductlaw43_few_23l, e1, frAV]) | refine cond_split (fun h => ?_) (fun h => ?_) | refine guard_split (fun h => ?_) (fun h => ?_) | refine guardH_split (fun h => ?_) (fun h => ?_)))
    all_goals first
      | exact ⟨i + 1, ⟨⟨by omega, by omega, hcont (by omega)⟩, by omega⟩, leR_refl _, trivial⟩
      | exact hfin _ (hbad (by omega))
      | exact hfin _ (hlong (by omega))
      | trace_state
  · have e : i = l.length := by omega
    subst e
    rw [List.take_length] at h2
    have hend : decide ((l.length : Int) ≤ 12) = fewB l := by
      by_cases h12 : l.length ≤ 12
      · rw [fewB_iff.2 ⟨h12, h2⟩]
        simp; omega
      · symm; simp only [fewB]
        have e : decide (l.length ≤ 12) = false := by simp; omega
        simp only [e, Bool.false_and]
        simp; omega
    (repeat' (first | omega | (simp -implicitDefEqProofs (maxSteps := 10000000) (disch := omega) only [stepQ_exit, seqQ_normal, seqQ_exit, blockQ_exit, aC_exit, aC_ret, opsK_eq, retQ_ret, retI, runI_nil, runI_none, runI_some, skipI_eq, AI.dst, putP_eq, cond_ff, guard_ff, o_mv, o_pick, o_bin, o_len, o_own, pick_ff, lenI, n_lss, n_leq, wp_ok, ev_r, ev_c, setB_r, putS, Sf.set, Sf.reg, mask_eq, maskR_nil, maskR_cons, getR, setR, maskL, Sf.disAt, dis_lit, dis_sl, noL_lit, ↓reduceIte, Nat.reduceEqDiff, Bool.true_and, true_and, reduceCtorEq, List.length_map, guard_no, aqueductlaw43_few_8e, aqueductlaw43_few_9e, aqueductlaw43_few_10e, aqueductlaw43_few_10l, aqueductlaw43_few_11e, aqueductlaw43_few_22e, aqueductlaw43_few_23e, aqueductlaw43_few_23l]) | refine cond_split (fun h => ?_) (fun h => ?_) | refine guard_split (fun h => ?_) (fun h => ?_) | refine guardH_split (fun h => ?_) (fun h => ?_)))
    all_goals exact hfin _ hend
end Go.Fx.YtenijlfcfmhmkaaFx

