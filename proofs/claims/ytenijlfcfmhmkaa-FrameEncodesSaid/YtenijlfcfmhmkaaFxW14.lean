/- What the functions that the statement reaches compute: part 14. -/
import Derived.Test.YtenijlfcfmhmkaaFxW13
namespace Go.Fx.YtenijlfcfmhmkaaFx
open Go Go.Fx
attribute [local irreducible] aC runI headI loopI

set_option maxRecDepth 100000
set_option maxHeartbeats 8000000

theorem allF_len (b : List UInt8) : ∀ (k i : Nat) (out : List (UInt8 × List UInt8)), out.length ≤ i → i ≤ b.length → (allF b k i out).1.length ≤ b.length
  | 0, i, out, h1, h2 => by simp only [allF]; omega
  | k + 1, i, out, h1, h2 => by
    obtain ⟨n1, n2, n3, n4, n5, n6⟩ := nxt_le (b.drop i)
    simp only [List.length_drop] at n1
    simp only [allF]
    split
    · simp
    split
    · simp only; omega
    · exact allF_len b k _ _ (by simp; omega) (by omega)

theorem allB_len (b : List UInt8) : (allB b).1.length ≤ b.length := by unfold allB; exact allF_len b _ _ _ (by simp) (by simp)

theorem frameHolds_law (l : List Fr) (p : List UInt8) (c : Int) (hl : l.length ≤ maxLen) (hm : ∀ f ∈ l, f.2.length ≤ maxLen) (hp : p.length ≤ maxLen) (hc : 0 ≤ c ∧ c ≤ 65535) :
    ACalls Go.Proofs.Try.prog n_aqueductlaw43_FrameHolds [frsAV l, .sl false 1 (BB p), .lit (.int .u16 c)] ⟨[]⟩ (fun v _ => v = .lit (.bool true)) := by
  refine acalls_id hmix k_aqueductlaw43_FrameHolds rfl rfl ?_
  unfold aFun c_aqueductlaw43_FrameHolds
  simp only [maxLen] at hl hm hp
  simp -implicitDefEqProofs (maxSteps := 10000000) (disch := omega) only [seqQ_normal, opsK_eq, runI_nil, runI_none, o_mv, o_call, ev_r, ev_c, ev_f, putS, Sf.set, Sf.reg, mask_eq, maskR_nil, maskR_cons, getR, setR, maskL, regs0, id, dis_lit, dis_sl, List.map_cons, List.map_nil, ↓reduceIte, Nat.reduceEqDiff, Nat.reduceAdd, reduceCtorEq, Nat.zero_add, aqueductlaw43_FrameHolds_1e, aqueductlaw43_FrameHolds_2e, aqueductlaw43_FrameHolds_2l, aqueductlaw43_FrameHolds_3e, aqueductlaw43_FrameHolds_4e, aqueductlaw43_FrameHolds_5e, aqueductlaw43_FrameHolds_5l, frsAV]
  refine call_p rfl e_aqueductlaw43_few (few_pure l (by omega) (fun f h => by have := hm f h; omega) _) rfl ?_
  cases hfew : fewB l with
  | false =>
    simp -implicitDefEqProofs (maxSteps := 10000000) (disch := omega) only [seqQ_normal, opsK_eq, runI_nil, runI_none, runI_some, skipI_eq, AI.dst, putP_eq, cond_tt, guard_tt, o_mv, o_pick, o_un, o_call, pick_tt, unA, wp_ok, ev_r, ev_c, ev_f, setB_r, putS, Sf.set, Sf.reg, mask_eq, maskR_nil, maskR_cons, getR, setR, maskL, id, dis_lit, List.map_nil, ↓reduceIte, Nat.reduceEqDiff, reduceCtorEq, Bool.not_false, Bool.false_eq_true, aqueductlaw43_FrameHolds_6e, aqueductlaw43_FrameHolds_7e, aqueductlaw43_FrameHolds_8e, aqueductlaw43_FrameHolds_8l]
    refine call_p rfl e_aqueductlaw43_known (known_pure _) rfl ?_
    simp -implicitDefEqProofs (maxSteps := 10000000) (disch := omega) only [and_self, seqQ_normal, seqQ_ret, aC_ret, opsK_eq, retQ_ret, retI, runI_nil, runI_none, o_own, wp_ok, putS, Sf.set, Sf.reg, mask_eq, maskR_nil, maskR_cons, getR, setR, maskL, Sf.disAt, dis_lit, noL_lit, ↓reduceIte, Nat.reduceEqDiff, reduceCtorEq]
  | true =>
    have hf := fewB_iff.1 hfew
    simp -implicitDefEqProofs (maxSteps := 10000000) (disch := omega) only [runI_none, runI_some, AI.dst, putP_eq, guard_ff, o_mv, o_un, o_call, unA, wp_ok, ev_r, ev_f, putS, Sf.set, Sf.reg, getR, setR, id, dis_lit, dis_sl, List.map_cons, List.map_nil, ↓reduceIte, Nat.reduceEqDiff, reduceCtorEq, Bool.not_true, Bool.false_eq_true]
    refine call_p rfl e_aqueductref43_Short (short_pure l (by omega) (fun f h => by have := hm f h; omega) _) rfl ?_
    cases hsh : shortB l with
    | false =>
      simp -implicitDefEqProofs (maxSteps := 10000000) (disch := omega) only [seqQ_normal, opsK_eq, runI_nil, runI_none, runI_some, skipI_eq, AI.dst, putP_eq, cond_tt, guard_tt, guard_ff, o_mv, o_pick, o_un, o_call, pick_tt, pick_ff, unA, wp_ok, ev_r, ev_c, ev_f, setB_r, putS, Sf.set, Sf.reg, mask_eq, maskR_nil, maskR_cons, getR, setR, maskL, id, dis_lit, List.map_nil, ↓reduceIte, Nat.reduceEqDiff, reduceCtorEq, Bool.not_false, Bool.false_eq_true, aqueductlaw43_FrameHolds_6e, aqueductlaw43_FrameHolds_7e, aqueductlaw43_FrameHolds_8e, aqueductlaw43_FrameHolds_8l]
      refine call_p rfl e_aqueductlaw43_known (known_pure _) rfl ?_
      simp -implicitDefEqProofs (maxSteps := 10000000) (disch := omega) only [and_self, seqQ_normal, seqQ_ret, aC_ret, opsK_eq, retQ_ret, retI, runI_nil, runI_none, o_own, wp_ok, putS, Sf.set, Sf.reg, mask_eq, maskR_nil, maskR_cons, getR, setR, maskL, Sf.disAt, dis_lit, noL_lit, ↓reduceIte, Nat.reduceEqDiff, reduceCtorEq]
    | true =>
      have hs := shortB_iff.1 hsh
      simp -implicitDefEqProofs (maxSteps := 10000000) (disch := omega) only [seqQ_normal, opsK_eq, runI_nil, runI_none, runI_some, AI.dst, putP_eq, guard_ff, o_mv, o_pick, o_bin, o_un, o_len, pick_ff, lenI, unA, n_gtr, wp_ok, ev_r, ev_c, putS, Sf.set, Sf.reg, mask_eq, maskR_nil, maskR_cons, getR, setR, maskL, dis_lit, dis_sl, ↓reduceIte, Nat.reduceEqDiff, reduceCtorEq, Bool.not_true, Bool.false_eq_true, BB_len, aqueductlaw43_FrameHolds_6e]
      refine cond_split (fun h => ?_) (fun h => ?_)
      · simp -implicitDefEqProofs (maxSteps := 10000000) (disch := omega) only [runI_none, o_call, ev_f, setB_r, Sf.set, setR, id, List.map_nil, ↓reduceIte, Nat.reduceEqDiff, reduceCtorEq, aqueductlaw43_FrameHolds_7e, aqueductlaw43_FrameHolds_8e, aqueductlaw43_FrameHolds_8l]
        refine call_p rfl e_aqueductlaw43_known (known_pure _) rfl ?_
        simp -implicitDefEqProofs (maxSteps := 10000000) (disch := omega) only [and_self, seqQ_normal, seqQ_ret, aC_ret, opsK_eq, retQ_ret, retI, runI_nil, runI_none, o_own, wp_ok, putS, Sf.set, Sf.reg, mask_eq, maskR_nil, maskR_cons, getR, setR, maskL, Sf.disAt, dis_lit, noL_lit, ↓reduceIte, Nat.reduceEqDiff, reduceCtorEq]
      · simp -implicitDefEqProofs (maxSteps := 10000000) (disch := omega) only [seqQ_normal, aC_skip, runI_none, o_mv, o_call, ev_r, ev_f, setB_r, putS, Sf.set, Sf.reg, getR, setR, id, dis_sl, List.map_cons, List.map_nil, ↓reduceIte, Nat.reduceEqDiff, reduceCtorEq, aqueductlaw43_FrameHolds_9e, aqueductlaw43_FrameHolds_10e, aqueductlaw43_FrameHolds_10l]
        refine call_p rfl e_frame_Join (joinf_pure l hfew hsh _) rfl ?_
        simp -implicitDefEqProofs (maxSteps := 10000000) (disch := omega) only [seqQ_normal, aC_skip, opsK_eq, runI_nil, runI_none, putP_eq, cond_ff, o_mv, o_bin, o_ext, o_bst, o_own, o_boxB, extV, bstV, boxX, buildA, n_neq, wp_ok, bind_ok, ofOpt_some, ev_r, ev_c, evOwn_r, disOp_r, setB_r, putS, Sf.set, Sf.reg, mask_eq, maskR_nil, maskR_cons, getR, setR, maskL, Sf.disAt, dis_lit, dis_ptr, dis_sl, dis_agg, dis_tup, own1_lit, own2_lit, own2_sl, cells_agg, solid1_lit, solid_eq, List.map_cons, List.map_nil, List.length_cons, List.length_nil, List.getElem?_cons_zero, List.getElem?_cons_succ, List.all_cons, List.all_nil, ↓reduceIte, Nat.reduceEqDiff, Nat.reduceAdd, Bool.true_and, Bool.and_true, and_true, true_and, reduceCtorEq, Nat.zero_add, not_true_eq_false, decide_false, aqueductlaw43_FrameHolds_11e, aqueductlaw43_FrameHolds_12e, aqueductlaw43_FrameHolds_13e, aqueductlaw43_FrameHolds_13l, aqueductlaw43_FrameHolds_14e, aqueductlaw43_FrameHolds_17e, aqueductlaw43_FrameHolds_18e, aqueductlaw43_FrameHolds_18l, aqueductlaw43_FrameHolds_19e, aqueductlaw43_FrameHolds_20e, aqueductlaw43_FrameHolds_20l, aqueductlaw43_FrameHolds_21e, aqueductlaw43_FrameHolds_22e, aqueductlaw43_FrameHolds_23e, aqueductlaw43_FrameHolds_23l, aqueductlaw43_FrameHolds_24e]
        refine holds_outer l hf.1 hs p c (.lit (.slice none 0 0)) (by omega) (.inr ⟨rfl, rfl⟩) _ fun rb' hrb' => ?_
        have hjl := joinB_len hs
        simp -implicitDefEqProofs (maxSteps := 10000000) (disch := omega) only [seqQ_normal, blockQ_exit, runI_none, runI_some, AI.dst, putP_eq, guard_ff, o_mv, o_bin, o_len, o_call, lenI, n_neq, wp_ok, ev_r, ev_f, putS, Sf.set, Sf.reg, getR, setR, id, dis_lit, dis_ptr, dis_sl, List.map_cons, List.map_nil, ↓reduceIte, Nat.reduceEqDiff, reduceCtorEq, not_true_eq_false, decide_false, Bool.false_eq_true, List.length_map, aqueductlaw43_FrameHolds_80e, aqueductlaw43_FrameHolds_81e, aqueductlaw43_FrameHolds_82e, aqueductlaw43_FrameHolds_82l, frsAV]
        refine call_a rfl e_frame_Reader_Pending (pending_any (RdS_rd hrb')) rfl fun v st' hv => ?_
        obtain ⟨hv1, hv2⟩ := hv
        subst hv1 hv2
        obtain ⟨k, hk⟩ : ∃ k : Nat, c % ((((joinB l).length + 1 : Nat)) : Int) = k := ⟨(c % ((((joinB l).length + 1 : Nat)) : Int)).toNat, by have := Int.emod_nonneg c (show ((((joinB l).length + 1 : Nat)) : Int) ≠ 0 by omega); omega⟩
        have hk2 : k < (joinB l).length + 1 := by have := Int.emod_lt_of_pos c (show (0 : Int) < (((joinB l).length + 1 : Nat) : Int) by omega); omega
        simp -implicitDefEqProofs (maxSteps := 10000000) (disch := omega) only [seqQ_normal, aC_skip, opsK_eq, runI_nil, runI_none, runI_some, AI.dst, putP_eq, cond_ff, guard_ff, o_mv, o_pick, o_bin, o_conv, o_sliS, o_len, o_own, o_call, pick_ff, sliSV, ixTo, lenI, convI, n_add, n_neq, wp_ok, bind_ok, bind_req, req_tt, ev_r, ev_c, ev_f, setB_r, putS, Sf.set, Sf.reg, mask_eq, maskR_nil, maskR_cons, getR, setR, maskL, Sf.disAt, id, dis_lit, dis_sl, List.map_cons, List.map_nil, List.length_nil, Option.map_some, Option.map_none, List.drop_zero, Int.toNat_natCast, Int.cast_ofNat_Int, ↓reduceIte, Nat.reduceEqDiff, reduceCtorEq, not_true_eq_false, decide_false, Bool.false_eq_true, BB_len, BB_take, BB_drop, req_dec, IntWalk.i64_in, n_rem, IntWalk.rem_in, up_addL, and_pre, aqueductlaw43_FrameHolds_83e, aqueductlaw43_FrameHolds_86e, aqueductlaw43_FrameHolds_87e, aqueductlaw43_FrameHolds_87l, aqueductlaw43_FrameHolds_88e, aqueductlaw43_FrameHolds_89e, aqueductlaw43_FrameHolds_89l, hk]
        refine call_p rfl e_frame_All (all_pure ((joinB l).take k) (by simp; omega) _) rfl ?_
        have hall := allB_join l hs k
        have hal2 := allB_len ((joinB l).take k)
        generalize allB ((joinB l).take k) = R at *
        obtain ⟨fs, used, er⟩ := R
        simp only at hall hal2
        obtain ⟨h1, h2, q, h3, h4⟩ := hall
        rw [List.length_take] at h2
        subst h1 h4
        have hlt : (l.take q).length = q := by simp; omega
        simp -implicitDefEqProofs (maxSteps := 10000000) (disch := omega) only [seqQ_normal, aC_skip, opsK_eq, runI_nil, runI_none, runI_some, AI.dst, putP_eq, guard_ff, o_mv, o_pick, o_bin, o_ext, o_len, o_own, pick_ff, extV, lenI, n_neq, n_gtr, wp_ok, bind_ok, ofOpt_some, ev_r, ev_c, setB_r, putS, Sf.set, Sf.reg, mask_eq, maskR_nil, maskR_cons, getR, setR, maskL, Sf.disAt, dis_lit, dis_sl, dis_tup, own2_lit, own2_sl, List.map_cons, List.map_nil, List.getElem?_cons_zero, List.getElem?_cons_succ, Int.cast_ofNat_Int, ↓reduceIte, Nat.reduceEqDiff, reduceCtorEq, not_true_eq_false, decide_false, Bool.false_eq_true, List.length_map, cond_no, guard_no, aqueductlaw43_FrameHolds_90e, aqueductlaw43_FrameHolds_91e, aqueductlaw43_FrameHolds_92e, aqueductlaw43_FrameHolds_92l, aqueductlaw43_FrameHolds_93e, aqueductlaw43_FrameHolds_96e, aqueductlaw43_FrameHolds_97e, aqueductlaw43_FrameHolds_98e, aqueductlaw43_FrameHolds_98l, aqueductlaw43_FrameHolds_99e, allAV, frsAV, hlt]
        rw [aqueductlaw43_FrameHolds_100w]
        refine loop_op (A := Nat) (fun a => l.length - a) (fun a => ⟨[(0, frsAV l), (19, frsAV (l.take q)), (22, .lit (.int .i64 (a : Nat)))], []⟩) (fun _ => RdS rb')
          (fun a => a ≤ q) 0 (by simp) (Sf.le_refl _) rfl ?_
        intro i hi K hK hKe hKr
        simp -implicitDefEqProofs (maxSteps := 10000000) (disch := omega) only [seqQ_normal, opsK_eq, runI_nil, runI_none, putP_eq, o_mv, o_bin, o_len, lenI, n_lss, wp_ok, ev_r, putS, Sf.set, Sf.reg, mask_eq, maskR_nil, maskR_cons, getR, setR, maskL, dis_lit, dis_sl, ↓reduceIte, Nat.reduceEqDiff, reduceCtorEq, List.length_map, aqueductlaw43_FrameHolds_101e, aqueductlaw43_FrameHolds_102e, aqueductlaw43_FrameHolds_103e, aqueductlaw43_FrameHolds_103l, aqueductlaw43_FrameHolds_104e, frsAV, hlt]
        refine cond_split (fun h => ?_) (fun h => ?_)
        · have hiq : i < q := by omega
          have g1 : (l.map frAV).getD i .any = frAV (l.getD i (0, [])) := by simp [List.getD, show i < l.length by omega]
          have g2 : ((l.take q).map frAV).getD i .any = frAV (l.getD i (0, [])) := by simp [List.getD, hiq, show i < l.length by omega]
          generalize l.getD i (0, []) = f at g1 g2
          simp -implicitDefEqProofs (maxSteps := 10000000) (disch := omega) only [h_nil, h_none, hh_mv, hh_ixS, hh_load, val_head, tail_nil, seqQ_normal, aC_skip, runI_none, o_call, ixSV, loadV, ixA, derefI, takeI_some, wp_ok, bind_ok, bind_req, req_tt, ev_r, ev_f, setB_r, putS, Sf.set, Sf.reg, getR, setR, dropL, id, dis_lit, dis_sl, dis_agg, own1_lit, own1_sl, cells_agg, List.map_cons, List.map_nil, List.length_cons, List.length_nil, List.take_succ_cons, List.take_zero, Int.toNat_natCast, ↓reduceIte, Nat.reduceEqDiff, Nat.reduceAdd, Nat.reduceLeDiff, reduceCtorEq, Nat.zero_add, decide_true, List.length_map, req_dec, and_pre, aqueductlaw43_FrameHolds_105e, aqueductlaw43_FrameHolds_106e, aqueductlaw43_FrameHolds_107e, aqueductlaw43_FrameHolds_108e, aqueductlaw43_FrameHolds_108h, aqueductlaw43_FrameHolds_108l, frAV, hlt, g1, g2]
          refine call_p rfl e_aqueductref43_Same (same_pure f f _) rfl ?_
          simp -implicitDefEqProofs (maxSteps := 10000000) (disch := omega) only [seqQ_normal, blockQ_normal, aC_skip, opsK_eq, runI_nil, runI_none, putP_eq, cond_ff, o_mv, o_bin, o_un, o_own, unA, n_add, wp_ok, ev_r, ev_c, setB_r, putS, Sf.set, Sf.reg, mask_eq, maskR_nil, maskR_cons, getR, setR, maskL, Sf.disAt, dis_lit, ↓reduceIte, Nat.reduceEqDiff, reduceCtorEq, decide_true, Bool.not_true, IntWalk.i64_in, up_addL, aqueductlaw43_FrameHolds_109e, aqueductlaw43_FrameHolds_112e, aqueductlaw43_FrameHolds_112l]
          exact hK (i + 1) _ (by omega) (by omega) (Sf.le_refl _)
        · simp -implicitDefEqProofs (maxSteps := 10000000) (disch := omega) only [seqQ_exit, aC_exit, setB_r, Sf.set, mask_eq, maskR_nil, setR, maskL, ↓reduceIte, Nat.reduceEqDiff, reduceCtorEq]
          refine hKe _ _ _ ?_
          simp -implicitDefEqProofs (maxSteps := 10000000) (disch := omega) only [seqQ_normal, blockQ_exit, runI_none, o_call, ev_f, id, List.map_nil, ↓reduceIte, aqueductlaw43_FrameHolds_113e, aqueductlaw43_FrameHolds_114e, aqueductlaw43_FrameHolds_114l]
          refine call_p rfl e_aqueductlaw43_known (known_pure _) rfl ?_
          simp -implicitDefEqProofs (maxSteps := 10000000) (disch := omega) only [and_self, seqQ_normal, aC_ret, opsK_eq, retQ_ret, retI, runI_nil, runI_none, o_own, wp_ok, putS, Sf.set, Sf.reg, mask_eq, maskR_nil, maskR_cons, getR, setR, maskL, Sf.disAt, dis_lit, noL_lit, ↓reduceIte, Nat.reduceEqDiff]

theorem byte_lit {k : Int} (h : 0 ≤ k ∧ k ≤ 255) : AV.lit (.int .u8 k) = .lit (.int .u8 (UInt8.ofNat k.toNat).toNat) := by
  congr 2; simp [UInt8.toNat_ofNat']; omega
/-- Frames as the law's arguments come. -/
theorem frs_lit {l : List (Int × List Int × Unit)} (h : ∀ x ∈ l, (0 ≤ x.1 ∧ x.1 ≤ 255) ∧ x.2.1.length ≤ maxLen ∧ ∀ i ∈ x.2.1, 0 ≤ i ∧ i ≤ 255) :
    (l.map fun x => AV.agg [.lit (.int .u8 x.1), .sl false 1 (x.2.1.map fun i => .lit (.int .u8 i))]) = (l.map fun x => (UInt8.ofNat x.1.toNat, x.2.1.map fun i => UInt8.ofNat i.toNat)).map frAV := by
  rw [List.map_map]
  apply List.map_congr_left
  intro x hx
  obtain ⟨h1, h2, h3⟩ := h x hx
  simp only [Function.comp, frAV]
  rw [ints_BB h3, byte_lit h1]
theorem frameHolds_top {l : List (Int × List Int × Unit)} {p : List Int} {c : Int} (hl : l.length ≤ maxLen ∧ ∀ x ∈ l, (0 ≤ x.1 ∧ x.1 ≤ 255) ∧ (x.2.1.length ≤ maxLen ∧ ∀ i ∈ x.2.1, 0 ≤ i ∧ i ≤ 255) ∧ True) (hp : p.length ≤ maxLen ∧ ∀ i ∈ p, 0 ≤ i ∧ i ≤ 255) (hc : 0 ≤ c ∧ c ≤ 65535) :
    ACalls Go.Proofs.Try.prog n_aqueductlaw43_FrameHolds [.sl false 2 (l.map fun x => .agg [.lit (.int .u8 x.1), .sl false 1 (x.2.1.map fun i => .lit (.int .u8 i))]), .sl false 1 (p.map fun i => .lit (.int .u8 i)), .lit (.int .u16 c)] ⟨[]⟩ (fun v _ => v = .lit (.bool true)) := by
  rw [frs_lit fun x hx => ⟨(hl.2 x hx).1, (hl.2 x hx).2.1.1, (hl.2 x hx).2.1.2⟩, ints_BB hp.2]
  refine frameHolds_law _ _ c (by simpa using hl.1) (fun f hf => ?_) (by simpa using hp.1) hc
  simp only [List.mem_map] at hf
  obtain ⟨x, hx, rfl⟩ := hf
  simpa using (hl.2 x hx).2.1.1
end Go.Fx.YtenijlfcfmhmkaaFx

