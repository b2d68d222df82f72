/- What the functions that the statement reaches compute: part 6. -/
import Derived.Test.YtenijlfcfmhmkaaFxW5
namespace Go.Fx.YtenijlfcfmhmkaaFx
open Go Go.Fx
attribute [local irreducible] aC runI headI loopI

set_option maxRecDepth 100000
set_option maxHeartbeats 4000000

theorem sumB_app : ∀ (l r : List UInt8) (s : Nat), sumB s (l ++ r) = sumB (sumB s l) r
  | [], r, s => rfl
  | x :: l, r, s => by simp only [List.cons_append, sumB]; exact sumB_app l r _

theorem hi_byte {n : Nat} (h : n < 65536) : (n : Int) / 256 = ((UInt8.ofNat (n / 256)).toNat : Int) := by simp only [UInt8.toNat_ofNat']; omega
theorem lo_byte (n : Nat) : (n : Int) % 256 = ((UInt8.ofNat n).toNat : Int) := by simp only [UInt8.toNat_ofNat']; omega

theorem refEncode_pure (k : UInt8) (b : List UInt8) (hl : b.length ≤ 1024) (st : St) : PCalls Go.Proofs.Try.prog n_aqueductref43_Encode [frAV (k, b)] st (.sl true 1 (BB (encB k b))) := by
  refine pure_eq ?_ (BB_slnb _ _) (by simp [frAV_nb]) st
  refine acalls_id hmix k_aqueductref43_Encode rfl rfl ?_
  unfold aFun c_aqueductref43_Encode
  have e1 := hi_byte (n := b.length) (by omega)
  have e2 := lo_byte b.length
  simp -implicitDefEqProofs (maxSteps := 10000000) (disch := omega) only [and_self, seqQ_normal, opsK_eq, runI_nil, runI_none, putP_eq, o_mv, o_bin, o_conv, o_addr, o_load, o_bsl, o_len, o_own, o_boxL, loadV, bslV, boxX, List.reduceReplicate, lenI, addA, convI, derefI, takeI_none, fillA, wp_ok, bind_ok, ofOpt_some, req_tt, ev_r, ev_c, evOwn_r, putS, Sf.set, Sf.reg, mask_eq, maskR_nil, maskR_cons, getR, setR, maskL, Sf.disAt, Sf.newLoc, look, killR, drop1, regs0, dis_lit, dis_sl, dis_agg, own1_lit, own1_sl, cells_lit, cells_agg, solid1_lit, solid1_sl, solid_eq, kill_agg, List.map_cons, List.map_nil, List.length_cons, List.length_nil, List.all_cons, List.all_nil, List.drop_zero, List.drop_succ_cons, List.set_cons_zero, List.set_cons_succ, ↓reduceIte, Nat.reduceEqDiff, Nat.reduceAdd, Nat.reduceLT, Bool.true_and, Bool.and_true, and_true, true_and, reduceCtorEq, Nat.zero_add, Nat.add_zero, BB_len, IntWalk.u8_in, n_quo, n_rem, IntWalk.i64_quo, IntWalk.rem_in, aqueductref43_Encode_1e, aqueductref43_Encode_2e, aqueductref43_Encode_2l, aqueductref43_Encode_3e, aqueductref43_Encode_4e, aqueductref43_Encode_4l, aqueductref43_Encode_5e, aqueductref43_Encode_6e, aqueductref43_Encode_7e, aqueductref43_Encode_7l, aqueductref43_Encode_8e, frAV, e1, e2]
  rw [aqueductref43_Encode_9w]
  refine loop_for (A := Nat) (fun a => b.length - a) (fun a => ⟨[(1, .lptr 1 0), (3, .sl true 1 (BB ([197, k] ++ twoB b.length ++ b.take a))), (4, .lit (.int .i64 (a : Nat)))], [(1, [.lit (.int .u8 k.toNat), .sl false 1 (BB b)])]⟩) (fun _ => ⟨[]⟩)
    (fun a => a ≤ b.length) 0 (by omega) (Sf.le_refl _) rfl ?_
  rintro i h1
  simp -implicitDefEqProofs (maxSteps := 10000000) (disch := omega) only [seqQ_normal, opsK_eq, runI_nil, runI_none, putP_eq, o_mv, o_bin, o_addr, o_load, o_len, loadV, lenI, addA, derefI, takeI_none, n_lss, wp_ok, bind_ok, ofOpt_some, ev_r, putS, Sf.set, Sf.reg, mask_eq, maskR_nil, maskR_cons, getR, setR, maskL, look, dis_lit, dis_sl, List.nil_append, List.cons_append, List.drop_zero, List.drop_succ_cons, ↓reduceIte, Nat.reduceEqDiff, Nat.zero_add, BB_len, aqueductref43_Encode_10e, aqueductref43_Encode_11e, aqueductref43_Encode_12e, aqueductref43_Encode_12l, aqueductref43_Encode_13e]
  refine cond_split (fun h => ?_) (fun h => ?_)
  · have hi : i < b.length := by omega
    have hx : List.take i b ++ [b.getD i 0] = List.take (i + 1) b := by rw [List.take_succ_eq_append_getElem hi]; simp [List.getD, hi]
    simp -implicitDefEqProofs (maxSteps := 10000000) (disch := omega) only [stepQ_normal, and_self, seqQ_normal, blockQ_normal, aC_skip, opsK_eq, runI_nil, runI_none, putP_eq, o_mv, o_bin, o_addr, o_ixS, o_load, o_bsl, o_own, o_appS, ixSV, loadV, bslV, appSX, List.reduceReplicate, ixA, addA, derefI, takeI_none, appOwnI, srcA, fillA, n_add, wp_ok, bind_ok, bind_req, ofOpt_some, ev_r, ev_c, setB_r, putS, Sf.set, Sf.reg, mask_eq, maskR_nil, maskR_cons, getR, setR, maskL, Sf.disAt, look, dis_lit, dis_sl, cells_lit, solid1_lit, solid_eq, List.map_cons, List.map_nil, List.length_cons, List.length_nil, List.all_cons, List.all_nil, List.cons_append, List.drop_zero, List.drop_succ_cons, List.set_cons_zero, Int.toNat_natCast, ↓reduceIte, Nat.reduceEqDiff, Nat.reduceLT, Bool.and_true, and_true, Nat.zero_add, BB_len, BB_getD, req_dec, IntWalk.i64_in, up_addL, and_pre, List.length_append, aqueductref43_Encode_14e, aqueductref43_Encode_15e, aqueductref43_Encode_16e, aqueductref43_Encode_16l, aqueductref43_Encode_17e, aqueductref43_Encode_17l, BB_snoc, List.append_assoc, hx]
    refine ⟨by apply room_of; simp [twoB_len]; omega, i + 1, ⟨by omega, by omega⟩, Sf.le_refl _⟩
  · simp -implicitDefEqProofs (maxSteps := 10000000) (disch := omega) only [stepQ_exit, seqQ_normal, seqQ_exit, blockQ_exit, aC_exit, opsK_eq, runI_nil, runI_none, o_mv, ev_c, setB_r, putS, Sf.set, mask_eq, maskR_nil, maskR_cons, getR, setR, maskL, dis_lit, ↓reduceIte, Nat.reduceEqDiff, aqueductref43_Encode_18e, aqueductref43_Encode_19e, aqueductref43_Encode_19l, aqueductref43_Encode_20e, aqueductref43_Encode_21e, aqueductref43_Encode_22e, aqueductref43_Encode_22l, aqueductref43_Encode_23e]
    have e : i = b.length := by omega
    simp only [e, List.take_length]
    have hout : 197 :: k :: (twoB b.length ++ b) = 197 :: innerB k b := by simp [innerB]
    have henc : encB k b = (197 :: innerB k b) ++ twoB (sumB 1 ((197 :: innerB k b).drop 1)) := by simp [encB]
    rw [hout, henc]
    have hpl : (197 :: innerB k b).length = b.length + 4 := by simp [inner_len]
    generalize 197 :: innerB k b = p at *
    rw [aqueductref43_Encode_24w]
    refine loop_for (A := Nat × Nat) (fun a => p.length - a.1) (fun a => ⟨[(3, .sl true 1 (BB p)), (5, .lit (.int .i64 (a.2 : Nat))), (6, .lit (.int .i64 (a.1 : Nat)))], []⟩) (fun _ => ⟨[]⟩)
      (fun a => a.1 ≤ p.length ∧ a.2 < 65521 ∧ sumB a.2 (p.drop a.1) = sumB 1 (p.drop 1)) (1, 1) ⟨by simp only; omega, by simp, rfl⟩ ⟨leR_refl _, trivial⟩ rfl ?_
    rintro ⟨i, s⟩ ⟨h1, h2, h3⟩
    simp only at h1 h2 h3
    have hx := (p.getD i 0).toNat_lt
    simp -implicitDefEqProofs (maxSteps := 10000000) (disch := omega) only [seqQ_normal, opsK_eq, runI_nil, runI_none, putP_eq, o_mv, o_bin, o_len, lenI, n_lss, wp_ok, ev_r, putS, Sf.set, Sf.reg, mask_eq, maskR_nil, maskR_cons, getR, setR, maskL, dis_lit, dis_sl, ↓reduceIte, Nat.reduceEqDiff, BB_len, aqueductref43_Encode_25e, aqueductref43_Encode_26e, aqueductref43_Encode_27e, aqueductref43_Encode_27l, aqueductref43_Encode_28e]
    refine cond_split (fun h => ?_) (fun h => ?_)
    · simp -implicitDefEqProofs (maxSteps := 10000000) (disch := omega) only [stepQ_normal, seqQ_normal, blockQ_normal, aC_skip, opsK_eq, runI_nil, runI_none, putP_eq, o_mv, o_bin, o_conv, o_ixS, o_load, o_own, ixSV, loadV, ixA, convI, derefI, takeI_none, n_add, n_mul, wp_ok, bind_ok, bind_req, req_tt, ev_r, ev_c, setB_r, putS, Sf.set, Sf.reg, mask_eq, maskR_nil, maskR_cons, getR, setR, maskL, Sf.disAt, dis_lit, dis_sl, cells_lit, Int.toNat_natCast, ↓reduceIte, Nat.reduceEqDiff, Bool.and_true, and_true, BB_len, BB_getD, req_dec, IntWalk.i64_in, n_rem, IntWalk.rem_in, up_addL, and_pre, aqueductref43_Encode_29e, aqueductref43_Encode_30e, aqueductref43_Encode_31e, aqueductref43_Encode_31l, aqueductref43_Encode_32e, aqueductref43_Encode_32l]
      have hi : i < p.length := by omega
      refine ⟨(i + 1, (31 * s + (p.getD i 0).toNat) % 65521), ⟨⟨by simp only; omega, Nat.mod_lt _ (by omega), ?_⟩, by simp only; omega⟩, ?_, trivial⟩
      · rw [← h3, List.drop_eq_getElem_cons hi]
        simp [sumB, List.getD, hi]
      · simp only
        rw [Nat.mul_comm 31 s]
        exact leR_refl _
    · simp -implicitDefEqProofs (maxSteps := 10000000) (disch := omega) only [stepQ_exit, and_self, seqQ_normal, seqQ_exit, blockQ_exit, aC_exit, aC_ret, opsK_eq, retQ_ret, retI, runI_nil, runI_none, putP_eq, o_mv, o_bin, o_conv, o_bsl, o_own, o_appS, bslV, appSX, List.reduceReplicate, convI, appOwnI, srcA, fillA, wp_ok, bind_ok, req_tt, ev_r, ev_c, setB_r, putS, Sf.set, Sf.reg, mask_eq, maskR_nil, maskR_cons, getR, setR, maskL, Sf.disAt, dis_lit, dis_sl, cells_lit, solid1_lit, solid_eq, noL_sl, List.map_cons, List.map_nil, List.length_cons, List.length_nil, List.all_cons, List.all_nil, List.set_cons_zero, List.set_cons_succ, ↓reduceIte, Nat.reduceEqDiff, Nat.reduceAdd, Nat.reduceLT, Bool.true_and, Bool.and_true, and_true, true_and, Nat.zero_add, BB_len, room_of, IntWalk.u8_in, n_quo, n_rem, IntWalk.i64_quo, IntWalk.rem_in, aqueductref43_Encode_33e, aqueductref43_Encode_34e, aqueductref43_Encode_34l]
      have : i = p.length := by omega
      subst this
      simp only [List.drop_length, sumB] at h3
      rw [← h3, hi_byte (by omega), lo_byte, ← BB_app]
      exact .refl _
end Go.Fx.YtenijlfcfmhmkaaFx

