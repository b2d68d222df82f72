/- What the functions that the statement reaches compute: part 4. -/
import Derived.Test.YtenijlfcfmhmkaaFxW3
namespace Go.Fx.YtenijlfcfmhmkaaFx
open Go Go.Fx
attribute [local irreducible] aC runI headI loopI

set_option maxRecDepth 100000
set_option maxHeartbeats 4000000

theorem two_pure (n : Nat) (hn : n < 65536) (st : St) : PCalls Go.Proofs.Try.prog n_frame_two [.lit (.int .i64 n)] st (.sl false 1 (BB (twoB n))) := by
  refine pure_eq ?_ (BB_slnb _ _) (by simp [AV.NB.lit]) st
  refine acalls_id hmix k_frame_two rfl rfl ?_
  unfold aFun c_frame_two
  simp -implicitDefEqProofs (maxSteps := 10000000) (disch := omega) only [and_self, seqQ_normal, aC_ret, opsK_eq, retQ_ret, retI, runI_nil, runI_none, putP_eq, o_mv, o_bin, o_conv, o_bsl, o_own, bslV, List.reduceReplicate, convI, fillA, wp_ok, bind_ok, req_tt, ev_r, ev_c, putS, Sf.set, Sf.reg, mask_eq, maskR_nil, maskR_cons, getR, setR, maskL, Sf.disAt, regs0, dis_lit, dis_sl, cells_lit, solid1_lit, solid_eq, noL_sl, List.map_cons, List.map_nil, List.length_cons, List.length_nil, List.all_cons, List.all_nil, List.set_cons_zero, List.set_cons_succ, ↓reduceIte, Nat.reduceEqDiff, Nat.reduceAdd, Nat.reduceLT, Bool.true_and, Bool.and_true, and_true, true_and, reduceCtorEq, Nat.zero_add, n_shr8, IntWalk.u8_in, frame_two_1e, frame_two_2e, frame_two_2l, frame_two_3e, frame_two_4e, frame_two_4l]
  have h1 : AV.lit (.int .u8 (n / 256 : Int)) = .lit (.int .u8 (UInt8.ofNat (n / 256)).toNat) := w_u8' (n := n / 256) (by omega)
  have h2 := w_u8 n
  rw [h1, h2]
  exact .own _ _

/-- The encoding of a frame. -/
def innerB (k : UInt8) (b : List UInt8) : List UInt8 := [k] ++ (twoB b.length ++ b)
def encB (k : UInt8) (b : List UInt8) : List UInt8 := [197] ++ (innerB k b ++ twoB (sumB 1 (innerB k b)))
theorem inner_len (k : UInt8) (b : List UInt8) : (innerB k b).length = b.length + 3 := by simp [innerB, twoB]
theorem enc_len (k : UInt8) (b : List UInt8) : (encB k b).length = b.length + 6 := by simp [encB, inner_len, twoB]

/-- The cells of a box. -/
def isB (z : AV) (b : List UInt8) : Prop := IsZ z (BB b)
theorem isB_len {z : AV} {b : List UInt8} (h : isB z b) {st : St} : lenI .sl st z = .ok (.lit (.int .i64 b.length)) := by
  rcases h with rfl | ⟨rfl, e⟩
  · simp [lenI, BB_len]
  · have : b = [] := by simpa [BB] using e
    subst this; rfl

theorem encode_ok {k : UInt8} {b : List UInt8} {z : AV} (hz : isB z b) (hl : b.length ≤ 1024) (st : St) :
    ACalls Go.Proofs.Try.prog n_frame_Encode [.agg [.lit (.int .u8 k.toNat), z]] st (fun v st' => ∃ e : List AV, (∀ x ∈ e, x = .any) ∧ v = .tup [.bs st.boxes.length 1 0 (b.length + 6) (b.length + 6), .lit (.int .i64 0)] ∧ st' = st.push (.cells (BB (encB k b) ++ e))) := by
  refine acalls_id hmix k_frame_Encode rfl rfl ?_
  unfold aFun c_frame_Encode
  have hlen := fun st : St => isB_len hz (st := st)
  have hzd : z.dis = z ∧ z.cells = [z] ∧ z.solid1 = true ∧ z.own1 = z ∧ z.noL = true := by rcases hz with rfl | ⟨rfl, _⟩ <;> exact ⟨rfl, rfl, rfl, rfl, rfl⟩
  obtain ⟨z1, z2, z3, z4, z5⟩ := hzd
  simp -implicitDefEqProofs (maxSteps := 10000000) (disch := omega) only [List.contains_nil, h_none, hh_addr, hh_load, hh_bsl, hh_len, hh_call, val_head, and_self, seqQ_normal, aC_skip, opsK_eq, runI_nil, runI_none, putP_eq, o_mv, o_bin, o_addr, o_load, o_len, o_boxL, loadV, bslV, boxX, List.reduceReplicate, addA, derefI, takeI_none, fillA, n_gtr, wp_ok, bind_ok, ofOpt_some, ev_r, ev_c, ev_f, evOwn_r, setB_r, putS, Sf.set, Sf.reg, mask_eq, maskR_nil, maskR_cons, getR, setR, maskL, Sf.newLoc, look, killR, drop1, dropL, regs0, id, dis_lit, dis_agg, own1_lit, cells_lit, cells_agg, solid1_lit, solid_eq, kill_agg, List.map_cons, List.map_nil, List.length_cons, List.length_nil, List.all_cons, List.all_nil, List.drop_zero, List.drop_succ_cons, List.set_cons_zero, ↓reduceIte, Nat.reduceEqDiff, Nat.reduceAdd, Nat.reduceLT, Bool.true_and, Bool.and_true, and_true, true_and, reduceCtorEq, Nat.zero_add, Nat.add_zero, Bool.false_eq_true, cond_no, frame_Encode_1e, frame_Encode_2e, frame_Encode_2l, frame_Encode_3e, frame_Encode_4e, frame_Encode_5e, frame_Encode_5l, frame_Encode_6e, frame_Encode_9e, frame_Encode_10e, frame_Encode_10h, frame_Encode_10l, hlen, z1, z3, z4]
  refine call_h rfl e_frame_two (two_pure b.length (by omega) _) rfl ?_
  simp -implicitDefEqProofs (maxSteps := 10000000) (disch := omega) only [h_nil, h_none, hh_addr, hh_load, cons_val, val_head, tail_nil, and_self, runI_none, putP_eq, o_bsl, o_call, loadV, bslV, List.reduceReplicate, addA, derefI, takeI_none, fillA, wp_ok, bind_ok, ofOpt_some, ev_r, ev_f, putS, Sf.set, Sf.reg, getR, setR, look, id, dis_sl, cells_sl, solid1_sl, solid_eq, List.map_cons, List.map_nil, List.length_cons, List.length_nil, List.all_cons, List.all_nil, List.drop_zero, List.drop_succ_cons, List.set_cons_zero, List.set_cons_succ, ↓reduceIte, Nat.reduceEqDiff, Nat.reduceAdd, Nat.reduceLT, Bool.and_true, and_true, Nat.zero_add, z1, z2, z3]
  refine call_p rfl e_frame_joined (joined_pure (a := [.lit (.int .u8 k.toNat)]) (b := BB (twoB b.length)) hz Lits.nil.cons (BB_lits _) (BB_lits _) (by simp [BB_len, twoB_len]; omega) (by simp) _) (by simp -implicitDefEqProofs (maxSteps := 10000000) (disch := omega) only [noL_sl, List.all_cons, List.all_nil, Bool.and_true, and_true]) ?_
  have hin : [AV.lit (.int .u8 k.toNat)] ++ (BB (twoB b.length) ++ BB b) = BB (innerB k b) := by simp [innerB, BB, ofByte]
  rw [hin]
  simp -implicitDefEqProofs (maxSteps := 10000000) (disch := omega) only [and_self, seqQ_normal, opsK_eq, runI_nil, runI_none, putP_eq, o_mv, o_bsl, o_own, o_call, bslV, List.reduceReplicate, fillA, wp_ok, bind_ok, ev_r, ev_c, ev_f, putS, Sf.set, Sf.reg, mask_eq, maskR_nil, maskR_cons, getR, setR, maskL, Sf.disAt, id, dis_lit, dis_sl, cells_lit, solid1_lit, solid_eq, List.map_cons, List.map_nil, List.length_cons, List.length_nil, List.all_cons, List.all_nil, List.set_cons_zero, ↓reduceIte, Nat.reduceEqDiff, Nat.reduceLT, Bool.and_true, and_true, Nat.zero_add, frame_Encode_11e, frame_Encode_12e, frame_Encode_12l]
  refine call_p rfl e_frame_sum (sum_pure _ (by rw [inner_len]; omega) _) rfl ?_
  have hs := sumB_lt (innerB k b) (s := 1) (by omega)
  simp -implicitDefEqProofs (maxSteps := 10000000) (disch := omega) only [runI_none, o_call, ev_r, ev_f, putS, Sf.set, Sf.reg, getR, setR, id, List.map_cons, List.map_nil, ↓reduceIte, Nat.reduceEqDiff]
  refine call_p rfl e_frame_two (two_pure _ (by omega) _) rfl ?_
  simp -implicitDefEqProofs (maxSteps := 10000000) (disch := omega) only [and_self, runI_none, putP_eq, o_bsl, o_call, bslV, List.reduceReplicate, fillA, wp_ok, bind_ok, ev_r, ev_f, putS, Sf.set, Sf.reg, getR, setR, id, dis_sl, cells_sl, solid1_sl, solid_eq, List.map_cons, List.map_nil, List.length_cons, List.length_nil, List.all_cons, List.all_nil, List.set_cons_zero, List.set_cons_succ, ↓reduceIte, Nat.reduceEqDiff, Nat.reduceAdd, Nat.reduceLT, Bool.and_true, and_true, Nat.zero_add]
  refine call_a rfl e_frame_joined (joined_calls (a := [.lit (.int .u8 197)]) (b := BB (innerB k b)) (c := BB (twoB (sumB 1 (innerB k b)))) (.inl rfl) Lits.nil.cons (BB_lits _) (BB_lits _) (by simp [BB_len, twoB_len, inner_len]; omega) (by simp) st) rfl fun v st' h => ?_
  obtain ⟨e, he, rfl, rfl⟩ := h
  simp -implicitDefEqProofs (maxSteps := 10000000) (disch := omega) only [seqQ_normal, aC_ret, opsK_eq, retQ_ret, retI, resI, resL, runI_nil, runI_none, o_mv, o_own, wp_ok, bind_ok, ev_c, putS, Sf.set, Sf.reg, mask_eq, maskR_nil, maskR_cons, getR, setR, maskL, Sf.disAt, dis_lit, dis_bs, noL_lit, noL_tup, noL_bs, List.length_cons, List.length_nil, List.all_cons, List.all_nil, List.nil_append, List.cons_append, ↓reduceIte, Nat.reduceEqDiff, Bool.true_and, Bool.and_true, and_true, true_and, Nat.zero_add, BB_len]
  refine ⟨e, he, ?_, ?_⟩
  · simp only [List.length_cons, List.length_nil, BB_len, twoB_len, inner_len]
    have : 0 + 1 + (b.length + 3) + 2 = b.length + 6 := by omega
    rw [this]
  · simp [encB, BB, ofByte]

theorem encode_long {k : UInt8} {b : List UInt8} {z : AV} (hz : isB z b) (hl : ¬ b.length ≤ 1024) (hm : b.length ≤ 1000000) (st : St) :
    ACalls Go.Proofs.Try.prog n_frame_Encode [.agg [.lit (.int .u8 k.toNat), z]] st (fun v st' => v = .tup [.lit (.slice none 0 0), .lit (.int .i64 5)] ∧ st' = st) := by
  refine acalls_id hmix k_frame_Encode rfl rfl ?_
  unfold aFun c_frame_Encode
  have hlen := fun st : St => isB_len hz (st := st)
  have hzd : z.dis = z ∧ z.cells = [z] ∧ z.solid1 = true ∧ z.own1 = z ∧ z.noL = true := by rcases hz with rfl | ⟨rfl, _⟩ <;> exact ⟨rfl, rfl, rfl, rfl, rfl⟩
  obtain ⟨z1, z2, z3, z4, z5⟩ := hzd
  simp -implicitDefEqProofs (maxSteps := 10000000) (disch := omega) only [and_self, seqQ_normal, seqQ_ret, aC_ret, opsK_eq, retQ_ret, retI, resI, resL, runI_nil, runI_none, putP_eq, o_mv, o_bin, o_addr, o_load, o_len, o_boxL, loadV, boxX, addA, derefI, takeI_none, n_gtr, wp_ok, bind_ok, ofOpt_some, ev_r, ev_c, evOwn_r, setB_r, putS, Sf.set, Sf.reg, mask_eq, maskR_nil, maskR_cons, getR, setR, maskL, Sf.newLoc, look, killR, drop1, regs0, dis_lit, dis_agg, own1_lit, cells_agg, solid1_lit, solid_eq, noL_lit, noL_tup, kill_agg, List.map_cons, List.map_nil, List.length_cons, List.length_nil, List.all_cons, List.all_nil, List.drop_zero, List.drop_succ_cons, ↓reduceIte, Nat.reduceEqDiff, Nat.reduceAdd, Bool.and_true, and_true, reduceCtorEq, Nat.zero_add, cond_yes, frame_Encode_1e, frame_Encode_2e, frame_Encode_2l, frame_Encode_3e, frame_Encode_4e, frame_Encode_5e, frame_Encode_5l, frame_Encode_6e, frame_Encode_7e, frame_Encode_8e, frame_Encode_8l, hlen, z1, z3, z4]

theorem equal_pure (a b : List UInt8) (st : St) : PCalls Go.Proofs.Try.prog n_bytes_Equal [.sl false 1 (BB a), .sl false 1 (BB b)] st (.lit (.bool (decide (a = b)))) := by
  refine pure_eq ?_ (.lit _) (by simp [BB_slnb]) st
  refine acalls_id hmix k_bytes_Equal rfl rfl ?_
  unfold aFun c_bytes_Equal
  simp -implicitDefEqProofs (maxSteps := 10000000) (disch := omega) only [seqQ_normal, aC_ret, opsK_eq, retQ_ret, retI, runI_nil, runI_none, putP_eq, o_mv, o_bin, o_conv, o_own, convI, wp_ok, bind_ok, ofOpt_some, ev_r, ev_c, putS, Sf.set, Sf.reg, mask_eq, maskR_nil, maskR_cons, getR, setR, maskL, Sf.disAt, regs0, dis_lit, dis_sl, noL_lit, ↓reduceIte, Nat.reduceEqDiff, Bool.true_and, true_and, reduceCtorEq, Nat.zero_add, strOf_BB, str_eql, bytes_Equal_1e, bytes_Equal_2e, bytes_Equal_2l, bytes_Equal_3e, bytes_Equal_4e, bytes_Equal_4l]
  exact .refl _

/-- The first frame of some bytes, how many bytes it has, and an error. -/
def nxt (b : List UInt8) : (UInt8 × List UInt8) × Nat × Nat :=
  if b.length = 0 then ((0, []), 0, 0) else
  if ¬ b.getD 0 0 = 197 then ((0, []), 0, 6) else
  if b.length < 4 then ((0, []), 0, 0) else
  if 256 * (b.getD 2 0).toNat + (b.getD 3 0).toNat > 1024 then ((0, []), 0, 5) else
  if b.length < 256 * (b.getD 2 0).toNat + (b.getD 3 0).toNat + 6 then ((0, []), 0, 0) else
  if twoB (sumB 1 ((b.take (4 + (256 * (b.getD 2 0).toNat + (b.getD 3 0).toNat))).drop 1)) = (b.take (6 + (256 * (b.getD 2 0).toNat + (b.getD 3 0).toNat))).drop (4 + (256 * (b.getD 2 0).toNat + (b.getD 3 0).toNat)) then
    ((b.getD 1 0, (b.take (4 + (256 * (b.getD 2 0).toNat + (b.getD 3 0).toNat))).drop 4), 256 * (b.getD 2 0).toNat + (b.getD 3 0).toNat + 6, 0)
  else ((0, []), 0, 10)

/-- A frame. -/
def frAV (f : UInt8 × List UInt8) : AV := .agg [.lit (.int .u8 f.1.toNat), .sl false 1 (BB f.2)]
def resAV (r : (UInt8 × List UInt8) × Nat × Nat) : AV := .tup [frAV r.1, .lit (.int .i64 (r.2.1 : Nat)), .lit (.int .i64 (r.2.2 : Nat))]
theorem frAV_nb (f : UInt8 × List UInt8) : (frAV f).NB := .agg _ (by simp [AV.NB.lit, BB_slnb])
theorem resAV_nb (r : (UInt8 × List UInt8) × Nat × Nat) : (resAV r).NB := .tup _ (by simp [AV.NB.lit, frAV_nb])
theorem eq_byte (x y : UInt8) : ((x.toNat : Int) = y.toNat) = (x = y) := by
  apply propext
  constructor
  · intro h; exact UInt8.toNat.inj (by omega)
  · rintro rfl; rfl

theorem zres_le {n e : Int} (n' e' : Nat) (hn : n = n') (he : e = e') : (AV.tup [.agg [.lit (.int .u8 0), .lit (.slice none 0 0)], .lit (.int .i64 n), .lit (.int .i64 e)]).le (resAV ((0, []), n', e')) := by
  subst hn he
  exact .tupL ⟨.aggL ⟨.refl _, .nil _ _, trivial⟩, .refl _, .refl _, trivial⟩

theorem next_pure (b : List UInt8) (hl : b.length ≤ 1000000) (st : St) : PCalls Go.Proofs.Try.prog n_frame_next [.sl false 1 (BB b)] st (resAV (nxt b)) := by
  refine pure_eq ?_ (resAV_nb _) (by simp [BB_slnb]) st
  refine acalls_id hmix k_frame_next rfl rfl ?_
  unfold aFun c_frame_next
  have hx := (b.getD 2 0).toNat_lt
  have hy := (b.getD 3 0).toNat_lt
  generalize hR : nxt b = R
  unfold nxt at hR
  simp -implicitDefEqProofs (maxSteps := 10000000) (disch := omega) only [seqQ_normal, opsK_eq, runI_nil, runI_none, putP_eq, o_mv, o_bin, o_len, o_newL, lenI, n_eql, wp_ok, ev_r, ev_c, putS, Sf.set, Sf.reg, mask_eq, maskR_nil, maskR_cons, getR, setR, maskL, Sf.newLoc, look, killR, drop1, regs0, dis_lit, dis_sl, kill_sl, ↓reduceIte, Nat.reduceEqDiff, reduceCtorEq, BB_len, frame_next_1e, frame_next_2e, frame_next_2l, frame_next_3e, frame_next_4e, frame_next_5e, frame_next_5l, frame_next_6e]
  refine cond_split (fun h => ?_) (fun h => ?_)
  · simp -implicitDefEqProofs (maxSteps := 10000000) (disch := omega) only [seqQ_normal, seqQ_ret, aC_ret, opsK_eq, retQ_ret, retI, resI, resL, runI_nil, runI_none, putP_eq, o_mv, o_load, o_store, loadV, boxX, writeX, derefI, takeI_some, wp_ok, bind_ok, bind_req, ofOpt_some, req_tt, ev_r, ev_c, evOwn_r, disOp_r, setB_r, putS, Sf.set, Sf.reg, mask_eq, maskR_nil, maskR_cons, getR, setR, maskL, Sf.disAt, Sf.setLoc, look, drop1, dis_lit, dis_agg, own1_lit, cells_agg, solid1_lit, solid_eq, noL_lit, noL_agg, noL_tup, List.map_cons, List.map_nil, List.length_cons, List.length_nil, List.all_cons, List.all_nil, List.drop_zero, List.take_succ_cons, List.take_zero, List.set_cons_zero, List.set_cons_succ, ↓reduceIte, Nat.reduceEqDiff, Nat.reduceAdd, Nat.reduceLeDiff, Bool.true_and, Bool.and_true, and_true, true_and, reduceCtorEq, Nat.zero_add, decide_true, setAt_nil, setAt_cons, frame_next_7e, frame_next_8e, frame_next_8l]
    rw [if_pos (by omega)] at hR
    subst hR
    exact zres_le _ _ rfl rfl
  · simp -implicitDefEqProofs (maxSteps := 10000000) (disch := omega) only [seqQ_normal, aC_skip, opsK_eq, runI_nil, runI_none, putP_eq, o_mv, o_bin, o_ixS, o_load, ixSV, loadV, ixA, derefI, takeI_none, n_neq, wp_ok, bind_ok, bind_req, ev_r, ev_c, setB_r, putS, Sf.set, Sf.reg, mask_eq, maskR_nil, maskR_cons, getR, setR, maskL, look, dis_lit, dis_sl, cells_lit, Int.toNat_zero, ↓reduceIte, Nat.reduceEqDiff, Int.reduceLE, Bool.true_and, true_and, reduceCtorEq, BB_len, BB_getD, req_dec, frame_next_9e, frame_next_10e, frame_next_11e, frame_next_11l, frame_next_12e]
    rw [if_neg (by omega)] at hR
    refine cond_split (fun h2 => ?_) (fun h2 => ?_)
    · simp -implicitDefEqProofs (maxSteps := 10000000) (disch := omega) only [seqQ_normal, seqQ_ret, aC_ret, opsK_eq, retQ_ret, retI, resI, resL, runI_nil, runI_none, putP_eq, o_mv, o_load, o_store, loadV, boxX, writeX, derefI, takeI_some, wp_ok, bind_ok, bind_req, ofOpt_some, req_tt, ev_r, ev_c, evOwn_r, disOp_r, setB_r, putS, Sf.set, Sf.reg, mask_eq, maskR_nil, maskR_cons, getR, setR, maskL, Sf.disAt, Sf.setLoc, look, drop1, dis_lit, dis_agg, own1_lit, cells_agg, solid1_lit, solid_eq, noL_lit, noL_agg, noL_tup, List.map_cons, List.map_nil, List.length_cons, List.length_nil, List.all_cons, List.all_nil, List.drop_zero, List.take_succ_cons, List.take_zero, List.set_cons_zero, List.set_cons_succ, ↓reduceIte, Nat.reduceEqDiff, Nat.reduceAdd, Nat.reduceLeDiff, Bool.true_and, Bool.and_true, and_true, true_and, reduceCtorEq, Nat.zero_add, decide_true, setAt_nil, setAt_cons, frame_next_13e, frame_next_14e, frame_next_14l]
      rw [if_pos (by intro e; rw [e] at h2; exact h2 rfl)] at hR
      subst hR
      exact zres_le _ _ rfl rfl
    · simp -implicitDefEqProofs (maxSteps := 10000000) (disch := omega) only [seqQ_normal, aC_skip, opsK_eq, runI_nil, runI_none, putP_eq, o_mv, o_bin, o_len, lenI, n_lss, wp_ok, ev_r, ev_c, setB_r, putS, Sf.set, Sf.reg, mask_eq, maskR_nil, maskR_cons, getR, setR, maskL, look, dis_sl, ↓reduceIte, Nat.reduceEqDiff, reduceCtorEq, BB_len, frame_next_15e, frame_next_16e, frame_next_17e, frame_next_17l, frame_next_18e]
      have e0 : b.getD 0 0 = 197 := UInt8.toNat.inj (by have := Classical.not_not.1 h2; simp only [UInt8.reduceToNat]; omega)
      rw [if_neg (by rw [e0]; exact fun h => h rfl)] at hR
      refine cond_split (fun h3 => ?_) (fun h3 => ?_)
      · simp -implicitDefEqProofs (maxSteps := 10000000) (disch := omega) only [seqQ_normal, seqQ_ret, aC_ret, opsK_eq, retQ_ret, retI, resI, resL, runI_nil, runI_none, putP_eq, o_mv, o_load, o_store, loadV, boxX, writeX, derefI, takeI_some, wp_ok, bind_ok, bind_req, ofOpt_some, req_tt, ev_r, ev_c, evOwn_r, disOp_r, setB_r, putS, Sf.set, Sf.reg, mask_eq, maskR_nil, maskR_cons, getR, setR, maskL, Sf.disAt, Sf.setLoc, look, drop1, dis_lit, dis_agg, own1_lit, cells_agg, solid1_lit, solid_eq, noL_lit, noL_agg, noL_tup, List.map_cons, List.map_nil, List.length_cons, List.length_nil, List.all_cons, List.all_nil, List.drop_zero, List.take_succ_cons, List.take_zero, List.set_cons_zero, List.set_cons_succ, ↓reduceIte, Nat.reduceEqDiff, Nat.reduceAdd, Nat.reduceLeDiff, Bool.true_and, Bool.and_true, and_true, true_and, reduceCtorEq, Nat.zero_add, decide_true, setAt_nil, setAt_cons, frame_next_19e, frame_next_20e, frame_next_20l]
        rw [if_pos (by omega)] at hR
        subst hR
        exact zres_le _ _ rfl rfl
      · simp -implicitDefEqProofs (maxSteps := 10000000) (disch := omega) only [List.contains_nil, h_nil, h_none, hh_mv, hh_bin, hh_conv, hh_ixS, hh_load, val_head, tail_nil, seqQ_normal, aC_skip, opsK_eq, runI_nil, runI_none, putP_eq, o_mv, o_bin, o_own, ixSV, loadV, ixA, convI, derefI, takeI_none, n_gtr, wp_ok, bind_ok, bind_req, req_tt, ev_r, ev_c, setB_r, putS, Sf.set, Sf.reg, mask_eq, maskR_nil, maskR_cons, getR, setR, maskL, Sf.disAt, look, dropL, dis_lit, dis_sl, cells_lit, Int.reduceToNat, ↓reduceIte, Nat.reduceEqDiff, Int.reduceLE, Bool.true_and, true_and, reduceCtorEq, Bool.false_eq_true, BB_len, BB_getD, n_shl8, n_or8, req_dec, IntWalk.i64_in, frame_next_21e, frame_next_22e, frame_next_22h, frame_next_22l, frame_next_23e, frame_next_24e, frame_next_25e, frame_next_26e, frame_next_26l, frame_next_27e]
        rw [if_neg (by omega)] at hR
        generalize hn : 256 * (b.getD 2 0).toNat + (b.getD 3 0).toNat = n at hR
        have hn2 : n < 65536 := by omega
        refine cond_split (fun h4 => ?_) (fun h4 => ?_)
        · simp -implicitDefEqProofs (maxSteps := 10000000) (disch := omega) only [seqQ_normal, seqQ_ret, blockQ_ret, aC_ret, opsK_eq, retQ_ret, retI, resI, resL, runI_nil, runI_none, putP_eq, o_mv, o_load, o_store, loadV, boxX, writeX, derefI, takeI_some, wp_ok, bind_ok, bind_req, ofOpt_some, req_tt, ev_r, ev_c, evOwn_r, disOp_r, setB_r, putS, Sf.set, Sf.reg, mask_eq, maskR_nil, maskR_cons, getR, setR, maskL, Sf.disAt, Sf.setLoc, look, drop1, dis_lit, dis_agg, own1_lit, cells_agg, solid1_lit, solid_eq, noL_lit, noL_agg, noL_tup, List.map_cons, List.map_nil, List.length_cons, List.length_nil, List.all_cons, List.all_nil, List.drop_zero, List.take_succ_cons, List.take_zero, List.set_cons_zero, List.set_cons_succ, ↓reduceIte, Nat.reduceEqDiff, Nat.reduceAdd, Nat.reduceLeDiff, Bool.true_and, Bool.and_true, and_true, true_and, reduceCtorEq, Nat.zero_add, decide_true, setAt_nil, setAt_cons, frame_next_28e, frame_next_29e, frame_next_29l]
          rw [if_pos (by omega)] at hR
          subst hR
          exact zres_le _ _ rfl rfl
        · simp -implicitDefEqProofs (maxSteps := 10000000) (disch := omega) only [seqQ_normal, opsK_eq, runI_nil, runI_none, putP_eq, o_mv, o_bin, o_len, o_own, lenI, n_add, n_lss, wp_ok, ev_r, ev_c, setB_r, putS, Sf.set, Sf.reg, mask_eq, maskR_nil, maskR_cons, getR, setR, maskL, Sf.disAt, look, dis_lit, dis_sl, ↓reduceIte, Nat.reduceEqDiff, reduceCtorEq, BB_len, IntWalk.i64_in, up_addL, frame_next_30e, frame_next_31e, frame_next_31l, frame_next_32e]
          rw [if_neg (by omega)] at hR
          refine cond_split (fun h5 => ?_) (fun h5 => ?_)
          · simp -implicitDefEqProofs (maxSteps := 10000000) (disch := omega) only [seqQ_normal, seqQ_ret, blockQ_ret, aC_ret, opsK_eq, retQ_ret, retI, resI, resL, runI_nil, runI_none, putP_eq, o_mv, o_load, o_store, loadV, boxX, writeX, derefI, takeI_some, wp_ok, bind_ok, bind_req, ofOpt_some, req_tt, ev_r, ev_c, evOwn_r, disOp_r, setB_r, putS, Sf.set, Sf.reg, mask_eq, maskR_nil, maskR_cons, getR, setR, maskL, Sf.disAt, Sf.setLoc, look, drop1, dis_lit, dis_agg, own1_lit, cells_agg, solid1_lit, solid_eq, noL_lit, noL_agg, noL_tup, List.map_cons, List.map_nil, List.length_cons, List.length_nil, List.all_cons, List.all_nil, List.drop_zero, List.take_succ_cons, List.take_zero, List.set_cons_zero, List.set_cons_succ, ↓reduceIte, Nat.reduceEqDiff, Nat.reduceAdd, Nat.reduceLeDiff, Bool.true_and, Bool.and_true, and_true, true_and, reduceCtorEq, Nat.zero_add, decide_true, setAt_nil, setAt_cons, frame_next_33e, frame_next_34e, frame_next_34l]
            rw [if_pos (by omega)] at hR
            subst hR
            exact zres_le _ _ rfl rfl
          · simp -implicitDefEqProofs (maxSteps := 10000000) (disch := omega) only [List.contains_nil, h_none, hh_mv, hh_bin, hh_sliS, hh_call, val_head, sliSV, ixTo, n_add, wp_ok, bind_ok, bind_req, ev_r, ev_c, ev_f, setB_r, putS, Sf.set, Sf.reg, getR, setR, dropL, id, dis_lit, dis_sl, List.map_cons, List.map_nil, Option.map_some, Int.toNat_natCast, Int.toNat_one, ↓reduceIte, Nat.reduceEqDiff, Int.reduceLE, Bool.true_and, true_and, reduceCtorEq, Bool.false_eq_true, BB_len, BB_take, BB_drop, req_dec, IntWalk.i64_in, up_addR, and_pre, frame_next_35e, frame_next_36e, frame_next_36h, frame_next_36l]
            rw [if_neg (by omega)] at hR
            refine call_h rfl e_frame_sum (sum_pure _ (by simp; omega) _) rfl ?_
            have hs := sumB_lt ((b.take (4 + n)).drop 1) (s := 1) (by omega)
            simp -implicitDefEqProofs (maxSteps := 10000000) (disch := omega) only [h_none, hh_call, cons_val, ev_r, ev_f, putS, Sf.set, Sf.reg, getR, setR, id, List.map_cons, List.map_nil, ↓reduceIte, Nat.reduceEqDiff, reduceCtorEq]
            refine call_h rfl e_frame_two (two_pure _ (by omega) _) rfl ?_
            simp -implicitDefEqProofs (maxSteps := 10000000) (disch := omega) only [h_nil, h_none, hh_mv, hh_bin, hh_sliS, cons_val, val_head, tail_nil, runI_none, o_call, sliSV, ixTo, n_add, wp_ok, bind_ok, bind_req, ev_r, ev_c, ev_f, putS, Sf.set, Sf.reg, getR, setR, id, dis_lit, dis_sl, List.map_cons, List.map_nil, Option.map_some, Int.toNat_natCast, ↓reduceIte, Nat.reduceEqDiff, reduceCtorEq, BB_len, BB_take, BB_drop, req_dec, IntWalk.i64_in, up_addR, and_pre]
            refine call_p rfl e_bytes_Equal (equal_pure _ _ _) rfl ?_
            simp -implicitDefEqProofs (maxSteps := 10000000) (disch := omega) only [seqQ_normal, opsK_eq, runI_nil, runI_none, putP_eq, o_un, o_own, unA, wp_ok, ev_r, putS, Sf.set, Sf.reg, mask_eq, maskR_nil, maskR_cons, getR, setR, maskL, Sf.disAt, look, dis_lit, ↓reduceIte, Nat.reduceEqDiff, reduceCtorEq, not_dec, frame_next_37e]
            refine cond_split (fun h6 => ?_) (fun h6 => ?_)
            · simp -implicitDefEqProofs (maxSteps := 10000000) (disch := omega) only [seqQ_normal, seqQ_ret, blockQ_ret, aC_ret, opsK_eq, retQ_ret, retI, resI, resL, runI_nil, runI_none, putP_eq, o_mv, o_load, o_store, loadV, boxX, writeX, derefI, takeI_some, wp_ok, bind_ok, bind_req, ofOpt_some, req_tt, ev_r, ev_c, evOwn_r, disOp_r, setB_r, putS, Sf.set, Sf.reg, mask_eq, maskR_nil, maskR_cons, getR, setR, maskL, Sf.disAt, Sf.setLoc, look, drop1, dis_lit, dis_agg, own1_lit, cells_agg, solid1_lit, solid_eq, noL_lit, noL_agg, noL_tup, List.map_cons, List.map_nil, List.length_cons, List.length_nil, List.all_cons, List.all_nil, List.drop_zero, List.take_succ_cons, List.take_zero, List.set_cons_zero, List.set_cons_succ, ↓reduceIte, Nat.reduceEqDiff, Nat.reduceAdd, Nat.reduceLeDiff, Bool.true_and, Bool.and_true, and_true, true_and, reduceCtorEq, Nat.zero_add, decide_true, setAt_nil, setAt_cons, frame_next_38e, frame_next_39e, frame_next_39l]
              rw [if_neg h6] at hR
              subst hR
              exact zres_le _ _ rfl rfl
            · simp -implicitDefEqProofs (maxSteps := 10000000) (disch := omega) only [List.contains_nil, List.contains_cons, Nat.reduceBEq, Bool.or_false, h_none, hh_mv, hh_bin, hh_ixS, hh_load, hh_sliS, hh_call, val_head, seqQ_normal, blockQ_normal, aC_skip, ixSV, loadV, sliSV, ixA, ixTo, derefI, takeI_none, n_add, wp_ok, bind_ok, bind_req, ev_r, ev_c, ev_f, setB_r, putS, Sf.set, Sf.reg, getR, setR, dropL, id, dis_lit, dis_sl, cells_lit, List.map_cons, List.map_nil, Option.map_some, Int.reduceToNat, Int.toNat_natCast, Int.toNat_one, ↓reduceIte, Nat.reduceEqDiff, Int.reduceLE, Bool.true_and, true_and, reduceCtorEq, or_false, BB_len, BB_take, BB_drop, BB_getD, req_dec, IntWalk.i64_in, up_addR, and_pre, frame_next_40e, frame_next_41e, frame_next_41h, frame_next_41l]
              rw [if_pos (Classical.not_not.1 h6)] at hR
              refine call_h rfl e_bytes_Clone (clone_pure (by rw [BB_len]; simp; omega) (BB_lits _) _) rfl ?_
              simp -implicitDefEqProofs (maxSteps := 10000000) (disch := omega) only [List.contains_nil, List.contains_cons, Nat.reduceBEq, Bool.or_false, ksB, storesOf, newsOf, appsOf, distinctB, finSS, finNN, h_nil, h_none, hh_mv, hh_bin, hh_bst, hh_store, headAddr_eq, headStore_eq, cons_val, val_head, tail_eq, cons_store, and_self, seqQ_normal, aC_ret, opsK_eq, retQ_ret, retI, resI, resL, runI_nil, runI_none, o_mv, o_own, bstV, derefI, takeI_some, buildA, n_add, wp_ok, bind_ok, bind_req, ofOpt_some, req_tt, ev_r, ev_c, putS, Sf.set, Sf.reg, mask_eq, maskR_nil, maskR_cons, getR, setR, maskL, Sf.disAt, Sf.setLoc, look, drop1, dis_lit, dis_sl, dis_agg, own1_lit, own1_sl, cells_lit, cells_sl, cells_agg, solid1_lit, solid1_sl, solid_eq, noL_lit, noL_agg, noL_tup, List.map_cons, List.map_nil, List.length_cons, List.length_nil, List.getElem?_cons_zero, List.getElem?_cons_succ, List.all_cons, List.all_nil, List.nil_append, List.drop_zero, List.take_succ_cons, List.take_zero, List.set_cons_zero, List.set_cons_succ, ↓reduceIte, Nat.reduceEqDiff, Nat.reduceAdd, Nat.reduceLeDiff, Bool.true_and, Bool.and_true, and_true, true_and, reduceCtorEq, Nat.zero_add, or_false, decide_true, Bool.not_false, IntWalk.i64_in, up_addL, setAt_nil, setAt_cons]
              subst hR
              exact .refl _
end Go.Fx.YtenijlfcfmhmkaaFx

