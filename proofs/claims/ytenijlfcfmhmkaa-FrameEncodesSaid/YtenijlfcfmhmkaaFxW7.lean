/- What the functions that the statement reaches compute: part 7. -/
import Derived.Test.YtenijlfcfmhmkaaFxW6
namespace Go.Fx.YtenijlfcfmhmkaaFx
open Go Go.Fx
attribute [local irreducible] aC runI headI loopI

set_option maxRecDepth 100000
set_option maxHeartbeats 4000000

theorem enc_iff {b : List UInt8} {n : Nat} (h0 : b.getD 0 0 = 197) (hn : 256 * (b.getD 2 0).toNat + (b.getD 3 0).toNat = n) (hl : n + 6 ≤ b.length) :
    encB (b.getD 1 0) ((b.take (4 + n)).drop 4) = b.take (n + 6) ↔ twoB (sumB 1 ((b.take (4 + n)).drop 1)) = (b.take (6 + n)).drop (4 + n) := by
  match b, hl with
  | x0 :: x1 :: x2 :: x3 :: r, hl =>
    simp only [List.getD_cons_zero, List.getD_cons_succ] at h0 hn
    simp only [List.length_cons] at hl
    subst h0
    have e1 : List.take (4 + n) (197 :: x1 :: x2 :: x3 :: r) = 197 :: x1 :: x2 :: x3 :: r.take n := by
      rw [show 4 + n = n + 1 + 1 + 1 + 1 by omega]; simp
    have e2 : List.take (n + 6) (197 :: x1 :: x2 :: x3 :: r) = 197 :: x1 :: x2 :: x3 :: r.take (n + 2) := by
      rw [show n + 6 = (n + 2) + 1 + 1 + 1 + 1 by omega]; simp
    have e3 : List.drop (4 + n) (List.take (6 + n) (197 :: x1 :: x2 :: x3 :: r)) = (r.take (n + 2)).drop n := by
      rw [show 6 + n = (n + 2) + 1 + 1 + 1 + 1 by omega, show 4 + n = n + 1 + 1 + 1 + 1 by omega]; simp
    have e4 : r.take (n + 2) = r.take n ++ (r.take (n + 2)).drop n := by
      have h := (List.take_append_drop n (r.take (n + 2))).symm
      rwa [List.take_take, show min n (n + 2) = n by omega] at h
    have e5 : twoB n = [x2, x3] := by rw [← hn]; exact twoB_of x2 x3
    have e6 : (r.take n).length = n := by simp; omega
    rw [e1, e2, e3]
    simp only [List.getD_cons_zero, List.getD_cons_succ, List.drop_succ_cons, List.drop_zero, encB, innerB, e6, e5]
    generalize (r.take (n + 2)).drop n = t at e4 ⊢
    rw [e4]
    simp
  | [], hl => simp at hl
  | [_], hl => simp at hl
  | [_, _], hl => simp at hl
  | [_, _, _], hl => simp at hl

theorem first_calls (b : List UInt8) (hl : b.length ≤ 1000000) : ACalls Go.Proofs.Try.prog n_aqueductref43_First [.sl false 1 (BB b)] ⟨[]⟩ (fun v st => Frz st v (resAV (nxt b))) := by
  refine acalls_id hmix k_aqueductref43_First rfl rfl ?_
  unfold aFun c_aqueductref43_First
  have hx := (b.getD 2 0).toNat_lt
  have hy := (b.getD 3 0).toNat_lt
  have hfrz : ∀ (st : St) (n e : Int) (n' e' : Nat), n = n' → e = e' → Frz st (.tup [.agg [.lit (.int .u8 0), .lit (.slice none 0 0)], .lit (.int .i64 n), .lit (.int .i64 e)]) (resAV ((0, []), n', e')) := fun st n e n' e' h1 h2 => .le _ _ (zres_le _ _ h1 h2) (resAV_nb _)
  generalize hR : nxt b = R
  unfold nxt at hR
  simp -implicitDefEqProofs (maxSteps := 10000000) (disch := omega) only [seqQ_normal, opsK_eq, runI_nil, runI_none, runI_some, AI.dst, putP_eq, o_mv, o_bin, o_len, o_newL, lenI, n_gtr, wp_ok, ev_r, ev_c, putS, Sf.set, Sf.reg, mask_eq, maskR_nil, maskR_cons, getR, setR, maskL, Sf.newLoc, look, killR, drop1, regs0, dis_lit, dis_sl, kill_sl, ↓reduceIte, Nat.reduceEqDiff, reduceCtorEq, BB_len, aqueductref43_First_1e, aqueductref43_First_2e, aqueductref43_First_2l, aqueductref43_First_3e, aqueductref43_First_4e, aqueductref43_First_5e, aqueductref43_First_5l]
  refine guard_split (fun h => ?_) (fun h => ?_)
  · simp -implicitDefEqProofs (maxSteps := 10000000) (disch := omega) only [seqQ_normal, opsK_eq, runI_nil, runI_none, runI_some, AI.dst, putP_eq, guard_tt, o_mv, o_pick, o_bin, o_ixS, o_load, pick_tt, ixSV, loadV, ixA, derefI, takeI_none, n_neq, wp_ok, bind_ok, bind_req, ev_r, ev_c, putS, Sf.set, Sf.reg, mask_eq, maskR_nil, maskR_cons, getR, setR, maskL, look, dis_lit, dis_sl, cells_lit, Int.toNat_zero, ↓reduceIte, Nat.reduceEqDiff, Int.reduceLE, Bool.true_and, true_and, reduceCtorEq, BB_len, BB_getD, req_dec, aqueductref43_First_6e]
    rw [if_neg (by omega)] at hR
    refine cond_split (fun h2 => ?_) (fun h2 => ?_)
    · simp -implicitDefEqProofs (maxSteps := 10000000) (disch := omega) only [seqQ_normal, seqQ_ret, aC_ret, opsK_eq, retQ_ret, retI, resI, resL, runI_nil, runI_none, putP_eq, o_mv, o_bst, o_store, bstV, boxX, writeX, derefI, takeI_some, buildA, wp_ok, bind_ok, bind_req, ofOpt_some, req_tt, ev_r, ev_c, evOwn_r, disOp_r, setB_r, putS, Sf.set, Sf.reg, mask_eq, maskR_nil, maskR_cons, getR, setR, maskL, Sf.disAt, Sf.setLoc, look, drop1, dis_lit, dis_agg, own1_lit, cells_agg, solid1_lit, solid_eq, noL_lit, noL_agg, noL_tup, List.map_cons, List.map_nil, List.length_cons, List.length_nil, List.all_cons, List.all_nil, List.drop_zero, List.take_succ_cons, List.take_zero, List.set_cons_zero, List.set_cons_succ, ↓reduceIte, Nat.reduceEqDiff, Nat.reduceAdd, Nat.reduceLeDiff, Bool.true_and, Bool.and_true, and_true, true_and, reduceCtorEq, Nat.zero_add, decide_true, setAt_nil, setAt_cons, aqueductref43_First_7e, aqueductref43_First_8e, aqueductref43_First_8l]
      rw [if_pos (by intro e; rw [e] at h2; exact h2 rfl)] at hR
      subst hR
      exact hfrz _ _ _ _ _ rfl rfl
    · simp -implicitDefEqProofs (maxSteps := 10000000) (disch := omega) only [seqQ_normal, aC_skip, opsK_eq, runI_nil, runI_none, putP_eq, o_mv, o_bin, o_len, lenI, n_lss, wp_ok, ev_r, ev_c, setB_r, putS, Sf.set, Sf.reg, mask_eq, maskR_nil, maskR_cons, getR, setR, maskL, look, dis_sl, ↓reduceIte, Nat.reduceEqDiff, reduceCtorEq, BB_len, aqueductref43_First_9e, aqueductref43_First_10e, aqueductref43_First_11e, aqueductref43_First_11l, aqueductref43_First_12e]
      have e0 : b.getD 0 0 = 197 := UInt8.toNat.inj (by have := Classical.not_not.1 h2; simp only [UInt8.reduceToNat]; omega)
      rw [if_neg (by rw [e0]; exact fun h => h rfl)] at hR
      refine cond_split (fun h3 => ?_) (fun h3 => ?_)
      · simp -implicitDefEqProofs (maxSteps := 10000000) (disch := omega) only [seqQ_normal, seqQ_ret, aC_ret, opsK_eq, retQ_ret, retI, resI, resL, runI_nil, runI_none, putP_eq, o_mv, o_bst, o_store, bstV, boxX, writeX, derefI, takeI_some, buildA, wp_ok, bind_ok, bind_req, ofOpt_some, req_tt, ev_r, ev_c, evOwn_r, disOp_r, setB_r, putS, Sf.set, Sf.reg, mask_eq, maskR_nil, maskR_cons, getR, setR, maskL, Sf.disAt, Sf.setLoc, look, drop1, dis_lit, dis_agg, own1_lit, cells_agg, solid1_lit, solid_eq, noL_lit, noL_agg, noL_tup, List.map_cons, List.map_nil, List.length_cons, List.length_nil, List.all_cons, List.all_nil, List.drop_zero, List.take_succ_cons, List.take_zero, List.set_cons_zero, List.set_cons_succ, ↓reduceIte, Nat.reduceEqDiff, Nat.reduceAdd, Nat.reduceLeDiff, Bool.true_and, Bool.and_true, and_true, true_and, reduceCtorEq, Nat.zero_add, decide_true, setAt_nil, setAt_cons, aqueductref43_First_13e, aqueductref43_First_14e, aqueductref43_First_14l]
        rw [if_pos (by omega)] at hR
        subst hR
        exact hfrz _ _ _ _ _ rfl rfl
      · simp -implicitDefEqProofs (maxSteps := 10000000) (disch := omega) only [List.contains_nil, h_nil, h_none, hh_mv, hh_bin, hh_conv, hh_ixS, hh_load, val_head, tail_nil, seqQ_normal, aC_skip, opsK_eq, runI_nil, runI_none, putP_eq, o_mv, o_bin, o_own, ixSV, loadV, ixA, convI, derefI, takeI_none, n_add, n_mul, n_gtr, wp_ok, bind_ok, bind_req, ev_r, ev_c, setB_r, putS, Sf.set, Sf.reg, mask_eq, maskR_nil, maskR_cons, getR, setR, maskL, Sf.disAt, look, dropL, dis_lit, dis_sl, cells_lit, Int.reduceToNat, ↓reduceIte, Nat.reduceEqDiff, Int.reduceLE, Bool.true_and, true_and, reduceCtorEq, Bool.false_eq_true, BB_len, BB_getD, req_dec, IntWalk.i64_in, aqueductref43_First_15e, aqueductref43_First_16e, aqueductref43_First_16h, aqueductref43_First_16l, aqueductref43_First_17e, aqueductref43_First_18e, aqueductref43_First_19e, aqueductref43_First_19l, aqueductref43_First_20e]
        rw [if_neg (by omega)] at hR
        have hn : 256 * ((b.getD 2 0).toNat : Int) + ((b.getD 3 0).toNat : Int) = ((256 * (b.getD 2 0).toNat + (b.getD 3 0).toNat : Nat) : Int) := by omega
        rw [hn]
        generalize hn : 256 * (b.getD 2 0).toNat + (b.getD 3 0).toNat = n at hR
        have hn2 : n < 65536 := by omega
        refine cond_split (fun h4 => ?_) (fun h4 => ?_)
        · simp -implicitDefEqProofs (maxSteps := 10000000) (disch := omega) only [seqQ_normal, seqQ_ret, aC_ret, opsK_eq, retQ_ret, retI, resI, resL, runI_nil, runI_none, putP_eq, o_mv, o_bst, o_store, bstV, boxX, writeX, derefI, takeI_some, buildA, wp_ok, bind_ok, bind_req, ofOpt_some, req_tt, ev_r, ev_c, evOwn_r, disOp_r, setB_r, putS, Sf.set, Sf.reg, mask_eq, maskR_nil, maskR_cons, getR, setR, maskL, Sf.disAt, Sf.setLoc, look, drop1, dis_lit, dis_agg, own1_lit, cells_agg, solid1_lit, solid_eq, noL_lit, noL_agg, noL_tup, List.map_cons, List.map_nil, List.length_cons, List.length_nil, List.all_cons, List.all_nil, List.drop_zero, List.take_succ_cons, List.take_zero, List.set_cons_zero, List.set_cons_succ, ↓reduceIte, Nat.reduceEqDiff, Nat.reduceAdd, Nat.reduceLeDiff, Bool.true_and, Bool.and_true, and_true, true_and, reduceCtorEq, Nat.zero_add, decide_true, setAt_nil, setAt_cons, aqueductref43_First_21e, aqueductref43_First_22e, aqueductref43_First_22l]
          rw [if_pos (by omega)] at hR
          subst hR
          exact hfrz _ _ _ _ _ rfl rfl
        · simp -implicitDefEqProofs (maxSteps := 10000000) (disch := omega) only [seqQ_normal, aC_skip, opsK_eq, runI_nil, runI_none, putP_eq, o_mv, o_bin, o_len, lenI, n_add, n_lss, wp_ok, ev_r, ev_c, setB_r, putS, Sf.set, Sf.reg, mask_eq, maskR_nil, maskR_cons, getR, setR, maskL, look, dis_lit, dis_sl, ↓reduceIte, Nat.reduceEqDiff, reduceCtorEq, BB_len, IntWalk.i64_in, up_addL, aqueductref43_First_23e, aqueductref43_First_24e, aqueductref43_First_25e, aqueductref43_First_25l, aqueductref43_First_26e]
          rw [if_neg (by omega)] at hR
          refine cond_split (fun h5 => ?_) (fun h5 => ?_)
          · simp -implicitDefEqProofs (maxSteps := 10000000) (disch := omega) only [seqQ_normal, seqQ_ret, aC_ret, opsK_eq, retQ_ret, retI, resI, resL, runI_nil, runI_none, putP_eq, o_mv, o_bst, o_store, bstV, boxX, writeX, derefI, takeI_some, buildA, wp_ok, bind_ok, bind_req, ofOpt_some, req_tt, ev_r, ev_c, evOwn_r, disOp_r, setB_r, putS, Sf.set, Sf.reg, mask_eq, maskR_nil, maskR_cons, getR, setR, maskL, Sf.disAt, Sf.setLoc, look, drop1, dis_lit, dis_agg, own1_lit, cells_agg, solid1_lit, solid_eq, noL_lit, noL_agg, noL_tup, List.map_cons, List.map_nil, List.length_cons, List.length_nil, List.all_cons, List.all_nil, List.drop_zero, List.take_succ_cons, List.take_zero, List.set_cons_zero, List.set_cons_succ, ↓reduceIte, Nat.reduceEqDiff, Nat.reduceAdd, Nat.reduceLeDiff, Bool.true_and, Bool.and_true, and_true, true_and, reduceCtorEq, Nat.zero_add, decide_true, setAt_nil, setAt_cons, aqueductref43_First_27e, aqueductref43_First_28e, aqueductref43_First_28l]
            rw [if_pos (by omega)] at hR
            subst hR
            exact hfrz _ _ _ _ _ rfl rfl
          · simp -implicitDefEqProofs (maxSteps := 10000000) (disch := omega) only [and_self, seqQ_normal, aC_skip, opsK_eq, runI_nil, runI_none, putP_eq, o_mv, o_ixS, o_load, o_bst, o_newL, o_store, ixSV, loadV, bstV, boxX, writeX, ixA, derefI, takeI_none, buildA, wp_ok, bind_ok, bind_req, ofOpt_some, ev_r, ev_c, evOwn_r, disOp_r, setB_r, putS, Sf.set, Sf.reg, mask_eq, maskR_nil, maskR_cons, getR, setR, maskL, Sf.disAt, Sf.newLoc, Sf.setLoc, look, killR, drop1, dis_lit, dis_sl, dis_agg, own1_lit, cells_lit, cells_agg, solid1_lit, solid_eq, kill_lit, kill_lptr, kill_cptr, kill_sl, kill_agg, List.map_cons, List.map_nil, List.length_cons, List.length_nil, List.getElem?_cons_zero, List.all_cons, List.all_nil, List.set_cons_zero, List.set_cons_succ, Int.toNat_one, ↓reduceIte, Nat.reduceEqDiff, Nat.reduceAdd, Nat.reduceLeDiff, Int.reduceLE, Bool.true_and, Bool.and_true, and_true, true_and, reduceCtorEq, Nat.zero_add, BB_len, BB_getD, req_dec, setAt_nil, setAt_cons, aqueductref43_First_29e, aqueductref43_First_30e, aqueductref43_First_30l, aqueductref43_First_31e, aqueductref43_First_32e, aqueductref43_First_33e, aqueductref43_First_33l, aqueductref43_First_34e]
            rw [if_neg (by omega)] at hR
            have hbl : ((b.take (4 + n)).drop 4).length = n := by simp; omega
            generalize hbd : (b.take (4 + n)).drop 4 = bd at hR hbl
            rw [aqueductref43_First_35w]
            refine loop_for (A := Nat × AV × St) (fun a => n - a.1) (fun a => ⟨[(0, .sl false 1 (BB b)), (2, .lptr 2 0), (5, .lit (.int .i64 (n : Nat))), (6, .lptr 6 0), (7, .lit (.int .i64 (a.1 : Nat)))], [(2, [.lit (.int .u8 0), .lit (.slice none 0 0)]), (6, [.lit (.int .u8 (b.getD 1 0).toNat), a.2.1])]⟩) (fun a => a.2.2)
              (fun a => a.1 ≤ n ∧ MB a.2.1 a.2.2 (BB (bd.take a.1)) ∧ NBs a.2.2) (0, .lit (.slice none 0 0), ⟨[]⟩) ⟨by simp, .inl ⟨rfl, rfl⟩, NBs.nil⟩ (Sf.le_refl _) rfl ?_
            rintro ⟨i, v, st⟩ ⟨i1, i2, i3⟩
            simp only at i1 i2 i3
            obtain ⟨v1, v2, v3, v4, v5, v6, v7, v8⟩ := i2.facts
            simp -implicitDefEqProofs (maxSteps := 10000000) (disch := omega) only [seqQ_normal, opsK_eq, runI_nil, runI_none, putP_eq, o_mv, o_bin, n_lss, wp_ok, ev_r, putS, Sf.set, Sf.reg, mask_eq, maskR_nil, maskR_cons, getR, setR, maskL, look, dis_lit, ↓reduceIte, Nat.reduceEqDiff, reduceCtorEq, aqueductref43_First_36e, aqueductref43_First_37e, aqueductref43_First_38e, aqueductref43_First_38l, aqueductref43_First_39e]
            refine cond_split (fun h6 => ?_) (fun h6 => ?_)
            · simp -implicitDefEqProofs (maxSteps := 10000000) (disch := omega) only [List.contains_nil, h_nil, h_none, hh_mv, hh_bin, hh_addr, hh_ixS, hh_load, hh_bsl, val_head, tail_nil, and_self, seqQ_normal, aC_skip, runI_none, o_x, ixSV, loadV, bslV, stepX, List.reduceReplicate, ixA, addA, derefI, takeI_none, srcA, fillA, n_add, wp_ok, bind_ok, bind_req, ofOpt_some, ev_r, ev_c, setB_r, putS, Sf.set, Sf.reg, getR, setR, look, dropL, dis_lit, dis_sl, cells_lit, solid1_lit, solid_eq, List.map_cons, List.map_nil, List.length_cons, List.length_nil, List.all_cons, List.all_nil, List.drop_zero, List.drop_succ_cons, List.set_cons_zero, Int.toNat_natCast, ↓reduceIte, Nat.reduceEqDiff, Nat.reduceLT, Bool.and_true, and_true, reduceCtorEq, Nat.zero_add, Bool.false_eq_true, BB_len, BB_getD, req_dec, IntWalk.i64_in, up_addR, and_pre, aqueductref43_First_40e, aqueductref43_First_41e, aqueductref43_First_42e, aqueductref43_First_42h, aqueductref43_First_42l, v1]
              have hi : i < n := by omega
              refine i2.app (BB_lits _) Lits.nil.cons (by apply room_of; simp [BB_len]; omega) fun v' st' hv hk hnb => ?_
              obtain ⟨u1, u2, u3, u4, u5, u6, u7, u8⟩ := hv.facts
              simp -implicitDefEqProofs (maxSteps := 10000000) (disch := omega) only [stepQ_normal, seqQ_normal, blockQ_normal, opsK_eq, runI_nil, runI_none, putP_eq, putK_eq, o_mv, o_bin, o_addr, o_own, o_store, boxX, writeX, addA, n_add, wp_ok, ofOpt_some, ev_r, ev_c, evOwn_r, disOp_r, putS, Sf.set, Sf.reg, mask_eq, maskR_nil, maskR_cons, getR, setR, maskL, Sf.disAt, Sf.setLoc, look, drop1, dis_lit, solid_eq, List.length_cons, List.length_nil, List.all_cons, List.all_nil, List.set_cons_zero, List.set_cons_succ, ↓reduceIte, Nat.reduceEqDiff, Nat.reduceAdd, Nat.reduceLeDiff, Bool.true_and, Bool.and_true, and_true, true_and, reduceCtorEq, Nat.zero_add, IntWalk.i64_in, up_addL, setAt_nil, setAt_cons, aqueductref43_First_43e, aqueductref43_First_43l, u1, u4, u6]
              refine ⟨(i + 1, v', st'), ⟨⟨by simp only; omega, ?_, ?_⟩, by simp only; omega⟩, Sf.le_refl _, rfl⟩
              · have : BB (List.take i bd) ++ [AV.lit (Value.int IntKind.u8 ↑(b.getD (4 + i) 0).toNat)] = BB (List.take (i + 1) bd) := by
                  have e : b.getD (4 + i) 0 = bd.getD i 0 := by
                    rw [← hbd]
                    simp [List.getD, List.getElem?_take, hi]
                  rw [e, BB_snoc, List.take_succ_eq_append_getElem (by omega)]
                  simp [List.getD, show i < bd.length by omega]
                rw [this] at hv
                exact hv
              · exact hnb i3
            · simp -implicitDefEqProofs (maxSteps := 10000000) (disch := omega) only [List.contains_nil, h_none, hh_load, hh_call, val_head, stepQ_exit, seqQ_normal, seqQ_exit, blockQ_exit, aC_exit, loadV, derefI, takeI_some, wp_ok, bind_ok, bind_req, ofOpt_some, req_tt, ev_r, ev_f, setB_r, putS, Sf.set, Sf.reg, mask_eq, maskR_nil, maskR_cons, getR, setR, maskL, look, dropL, id, dis_agg, own1_lit, List.map_cons, List.map_nil, List.length_cons, List.length_nil, List.drop_zero, List.take_succ_cons, List.take_zero, ↓reduceIte, Nat.reduceEqDiff, Nat.reduceAdd, Nat.reduceLeDiff, reduceCtorEq, Nat.zero_add, decide_true, Bool.false_eq_true, aqueductref43_First_44e, aqueductref43_First_45e, aqueductref43_First_46e, aqueductref43_First_46h, aqueductref43_First_46l, v2]
              have ei : i = bd.length := by omega
              rw [ei, List.take_length] at i2
              have hfz := i2.frz (BB_lits _) i3
              refine call_h rfl e_aqueductref43_Encode (PCalls.view (refEncode_pure (b.getD 1 0) bd (by omega) _) (by simp [AV.freshB, litB1, BB, ofByte]) ⟨.aggL ⟨.le _ _ (.refl _) (.lit _), by rw [v2]; exact hfz, trivial⟩ (by simp [AV.noOwn]), trivial⟩) (by simp -implicitDefEqProofs (maxSteps := 10000000) (disch := omega) only [noL_agg, List.all_cons, List.all_nil, Bool.and_true, and_true]) ?_
              simp -implicitDefEqProofs (maxSteps := 10000000) (disch := omega) only [h_nil, h_none, hh_mv, hh_bin, hh_conv, hh_sliS, cons_val, val_head, tail_nil, seqQ_normal, opsK_eq, runI_nil, runI_none, putP_eq, o_bin, sliSV, ixTo, convI, n_add, wp_ok, bind_ok, bind_req, ofOpt_some, ev_r, ev_c, putS, Sf.set, Sf.reg, mask_eq, maskR_nil, maskR_cons, getR, setR, maskL, look, dis_lit, dis_sl, Option.map_some, Option.map_none, List.drop_zero, Int.toNat_natCast, ↓reduceIte, Nat.reduceEqDiff, reduceCtorEq, BB_len, BB_take, BB_drop, strOf_BB, str_neq, req_dec, IntWalk.i64_in, up_addL, and_pre, aqueductref43_First_47e]
              have e1 : ¬ encB (b.getD 1 0) bd = List.take (n + 6) b ↔ ¬ twoB (sumB 1 (List.drop 1 (List.take (4 + n) b))) = List.drop (4 + n) (List.take (6 + n) b) := by
                rw [← hbd]
                exact not_congr (enc_iff e0 hn (by omega))
              refine cond_split (fun h7 => ?_) (fun h7 => ?_)
              · simp -implicitDefEqProofs (maxSteps := 10000000) (disch := omega) only [seqQ_normal, seqQ_ret, aC_ret, opsK_eq, retQ_ret, retI, resI, resL, runI_nil, runI_none, putP_eq, o_mv, o_bst, o_store, bstV, boxX, writeX, derefI, takeI_some, buildA, wp_ok, bind_ok, bind_req, ofOpt_some, req_tt, ev_r, ev_c, evOwn_r, disOp_r, setB_r, putS, Sf.set, Sf.reg, mask_eq, maskR_nil, maskR_cons, getR, setR, maskL, Sf.disAt, Sf.setLoc, look, drop1, dis_lit, dis_agg, own1_lit, cells_agg, solid1_lit, solid_eq, noL_lit, noL_agg, noL_tup, List.map_cons, List.map_nil, List.length_cons, List.length_nil, List.all_cons, List.all_nil, List.drop_zero, List.take_succ_cons, List.take_zero, List.set_cons_zero, List.set_cons_succ, ↓reduceIte, Nat.reduceEqDiff, Nat.reduceAdd, Nat.reduceLeDiff, Bool.true_and, Bool.and_true, and_true, true_and, Nat.zero_add, decide_true, setAt_nil, setAt_cons, aqueductref43_First_48e, aqueductref43_First_49e, aqueductref43_First_49l]
                rw [if_neg (e1.1 h7)] at hR
                subst hR
                exact hfrz _ _ _ _ _ rfl rfl
              · simp -implicitDefEqProofs (maxSteps := 10000000) (disch := omega) only [seqQ_normal, aC_skip, aC_ret, opsK_eq, retQ_ret, retI, resI, resL, runI_nil, runI_none, putP_eq, o_mv, o_bin, o_load, o_own, o_store, loadV, boxX, writeX, derefI, takeI_some, n_add, wp_ok, bind_ok, bind_req, ofOpt_some, req_tt, ev_r, ev_c, evOwn_r, disOp_r, setB_r, putS, Sf.set, Sf.reg, mask_eq, maskR_nil, maskR_cons, getR, setR, maskL, Sf.disAt, Sf.setLoc, look, drop1, dis_lit, dis_agg, own1_lit, cells_agg, solid1_lit, solid_eq, noL_lit, noL_agg, noL_tup, List.map_cons, List.map_nil, List.length_cons, List.length_nil, List.all_cons, List.all_nil, List.drop_zero, List.take_succ_cons, List.take_zero, List.set_cons_zero, List.set_cons_succ, ↓reduceIte, Nat.reduceEqDiff, Nat.reduceAdd, Nat.reduceLeDiff, Bool.true_and, Bool.and_true, and_true, true_and, Nat.zero_add, decide_true, IntWalk.i64_in, up_addL, setAt_nil, setAt_cons, aqueductref43_First_50e, aqueductref43_First_51e, aqueductref43_First_51l, v2, v4]
                rw [if_pos (Classical.not_not.1 fun h => h7 (e1.2 h))] at hR
                subst hR
                exact .tupL ⟨.aggL ⟨.le _ _ (.refl _) (.lit _), hfz, trivial⟩ (by simp [AV.noOwn]), .le _ _ (.refl _) (.lit _), .le _ _ (.refl _) (.lit _), trivial⟩
  · simp -implicitDefEqProofs (maxSteps := 10000000) (disch := omega) only [seqQ_normal, seqQ_ret, aC_skip, aC_ret, opsK_eq, retQ_ret, retI, resI, resL, runI_nil, runI_none, runI_some, skipI_eq, AI.dst, putP_eq, cond_ff, guard_ff, o_mv, o_pick, o_bin, o_bst, o_len, o_store, pick_ff, bstV, boxX, writeX, lenI, derefI, takeI_some, buildA, n_lss, wp_ok, bind_ok, bind_req, ofOpt_some, req_tt, ev_r, ev_c, evOwn_r, disOp_r, setB_r, putS, Sf.set, Sf.reg, mask_eq, maskR_nil, maskR_cons, getR, setR, maskL, Sf.disAt, Sf.setLoc, look, drop1, dis_lit, dis_sl, dis_agg, own1_lit, cells_agg, solid1_lit, solid_eq, noL_lit, noL_agg, noL_tup, List.map_cons, List.map_nil, List.length_cons, List.length_nil, List.all_cons, List.all_nil, List.drop_zero, List.take_succ_cons, List.take_zero, List.set_cons_zero, List.set_cons_succ, ↓reduceIte, Nat.reduceEqDiff, Nat.reduceAdd, Nat.reduceLeDiff, Bool.true_and, Bool.and_true, and_true, true_and, reduceCtorEq, Nat.zero_add, decide_true, BB_len, cond_yes, setAt_nil, setAt_cons, aqueductref43_First_6e, aqueductref43_First_9e, aqueductref43_First_10e, aqueductref43_First_11e, aqueductref43_First_11l, aqueductref43_First_12e, aqueductref43_First_13e, aqueductref43_First_14e, aqueductref43_First_14l]
    have h0 : b = [] := List.eq_nil_of_length_eq_zero (by omega)
    subst h0
    subst hR
    exact hfrz _ _ _ _ _ rfl rfl

theorem first_pure (b : List UInt8) (hl : b.length ≤ 1000000) (st : St) : PCalls Go.Proofs.Try.prog n_aqueductref43_First [.sl false 1 (BB b)] st (resAV (nxt b)) :=
  pure_of (first_calls b hl) (by simp [BB_slnb]) st

theorem refAll_pure (b : List UInt8) (hl : b.length ≤ 1000000) (st : St) : PCalls Go.Proofs.Try.prog n_aqueductref43_All [.sl false 1 (BB b)] st (allAV (allB b)) := by
  refine pure_eq ?_ (allAV_nb _) (by simp [BB_slnb]) st
  refine acalls_id hmix k_aqueductref43_All rfl rfl ?_
  unfold aFun c_aqueductref43_All
  simp -implicitDefEqProofs (maxSteps := 10000000) (disch := omega) only [seqQ_normal, opsK_eq, runI_nil, runI_none, o_mv, ev_c, putS, Sf.set, mask_eq, maskR_nil, maskR_cons, getR, setR, maskL, regs0, dis_lit, dis_sl, ↓reduceIte, Nat.reduceEqDiff, reduceCtorEq, aqueductref43_All_1e, aqueductref43_All_2e, aqueductref43_All_2l, aqueductref43_All_3e, aqueductref43_All_4e, aqueductref43_All_4l, aqueductref43_All_5e, aqueductref43_All_6e, aqueductref43_All_6l, aqueductref43_All_7e, aqueductref43_All_8e]
  rw [aqueductref43_All_9w]
  refine loop_for (A := Nat × Nat × List (UInt8 × List UInt8)) (fun a => a.1) (fun a => ⟨[(0, .sl false 1 (BB b)), (5, ownAV a.2.2), (6, .lit (.int .i64 (a.2.1 : Nat)))], []⟩) (fun _ => ⟨[]⟩)
    (fun a => a.2.1 ≤ b.length ∧ b.length - a.2.1 < a.1 ∧ a.2.2.length ≤ a.2.1 ∧ allF b a.1 a.2.1 a.2.2 = allB b) (b.length + 1, 0, []) ⟨by simp, by simp, by simp, rfl⟩ (Sf.le_refl _) rfl ?_
  rintro ⟨k, i, out⟩ ⟨h1, h2, h3, h4⟩
  simp only at h1 h2 h3 h4
  obtain ⟨k, rfl⟩ : ∃ q, k = q + 1 := ⟨k - 1, by omega⟩
  obtain ⟨n1, n2, n3, n4, n5, n6⟩ := nxt_le (b.drop i)
  have hc := first_pure (b.drop i) (by simp; omega) ⟨[]⟩
  simp only [allF] at h4
  generalize nxt (b.drop i) = r at *
  obtain ⟨⟨fk, fb⟩, n, e⟩ := r
  simp only [List.length_drop] at n1 n2 n3 n4 n5 n6 h4
  simp -implicitDefEqProofs (maxSteps := 10000000) (disch := omega) only [seqQ_normal, aC_skip, opsK_eq, runI_nil, runI_none, putP_eq, o_mv, o_bin, o_len, o_sliOwn, o_call, sliSV, sliOwnX, ixTo, lenI, n_leq, wp_ok, bind_ok, bind_req, ev_r, ev_f, setB_r, putS, Sf.set, Sf.reg, mask_eq, maskR_nil, maskR_cons, getR, setR, maskL, id, dis_lit, dis_sl, List.map_cons, List.map_nil, Int.toNat_natCast, ↓reduceIte, Nat.reduceEqDiff, reduceCtorEq, List.take_length, BB_len, BB_take, BB_drop, req_dec, cond_yes, and_pre, aqueductref43_All_10e, aqueductref43_All_11e, aqueductref43_All_12e, aqueductref43_All_12l, aqueductref43_All_13e, aqueductref43_All_14e, aqueductref43_All_15e, aqueductref43_All_16e, aqueductref43_All_16l]
  refine call_p rfl e_aqueductref43_First hc rfl ?_
  rcases out with _ | ⟨x, out⟩
  · simp -implicitDefEqProofs (maxSteps := 10000000) (disch := omega) only [seqQ_normal, opsK_eq, runI_nil, runI_none, putP_eq, o_mv, o_bin, o_ext, o_own, o_newL, o_store, extV, boxX, writeX, n_neq, wp_ok, bind_ok, ofOpt_some, ev_r, ev_c, evOwn_r, disOp_r, putS, Sf.set, Sf.reg, mask_eq, maskR_nil, maskR_cons, getR, setR, maskL, Sf.disAt, Sf.newLoc, Sf.setLoc, look, killR, drop1, dis_lit, dis_agg, dis_tup, own1_lit, own1_sl, own2_lit, own2_agg, cells_agg, solid1_lit, solid1_sl, solid_eq, kill_lit, kill_sl, kill_agg, kill_tup, List.map_cons, List.map_nil, List.length_cons, List.length_nil, List.getElem?_cons_zero, List.getElem?_cons_succ, List.all_cons, List.all_nil, List.set_cons_zero, List.set_cons_succ, ↓reduceIte, Nat.reduceEqDiff, Nat.reduceAdd, Nat.reduceLeDiff, Bool.true_and, Bool.and_true, and_true, true_and, reduceCtorEq, Nat.zero_add, setAt_nil, setAt_cons, aqueductref43_All_17e, aqueductref43_All_18e, aqueductref43_All_19e, aqueductref43_All_19l, aqueductref43_All_20e, resAV, frAV, ownAV_nil]
    refine cond_split (fun h => ?_) (fun h => ?_)
    · simp -implicitDefEqProofs (maxSteps := 10000000) (disch := omega) only [stepQ_ret, seqQ_normal, seqQ_ret, blockQ_ret, aC_ret, opsK_eq, retQ_ret, retI, resI, resL, runI_nil, runI_none, o_mv, o_own, wp_ok, bind_ok, ev_r, ev_c, setB_r, putS, Sf.set, Sf.reg, mask_eq, maskR_nil, maskR_cons, getR, setR, maskL, Sf.disAt, dis_lit, noL_lit, noL_tup, List.all_cons, List.all_nil, ↓reduceIte, Nat.reduceEqDiff, Bool.true_and, Bool.and_true, and_true, true_and, reduceCtorEq, aqueductref43_All_21e, aqueductref43_All_22e, aqueductref43_All_22l]
      rw [if_pos (by omega)] at h4
      rw [← h4]
      exact .tupL ⟨.nil _ _, .refl _, .refl _, trivial⟩
    · simp -implicitDefEqProofs (maxSteps := 10000000) (disch := omega) only [seqQ_normal, aC_skip, opsK_eq, runI_nil, runI_none, putP_eq, o_mv, o_bin, n_eql, wp_ok, ev_r, ev_c, setB_r, putS, Sf.set, Sf.reg, mask_eq, maskR_nil, maskR_cons, getR, setR, maskL, look, dis_lit, ↓reduceIte, Nat.reduceEqDiff, reduceCtorEq, aqueductref43_All_23e, aqueductref43_All_24e, aqueductref43_All_25e, aqueductref43_All_25l, aqueductref43_All_26e]
      rw [if_neg (by omega)] at h4
      refine cond_split (fun h => ?_) (fun h => ?_)
      · simp -implicitDefEqProofs (maxSteps := 10000000) (disch := omega) only [stepQ_exit, seqQ_normal, seqQ_exit, blockQ_exit, aC_exit, aC_ret, opsK_eq, retQ_ret, retI, resI, resL, runI_nil, runI_none, o_mv, o_own, wp_ok, bind_ok, ev_r, ev_c, setB_r, putS, Sf.set, Sf.reg, mask_eq, maskR_nil, maskR_cons, getR, setR, maskL, Sf.disAt, dis_lit, noL_lit, noL_tup, List.all_cons, List.all_nil, ↓reduceIte, Nat.reduceEqDiff, Bool.true_and, Bool.and_true, and_true, true_and, reduceCtorEq, aqueductref43_All_28e, aqueductref43_All_29e, aqueductref43_All_29l]
        rw [if_pos (by omega)] at h4
        rw [← h4]
        exact .tupL ⟨.nil _ _, .refl _, .refl _, trivial⟩
      · simp -implicitDefEqProofs (maxSteps := 10000000) (disch := omega) only [stepQ_normal, and_self, seqQ_normal, blockQ_normal, aC_skip, opsK_eq, runI_nil, runI_none, putP_eq, o_mv, o_bin, o_load, o_bsl, o_own, o_appS, loadV, bslV, appSX, List.isEmpty_cons, List.reduceReplicate, derefI, takeI_some, appNewI, srcA, fillA, n_add, wp_ok, bind_ok, bind_req, ofOpt_some, req_tt, ev_r, setB_r, putS, Sf.set, Sf.reg, mask_eq, maskR_nil, maskR_cons, getR, setR, maskL, Sf.disAt, look, dis_lit, dis_sl, dis_agg, own1_lit, own1_sl, cells_agg, solid1_lit, solid1_sl, solid_eq, List.map_cons, List.map_nil, List.length_cons, List.length_nil, List.all_cons, List.all_nil, List.drop_zero, List.take_succ_cons, List.take_zero, List.set_cons_zero, ↓reduceIte, Nat.reduceEqDiff, Nat.reduceAdd, Nat.reduceLT, Nat.reduceLeDiff, Bool.and_true, and_true, reduceCtorEq, Nat.zero_add, decide_true, Bool.false_eq_true, room_of, IntWalk.i64_in, up_add, aqueductref43_All_27e, aqueductref43_All_27l]
        rw [if_neg (by omega)] at h4
        exact ⟨(k, i + n, [(fk, fb)]), ⟨⟨by simp only; omega, by simp only; omega, by simp; omega, h4⟩, by simp⟩, leR_refl _, trivial⟩
  · simp only [List.length_cons] at h3
    simp -implicitDefEqProofs (maxSteps := 10000000) (disch := omega) only [seqQ_normal, opsK_eq, runI_nil, runI_none, putP_eq, o_mv, o_bin, o_ext, o_own, o_newL, o_store, extV, boxX, writeX, n_neq, wp_ok, bind_ok, ofOpt_some, ev_r, ev_c, evOwn_r, disOp_r, putS, Sf.set, Sf.reg, mask_eq, maskR_nil, maskR_cons, getR, setR, maskL, Sf.disAt, Sf.newLoc, Sf.setLoc, look, killR, drop1, dis_lit, dis_agg, dis_tup, own1_lit, own1_sl, own2_lit, own2_agg, cells_agg, solid1_lit, solid1_sl, solid_eq, kill_lit, kill_sl, kill_agg, kill_tup, List.map_cons, List.map_nil, List.length_cons, List.length_nil, List.getElem?_cons_zero, List.getElem?_cons_succ, List.all_cons, List.all_nil, List.set_cons_zero, List.set_cons_succ, ↓reduceIte, Nat.reduceEqDiff, Nat.reduceAdd, Nat.reduceLeDiff, Bool.true_and, Bool.and_true, and_true, true_and, reduceCtorEq, Nat.zero_add, setAt_nil, setAt_cons, aqueductref43_All_17e, aqueductref43_All_18e, aqueductref43_All_19e, aqueductref43_All_19l, aqueductref43_All_20e, resAV, frAV, ownAV_cons]
    refine cond_split (fun h => ?_) (fun h => ?_)
    · simp -implicitDefEqProofs (maxSteps := 10000000) (disch := omega) only [stepQ_ret, seqQ_normal, seqQ_ret, blockQ_ret, aC_ret, opsK_eq, retQ_ret, retI, resI, resL, runI_nil, runI_none, o_mv, o_own, wp_ok, bind_ok, ev_r, ev_c, setB_r, putS, Sf.set, Sf.reg, mask_eq, maskR_nil, maskR_cons, getR, setR, maskL, Sf.disAt, dis_lit, noL_lit, noL_tup, List.all_cons, List.all_nil, ↓reduceIte, Nat.reduceEqDiff, Bool.true_and, Bool.and_true, and_true, true_and, reduceCtorEq, aqueductref43_All_21e, aqueductref43_All_22e, aqueductref43_All_22l]
      rw [if_pos (by omega)] at h4
      rw [← h4]
      exact .tupL ⟨.nil _ _, .refl _, .refl _, trivial⟩
    · simp -implicitDefEqProofs (maxSteps := 10000000) (disch := omega) only [seqQ_normal, aC_skip, opsK_eq, runI_nil, runI_none, putP_eq, o_mv, o_bin, n_eql, wp_ok, ev_r, ev_c, setB_r, putS, Sf.set, Sf.reg, mask_eq, maskR_nil, maskR_cons, getR, setR, maskL, look, dis_lit, ↓reduceIte, Nat.reduceEqDiff, reduceCtorEq, aqueductref43_All_23e, aqueductref43_All_24e, aqueductref43_All_25e, aqueductref43_All_25l, aqueductref43_All_26e]
      rw [if_neg (by omega)] at h4
      refine cond_split (fun h => ?_) (fun h => ?_)
      · simp -implicitDefEqProofs (maxSteps := 10000000) (disch := omega) only [stepQ_exit, seqQ_normal, seqQ_exit, blockQ_exit, aC_exit, aC_ret, opsK_eq, retQ_ret, retI, resI, resL, runI_nil, runI_none, o_mv, o_own, wp_ok, bind_ok, ev_r, ev_c, setB_r, putS, Sf.set, Sf.reg, mask_eq, maskR_nil, maskR_cons, getR, setR, maskL, Sf.disAt, dis_lit, dis_sl, noL_lit, noL_sl, noL_tup, List.all_cons, List.all_nil, ↓reduceIte, Nat.reduceEqDiff, Bool.true_and, Bool.and_true, and_true, true_and, reduceCtorEq, aqueductref43_All_28e, aqueductref43_All_29e, aqueductref43_All_29l]
        rw [if_pos (by omega)] at h4
        rw [← h4]
        exact .tupL ⟨.refl _, .refl _, .refl _, trivial⟩
      · simp -implicitDefEqProofs (maxSteps := 10000000) (disch := omega) only [stepQ_normal, and_self, seqQ_normal, blockQ_normal, aC_skip, opsK_eq, runI_nil, runI_none, putP_eq, o_mv, o_bin, o_load, o_bsl, o_own, o_appS, loadV, bslV, appSX, List.reduceReplicate, derefI, takeI_some, appOwnI, srcA, fillA, n_add, wp_ok, bind_ok, bind_req, ofOpt_some, req_tt, ev_r, setB_r, putS, Sf.set, Sf.reg, mask_eq, maskR_nil, maskR_cons, getR, setR, maskL, Sf.disAt, look, dis_lit, dis_sl, dis_agg, own1_lit, own1_sl, cells_agg, solid1_lit, solid1_sl, solid_eq, List.map_cons, List.map_nil, List.length_cons, List.length_nil, List.all_cons, List.all_nil, List.cons_append, List.drop_zero, List.take_succ_cons, List.take_zero, List.set_cons_zero, ↓reduceIte, Nat.reduceEqDiff, Nat.reduceAdd, Nat.reduceLT, Nat.reduceLeDiff, Bool.and_true, and_true, reduceCtorEq, Nat.zero_add, decide_true, List.length_map, room_of, IntWalk.i64_in, up_add, aqueductref43_All_27e, aqueductref43_All_27l]
        rw [if_neg (by omega)] at h4
        refine ⟨(k, i + n, x :: out ++ [(fk, fb)]), ⟨⟨by simp only; omega, by simp only; omega, by simp; omega, h4⟩, by simp⟩, ?_, trivial⟩
        simp only [List.cons_append, ownAV_cons, List.map_append, List.map_cons, List.map_nil]
        exact leR_refl _
end Go.Fx.YtenijlfcfmhmkaaFx

