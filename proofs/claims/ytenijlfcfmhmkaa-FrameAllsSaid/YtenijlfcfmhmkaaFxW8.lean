/- What the functions that the statement reaches compute: part 8. -/
import Derived.Test.YtenijlfcfmhmkaaFxW7
namespace Go.Fx.YtenijlfcfmhmkaaFx
open Go Go.Fx

set_option maxRecDepth 100000
set_option maxHeartbeats 4000000

theorem all_weak {u : AV} {z : List UInt8} (hu : u.le (.sl false 1 (BB z))) (hz : z.length ≤ 100000) (st : St) : PCalls Go.Proofs.Try.prog n_frame_All [u] st (allAV (allB z)) := (all_pure z (by omega) st).weak ⟨hu, trivial⟩ (.refl _)

theorem allF_len (b : List UInt8) : ∀ (k i : Nat) (out : List (UInt8 × List UInt8)), out.length ≤ i → i ≤ b.length → (allF b k i out).1.length ≤ b.length
  | 0, i, out, h1, h2 => by simp only [allF]; omega
  | k + 1, i, out, h1, h2 => by
    obtain ⟨n1, n2, n3, n4, n5, n6⟩ := nxt_le (b.drop i)
    simp only [List.length_drop] at n1
    simp only [allF]
    split
    · simp
    split
    · simp only; omega
    · exact allF_len b k _ _ (by simp; omega) (by omega)
theorem allB_len (b : List UInt8) : (allB b).1.length ≤ b.length := allF_len b _ _ _ (by simp) (by simp)

theorem one_nb {st : St} {q : Nat} {cs : List AV} (h : NBs st) (hg : st.get q = some cs) : NBs (St.one q cs) := fun q' ds hd => by
  obtain ⟨rfl, rfl⟩ := one_inv hd
  exact h _ _ hg

/-- From where the bytes are as they stay. -/
theorem alls_last (z : List UInt8) {v : AV} {st : St} (m : MB v st (BB z)) (hnb : NBs st) (hz : z.length ≤ 100000) (regs : List (Nat × AV)) (cs : List AV) (hr : regs = [(11, v)] ∨ ∃ a b c, regs = [(3, a), (4, b), (11, v), (48, c)]) :
    aC Go.Proofs.Try.prog id false aqueductlaw43_FrameAlls_23 ⟨regs, [(6, cs)]⟩ st (retQ [RI.tmp 10] fun v _ => v = .lit (.bool true)) := by
  obtain ⟨v1, v2, v3, v4, v5, v6, v7, v8⟩ := m.facts
  have hrefAll : ACalls Go.Proofs.Try.prog n_aqueductref43_All [v] st (fun w _ => w = allAV (allB z)) := by
    rcases m with ⟨rfl, hz0⟩ | ⟨q, cap, r, rfl, hg, hc1, hc2⟩
    · have hz0 : z = [] := by simpa [BB] using hz0
      subst hz0
      exact (PCalls.weak (vs := [.lit (.slice none 0 0)]) (refAll_pure [] (by simp) st) ⟨.nil _ _, trivial⟩ (.refl _)).acalls.mono fun _ _ h => h.1
    · exact ACalls.freeze q hg ((refAll_pure z (by omega) _).acalls.mono fun _ _ h => h.1) ⟨MB.frz (.inr ⟨q, cap, r, rfl, one_get, hc1, hc2⟩) (BB_lits _) (one_nb hnb hg), trivial⟩
  have hl := allB_len z
  rcases hr with rfl | ⟨xa, xb, xc, rfl⟩
  all_goals
    simp -implicitDefEqProofs (maxSteps := 10000000) (disch := omega) only [runI_none, o_mv, o_app, ev_r, ev_c, putS, Sf.set, Sf.reg, getR, setR, ↓reduceIte, Nat.reduceEqDiff, aqueductlaw43_FrameAlls_23e, aqueductlaw43_FrameAlls_24e, aqueductlaw43_FrameAlls_24l, v1]
    refine m.appNew (BB_lits _) ?_ fun u hu => ?_
    · apply room_of; simp [BB_len]; omega
    have hu2 : u.dis.le (.sl false 1 (BB z)) ∧ u.noL = true := by
      rcases hu with rfl | ⟨rfl, e⟩
      · exact ⟨.refl _, rfl⟩
      · rw [e]; exact ⟨.nil _ _, rfl⟩
    simp -implicitDefEqProofs (maxSteps := 10000000) (disch := omega) only [runI_none, putP_eq, o_call, ev_r, ev_f, putS, Sf.set, Sf.reg, getR, setR, id, List.map_cons, List.map_nil, ↓reduceIte, Nat.reduceEqDiff]
    refine call_p rfl e_frame_All (all_weak hu2.1 hz _) (by simp [hu2.2]) ?_
    simp -implicitDefEqProofs (maxSteps := 10000000) (disch := omega) only [seqQ_normal, opsK_eq, runI_nil, runI_none, putP_eq, o_mv, o_ext, o_own, o_call, extV, wp_ok, bind_ok, ofOpt_some, ev_r, ev_f, putS, Sf.set, Sf.reg, mask_eq, maskR_nil, maskR_cons, getR, setR, maskL, Sf.disAt, look, id, dis_lit, dis_sl, dis_tup, own2_lit, own2_sl, List.map_cons, List.map_nil, List.getElem?_cons_zero, List.getElem?_cons_succ, ↓reduceIte, Nat.reduceEqDiff, aqueductlaw43_FrameAlls_25e, aqueductlaw43_FrameAlls_26e, aqueductlaw43_FrameAlls_26l, v1, allAV, frsAV]
    refine call_a rfl e_aqueductref43_All (by rw [List.map_cons, v1]; exact hrefAll) (by simp [v5]) fun w st2 hw => ?_
    subst hw
    simp -implicitDefEqProofs (maxSteps := 10000000) (disch := omega) only [seqQ_normal, opsK_eq, runI_nil, runI_none, putP_eq, o_mv, o_ext, o_own, o_call, extV, wp_ok, bind_ok, ofOpt_some, ev_r, ev_f, putS, Sf.set, Sf.reg, mask_eq, maskR_nil, maskR_cons, getR, setR, maskL, Sf.disAt, look, id, dis_lit, dis_sl, dis_tup, own2_lit, own2_sl, List.map_cons, List.map_nil, List.getElem?_cons_zero, List.getElem?_cons_succ, ↓reduceIte, Nat.reduceEqDiff, aqueductlaw43_FrameAlls_27e, aqueductlaw43_FrameAlls_28e, aqueductlaw43_FrameAlls_28l, allAV, frsAV]
    refine call_p rfl e_aqueductref43_SameAll (sameAll_pure _ _ (by omega) (by omega) _) rfl ?_
    simp -implicitDefEqProofs (maxSteps := 10000000) (disch := omega) only [runI_none, runI_some, AI.dst, putP_eq, guard_tt, o_mv, o_pick, o_bin, o_call, pick_tt, n_eql, wp_ok, ev_r, ev_c, ev_f, putS, Sf.set, Sf.reg, getR, setR, id, dis_lit, List.map_nil, ↓reduceIte, Nat.reduceEqDiff, decide_true]
    refine call_p rfl e_aqueductlaw43_known (known_pure _) rfl ?_
    simp -implicitDefEqProofs (maxSteps := 10000000) (disch := omega) only [seqQ_normal, aC_ret, opsK_eq, retQ_ret, retI, runI_nil, runI_none, putP_eq, o_pick, o_own, pick_tt, wp_ok, ev_r, ev_c, putS, Sf.set, Sf.reg, mask_eq, maskR_nil, maskR_cons, getR, setR, maskL, Sf.disAt, look, dis_lit, noL_lit, ↓reduceIte, Nat.reduceEqDiff, Bool.and_true, and_true]

theorem alls_end (k : UInt8) (b z : List UInt8) {v : AV} {st : St} (m : MB v st (BB z)) (hnb : NBs st) (hz : z.length ≤ 100000) (at_ by_ : Int) (h1 : 0 ≤ at_ ∧ at_ ≤ 65535) :
    aC Go.Proofs.Try.prog id false aqueductlaw43_FrameAlls_18 ⟨[(3, .lit (.int .u16 at_)), (4, .lit (.int .u8 by_)), (11, v)], [(6, [.lit (.int .u8 k.toNat), .sl false 1 (BB b)])]⟩ st (retQ [RI.tmp 10] fun v _ => v = .lit (.bool true)) := by
  obtain ⟨v1, v2, v3, v4, v5, v6, v7, v8⟩ := m.facts
  simp only [BB_len] at v8
  simp -implicitDefEqProofs (maxSteps := 10000000) (disch := omega) only [seqQ_normal, opsK_eq, runI_nil, runI_none, putP_eq, o_mv, o_bin, o_len, n_gtr, wp_ok, ev_r, ev_c, putS, Sf.set, Sf.reg, mask_eq, maskR_nil, maskR_cons, getR, setR, maskL, look, ↓reduceIte, Nat.reduceEqDiff, aqueductlaw43_FrameAlls_18e, aqueductlaw43_FrameAlls_19e, aqueductlaw43_FrameAlls_20e, aqueductlaw43_FrameAlls_20l, aqueductlaw43_FrameAlls_21e, v1, v8]
  refine cond_split (fun h => ?_) (fun h => ?_)
  · rcases m with ⟨rfl, hz0⟩ | ⟨q, cap, r, rfl, hg, hc1, hc2⟩
    · have hz0 : z = [] := by simpa [BB] using hz0
      subst hz0
      exact absurd h (by simp)
    obtain ⟨j, hj⟩ : ∃ j : Nat, at_ % (z.length : Int) = j := ⟨(at_ % (z.length : Int)).toNat, by have := Int.emod_nonneg at_ (show (z.length : Int) ≠ 0 by omega); omega⟩
    have hj2 : j < z.length := by have := Int.emod_lt_of_pos at_ (show (0 : Int) < z.length by omega); omega
    have hload : (BB z ++ r).drop j = .lit (.int .u8 (z.getD j 0).toNat) :: (BB z ++ r).drop (j + 1) := by
      rw [List.drop_eq_getElem_cons (by simp [BB_len]; omega)]
      congr 1
      rw [List.getElem_append_left (by simp [BB_len]; omega)]
      simp [BB, ofByte, List.getD, hj2]
    simp -implicitDefEqProofs (maxSteps := 10000000) (disch := omega) only [List.contains_nil, h_nil, h_none, hh_mv, hh_bin, hh_conv, hh_ixS, hh_load, hh_len, val_head, tail_nil, seqQ_normal, opsK_eq, runI_nil, runI_none, putP_eq, o_ixS, o_store, ixSV, loadV, boxX, writeX, ixA, lenI, convI, derefI, takeI_none, wp_ok, bind_ok, bind_req, ofOpt_some, req_tt, ev_r, evOwn_r, disOp_r, setB_r, putS, Sf.set, Sf.reg, mask_eq, maskR_nil, maskR_cons, getR, setR, maskL, Sf.disAt, look, dropL, dis_lit, dis_bs, cells_lit, solid1_lit, solid_eq, List.length_cons, List.length_nil, List.all_cons, List.all_nil, Int.toNat_natCast, ↓reduceIte, Nat.reduceEqDiff, Bool.true_and, Bool.and_true, and_true, true_and, Nat.zero_add, Bool.false_eq_true, BB_len, req_dec, IntWalk.i64_in, n_rem, IntWalk.rem_in, and_pre, List.length_append, setAt_nil, setAt_cons, Nat.mul_one, aqueductlaw43_FrameAlls_22e, aqueductlaw43_FrameAlls_22h, aqueductlaw43_FrameAlls_22l, hg, hj, hload, n_xor8]
    generalize UInt8.ofNat (BitVec.ofInt 8 (↑(z.getD j 0).toNat) ^^^ BitVec.ofInt 8 by_).toNat = q8
    have e : (BB z ++ r).set j (.lit (.int .u8 q8.toNat)) = BB (z.set j q8) ++ r := by
      rw [List.set_append, if_pos (by rw [BB_len]; exact hj2), BB_set]
    have hq := get_lt hg
    have hlen : z.length = (BB (z.set j q8)).length := by simp [BB_len]
    rw [e]
    simp only [BB_len] at hc1 hc2
    refine alls_last (z.set j q8) (.inr ⟨q, cap, r, by rw [hlen], get_set hq, by rw [← hlen]; exact hc1, by simp [BB_len] at hc2 ⊢; exact hc2⟩) (hnb.set hq ?_) (by simpa using hz) _ _ (.inl rfl)
    intro x hx
    rcases List.mem_append.1 hx with hx | hx
    · exact BB_nb _ x hx
    · exact hnb q _ hg x (List.mem_append_right _ hx)
  · simp -implicitDefEqProofs (maxSteps := 10000000) (disch := omega) only [seqQ_normal, aC_skip, setB_r, Sf.set, setR, ↓reduceIte, Nat.reduceEqDiff]
    exact alls_last z m hnb hz _ _ (.inr ⟨_, _, _, rfl⟩)

theorem frameAlls_law (x y b : List UInt8) (k : UInt8) (at_ by_ : Int) (h1 : 0 ≤ at_ ∧ at_ ≤ 65535) (hx : x.length ≤ maxLen) (hy : y.length ≤ maxLen) (hb : b.length ≤ maxLen) :
    ACalls Go.Proofs.Try.prog n_aqueductlaw43_FrameAlls [.sl false 1 (BB x), frAV (k, b), .sl false 1 (BB y), .lit (.int .u16 at_), .lit (.int .u8 by_)] ⟨[]⟩ (fun v _ => v = .lit (.bool true)) := by
  refine acalls_id hmix k_aqueductlaw43_FrameAlls rfl rfl ?_
  unfold aFun c_aqueductlaw43_FrameAlls
  simp only [maxLen] at hx hy hb
  simp -implicitDefEqProofs (maxSteps := 10000000) (disch := omega) only [seqQ_normal, opsK_eq, runI_nil, runI_none, runI_some, AI.dst, putP_eq, o_mv, o_bin, o_len, o_boxL, boxX, lenI, n_gtr, wp_ok, ev_r, ev_c, evOwn_r, putS, Sf.set, Sf.reg, mask_eq, maskR_nil, maskR_cons, getR, setR, maskL, Sf.newLoc, look, killR, drop1, regs0, dis_lit, dis_sl, dis_agg, own1_lit, own1_sl, cells_agg, solid1_lit, solid1_sl, solid_eq, kill_lit, kill_sl, kill_agg, List.map_cons, List.map_nil, List.length_cons, List.length_nil, List.all_cons, List.all_nil, ↓reduceIte, Nat.reduceEqDiff, Nat.reduceAdd, Bool.true_and, Bool.and_true, and_true, true_and, reduceCtorEq, Nat.zero_add, BB_len, aqueductlaw43_FrameAlls_1e, aqueductlaw43_FrameAlls_2e, aqueductlaw43_FrameAlls_2l, aqueductlaw43_FrameAlls_3e, aqueductlaw43_FrameAlls_4e, aqueductlaw43_FrameAlls_5e, aqueductlaw43_FrameAlls_5l, frAV]
  refine guard_split (fun h => ?_) (fun h => ?_)
  · simp -implicitDefEqProofs (maxSteps := 10000000) (disch := omega) only [seqQ_normal, opsK_eq, runI_nil, runI_none, runI_some, skipI_eq, AI.dst, putP_eq, cond_tt, guard_tt, o_mv, o_pick, o_call, pick_tt, wp_ok, ev_r, ev_c, ev_f, setB_r, putS, Sf.set, Sf.reg, mask_eq, maskR_nil, maskR_cons, getR, setR, maskL, look, id, dis_lit, List.map_nil, ↓reduceIte, Nat.reduceEqDiff, reduceCtorEq, Bool.false_eq_true, aqueductlaw43_FrameAlls_6e, aqueductlaw43_FrameAlls_7e, aqueductlaw43_FrameAlls_8e, aqueductlaw43_FrameAlls_8l]
    refine call_p rfl e_aqueductlaw43_known (known_pure _) rfl ?_
    simp -implicitDefEqProofs (maxSteps := 10000000) (disch := omega) only [seqQ_normal, seqQ_ret, aC_ret, opsK_eq, retQ_ret, retI, runI_nil, runI_none, o_own, wp_ok, putS, Sf.set, Sf.reg, mask_eq, maskR_nil, maskR_cons, getR, setR, maskL, Sf.disAt, look, dis_lit, noL_lit, ↓reduceIte, Nat.reduceEqDiff, Bool.and_true, and_true, reduceCtorEq]
  simp -implicitDefEqProofs (maxSteps := 10000000) (disch := omega) only [runI_none, runI_some, AI.dst, putP_eq, guard_ff, o_mv, o_pick, o_bin, o_len, pick_ff, lenI, n_gtr, wp_ok, ev_r, ev_c, putS, Sf.set, Sf.reg, getR, setR, dis_lit, dis_sl, ↓reduceIte, Nat.reduceEqDiff, reduceCtorEq, Bool.false_eq_true, BB_len]
  refine guard_split (fun h2 => ?_) (fun h2 => ?_)
  · simp -implicitDefEqProofs (maxSteps := 10000000) (disch := omega) only [seqQ_normal, opsK_eq, runI_nil, runI_none, runI_some, skipI_eq, AI.dst, putP_eq, cond_tt, guard_tt, o_pick, o_call, pick_tt, wp_ok, ev_r, ev_c, ev_f, setB_r, putS, Sf.set, Sf.reg, mask_eq, maskR_nil, maskR_cons, getR, setR, maskL, look, id, dis_lit, List.map_nil, ↓reduceIte, Nat.reduceEqDiff, reduceCtorEq, Bool.false_eq_true, aqueductlaw43_FrameAlls_6e, aqueductlaw43_FrameAlls_7e, aqueductlaw43_FrameAlls_8e, aqueductlaw43_FrameAlls_8l]
    refine call_p rfl e_aqueductlaw43_known (known_pure _) rfl ?_
    simp -implicitDefEqProofs (maxSteps := 10000000) (disch := omega) only [seqQ_normal, seqQ_ret, aC_ret, opsK_eq, retQ_ret, retI, runI_nil, runI_none, o_own, wp_ok, putS, Sf.set, Sf.reg, mask_eq, maskR_nil, maskR_cons, getR, setR, maskL, Sf.disAt, look, dis_lit, noL_lit, ↓reduceIte, Nat.reduceEqDiff, Bool.and_true, and_true, reduceCtorEq]
  simp -implicitDefEqProofs (maxSteps := 10000000) (disch := omega) only [seqQ_normal, opsK_eq, runI_nil, runI_none, runI_some, AI.dst, putP_eq, guard_ff, o_pick, o_bin, o_addr, o_load, o_len, pick_ff, loadV, lenI, addA, derefI, takeI_none, n_gtr, wp_ok, bind_ok, ofOpt_some, ev_r, ev_c, putS, Sf.set, Sf.reg, mask_eq, maskR_nil, maskR_cons, getR, setR, maskL, look, dis_lit, dis_sl, List.drop_zero, List.drop_succ_cons, ↓reduceIte, Nat.reduceEqDiff, reduceCtorEq, Nat.zero_add, Bool.false_eq_true, BB_len, aqueductlaw43_FrameAlls_6e]
  refine cond_split (fun h3 => ?_) (fun h3 => ?_)
  · simp -implicitDefEqProofs (maxSteps := 10000000) (disch := omega) only [runI_none, o_call, ev_f, setB_r, Sf.set, setR, id, List.map_nil, ↓reduceIte, Nat.reduceEqDiff, reduceCtorEq, aqueductlaw43_FrameAlls_7e, aqueductlaw43_FrameAlls_8e, aqueductlaw43_FrameAlls_8l]
    refine call_p rfl e_aqueductlaw43_known (known_pure _) rfl ?_
    simp -implicitDefEqProofs (maxSteps := 10000000) (disch := omega) only [seqQ_normal, seqQ_ret, aC_ret, opsK_eq, retQ_ret, retI, runI_nil, runI_none, o_own, wp_ok, putS, Sf.set, Sf.reg, mask_eq, maskR_nil, maskR_cons, getR, setR, maskL, Sf.disAt, look, dis_lit, noL_lit, ↓reduceIte, Nat.reduceEqDiff, Bool.and_true, and_true, reduceCtorEq]
  simp -implicitDefEqProofs (maxSteps := 10000000) (disch := omega) only [seqQ_normal, aC_skip, runI_none, o_mv, o_x, stepX, srcA, wp_ok, ev_r, ev_c, setB_r, putS, Sf.set, Sf.reg, getR, setR, dis_sl, ↓reduceIte, Nat.reduceEqDiff, reduceCtorEq, aqueductlaw43_FrameAlls_9e, aqueductlaw43_FrameAlls_10e, aqueductlaw43_FrameAlls_10l]
  refine MB.app (l := []) (.inl ⟨rfl, rfl⟩) Lits.nil (BB_lits _) (by apply room_of; simp [BB_len]; omega) fun v st m _ nb => ?_
  obtain ⟨v1, v2, v3, v4, v5, v6, v7, v8⟩ := m.facts
  simp only [List.nil_append] at m
  simp -implicitDefEqProofs (maxSteps := 10000000) (disch := omega) only [seqQ_normal, opsK_eq, runI_nil, runI_none, putP_eq, putK_eq, o_bin, o_addr, o_load, o_len, o_own, loadV, lenI, addA, derefI, takeI_none, n_leq, wp_ok, bind_ok, ofOpt_some, ev_r, ev_c, putS, Sf.set, Sf.reg, mask_eq, maskR_nil, maskR_cons, getR, setR, maskL, Sf.disAt, look, dis_sl, List.drop_zero, List.drop_succ_cons, ↓reduceIte, Nat.reduceEqDiff, reduceCtorEq, Nat.zero_add, BB_len, aqueductlaw43_FrameAlls_11e, aqueductlaw43_FrameAlls_12e, aqueductlaw43_FrameAlls_13e, aqueductlaw43_FrameAlls_13l, aqueductlaw43_FrameAlls_14e, v1]
  refine cond_split (fun h4 => ?_) (fun h4 => ?_)
  · simp -implicitDefEqProofs (maxSteps := 10000000) (disch := omega) only [runI_none, putP_eq, o_load, o_own, o_call, loadV, derefI, takeI_some, wp_ok, bind_ok, bind_req, ofOpt_some, req_tt, ev_r, ev_f, setB_r, putS, Sf.set, Sf.reg, getR, setR, Sf.disAt, look, id, dis_agg, own1_lit, own1_sl, List.map_cons, List.map_nil, List.length_cons, List.length_nil, List.drop_zero, List.take_succ_cons, List.take_zero, ↓reduceIte, Nat.reduceEqDiff, Nat.reduceAdd, Nat.reduceLeDiff, Nat.zero_add, decide_true, aqueductlaw43_FrameAlls_15e, aqueductlaw43_FrameAlls_15l, v1]
    refine call_p rfl e_aqueductref43_Encode (refEncode_pure k b (by omega) _) rfl ?_
    simp -implicitDefEqProofs (maxSteps := 10000000) (disch := omega) only [runI_none, o_x, stepX, srcA, wp_ok, ev_r, putS, Sf.set, Sf.reg, getR, setR, ↓reduceIte, Nat.reduceEqDiff]
    have hel := enc_len k b
    generalize encB k b = ec at *
    refine m.app (BB_lits _) (BB_lits _) (by apply room_of; simp [BB_len]; omega) fun u st m _ nb2 => ?_
    obtain ⟨u1, u2, u3, u4, u5, u6, u7, u8⟩ := m.facts
    rw [BB_app] at m
    simp -implicitDefEqProofs (maxSteps := 10000000) (disch := omega) only [seqQ_normal, opsK_eq, runI_nil, runI_none, putK_eq, o_mv, o_own, o_x, stepX, srcA, wp_ok, ev_r, putS, Sf.set, Sf.reg, mask_eq, maskR_nil, maskR_cons, getR, setR, maskL, Sf.disAt, look, dis_sl, ↓reduceIte, Nat.reduceEqDiff, aqueductlaw43_FrameAlls_16e, aqueductlaw43_FrameAlls_17e, aqueductlaw43_FrameAlls_17l, u1]
    refine m.app (BB_lits _) (BB_lits _) (by apply room_of; simp [BB_len]; omega) fun v st m _ nb3 => ?_
    obtain ⟨v1, v2, v3, v4, v5, v6, v7, v8⟩ := m.facts
    rw [BB_app] at m
    simp only [BB_app, BB_len] at v8
    have hz : ((x ++ ec) ++ y).length ≤ 100000 := by simp; omega
    simp -implicitDefEqProofs (maxSteps := 10000000) (disch := omega) only [seqQ_normal, opsK_eq, runI_nil, runI_none, putK_eq, o_own, putS, Sf.set, Sf.reg, mask_eq, maskR_nil, maskR_cons, getR, setR, maskL, Sf.disAt, look, ↓reduceIte, Nat.reduceEqDiff, v1]
    exact alls_end _ _ _ m (nb3 (nb2 (nb NBs.nil))) hz _ _ h1
  · simp -implicitDefEqProofs (maxSteps := 10000000) (disch := omega) only [seqQ_normal, aC_skip, runI_none, o_mv, o_own, o_x, stepX, srcA, wp_ok, ev_r, setB_r, putS, Sf.set, Sf.reg, getR, setR, Sf.disAt, dis_sl, ↓reduceIte, Nat.reduceEqDiff, aqueductlaw43_FrameAlls_16e, aqueductlaw43_FrameAlls_17e, aqueductlaw43_FrameAlls_17l, v1]
    refine m.app (BB_lits _) (BB_lits _) (by apply room_of; simp [BB_len]; omega) fun u st m _ nb2 => ?_
    obtain ⟨u1, u2, u3, u4, u5, u6, u7, u8⟩ := m.facts
    rw [BB_app] at m
    have hz : (x ++ y).length ≤ 100000 := by simp; omega
    simp -implicitDefEqProofs (maxSteps := 10000000) (disch := omega) only [seqQ_normal, opsK_eq, runI_nil, runI_none, putK_eq, o_own, putS, Sf.set, Sf.reg, mask_eq, maskR_nil, maskR_cons, getR, setR, maskL, Sf.disAt, look, ↓reduceIte, Nat.reduceEqDiff, u1]
    exact alls_end _ _ _ m (nb2 (nb NBs.nil)) hz _ _ h1

theorem byte_lit {k : Int} (h : 0 ≤ k ∧ k ≤ 255) : AV.lit (.int .u8 k) = .lit (.int .u8 (UInt8.ofNat k.toNat).toNat) := by
  congr 2; simp [UInt8.toNat_ofNat']; omega

theorem frameAlls_top {x y b : List Int} {k at_ by_ : Int} (hx : x.length ≤ maxLen ∧ ∀ i ∈ x, 0 ≤ i ∧ i ≤ 255) (hk : 0 ≤ k ∧ k ≤ 255) (hb : b.length ≤ maxLen ∧ ∀ i ∈ b, 0 ≤ i ∧ i ≤ 255) (hy : y.length ≤ maxLen ∧ ∀ i ∈ y, 0 ≤ i ∧ i ≤ 255) (h1 : 0 ≤ at_ ∧ at_ ≤ 65535) :
    ACalls Go.Proofs.Try.prog n_aqueductlaw43_FrameAlls [.sl false 1 (x.map fun i => .lit (.int .u8 i)), .agg [.lit (.int .u8 k), .sl false 1 (b.map fun i => .lit (.int .u8 i))], .sl false 1 (y.map fun i => .lit (.int .u8 i)), .lit (.int .u16 at_), .lit (.int .u8 by_)] ⟨[]⟩ (fun v _ => v = .lit (.bool true)) := by
  rw [ints_BB hx.2, ints_BB hb.2, ints_BB hy.2, byte_lit hk]
  exact frameAlls_law _ _ _ _ at_ by_ h1 (by simpa using hx.1) (by simpa using hy.1) (by simpa using hb.1)
end Go.Fx.YtenijlfcfmhmkaaFx

