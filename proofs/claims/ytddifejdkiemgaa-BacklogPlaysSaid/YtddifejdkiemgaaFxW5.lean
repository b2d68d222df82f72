/- What the functions that the statement reaches compute: part 5. -/
import Derived.Test.YtddifejdkiemgaaFxW4
namespace Go.Fx.YtddifejdkiemgaaFx
open Go Go.Fx
attribute [local irreducible] aC runI headI loopI

set_option maxRecDepth 100000
set_option maxHeartbeats 4000000

section
variable {st : St} {b q mid tid n g : Nat} {cl : Bool} {L : Qu}

/-- One value less. -/
theorem BkIs.cut {st' : St} {A B : Qu} {t : Nat} {c : Int} {m : List (Int × Nat)} (h : BkIs st b q mid tid n cl (A ++ (t, c) :: B) g) (hl : ∀ c', lookP c' m = lookP c' (entB (A ++ (t, c) :: B))) (hnd : (keysP m).Nodup)
    (hq : QIs st' q mid (A ++ B) g) (hm : MapIs st' tid .i64 tkAV (delP c m)) (hg : st'.get b = st.get b) : BkIs st' b q mid tid n cl (A ++ B) g := by
  have hn1 : (keysP (entB A ++ (c, t) :: entB B)).Nodup := by
    have := keys_ent (A ++ (t, c) :: B)
    rw [ent_app] at this
    rw [show entB A ++ (c, t) :: entB B = entB A ++ entB ((t, c) :: B) from rfl, this]
    exact h.nd
  obtain ⟨s1, s2⟩ := look_split hn1
  have hsub : conns (A ++ (t, c) :: B) = conns A ++ c :: conns B := by simp [conns]
  have hlen := h.len
  refine ⟨hg.trans h.get, hq, ⟨_, hm, fun c' => ?_⟩, ?_, fun x hx => h.pos x ?_, by simp only [List.length_append, List.length_cons] at hlen ⊢; omega, h.ids⟩
  · rw [look_del _ _ hnd, hl, ent_app A B, s2, ent_app]; rfl
  · have := h.nd
    rw [hsub] at this
    rw [conns_app]
    exact (List.nodup_append.1 this) |> fun ⟨a1, a2, a3⟩ => List.nodup_append.2 ⟨a1, (List.nodup_cons.1 a2).2, fun x hx y hy => a3 x hx y (List.mem_cons_of_mem _ hy)⟩
  · rw [hsub]
    rw [conns_app] at hx
    rcases List.mem_append.1 hx with hx | hx
    · exact List.mem_append.2 (.inl hx)
    · exact List.mem_append.2 (.inr (List.mem_cons_of_mem _ hx))

/-- What Pop comes to. -/
def bPop (cl : Bool) (L : Qu) : Qu × Int × Int :=
  if cl then (L, 0, 14) else match L with | [] => ([], 0, 16) | (_, v) :: B => (B, v, 0)

theorem bpop_calls (h : BkIs st b q mid tid n cl L g) (hg0 : g < 1000000) : ACalls Go.Proofs.Try.prog n_f20 [.ptr b 0] st (fun r st' =>
    r = .tup [.lit (.int .i64 (bPop cl L).2.1), .lit (.int .i64 (bPop cl L).2.2)] ∧ BkIs st' b q mid tid n cl (bPop cl L).1 g ∧ BkFr st st' b q mid tid) := by
  have hg := h.get
  obtain ⟨m, hm, hl⟩ := h.ti
  have hn0 := bnone_pure hg
  refine acalls_op hmix k_f20 rfl rfl fun Q hQ => ?_
  unfold aFun c_f20
  unfold bPop at hQ
  cases cl
  case true =>
    simp -implicitDefEqProofs (maxSteps := 10000000) (disch := omega) only [seqQ_normal, opsK_eq, runI_nil, runI_none, o_mv, o_call, ev_r, ev_c, ev_f, putS, Sf.set, Sf.reg, mask_eq, maskR_nil, maskR_cons, getR, setR, maskL, regs0, id, dis_lit, dis_ptr, List.map_cons, List.map_nil, ↓reduceIte, Nat.reduceEqDiff, reduceCtorEq, f20_1e, f20_2e, f20_2l, f20_3e, f20_4e, f20_5e, f20_6e, f20_6l]
    refine call_p rfl e_f46 hn0 rfl ?_
    simp -implicitDefEqProofs (maxSteps := 10000000) (disch := omega) only [seqQ_normal, seqQ_ret, blockQ_ret, aC_ret, opsK_eq, retQ_ret, retI, resI, resL, runI_nil, runI_none, putP_eq, cond_tt, cond_ff, o_mv, o_addr, o_load, o_nilck, o_own, loadV, nilckV, addA, derefI, takeI_none, wp_ok, bind_ok, ofOpt_some, ev_r, ev_c, setB_r, putS, Sf.set, Sf.reg, mask_eq, maskR_nil, maskR_cons, getR, setR, maskL, Sf.disAt, dis_lit, dis_ptr, noL_lit, noL_tup, List.all_cons, List.all_nil, List.drop_zero, List.drop_succ_cons, ↓reduceIte, Nat.reduceEqDiff, Bool.true_and, Bool.and_true, and_true, true_and, reduceCtorEq, Nat.zero_add, f20_7e, f20_10e, f20_11e, f20_11l, f20_12e, f20_13e, f20_14e, f20_14l, hg]
    exact hQ _ _ ⟨rfl, h, .refl ..⟩
  simp only [Bool.false_eq_true, if_false] at hQ
  simp -implicitDefEqProofs (maxSteps := 10000000) (disch := omega) only [seqQ_normal, opsK_eq, runI_nil, runI_none, o_mv, o_call, ev_r, ev_c, ev_f, putS, Sf.set, Sf.reg, mask_eq, maskR_nil, maskR_cons, getR, setR, maskL, regs0, id, dis_lit, dis_ptr, List.map_cons, List.map_nil, ↓reduceIte, Nat.reduceEqDiff, reduceCtorEq, f20_1e, f20_2e, f20_2l, f20_3e, f20_4e, f20_5e, f20_6e, f20_6l]
  refine call_p rfl e_f46 hn0 rfl ?_
  simp -implicitDefEqProofs (maxSteps := 10000000) (disch := omega) only [seqQ_normal, blockQ_normal, aC_skip, opsK_eq, runI_nil, runI_none, putP_eq, cond_ff, o_mv, o_addr, o_load, o_nilck, o_own, o_call, loadV, nilckV, addA, derefI, takeI_none, wp_ok, bind_ok, ofOpt_some, ev_r, ev_f, setB_r, putS, Sf.set, Sf.reg, mask_eq, maskR_nil, maskR_cons, getR, setR, maskL, Sf.disAt, id, dis_lit, dis_ptr, List.map_cons, List.map_nil, List.drop_zero, List.drop_succ_cons, ↓reduceIte, Nat.reduceEqDiff, reduceCtorEq, Nat.zero_add, Nat.add_zero, f20_7e, f20_10e, f20_11e, f20_11l, f20_12e, f20_15e, f20_16e, f20_16l, hg]
  rcases L with _ | ⟨⟨t, v⟩, B⟩
  · refine call_a rfl e_f50 (qpop_nil h.qi) rfl fun r st1 hr => ?_
    obtain ⟨rfl, rfl⟩ := hr
    simp -implicitDefEqProofs (maxSteps := 10000000) (disch := omega) only [seqQ_normal, seqQ_ret, aC_ret, opsK_eq, retQ_ret, retI, resI, resL, runI_nil, runI_none, putP_eq, cond_tt, o_mv, o_bin, o_ext, o_own, extV, n_neq, wp_ok, bind_ok, ofOpt_some, ev_r, ev_c, setB_r, putS, Sf.set, Sf.reg, mask_eq, maskR_nil, maskR_cons, getR, setR, maskL, Sf.disAt, dis_lit, dis_tup, own2_lit, noL_lit, noL_tup, List.map_cons, List.map_nil, List.getElem?_cons_zero, List.getElem?_cons_succ, List.all_cons, List.all_nil, ↓reduceIte, Nat.reduceEqDiff, Int.reduceEq, Bool.true_and, Bool.and_true, and_true, true_and, reduceCtorEq, not_false_eq_true, decide_true, f20_17e, f20_18e, f20_19e, f20_19l, f20_20e, f20_21e, f20_22e, f20_22l]
    exact hQ _ _ ⟨rfl, h, .refl ..⟩
  · refine call_a rfl e_f50 (qpop_calls h.qi (by omega)) rfl fun r st1 hr => ?_
    obtain ⟨rfl, hq1, ho1⟩ := hr
    obtain ⟨i1, i2, i3, i4, i5⟩ := h.ids
    have hg1 : st1.get b = _ := (ho1.get (by simp; omega)).trans hg
    have hm1 := hm.oth ho1 (by simp; omega)
    simp -implicitDefEqProofs (maxSteps := 10000000) (disch := omega) only [seqQ_normal, aC_skip, opsK_eq, runI_nil, runI_none, putP_eq, cond_ff, o_mv, o_bin, o_ext, o_addr, o_load, o_nilck, o_own, o_del, extV, loadV, nilckV, addA, derefI, takeI_none, n_neq, wp_ok, bind_ok, ofOpt_some, ev_r, ev_c, setB_r, putS, Sf.set, Sf.reg, mask_eq, maskR_nil, maskR_cons, getR, setR, maskL, Sf.disAt, dis_lit, dis_ptr, dis_map, dis_tup, own2_lit, List.map_cons, List.map_nil, List.getElem?_cons_zero, List.getElem?_cons_succ, List.drop_zero, List.drop_succ_cons, ↓reduceIte, Nat.reduceEqDiff, reduceCtorEq, Nat.zero_add, not_true_eq_false, decide_false, f20_17e, f20_18e, f20_19e, f20_19l, f20_20e, f20_23e, f20_24e, f20_24l, hg1]
    refine del_step hm1 fun st2 hm2 ho2 => ?_
    simp -implicitDefEqProofs (maxSteps := 10000000) (disch := omega) only [seqQ_normal, aC_ret, opsK_eq, retQ_ret, retI, resI, resL, runI_nil, runI_none, o_mv, o_own, wp_ok, bind_ok, ev_r, ev_c, putS, Sf.set, Sf.reg, mask_eq, maskR_nil, maskR_cons, getR, setR, maskL, Sf.disAt, dis_lit, noL_lit, noL_tup, List.all_cons, List.all_nil, ↓reduceIte, Nat.reduceEqDiff, Bool.true_and, Bool.and_true, and_true, true_and, reduceCtorEq, f20_25e, f20_26e, f20_26l]
    have ho : Oth st st2 [b, q, mid, tid] := (ho1.mono (by simp)).trans (ho2.mono (by simp))
    exact hQ _ _ ⟨rfl, h.cut (A := []) hl hm.nd (hq1.oth ho2 (by simp; omega) (by simp; omega)) hm2 (((ho2.get (by simp; omega)).trans hg1).trans hg.symm), .oth ho⟩

theorem bremove_neg (h : BkIs st b q mid tid n cl L g) {c : Int} (hc : c < 0) : ACalls Go.Proofs.Try.prog n_f22 [.ptr b 0, .lit (.int .i64 c)] st (fun r st' => r = .lit (.int .i64 2) ∧ st' = st) := by
  have hg := h.get
  refine acalls_op hmix k_f22 rfl rfl fun Q hQ => ?_
  unfold aFun c_f22
  simp -implicitDefEqProofs (maxSteps := 10000000) (disch := omega) only [seqQ_normal, opsK_eq, runI_nil, runI_none, o_mv, o_call, ev_r, ev_c, ev_f, putS, Sf.set, Sf.reg, mask_eq, maskR_nil, maskR_cons, getR, setR, maskL, regs0, id, dis_lit, dis_ptr, List.map_cons, List.map_nil, ↓reduceIte, Nat.reduceEqDiff, reduceCtorEq, Nat.zero_add, f22_1e, f22_2e, f22_2l, f22_3e, f22_4e, f22_5e, f22_6e, f22_6l]
  refine call_p rfl e_f46 (bnone_pure hg) rfl ?_
  simp -implicitDefEqProofs (maxSteps := 10000000) (disch := omega) only [seqQ_normal, seqQ_ret, blockQ_ret, aC_ret, opsK_eq, retQ_ret, retI, runI_nil, runI_none, putP_eq, cond_ff, o_mv, o_bin, o_own, n_lss, wp_ok, ev_r, ev_c, setB_r, putS, Sf.set, Sf.reg, mask_eq, maskR_nil, maskR_cons, getR, setR, maskL, Sf.disAt, dis_lit, noL_lit, ↓reduceIte, Nat.reduceEqDiff, Bool.true_and, true_and, reduceCtorEq, cond_yes, f22_7e, f22_10e, f22_11e, f22_11l, f22_12e, f22_13e, f22_14e, f22_14l]
  exact hQ _ _ ⟨rfl, rfl⟩
theorem bremove_none (h : BkIs st b q mid tid n cl L g) {c : Int} (hc : 0 ≤ c) (hn : c ∉ conns L) : ACalls Go.Proofs.Try.prog n_f22 [.ptr b 0, .lit (.int .i64 c)] st (fun r st' => r = .lit (.int .i64 9) ∧ st' = st) := by
  have hg := h.get
  obtain ⟨m, hm, hl⟩ := h.ti
  refine acalls_op hmix k_f22 rfl rfl fun Q hQ => ?_
  unfold aFun c_f22
  have hk : ∀ z, lookupI (.int .i64) z true st (.map tid) (.lit (.int .i64 c)) = .ok (.tup [z, .lit (.bool false)]) := fun z => by
    rw [lookI_enc hm, hl, look_none (by rw [keys_ent]; exact hn)]; rfl
  simp -implicitDefEqProofs (maxSteps := 10000000) (disch := omega) only [seqQ_normal, opsK_eq, runI_nil, runI_none, o_mv, o_call, ev_r, ev_c, ev_f, putS, Sf.set, Sf.reg, mask_eq, maskR_nil, maskR_cons, getR, setR, maskL, regs0, id, dis_lit, dis_ptr, List.map_cons, List.map_nil, ↓reduceIte, Nat.reduceEqDiff, reduceCtorEq, Nat.zero_add, f22_1e, f22_2e, f22_2l, f22_3e, f22_4e, f22_5e, f22_6e, f22_6l]
  refine call_p rfl e_f46 (bnone_pure hg) rfl ?_
  simp -implicitDefEqProofs (maxSteps := 10000000) (disch := omega) only [seqQ_normal, seqQ_ret, blockQ_normal, aC_skip, aC_ret, opsK_eq, retQ_ret, retI, runI_nil, runI_none, putP_eq, cond_tt, cond_ff, o_mv, o_bin, o_un, o_ext, o_addr, o_load, o_nilck, o_lookup, o_own, extV, loadV, nilckV, addA, derefI, takeI_none, unA, n_lss, wp_ok, bind_ok, ofOpt_some, ev_r, ev_c, setB_r, putS, Sf.set, Sf.reg, mask_eq, maskR_nil, maskR_cons, getR, setR, maskL, Sf.disAt, dis_lit, dis_ptr, dis_map, dis_tup, own2_lit, noL_lit, List.map_cons, List.map_nil, List.getElem?_cons_zero, List.getElem?_cons_succ, List.drop_zero, List.drop_succ_cons, ↓reduceIte, Nat.reduceEqDiff, Bool.true_and, true_and, reduceCtorEq, Nat.zero_add, Bool.not_false, cond_no, f22_7e, f22_10e, f22_11e, f22_11l, f22_12e, f22_15e, f22_16e, f22_16l, f22_17e, f22_18e, f22_19e, f22_19l, f22_20e, f22_21e, f22_22e, f22_22l, hg, hk]
  exact hQ _ _ ⟨rfl, rfl⟩
theorem bremove_calls {A B : Qu} {t : Nat} {c : Int} (h : BkIs st b q mid tid n cl (A ++ (t, c) :: B) g) (hg0 : g < 1000000) : ACalls Go.Proofs.Try.prog n_f22 [.ptr b 0, .lit (.int .i64 c)] st (fun r st' =>
    r = .lit (.int .i64 0) ∧ BkIs st' b q mid tid n cl (A ++ B) g ∧ BkFr st st' b q mid tid) := by
  have hg := h.get
  obtain ⟨m, hm, hl⟩ := h.ti
  have hc := h.pos c (by simp [conns])
  refine acalls_op hmix k_f22 rfl rfl fun Q hQ => ?_
  unfold aFun c_f22
  have hn1 : (keysP (entB A ++ (c, t) :: entB B)).Nodup := by
    have := keys_ent (A ++ (t, c) :: B)
    rw [ent_app] at this
    rw [show entB A ++ (c, t) :: entB B = entB A ++ entB ((t, c) :: B) from rfl, this]
    exact h.nd
  obtain ⟨s1, _⟩ := look_split hn1
  have hk : ∀ z, lookupI (.int .i64) z true st (.map tid) (.lit (.int .i64 c)) = .ok (.tup [.lit (.int .u64 (t : Nat)), .lit (.bool true)]) := fun z => by
    have h1 : lookP c (entB (A ++ (t, c) :: B)) = some t := by rw [ent_app]; exact s1
    rw [lookI_enc hm, hl, h1]; rfl
  simp -implicitDefEqProofs (maxSteps := 10000000) (disch := omega) only [seqQ_normal, opsK_eq, runI_nil, runI_none, o_mv, o_call, ev_r, ev_c, ev_f, putS, Sf.set, Sf.reg, mask_eq, maskR_nil, maskR_cons, getR, setR, maskL, regs0, id, dis_lit, dis_ptr, List.map_cons, List.map_nil, ↓reduceIte, Nat.reduceEqDiff, reduceCtorEq, Nat.zero_add, f22_1e, f22_2e, f22_2l, f22_3e, f22_4e, f22_5e, f22_6e, f22_6l]
  refine call_p rfl e_f46 (bnone_pure hg) rfl ?_
  simp -implicitDefEqProofs (maxSteps := 10000000) (disch := omega) only [seqQ_normal, blockQ_normal, aC_skip, opsK_eq, runI_nil, runI_none, putP_eq, cond_ff, o_mv, o_bin, o_un, o_ext, o_addr, o_load, o_nilck, o_lookup, o_own, o_del, extV, loadV, nilckV, addA, derefI, takeI_none, unA, n_lss, wp_ok, bind_ok, ofOpt_some, ev_r, ev_c, setB_r, putS, Sf.set, Sf.reg, mask_eq, maskR_nil, maskR_cons, getR, setR, maskL, Sf.disAt, dis_lit, dis_ptr, dis_map, dis_tup, own2_lit, List.map_cons, List.map_nil, List.getElem?_cons_zero, List.getElem?_cons_succ, List.drop_zero, List.drop_succ_cons, ↓reduceIte, Nat.reduceEqDiff, reduceCtorEq, Nat.zero_add, Bool.not_true, cond_no, f22_7e, f22_10e, f22_11e, f22_11l, f22_12e, f22_15e, f22_16e, f22_16l, f22_17e, f22_18e, f22_19e, f22_19l, f22_20e, f22_23e, f22_24e, f22_24l, hg, hk]
  refine del_step hm fun st1 hm1 ho1 => ?_
  obtain ⟨i1, i2, i3, i4, i5⟩ := h.ids
  have hg1 : st1.get b = _ := (ho1.get (by simp; omega)).trans hg
  have hq0 := h.qi.oth ho1 (by simp; omega) (by simp; omega)
  simp -implicitDefEqProofs (maxSteps := 10000000) (disch := omega) only [seqQ_normal, opsK_eq, runI_nil, runI_none, putP_eq, o_mv, o_addr, o_load, o_nilck, o_call, loadV, nilckV, addA, derefI, takeI_none, wp_ok, bind_ok, ofOpt_some, ev_r, ev_f, putS, Sf.set, Sf.reg, mask_eq, maskR_nil, maskR_cons, getR, setR, maskL, id, dis_lit, dis_ptr, List.map_cons, List.map_nil, List.drop_zero, ↓reduceIte, Nat.reduceEqDiff, reduceCtorEq, Nat.add_zero, f22_25e, f22_26e, f22_26l, hg1]
  refine call_a rfl e_f51 (qremove_calls (A := A) (B := B) hq0 (by omega)) rfl fun r st2 hr => ?_
  obtain ⟨rfl, hq2, ho2⟩ := hr
  simp -implicitDefEqProofs (maxSteps := 10000000) (disch := omega) only [seqQ_normal, aC_ret, opsK_eq, retQ_ret, retI, runI_nil, runI_none, putP_eq, o_mv, o_ext, o_own, extV, wp_ok, bind_ok, ofOpt_some, ev_r, putS, Sf.set, Sf.reg, mask_eq, maskR_nil, maskR_cons, getR, setR, maskL, Sf.disAt, dis_lit, dis_tup, own2_lit, noL_lit, List.map_cons, List.map_nil, List.getElem?_cons_zero, List.getElem?_cons_succ, ↓reduceIte, Nat.reduceEqDiff, Bool.true_and, true_and, reduceCtorEq, f22_27e, f22_28e, f22_28l]
  have ho : Oth st st2 [b, q, mid, tid] := (ho1.mono (by simp)).trans (ho2.mono (by simp))
  exact hQ _ _ ⟨rfl, h.cut hl hm.nd hq2 (hm1.oth ho2 (by simp; omega)) (((ho2.get (by simp; omega)).trans hg1).trans hg.symm), .oth ho⟩
end
end Go.Fx.YtddifejdkiemgaaFx

