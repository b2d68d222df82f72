/- What the functions that the statement reaches compute: part 4. -/
import Derived.Test.YtddifejdkiemgaaFxW3
namespace Go.Fx.YtddifejdkiemgaaFx
open Go Go.Fx
attribute [local irreducible] aC runI headI loopI

set_option maxRecDepth 100000
set_option maxHeartbeats 4000000

/-! A backlog in its boxes. -/
def entB (L : Qu) : List (Int × Nat) := L.map fun x => (x.2, x.1)
def conns (L : Qu) : List Int := L.map fun x => x.2
def tkAV (t : Nat) : AV := .lit (.int .u64 (t : Nat))
theorem keys_ent (L : Qu) : keysP (entB L) = conns L := by simp [keysP, entB, conns]
theorem ent_app (A B : Qu) : entB (A ++ B) = entB A ++ entB B := by simp [entB]
theorem conns_app (A B : Qu) : conns (A ++ B) = conns A ++ conns B := by simp [conns]

structure BkIs (st : St) (b q mid tid : Nat) (n : Nat) (cl : Bool) (L : Qu) (g : Nat) : Prop where
  get : st.get b = some [.ptr q 0, .lit (.int .i64 (n : Nat)), .lit (.bool cl), .map tid]
  qi : QIs st q mid L g
  ti : ∃ m, MapIs st tid .i64 tkAV m ∧ ∀ c, lookP c m = lookP c (entB L)
  nd : (conns L).Nodup
  pos : ∀ c ∈ conns L, 0 ≤ c
  len : L.length ≤ n
  ids : b ≠ q ∧ b ≠ mid ∧ b ≠ tid ∧ tid ≠ q ∧ tid ≠ mid

theorem BkIs.at {st st' : St} {b q mid tid n g : Nat} {cl : Bool} {L : Qu} (h : BkIs st b q mid tid n cl L g) (he : ∀ i ∈ [b, q, mid, tid], st'.boxes[i]? = st.boxes[i]?) : BkIs st' b q mid tid n cl L g := by
  obtain ⟨m, hm, hl⟩ := h.ti
  exact ⟨(get_at (he _ (by simp))).trans h.get, h.qi.at (he _ (by simp)) (he _ (by simp)), ⟨m, hm.at (he _ (by simp)), hl⟩, h.nd, h.pos, h.len, h.ids⟩
theorem BkIs.lts {st : St} {b q mid tid n g : Nat} {cl : Bool} {L : Qu} (h : BkIs st b q mid tid n cl L g) : ∀ i ∈ [b, q, mid, tid], i < st.boxes.length := by
  obtain ⟨m, hm, hl⟩ := h.ti
  have h1 := get_lt h.get
  have h2 := h.qi.ltq
  have h3 := h.qi.ltm
  have h4 := hm.lt
  intro i hi
  simp only [List.mem_cons, List.not_mem_nil, or_false] at hi
  rcases hi with rfl | rfl | rfl | rfl <;> assumption

theorem bnone_pure {st : St} {b q : Nat} {x y z : AV} (hg : st.get b = some [.ptr q 0, x, y, z]) : PCalls Go.Proofs.Try.prog n_f46 [.ptr b 0] st (.lit (.bool false)) := by
  refine pcalls_id hmix k_f46 rfl rfl fun Q hQ => ?_
  unfold aFun c_f46
  simp -implicitDefEqProofs (maxSteps := 10000000) (disch := omega) only [seqQ_normal, aC_ret, opsK_eq, retQ_ret, retI, runI_nil, runI_none, runI_some, AI.dst, putP_eq, guard_ff, o_mv, o_pick, o_bin, o_addr, o_load, o_nilck, o_own, pick_ff, loadV, nilckV, n_nileq, eqNilI, isNilI, addA, derefI, takeI_none, wp_ok, bind_ok, ofOpt_some, ev_r, ev_c, putS, Sf.set, Sf.reg, mask_eq, maskR_nil, maskR_cons, getR, setR, maskL, Sf.disAt, regs0, dis_lit, dis_ptr, noL_lit, List.drop_zero, ↓reduceIte, Nat.reduceEqDiff, Bool.true_and, true_and, reduceCtorEq, Nat.add_zero, Bool.false_eq_true, f46_1e, f46_2e, f46_2l, f46_3e, f46_4e, f46_4l, hg]
  exact hQ _

theorem bnew_err {n : Int} (hn : n < 1 ∨ 128 < n) (st : St) : PCalls Go.Proofs.Try.prog n_f13 [.lit (.int .i64 n)] st (.tup [.lit (.pointer none), .lit (.int .i64 2)]) := by
  refine pcalls_id hmix k_f13 rfl rfl fun Q hQ => ?_
  unfold aFun c_f13
  by_cases h1 : n < 1
  · simp -implicitDefEqProofs (maxSteps := 10000000) (disch := omega) only [seqQ_normal, seqQ_ret, aC_ret, opsK_eq, retQ_ret, retI, resI, resL, runI_nil, runI_none, runI_some, skipI_eq, AI.dst, putP_eq, cond_tt, guard_tt, o_mv, o_pick, o_bin, pick_tt, n_lss, wp_ok, bind_ok, ev_r, ev_c, setB_r, putS, Sf.set, Sf.reg, mask_eq, maskR_nil, maskR_cons, getR, setR, maskL, regs0, dis_lit, noL_lit, noL_tup, List.all_cons, List.all_nil, ↓reduceIte, Nat.reduceEqDiff, Bool.true_and, Bool.and_true, and_true, true_and, reduceCtorEq, Bool.false_eq_true, guard_yes, f13_1e, f13_2e, f13_2l, f13_3e, f13_4e, f13_5e, f13_5l, f13_6e, f13_7e, f13_8e, f13_8l]
    exact hQ _
  · simp -implicitDefEqProofs (maxSteps := 10000000) (disch := omega) only [seqQ_normal, seqQ_ret, aC_ret, opsK_eq, retQ_ret, retI, resI, resL, runI_nil, runI_none, runI_some, AI.dst, putP_eq, guard_ff, o_mv, o_pick, o_bin, pick_ff, n_lss, n_gtr, wp_ok, bind_ok, ev_r, ev_c, setB_r, putS, Sf.set, Sf.reg, mask_eq, maskR_nil, maskR_cons, getR, setR, maskL, regs0, dis_lit, noL_lit, noL_tup, List.all_cons, List.all_nil, ↓reduceIte, Nat.reduceEqDiff, Bool.true_and, Bool.and_true, and_true, true_and, reduceCtorEq, Bool.false_eq_true, cond_yes, guard_no, f13_1e, f13_2e, f13_2l, f13_3e, f13_4e, f13_5e, f13_5l, f13_6e, f13_7e, f13_8e, f13_8l]
    exact hQ _

theorem bnew_calls {n : Nat} (hn : 1 ≤ n ∧ n ≤ 128) (st : St) : ACalls Go.Proofs.Try.prog n_f13 [.lit (.int .i64 (n : Nat))] st (fun r st' =>
    r = .tup [.ptr (st.boxes.length + 3) 0, .lit (.int .i64 0)] ∧ BkIs st' (st.boxes.length + 3) (st.boxes.length + 1) st.boxes.length (st.boxes.length + 2) n false [] 0 ∧ st'.boxes.length = st.boxes.length + 4 ∧ ∀ id, id < st.boxes.length → st'.boxes[id]? = st.boxes[id]?) := by
  refine acalls_op hmix k_f13 rfl rfl fun Q hQ => ?_
  unfold aFun c_f13
  simp -implicitDefEqProofs (maxSteps := 10000000) (disch := omega) only [seqQ_normal, aC_skip, opsK_eq, runI_nil, runI_none, runI_some, AI.dst, putP_eq, guard_ff, o_mv, o_pick, o_bin, o_call, pick_ff, n_lss, n_gtr, wp_ok, ev_r, ev_c, ev_f, setB_r, putS, Sf.set, Sf.reg, mask_eq, maskR_nil, maskR_cons, getR, setR, maskL, regs0, id, dis_lit, List.map_nil, ↓reduceIte, Nat.reduceEqDiff, reduceCtorEq, Bool.false_eq_true, cond_no, guard_no, f13_1e, f13_2e, f13_2l, f13_3e, f13_4e, f13_5e, f13_5l, f13_6e, f13_9e, f13_10e, f13_10l]
  refine call_a rfl e_f45 (qnew_calls st) rfl fun r st1 hr => ?_
  obtain ⟨rfl, hq1, hl1, hk1⟩ := hr
  simp -implicitDefEqProofs (maxSteps := 10000000) (disch := omega) only [and_self, seqQ_normal, aC_ret, opsK_eq, retQ_ret, retI, resI, resL, runI_nil, runI_none, putP_eq, o_mv, o_bst, o_own, o_boxB, o_mkmap, bstV, boxX, buildA, wp_ok, bind_ok, ev_r, ev_c, evOwn_r, disOp_r, putS, Sf.set, Sf.reg, mask_eq, maskR_nil, maskR_cons, getR, setR, maskL, Sf.disAt, dis_lit, dis_ptr, dis_map, dis_agg, own1_lit, own1_ptr, own1_map, cells_lit, cells_ptr, cells_map, cells_agg, solid1_lit, solid1_ptr, solid1_map, solid_eq, noL_lit, noL_ptr, noL_tup, List.map_cons, List.map_nil, List.length_cons, List.length_nil, List.getElem?_cons_zero, List.getElem?_cons_succ, List.all_cons, List.all_nil, List.set_cons_zero, List.set_cons_succ, ↓reduceIte, Nat.reduceEqDiff, Nat.reduceAdd, Nat.reduceLeDiff, Bool.true_and, Bool.and_true, and_true, true_and, reduceCtorEq, Nat.zero_add, len_push, setAt_nil, setAt_cons, hl1]
  have hm := (MapIs.new st1 .i64 tkAV).push (.cells [.ptr (st.boxes.length + 1) 0, .lit (.int .i64 (n : Nat)), .lit (.bool false), .map (st.boxes.length + 2)])
  have hg := get_push (st1.push (.mp [] [] 0)) [.ptr (st.boxes.length + 1) 0, .lit (.int .i64 (n : Nat)), .lit (.bool false), .map (st.boxes.length + 2)]
  rw [len_push, hl1] at hg
  rw [hl1] at hm
  have hat : ∀ x, x < st.boxes.length + 2 → ((st1.push (.mp [] [] 0)).push (.cells [.ptr (st.boxes.length + 1) 0, .lit (.int .i64 (n : Nat)), .lit (.bool false), .map (st.boxes.length + 2)])).boxes[x]? = st1.boxes[x]? := fun x hx => by
    rw [push_at (by rw [len_push]; omega), push_at (by omega)]
  refine hQ _ _ ⟨by simp, ⟨by simpa [Nat.add_assoc] using hg, hq1.at (hat _ (by omega)) (hat _ (by omega)), ⟨[], hm, fun _ => rfl⟩, by simp [conns], by simp [conns], by simp, by omega⟩, by simp [len_push, hl1], fun x hx => ?_⟩
  rw [hat x (by omega), hk1 x hx]

section
variable {st : St} {b q mid tid n g : Nat} {cl : Bool} {L : Qu}

theorem bmost_pure (h : BkIs st b q mid tid n cl L g) : PCalls Go.Proofs.Try.prog n_f26 [.ptr b 0] st (.lit (.int .i64 (n : Nat))) := by
  have hg := h.get
  refine pcalls_id hmix k_f26 rfl rfl fun Q hQ => ?_
  unfold aFun c_f26
  simp -implicitDefEqProofs (maxSteps := 10000000) (disch := omega) only [seqQ_normal, opsK_eq, runI_nil, runI_none, o_mv, o_call, ev_r, ev_c, ev_f, putS, Sf.set, Sf.reg, mask_eq, maskR_nil, maskR_cons, getR, setR, maskL, regs0, id, dis_lit, dis_ptr, List.map_cons, List.map_nil, ↓reduceIte, reduceCtorEq, f26_1e, f26_2e, f26_2l, f26_3e, f26_4e, f26_5e, f26_5l]
  refine call_p rfl e_f46 (bnone_pure hg) rfl ?_
  simp -implicitDefEqProofs (maxSteps := 10000000) (disch := omega) only [seqQ_normal, aC_skip, aC_ret, opsK_eq, retQ_ret, retI, runI_nil, runI_none, putP_eq, cond_ff, o_mv, o_addr, o_load, o_nilck, o_own, loadV, nilckV, addA, derefI, takeI_none, wp_ok, bind_ok, ofOpt_some, ev_r, setB_r, putS, Sf.set, Sf.reg, mask_eq, maskR_nil, maskR_cons, getR, setR, maskL, Sf.disAt, dis_lit, dis_ptr, noL_lit, List.drop_zero, List.drop_succ_cons, ↓reduceIte, Nat.reduceEqDiff, Bool.true_and, true_and, reduceCtorEq, Nat.zero_add, f26_6e, f26_9e, f26_10e, f26_10l, hg]
  exact hQ _

theorem broom_pure (h : BkIs st b q mid tid n cl L g) (hn : n ≤ 4000) : PCalls Go.Proofs.Try.prog n_f17 [.ptr b 0] st (.lit (.int .i64 ((if cl then 0 else n - L.length : Nat) : Int))) := by
  have hg := h.get
  have hl := h.len
  refine pcalls_id hmix k_f17 rfl rfl fun Q hQ => ?_
  unfold aFun c_f17
  have hql := qlen_pure h.qi
  cases cl
  · simp -implicitDefEqProofs (maxSteps := 10000000) (disch := omega) only [seqQ_normal, opsK_eq, runI_nil, runI_none, o_mv, o_call, ev_r, ev_c, ev_f, putS, Sf.set, Sf.reg, mask_eq, maskR_nil, maskR_cons, getR, setR, maskL, regs0, id, dis_lit, dis_ptr, List.map_cons, List.map_nil, ↓reduceIte, reduceCtorEq, f17_1e, f17_2e, f17_2l, f17_3e, f17_4e, f17_5e, f17_5l]
    refine call_p rfl e_f46 (bnone_pure hg) rfl ?_
    simp -implicitDefEqProofs (maxSteps := 10000000) (disch := omega) only [h_none, hh_mv, hh_addr, hh_load, hh_nilck, hh_call, val_head, seqQ_normal, aC_skip, opsK_eq, runI_nil, runI_none, runI_some, AI.dst, putP_eq, cond_ff, guard_ff, o_mv, o_pick, o_addr, o_load, o_nilck, pick_ff, loadV, nilckV, addA, derefI, takeI_none, wp_ok, bind_ok, ofOpt_some, ev_r, ev_c, ev_f, setB_r, putS, Sf.set, Sf.reg, mask_eq, maskR_nil, maskR_cons, getR, setR, maskL, dropL, id, dis_lit, dis_ptr, List.map_cons, List.map_nil, List.drop_zero, List.drop_succ_cons, ↓reduceIte, Nat.reduceEqDiff, reduceCtorEq, Nat.zero_add, Nat.add_zero, Bool.false_eq_true, f17_6e, f17_9e, f17_10e, f17_10h, f17_10l, hg]
    refine call_h rfl e_f47 hql rfl ?_
    simp -implicitDefEqProofs (maxSteps := 10000000) (disch := omega) only [h_nil, cons_val, tail_nil, seqQ_normal, aC_ret, opsK_eq, retQ_ret, retI, runI_nil, runI_none, putP_eq, o_bin, o_own, n_sub, wp_ok, ev_r, putS, Sf.set, Sf.reg, mask_eq, maskR_nil, maskR_cons, getR, setR, maskL, Sf.disAt, dis_lit, noL_lit, ↓reduceIte, Nat.reduceEqDiff, Bool.true_and, true_and, reduceCtorEq, IntWalk.i64_in, up_sub]
    exact hQ _
  · simp -implicitDefEqProofs (maxSteps := 10000000) (disch := omega) only [seqQ_normal, opsK_eq, runI_nil, runI_none, o_mv, o_call, ev_r, ev_c, ev_f, putS, Sf.set, Sf.reg, mask_eq, maskR_nil, maskR_cons, getR, setR, maskL, regs0, id, dis_lit, dis_ptr, List.map_cons, List.map_nil, ↓reduceIte, reduceCtorEq, f17_1e, f17_2e, f17_2l, f17_3e, f17_4e, f17_5e, f17_5l]
    refine call_p rfl e_f46 (bnone_pure hg) rfl ?_
    simp -implicitDefEqProofs (maxSteps := 10000000) (disch := omega) only [seqQ_normal, seqQ_ret, aC_ret, opsK_eq, retQ_ret, retI, runI_nil, runI_none, runI_some, AI.dst, putP_eq, cond_tt, guard_ff, o_mv, o_pick, o_addr, o_load, o_nilck, pick_ff, loadV, nilckV, addA, derefI, takeI_none, wp_ok, bind_ok, ofOpt_some, ev_r, ev_c, setB_r, putS, Sf.set, Sf.reg, mask_eq, maskR_nil, maskR_cons, getR, setR, maskL, dis_lit, dis_ptr, noL_lit, List.drop_zero, List.drop_succ_cons, ↓reduceIte, Nat.reduceEqDiff, Bool.true_and, true_and, reduceCtorEq, Nat.zero_add, Bool.false_eq_true, f17_6e, f17_7e, f17_8e, f17_8l, hg]
    exact hQ _

/-- What a call leaves alone. -/
def BkFr (st st' : St) (b q mid tid : Nat) : Prop := st.boxes.length ≤ st'.boxes.length ∧ ∀ i, i < st.boxes.length → i ∉ [b, q, mid, tid] → st'.boxes[i]? = st.boxes[i]?
theorem BkFr.refl (st : St) (b q mid tid : Nat) : BkFr st st b q mid tid := ⟨Nat.le_refl _, fun _ _ _ => rfl⟩
theorem BkFr.oth {st st' : St} {b q mid tid : Nat} (h : Oth st st' [b, q, mid, tid]) : BkFr st st' b q mid tid := ⟨Nat.le_of_eq h.1.symm, fun i _ hn => h.2 i hn⟩

/-- What Push comes to. -/
def bPush (n : Nat) (cl : Bool) (L : Qu) (g : Nat) (c : Int) : Qu × Nat × Int :=
  if c < 0 then (L, g, 2) else if cl then (L, g, 14) else if c ∈ conns L then (L, g, 11) else if L.length = n then (L, g, 7) else (L ++ [(g + 1, c)], g + 1, 0)

theorem bpush_calls (h : BkIs st b q mid tid n cl L g) (hn : n ≤ 4000) (hg0 : g < 1000000) (c : Int) : ACalls Go.Proofs.Try.prog n_f16 [.ptr b 0, .lit (.int .i64 c)] st (fun r st' =>
    r = .lit (.int .i64 (bPush n cl L g c).2.2) ∧ BkIs st' b q mid tid n cl (bPush n cl L g c).1 (bPush n cl L g c).2.1 ∧ BkFr st st' b q mid tid) := by
  have hg := h.get
  obtain ⟨m, hm, hl⟩ := h.ti
  have hql := qlen_pure h.qi
  have hn0 := bnone_pure hg
  refine acalls_op hmix k_f16 rfl rfl fun Q hQ => ?_
  unfold aFun c_f16
  unfold bPush at hQ
  by_cases h1 : c < 0
  · rw [if_pos h1] at hQ
    simp -implicitDefEqProofs (maxSteps := 10000000) (disch := omega) only [seqQ_normal, opsK_eq, runI_nil, runI_none, o_mv, o_call, ev_r, ev_c, ev_f, putS, Sf.set, Sf.reg, mask_eq, maskR_nil, maskR_cons, getR, setR, maskL, regs0, id, dis_lit, dis_ptr, List.map_cons, List.map_nil, ↓reduceIte, Nat.reduceEqDiff, reduceCtorEq, Nat.zero_add, f16_1e, f16_2e, f16_2l, f16_3e, f16_4e, f16_5e, f16_6e, f16_6l]
    refine call_p rfl e_f46 hn0 rfl ?_
    simp -implicitDefEqProofs (maxSteps := 10000000) (disch := omega) only [seqQ_normal, seqQ_ret, blockQ_ret, aC_ret, opsK_eq, retQ_ret, retI, runI_nil, runI_none, putP_eq, cond_ff, o_mv, o_bin, o_own, n_lss, wp_ok, ev_r, ev_c, setB_r, putS, Sf.set, Sf.reg, mask_eq, maskR_nil, maskR_cons, getR, setR, maskL, Sf.disAt, dis_lit, noL_lit, ↓reduceIte, Nat.reduceEqDiff, Bool.true_and, true_and, reduceCtorEq, cond_yes, f16_7e, f16_10e, f16_11e, f16_11l, f16_12e, f16_13e, f16_14e, f16_14l]
    exact hQ _ _ ⟨rfl, h, .refl ..⟩
  rw [if_neg h1] at hQ
  cases cl
  case true =>
    simp -implicitDefEqProofs (maxSteps := 10000000) (disch := omega) only [seqQ_normal, opsK_eq, runI_nil, runI_none, o_mv, o_call, ev_r, ev_c, ev_f, putS, Sf.set, Sf.reg, mask_eq, maskR_nil, maskR_cons, getR, setR, maskL, regs0, id, dis_lit, dis_ptr, List.map_cons, List.map_nil, ↓reduceIte, Nat.reduceEqDiff, reduceCtorEq, Nat.zero_add, f16_1e, f16_2e, f16_2l, f16_3e, f16_4e, f16_5e, f16_6e, f16_6l]
    refine call_p rfl e_f46 hn0 rfl ?_
    simp -implicitDefEqProofs (maxSteps := 10000000) (disch := omega) only [seqQ_normal, seqQ_ret, blockQ_ret, aC_ret, opsK_eq, retQ_ret, retI, runI_nil, runI_none, putP_eq, cond_tt, cond_ff, o_mv, o_bin, o_addr, o_load, o_nilck, o_own, loadV, nilckV, addA, derefI, takeI_none, n_lss, wp_ok, bind_ok, ofOpt_some, ev_r, ev_c, setB_r, putS, Sf.set, Sf.reg, mask_eq, maskR_nil, maskR_cons, getR, setR, maskL, Sf.disAt, dis_lit, dis_ptr, noL_lit, List.drop_zero, List.drop_succ_cons, ↓reduceIte, Nat.reduceEqDiff, Bool.true_and, true_and, reduceCtorEq, Nat.zero_add, cond_no, f16_7e, f16_10e, f16_11e, f16_11l, f16_12e, f16_15e, f16_16e, f16_16l, f16_17e, f16_18e, f16_19e, f16_19l, hg]
    exact hQ _ _ ⟨rfl, h, .refl ..⟩
  simp only [Bool.false_eq_true, if_false] at hQ
  by_cases h2 : c ∈ conns L
  · rw [if_pos h2] at hQ
    have hk : ∀ z, ∃ t, lookupI (.int .i64) z true st (.map tid) (.lit (.int .i64 c)) = .ok (.tup [.lit (.int .u64 (t : Nat)), .lit (.bool true)]) := fun z => by
      rw [lookI_enc hm, hl]
      have := look_of_mem (k := c) (m := entB L)
      rw [keys_ent] at this
      cases hx : lookP c (entB L) with
      | none => rw [hx] at this; simp [h2] at this
      | some t => exact ⟨t, rfl⟩
    obtain ⟨t, hk⟩ := hk (.lit (.int .u64 0))
    simp -implicitDefEqProofs (maxSteps := 10000000) (disch := omega) only [seqQ_normal, opsK_eq, runI_nil, runI_none, o_mv, o_call, ev_r, ev_c, ev_f, putS, Sf.set, Sf.reg, mask_eq, maskR_nil, maskR_cons, getR, setR, maskL, regs0, id, dis_lit, dis_ptr, List.map_cons, List.map_nil, ↓reduceIte, Nat.reduceEqDiff, reduceCtorEq, Nat.zero_add, f16_1e, f16_2e, f16_2l, f16_3e, f16_4e, f16_5e, f16_6e, f16_6l]
    refine call_p rfl e_f46 hn0 rfl ?_
    simp -implicitDefEqProofs (maxSteps := 10000000) (disch := omega) only [seqQ_normal, seqQ_ret, blockQ_normal, aC_skip, aC_ret, opsK_eq, retQ_ret, retI, runI_nil, runI_none, putP_eq, cond_tt, cond_ff, o_mv, o_bin, o_ext, o_addr, o_load, o_nilck, o_lookup, o_own, extV, loadV, nilckV, addA, derefI, takeI_none, n_lss, wp_ok, bind_ok, ofOpt_some, ev_r, ev_c, setB_r, putS, Sf.set, Sf.reg, mask_eq, maskR_nil, maskR_cons, getR, setR, maskL, Sf.disAt, dis_lit, dis_ptr, dis_map, dis_tup, own2_lit, noL_lit, List.map_cons, List.map_nil, List.getElem?_cons_zero, List.getElem?_cons_succ, List.drop_zero, List.drop_succ_cons, ↓reduceIte, Nat.reduceEqDiff, Bool.true_and, true_and, reduceCtorEq, Nat.zero_add, cond_no, f16_7e, f16_10e, f16_11e, f16_11l, f16_12e, f16_15e, f16_16e, f16_16l, f16_17e, f16_20e, f16_21e, f16_22e, f16_22l, f16_23e, f16_24e, f16_24l, f16_25e, f16_26e, f16_27e, f16_27l, hg, hk]
    exact hQ _ _ ⟨rfl, h, .refl ..⟩
  rw [if_neg h2] at hQ
  have hk : ∀ z, lookupI (.int .i64) z true st (.map tid) (.lit (.int .i64 c)) = .ok (.tup [z, .lit (.bool false)]) := fun z => by
    rw [lookI_enc hm, hl, look_none (by rw [keys_ent]; exact h2)]; rfl
  have hlen := h.len
  simp -implicitDefEqProofs (maxSteps := 10000000) (disch := omega) only [seqQ_normal, opsK_eq, runI_nil, runI_none, o_mv, o_call, ev_r, ev_c, ev_f, putS, Sf.set, Sf.reg, mask_eq, maskR_nil, maskR_cons, getR, setR, maskL, regs0, id, dis_lit, dis_ptr, List.map_cons, List.map_nil, ↓reduceIte, Nat.reduceEqDiff, reduceCtorEq, Nat.zero_add, f16_1e, f16_2e, f16_2l, f16_3e, f16_4e, f16_5e, f16_6e, f16_6l]
  refine call_p rfl e_f46 hn0 rfl ?_
  simp -implicitDefEqProofs (maxSteps := 10000000) (disch := omega) only [h_none, hh_mv, hh_addr, hh_load, hh_nilck, hh_call, val_head, seqQ_normal, blockQ_normal, aC_skip, opsK_eq, runI_nil, runI_none, putP_eq, cond_ff, o_mv, o_bin, o_ext, o_addr, o_load, o_nilck, o_lookup, o_own, extV, loadV, nilckV, addA, derefI, takeI_none, n_lss, wp_ok, bind_ok, ofOpt_some, ev_r, ev_c, ev_f, setB_r, putS, Sf.set, Sf.reg, mask_eq, maskR_nil, maskR_cons, getR, setR, maskL, Sf.disAt, dropL, id, dis_lit, dis_ptr, dis_map, dis_tup, own2_lit, List.map_cons, List.map_nil, List.getElem?_cons_zero, List.getElem?_cons_succ, List.drop_zero, List.drop_succ_cons, ↓reduceIte, Nat.reduceEqDiff, reduceCtorEq, Nat.zero_add, Nat.add_zero, cond_no, f16_7e, f16_10e, f16_11e, f16_11l, f16_12e, f16_15e, f16_16e, f16_16l, f16_17e, f16_20e, f16_21e, f16_22e, f16_22l, f16_23e, f16_24e, f16_24l, f16_25e, f16_28e, f16_29e, f16_30e, f16_30h, f16_30l, hg, hk]
  refine call_h rfl e_f47 hql rfl ?_
  by_cases h3 : L.length = n
  · rw [if_pos h3] at hQ
    simp -implicitDefEqProofs (maxSteps := 10000000) (disch := omega) only [h_nil, h_none, hh_mv, hh_addr, hh_load, hh_nilck, cons_val, val_head, tail_nil, seqQ_normal, seqQ_ret, aC_ret, opsK_eq, retQ_ret, retI, runI_nil, runI_none, putP_eq, o_mv, o_bin, loadV, nilckV, addA, derefI, takeI_none, n_eql, wp_ok, bind_ok, ofOpt_some, ev_r, ev_c, setB_r, putS, Sf.set, Sf.reg, mask_eq, maskR_nil, maskR_cons, getR, setR, maskL, dis_lit, dis_ptr, noL_lit, List.drop_zero, List.drop_succ_cons, ↓reduceIte, Nat.reduceEqDiff, Bool.true_and, true_and, reduceCtorEq, Nat.zero_add, cond_yes, f16_31e, f16_32e, f16_33e, f16_33l, hg]
    exact hQ _ _ ⟨rfl, h, .refl ..⟩
  rw [if_neg h3] at hQ
  simp -implicitDefEqProofs (maxSteps := 10000000) (disch := omega) only [h_nil, h_none, hh_mv, hh_addr, hh_load, hh_nilck, cons_val, val_head, tail_nil, seqQ_normal, aC_skip, opsK_eq, runI_nil, runI_none, putP_eq, o_mv, o_bin, o_addr, o_load, o_nilck, o_call, loadV, nilckV, addA, derefI, takeI_none, n_eql, wp_ok, bind_ok, ofOpt_some, ev_r, ev_f, setB_r, putS, Sf.set, Sf.reg, mask_eq, maskR_nil, maskR_cons, getR, setR, maskL, id, dis_lit, dis_ptr, List.map_cons, List.map_nil, List.drop_zero, List.drop_succ_cons, ↓reduceIte, Nat.reduceEqDiff, reduceCtorEq, Nat.zero_add, Nat.add_zero, cond_no, f16_31e, f16_34e, f16_35e, f16_35l, hg]
  refine call_a rfl e_f48 (qpush_calls (v := c) h.qi (by omega) (by omega)) rfl fun r st1 hr => ?_
  obtain ⟨rfl, hq1, ho1⟩ := hr
  obtain ⟨i1, i2, i3, i4, i5⟩ := h.ids
  have hg1 : st1.get b = _ := (ho1.get (by simp; omega)).trans hg
  have hm1 := hm.oth ho1 (by simp; omega)
  simp -implicitDefEqProofs (maxSteps := 10000000) (disch := omega) only [seqQ_normal, opsK_eq, runI_nil, runI_none, putP_eq, o_mv, o_ext, o_addr, o_load, o_nilck, o_own, o_upd, extV, loadV, nilckV, addA, derefI, takeI_none, wp_ok, bind_ok, ofOpt_some, ev_r, putS, Sf.set, Sf.reg, mask_eq, maskR_nil, maskR_cons, getR, setR, maskL, Sf.disAt, dis_lit, dis_ptr, dis_map, dis_tup, own2_lit, List.map_cons, List.map_nil, List.getElem?_cons_zero, List.getElem?_cons_succ, List.drop_zero, List.drop_succ_cons, ↓reduceIte, Nat.reduceEqDiff, reduceCtorEq, Nat.zero_add, f16_36e, f16_37e, f16_37l, hg1]
  refine upd_step (b := g + 1) hm1 rfl rfl fun st2 hm2 ho2 => ?_
  simp -implicitDefEqProofs (maxSteps := 10000000) (disch := omega) only [seqQ_normal, aC_ret, opsK_eq, retQ_ret, retI, runI_nil, runI_none, o_mv, o_own, wp_ok, ev_r, putS, Sf.set, Sf.reg, mask_eq, maskR_nil, maskR_cons, getR, setR, maskL, Sf.disAt, dis_lit, noL_lit, ↓reduceIte, Nat.reduceEqDiff, Bool.true_and, true_and, reduceCtorEq, f16_38e, f16_39e, f16_39l]
  have ho : Oth st st2 [b, q, mid, tid] := (ho1.mono (by simp)).trans (ho2.mono (by simp))
  have hnd : (keysP (entB L ++ [(c, g + 1)])).Nodup := by
    have := keys_ent (L ++ [(g + 1, c)])
    rw [ent_app] at this
    rw [show entB L ++ [(c, g + 1)] = entB L ++ entB [(g + 1, c)] from rfl, this, conns_app]
    refine List.nodup_append.2 ⟨h.nd, by simp [conns], fun x hx y hy e => ?_⟩
    simp [conns] at hy
    subst hy; subst e; exact h2 hx
  obtain ⟨s1, s2⟩ := look_split (A := entB L) (B := []) hnd
  refine hQ _ _ ⟨rfl, ⟨(ho2.get (by simp; omega)).trans hg1, hq1.oth ho2 (by simp; omega) (by simp; omega), ⟨_, hm2, fun c' => ?_⟩, ?_, ?_, by simp only [List.length_append, List.length_cons, List.length_nil]; omega, h.ids⟩, .oth ho⟩
  · rw [look_upd, hl, ent_app]
    by_cases e : c' = c
    · rw [if_pos e, e]; exact s1.symm
    · have := s2 c'
      rw [if_neg e, List.append_nil] at this
      rw [if_neg e, this]; rfl
  · have := keys_ent (L ++ [(g + 1, c)])
    rw [← this, ent_app]; exact hnd
  · intro x hx
    rw [conns_app] at hx
    rcases List.mem_append.1 hx with hx | hx
    · exact h.pos x hx
    · simp [conns] at hx; omega
end
end Go.Fx.YtddifejdkiemgaaFx

