/- What the functions that the statement reaches compute: part 8. -/
import Derived.Test.YtddifejdkiemgaaFxW7
namespace Go.Fx.YtddifejdkiemgaaFx
open Go Go.Fx
attribute [local irreducible] aC runI headI loopI

set_option maxRecDepth 100000
set_option maxHeartbeats 4000000

theorem lsame_pure (f g : List Int) (hf : f.length ≤ 1000000) (hg : g.length ≤ 1000000) (st : St) : PCalls Go.Proofs.Try.prog n_f25 [.sl false 1 (ints f), .sl false 1 (ints g)] st (.lit (.bool (decide (f = g)))) := by
  refine pcalls_id hmix k_f25 rfl rfl fun Q hQ => ?_
  unfold aFun c_f25
  have hfl := ints_len f
  have hgl := ints_len g
  by_cases hfg : f.length = g.length
  · simp -implicitDefEqProofs (maxSteps := 10000000) (disch := omega) only [seqQ_normal, aC_skip, opsK_eq, runI_nil, runI_none, putP_eq, o_mv, o_bin, o_len, lenI, n_neq, wp_ok, ev_r, ev_c, setB_r, putS, Sf.set, Sf.reg, mask_eq, maskR_nil, maskR_cons, getR, setR, maskL, regs0, dis_lit, dis_sl, ↓reduceIte, Nat.reduceEqDiff, reduceCtorEq, Nat.zero_add, cond_no, f25_1e, f25_2e, f25_2l, f25_3e, f25_4e, f25_5e, f25_5l, f25_6e, f25_9e, f25_10e, f25_11e, f25_11l, f25_12e, hfl, hgl]
    rw [f25_13w]
    refine loop_op (A := Nat) (fun a => f.length - a) (fun a => ⟨[(0, .sl false 1 (ints f)), (1, .sl false 1 (ints g)), (5, .lit (.int .i64 (a : Nat)))], []⟩) (fun _ => st)
      (fun a => a ≤ f.length ∧ f.take a = g.take a) 0 ⟨by omega, rfl⟩ (Sf.le_refl _) rfl ?_
    rintro i ⟨h1, h2⟩ K hK hKe hKr
    by_cases h : i < f.length
    · have hj : i < g.length := by omega
      have e1 : (ints f).getD i .any = .lit (.int .i64 f[i]) := by simp [ints, List.getD, h]
      have e2 : (ints g).getD i .any = .lit (.int .i64 g[i]) := by simp [ints, List.getD, hj]
      by_cases h3 : f[i] = g[i]
      · rw [h3] at e1
        simp -implicitDefEqProofs (maxSteps := 10000000) (disch := omega) only [h_nil, h_none, hh_mv, hh_ixS, hh_load, val_head, tail_nil, seqQ_normal, blockQ_normal, aC_skip, opsK_eq, runI_nil, runI_none, putP_eq, cond_ff, o_mv, o_bin, o_len, o_own, ixSV, loadV, ixA, lenI, derefI, takeI_none, n_add, n_neq, n_lss, wp_ok, bind_ok, bind_req, ev_r, ev_c, setB_r, putS, Sf.set, Sf.reg, mask_eq, maskR_nil, maskR_cons, getR, setR, maskL, Sf.disAt, dropL, dis_lit, dis_sl, cells_lit, Int.toNat_natCast, ↓reduceIte, Nat.reduceEqDiff, reduceCtorEq, not_true_eq_false, decide_false, req_dec, cond_yes, IntWalk.i64_in, up_addL, and_pre, f25_14e, f25_15e, f25_16e, f25_16l, f25_17e, f25_18e, f25_19e, f25_20e, f25_21e, f25_21h, f25_21l, f25_22e, f25_25e, f25_25l, e1, e2, hfl, hgl]
        refine hK (i + 1) _ ⟨by omega, ?_⟩ (by omega) (Sf.le_refl _)
        rw [List.take_succ_eq_append_getElem h, List.take_succ_eq_append_getElem hj, h2, h3]
      · simp -implicitDefEqProofs (maxSteps := 10000000) (disch := omega) only [h_nil, h_none, hh_mv, hh_ixS, hh_load, val_head, tail_nil, seqQ_normal, seqQ_ret, blockQ_ret, aC_skip, aC_ret, opsK_eq, runI_nil, runI_none, putP_eq, o_mv, o_bin, o_len, ixSV, loadV, ixA, lenI, derefI, takeI_none, n_neq, n_lss, wp_ok, bind_ok, bind_req, ev_r, ev_c, setB_r, putS, Sf.set, Sf.reg, mask_eq, maskR_nil, maskR_cons, getR, setR, maskL, dropL, dis_lit, dis_sl, cells_lit, Int.toNat_natCast, ↓reduceIte, Nat.reduceEqDiff, reduceCtorEq, req_dec, cond_yes, and_pre, f25_14e, f25_15e, f25_16e, f25_16l, f25_17e, f25_18e, f25_19e, f25_20e, f25_21e, f25_21h, f25_21l, f25_22e, f25_23e, f25_24e, f25_24l, e1, e2, hfl, hgl]
        have : false = decide (f = g) := by
          symm; rw [decide_eq_false_iff_not]
          rintro rfl; exact h3 rfl
        rw [← this] at hQ
        refine hKr _ _ ?_
        simp -implicitDefEqProofs (maxSteps := 10000000) (disch := omega) only [seqQ_ret, blockQ_ret, retQ_ret, retI, wp_ok, Sf.reg, getR, noL_lit, ↓reduceIte, Bool.true_and, true_and]
        exact hQ _
    · simp -implicitDefEqProofs (maxSteps := 10000000) (disch := omega) only [seqQ_normal, seqQ_exit, aC_exit, opsK_eq, runI_nil, runI_none, putP_eq, o_mv, o_bin, o_len, lenI, n_lss, wp_ok, ev_r, setB_r, putS, Sf.set, Sf.reg, mask_eq, maskR_nil, maskR_cons, getR, setR, maskL, dis_lit, dis_sl, ↓reduceIte, Nat.reduceEqDiff, reduceCtorEq, cond_no, f25_14e, f25_15e, f25_16e, f25_16l, f25_17e, hfl]
      refine hKe _ _ _ ?_
      simp -implicitDefEqProofs (maxSteps := 10000000) (disch := omega) only [seqQ_normal, blockQ_exit, aC_ret, opsK_eq, retQ_ret, retI, runI_nil, runI_none, o_mv, wp_ok, ev_c, putS, Sf.set, Sf.reg, mask_eq, maskR_nil, maskR_cons, getR, setR, maskL, dis_lit, noL_lit, ↓reduceIte, Bool.true_and, true_and, f25_26e, f25_27e, f25_27l]
      have : true = decide (f = g) := by
        symm; rw [decide_eq_true_iff]
        have e : i = f.length := by omega
        rw [e, List.take_length, hfg, List.take_length] at h2
        exact h2
      rw [← this] at hQ
      exact hQ _
  · simp -implicitDefEqProofs (maxSteps := 10000000) (disch := omega) only [seqQ_normal, seqQ_ret, aC_ret, opsK_eq, retQ_ret, retI, runI_nil, runI_none, putP_eq, o_mv, o_bin, o_len, lenI, n_neq, wp_ok, ev_r, ev_c, setB_r, putS, Sf.set, Sf.reg, mask_eq, maskR_nil, maskR_cons, getR, setR, maskL, regs0, dis_lit, dis_sl, noL_lit, ↓reduceIte, Nat.reduceEqDiff, Bool.true_and, true_and, reduceCtorEq, Nat.zero_add, cond_yes, f25_1e, f25_2e, f25_2l, f25_3e, f25_4e, f25_5e, f25_5l, f25_6e, f25_7e, f25_8e, f25_8l, hfl, hgl]
    have : false = decide (f = g) := by
      symm; rw [decide_eq_false_iff_not]
      rintro rfl; exact hfg rfl
    rw [← this] at hQ
    exact hQ _

theorem lAV_le (l : List Int) : (lAV l).le (.sl false 1 (ints l)) := by
  unfold lAV
  split
  · rename_i h; subst h; exact .nil _ _
  · exact .refl _
theorem lAV_facts (l : List Int) : (lAV l).dis = lAV l ∧ (lAV l).noL = true ∧ (lAV l).own1 = lAV l ∧ (lAV l).own2 = lAV l ∧ (lAV l).keep = lAV l ∧ (lAV l).solid1 = true := by
  unfold lAV
  split <;> exact ⟨rfl, rfl, rfl, rfl, rfl, rfl⟩
theorem lsame_l (f g : List Int) (hf : f.length ≤ 1000000) (hg : g.length ≤ 1000000) (st : St) : PCalls Go.Proofs.Try.prog n_f25 [lAV f, lAV g] st (.lit (.bool (decide (f = g)))) :=
  (lsame_pure f g hf hg st).weak ⟨lAV_le f, lAV_le g, trivial⟩ (.refl _)
theorem lsame_r (f g : List Int) (hf : f.length ≤ 1000000) (hg : g.length ≤ 1000000) (st : St) : PCalls Go.Proofs.Try.prog n_f25 [lAV f, .sl false 1 (ints g)] st (.lit (.bool (decide (f = g)))) :=
  (lsame_pure f g hf hg st).weak ⟨lAV_le f, .refl _, trivial⟩ (.refl _)

/-- A call that changes nothing, behind one that does. -/
theorem call_1 {P : Program} {ρ : St} {q : FuncId} {fs cs args vs : List AV} {d : Option Nat} {sf : Sf} {C : PK → Sf → Prop} {v : AV} (hvs : fs ++ args.map AV.dis ++ cs = vs) (hent : enterB P q = true) (h : ∀ s, St.sub ρ s → PCalls P q vs s v) (hn : args.all AV.noL = true) (hK : valM C d sf v) : callM1 P ρ d (.fn (.func q) fs cs) args C sf := by
  subst hvs
  exact ⟨hn, hent, v, h, hK⟩
theorem sub_at {ρ s : St} (h : St.sub ρ s) {i : Nat} {b : Box} (hb : ρ.boxes[i]? = some (some b)) : s.boxes[i]? = ρ.boxes[i]? := by rw [h i b hb, hb]
theorem get_box {st : St} {i : Nat} {cs : List AV} (h : st.get i = some cs) : st.boxes[i]? = some (some (.cells cs)) := by
  unfold St.get at h
  split at h
  · rename_i x e; cases h; exact e
  · cases h
theorem getM_box {st : St} {i : Nat} {es : List (AV × AV)} (h : st.getM i = some es) : ∃ b, st.boxes[i]? = some (some b) := by
  unfold St.getM at h
  split at h
  · rename_i x y z e; exact ⟨_, e⟩
  · cases h

section
variable {st : St} {b q mid tid n g : Nat} {cl : Bool} {L : Qu}

theorem BkIs.sub {s : St} (h : BkIs st b q mid tid n cl L g) (hs : St.sub st s) : BkIs s b q mid tid n cl L g := by
  refine h.at fun i hi => ?_
  obtain ⟨m, hm, _⟩ := h.ti
  obtain ⟨m', hm', _⟩ := h.qi.mp
  obtain ⟨b1, e1⟩ := getM_box hm.get
  obtain ⟨b2, e2⟩ := getM_box hm'.get
  simp only [List.mem_cons, List.not_mem_nil, or_false] at hi
  rcases hi with rfl | rfl | rfl | rfl
  · exact sub_at hs (get_box h.get)
  · exact sub_at hs (get_box h.qi.get)
  · exact sub_at hs e2
  · exact sub_at hs e1

theorem bpops_true (h : BkIs st b q mid tid n cl L g) (hg0 : g < 1000000) {v e : Int} {L' : Qu} (hv : bPop cl L = (L', v, e)) : ACalls Go.Proofs.Try.prog n_f18 [.ptr b 0, .lit (.int .i64 v), .lit (.int .i64 e)] st (fun r st' =>
    r = .lit (.bool true) ∧ BkIs st' b q mid tid n cl L' g ∧ BkFr st st' b q mid tid) := by
  have hp := bpop_calls h hg0
  rw [hv] at hp
  refine acalls_op hmix k_f18 rfl rfl fun Q hQ => ?_
  unfold aFun c_f18
  simp -implicitDefEqProofs (maxSteps := 10000000) (disch := omega) only [seqQ_normal, opsK_eq, runI_nil, runI_none, o_mv, o_call, ev_r, ev_c, ev_f, putS, Sf.set, Sf.reg, mask_eq, maskR_nil, maskR_cons, getR, setR, maskL, regs0, id, dis_lit, dis_ptr, List.map_cons, List.map_nil, ↓reduceIte, Nat.reduceEqDiff, Nat.reduceAdd, reduceCtorEq, Nat.zero_add, f18_1e, f18_2e, f18_2l, f18_3e, f18_4e, f18_4l]
  refine call_a rfl e_f20 hp rfl fun r st1 hr => ?_
  obtain ⟨rfl, h1, h2⟩ := hr
  simp -implicitDefEqProofs (maxSteps := 10000000) (disch := omega) only [seqQ_normal, aC_ret, opsK_eq, retQ_ret, retI, runI_nil, runI_none, runI_some, AI.dst, putP_eq, guard_tt, o_mv, o_pick, o_bin, o_ext, o_own, pick_tt, extV, n_eql, wp_ok, bind_ok, ofOpt_some, ev_r, ev_c, putS, Sf.set, Sf.reg, mask_eq, maskR_nil, maskR_cons, getR, setR, maskL, Sf.disAt, dis_lit, dis_tup, own2_lit, noL_lit, List.map_cons, List.map_nil, List.getElem?_cons_zero, List.getElem?_cons_succ, ↓reduceIte, Nat.reduceEqDiff, Bool.true_and, true_and, reduceCtorEq, decide_true, f18_5e, f18_6e, f18_6l]
  exact hQ _ _ ⟨rfl, h1, h2⟩

/-- The law's own backlog. -/
def kAV (n : Nat) (l : List Int) (cl : Bool) : AV := .agg [.lit (.int .i64 (n : Nat)), lAV l, .lit (.bool cl)]
theorem bis_true (h : BkIs st b q mid tid n cl L g) (hn : n ≤ 4000) (hcl : cl = true → L = []) : ACalls Go.Proofs.Try.prog n_f15 [.ptr b 0, kAV n (conns L) cl] st (fun r st' =>
    r = .lit (.bool true) ∧ st.boxes.length ≤ st'.boxes.length ∧ ∀ i, i < st.boxes.length → st'.boxes[i]? = st.boxes[i]?) := by
  obtain ⟨w1, w2, w3, w4, w5, w6⟩ := lAV_facts (conns L)
  have hlen := h.len
  have hcl2 : (conns L).length = L.length := by simp [conns]
  have hll : ∀ st, lenI .sl st (lAV (conns L)) = .ok (.lit (.int .i64 (L.length : Nat))) := fun st => by
    rw [← hcl2]
    unfold lAV
    split
    · rename_i e; rw [e]; rfl
    · simp [lenI, ints_len]
  have hw := bwaiting_calls h (by omega)
  have hs : ∀ st, PCalls Go.Proofs.Try.prog n_f25 [lAV (conns L), lAV (conns L)] st (.lit (.bool true)) := fun st => by have := lsame_l (conns L) (conns L) (by omega) (by omega) st; simpa using this
  refine acalls_op hmix k_f15 rfl rfl fun Q hQ => ?_
  unfold aFun c_f15
  have hr := fun s (hs : St.sub st s) => broom_pure (h.sub hs) hn
  have hm := fun s (hs : St.sub st s) => bmost_pure (h.sub hs)
  have hL0 : cl = true → (conns L).length = 0 := fun e => by rw [hcl e]; rfl
  cases cl
  · simp only [Bool.false_eq_true, if_false] at hr
    simp -implicitDefEqProofs (maxSteps := 10000000) (disch := omega) only [seqQ_normal, aC_skip, opsK_eq, runI_nil, runI_none, putP_eq, cond_ff, o_mv, o_bin, o_addr, o_load, o_len, o_own, o_boxL, loadV, boxX, addA, derefI, takeI_none, n_sub, wp_ok, bind_ok, ofOpt_some, ev_r, ev_c, evOwn_r, setB_r, putS, Sf.set, Sf.reg, mask_eq, maskR_nil, maskR_cons, getR, setR, maskL, Sf.disAt, Sf.newLoc, look, killR, drop1, regs0, dis_lit, dis_ptr, dis_agg, own1_lit, cells_agg, solid1_lit, solid_eq, kill_ptr, kill_agg, List.map_cons, List.map_nil, List.length_cons, List.length_nil, List.all_cons, List.all_nil, List.drop_zero, List.drop_succ_cons, ↓reduceIte, Nat.reduceEqDiff, Nat.reduceAdd, Bool.true_and, Bool.and_true, and_true, true_and, reduceCtorEq, Nat.zero_add, Nat.add_zero, IntWalk.i64_in, up_sub, f15_1e, f15_2e, f15_2l, f15_3e, f15_4e, f15_4l, f15_5e, f15_6e, f15_7e, f15_7l, f15_8e, f15_10e, f15_11e, f15_11h, f15_11p, f15_11l, kAV, w1, w3, w6, hll]
    refine draw_s ?_
    simp -implicitDefEqProofs (maxSteps := 10000000) (disch := omega) only [List.contains_nil, m_nil, m_none, m_val, mm_mv, atM_eq, dropM, dropP, dropQ, aiDrop, ev_r, ev_f, putS, Sf.set, Sf.reg, getR, setR, dropL, id, dis_ptr, List.map_cons, List.map_nil, List.append_nil, List.nil_append, ↓reduceIte, Nat.reduceEqDiff, reduceCtorEq, Bool.false_eq_true]
    refine call_m rfl e_f19 hw rfl ?_
    simp -implicitDefEqProofs (maxSteps := 10000000) (disch := omega) only [List.contains_nil, ksB, storesOf, newsOf, appsOf, distinctB, nstB, nstsOf, mm_addr, mm_load, hm_nil, hm_hole, hm_none, hm_val, holeK_eq, AI.dst, loadV, addA, derefI, takeI_none, wp_ok, bind_ok, ofOpt_some, ev_r, putS, Sf.set, Sf.reg, getR, setR, look, List.all_nil, List.nil_append, List.cons_append, List.drop_zero, List.drop_succ_cons, ↓reduceIte, Nat.reduceEqDiff, Bool.true_and, Bool.and_true, and_true, true_and, reduceCtorEq, Nat.zero_add, Bool.not_false, w1]
    rintro r st1 ⟨rfl, hl1, hk1⟩
    refine ⟨St.sub_of hk1, ?_⟩
    simp -implicitDefEqProofs (maxSteps := 10000000) (disch := omega) only [m_none, m_val, mm_addr, mm_load, mm_call, loadV, addA, derefI, takeI_none, wp_ok, bind_ok, ofOpt_some, ev_r, ev_f, putS, Sf.set, Sf.reg, getR, setR, look, id, List.map_cons, List.map_nil, List.nil_append, List.cons_append, List.drop_zero, List.drop_succ_cons, ↓reduceIte, Nat.reduceEqDiff, reduceCtorEq, Nat.zero_add, w1]
    refine call_1 (by simp only [List.map_cons, List.map_nil, List.nil_append, List.append_nil, w1]) e_f25 (fun s _ => hs s) (by simp [w2]) ?_
    simp -implicitDefEqProofs (maxSteps := 10000000) (disch := omega) only [m_none, m_some, m_val, mm_mv, mm_call, guardH_tt, AI.dst, ev_r, ev_f, putS, Sf.set, Sf.reg, getR, setR, id, dis_lit, dis_ptr, List.map_cons, List.map_nil, List.nil_append, List.cons_append, ↓reduceIte, Nat.reduceEqDiff, reduceCtorEq]
    refine call_1 rfl e_f26 hm rfl ?_
    simp -implicitDefEqProofs (maxSteps := 10000000) (disch := omega) only [m_none, m_some, m_val, mm_mv, mm_pick, mm_bin, mm_addr, mm_load, mm_call, guardH_tt, AI.dst, pick_tt, loadV, addA, derefI, takeI_none, n_eql, wp_ok, bind_ok, ofOpt_some, ev_r, ev_c, ev_f, putS, Sf.set, Sf.reg, getR, setR, look, id, dis_lit, dis_ptr, List.map_cons, List.map_nil, List.nil_append, List.cons_append, List.drop_zero, ↓reduceIte, Nat.reduceEqDiff, reduceCtorEq, Nat.add_zero, decide_true]
    refine call_1 rfl e_f17 hr rfl ?_
    simp -implicitDefEqProofs (maxSteps := 10000000) (disch := omega) only [List.contains_nil, ksB, storesOf, newsOf, appsOf, distinctB, finSS, finNN, nstB, nstsOf, m_nil, m_some, m_val, mm_mv, postM_eq, compM_nil, compM_t, compM_f, tailM_eq, finK_eq, guardH_tt, and_self, seqQ_normal, aC_ret, opsK_eq, retQ_ret, retI, runI_nil, runI_none, runI_some, AI.dst, putP_eq, guard_tt, o_pick, o_bin, o_own, pick_tt, n_eql, wp_ok, ev_r, ev_c, putS, Sf.set, Sf.reg, mask_eq, maskR_nil, maskR_cons, getR, setR, maskL, Sf.disAt, dis_lit, noL_lit, List.all_nil, List.nil_append, List.cons_append, ↓reduceIte, Nat.reduceEqDiff, Bool.true_and, Bool.and_true, and_true, true_and, reduceCtorEq, decide_true, Bool.not_false]
    exact hQ _ _ ⟨rfl, hl1, hk1⟩
  · simp only [if_true] at hr
    simp -implicitDefEqProofs (maxSteps := 10000000) (disch := omega) only [seqQ_normal, opsK_eq, runI_nil, runI_none, putP_eq, cond_tt, o_mv, o_bin, o_addr, o_load, o_len, o_own, o_boxL, loadV, boxX, addA, derefI, takeI_none, n_sub, wp_ok, bind_ok, ofOpt_some, ev_r, ev_c, evOwn_r, setB_r, putS, Sf.set, Sf.reg, mask_eq, maskR_nil, maskR_cons, getR, setR, maskL, Sf.disAt, Sf.newLoc, look, killR, drop1, regs0, dis_lit, dis_ptr, dis_agg, own1_lit, cells_agg, solid1_lit, solid_eq, kill_ptr, kill_agg, List.map_cons, List.map_nil, List.length_cons, List.length_nil, List.all_cons, List.all_nil, List.drop_zero, List.drop_succ_cons, ↓reduceIte, Nat.reduceEqDiff, Nat.reduceAdd, Bool.true_and, Bool.and_true, and_true, true_and, reduceCtorEq, Nat.zero_add, Nat.add_zero, IntWalk.i64_in, up_sub, f15_1e, f15_2e, f15_2l, f15_3e, f15_4e, f15_4l, f15_5e, f15_6e, f15_7e, f15_7l, f15_8e, f15_9e, f15_9l, f15_10e, f15_11e, f15_11h, f15_11p, f15_11l, kAV, w1, w3, w6, hll]
    refine draw_s ?_
    simp -implicitDefEqProofs (maxSteps := 10000000) (disch := omega) only [List.contains_nil, m_nil, m_none, m_val, mm_mv, atM_eq, dropM, dropP, dropQ, aiDrop, ev_r, ev_f, putS, Sf.set, Sf.reg, getR, setR, dropL, id, dis_ptr, List.map_cons, List.map_nil, List.append_nil, List.nil_append, ↓reduceIte, Nat.reduceEqDiff, reduceCtorEq, Bool.false_eq_true]
    refine call_m rfl e_f19 hw rfl ?_
    simp -implicitDefEqProofs (maxSteps := 10000000) (disch := omega) only [List.contains_nil, ksB, storesOf, newsOf, appsOf, distinctB, nstB, nstsOf, mm_addr, mm_load, hm_nil, hm_hole, hm_none, hm_val, holeK_eq, AI.dst, loadV, addA, derefI, takeI_none, wp_ok, bind_ok, ofOpt_some, ev_r, putS, Sf.set, Sf.reg, getR, setR, look, List.all_nil, List.nil_append, List.cons_append, List.drop_zero, List.drop_succ_cons, ↓reduceIte, Nat.reduceEqDiff, Bool.true_and, Bool.and_true, and_true, true_and, reduceCtorEq, Nat.zero_add, Bool.not_false, w1]
    rintro r st1 ⟨rfl, hl1, hk1⟩
    refine ⟨St.sub_of hk1, ?_⟩
    simp -implicitDefEqProofs (maxSteps := 10000000) (disch := omega) only [m_none, m_val, mm_addr, mm_load, mm_call, loadV, addA, derefI, takeI_none, wp_ok, bind_ok, ofOpt_some, ev_r, ev_f, putS, Sf.set, Sf.reg, getR, setR, look, id, List.map_cons, List.map_nil, List.nil_append, List.cons_append, List.drop_zero, List.drop_succ_cons, ↓reduceIte, Nat.reduceEqDiff, reduceCtorEq, Nat.zero_add, w1]
    refine call_1 (by simp only [List.map_cons, List.map_nil, List.nil_append, List.append_nil, w1]) e_f25 (fun s _ => hs s) (by simp [w2]) ?_
    simp -implicitDefEqProofs (maxSteps := 10000000) (disch := omega) only [m_none, m_some, m_val, mm_mv, mm_call, guardH_tt, AI.dst, ev_r, ev_f, putS, Sf.set, Sf.reg, getR, setR, id, dis_lit, dis_ptr, List.map_cons, List.map_nil, List.nil_append, List.cons_append, ↓reduceIte, Nat.reduceEqDiff, reduceCtorEq]
    refine call_1 rfl e_f26 hm rfl ?_
    simp -implicitDefEqProofs (maxSteps := 10000000) (disch := omega) only [m_none, m_some, m_val, mm_mv, mm_pick, mm_bin, mm_addr, mm_load, mm_call, guardH_tt, AI.dst, pick_tt, loadV, addA, derefI, takeI_none, n_eql, wp_ok, bind_ok, ofOpt_some, ev_r, ev_c, ev_f, putS, Sf.set, Sf.reg, getR, setR, look, id, dis_lit, dis_ptr, List.map_cons, List.map_nil, List.nil_append, List.cons_append, List.drop_zero, ↓reduceIte, Nat.reduceEqDiff, reduceCtorEq, Nat.add_zero, decide_true]
    refine call_1 rfl e_f17 hr rfl ?_
    simp -implicitDefEqProofs (maxSteps := 10000000) (disch := omega) only [List.contains_nil, ksB, storesOf, newsOf, appsOf, distinctB, finSS, finNN, nstB, nstsOf, m_nil, m_some, m_val, mm_mv, postM_eq, compM_nil, compM_t, compM_f, tailM_eq, finK_eq, guardH_tt, and_self, seqQ_normal, aC_ret, opsK_eq, retQ_ret, retI, runI_nil, runI_none, runI_some, AI.dst, putP_eq, guard_tt, o_pick, o_bin, o_own, pick_tt, n_eql, wp_ok, ev_r, ev_c, putS, Sf.set, Sf.reg, mask_eq, maskR_nil, maskR_cons, getR, setR, maskL, Sf.disAt, dis_lit, noL_lit, List.all_nil, List.nil_append, List.cons_append, Int.cast_ofNat_Int, ↓reduceIte, Nat.reduceEqDiff, Bool.true_and, Bool.and_true, and_true, true_and, reduceCtorEq, decide_true, Bool.not_false]
    exact hQ _ _ ⟨rfl, hl1, hk1⟩
end
end Go.Fx.YtddifejdkiemgaaFx

