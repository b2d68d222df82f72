/- What the functions that the statement reaches compute: part 16. -/
import Derived.Test.YtenijlfcfmhmkaaFxW15
namespace Go.Fx.YtenijlfcfmhmkaaFx
open Go Go.Fx
attribute [local irreducible] aC runI headI loopI

set_option maxRecDepth 100000
set_option maxHeartbeats 4000000

theorem iter_rounds {stop : Int} {X : AV} {L L0 : Qu} {g g0 b0 q mid o q' mid' : Nat} {st0 : St} (hX : OrNil L X) (hI0 : ItI st0 stop X L L0 g g0 0 b0 q mid o q' mid') (hb : L.length ≤ 60) (hL0 : L0.length ≤ 60) (hg0 : g0 ≤ 60) (Q : Exit → Sf → St → Prop)
    (hQ : ∀ st, st.get 1 = some [.lit (.bool false)] → Q (.exit 2) ⟨[(4, .ptr 1 0)], []⟩ st) :
    aC Go.Proofs.Try.prog id false f6_44 ⟨[(3, .ptr 0 0), (4, .ptr 1 0), (5, .ptr q 0), (6, .ptr 4 0), (9, .fn (.func n_f55) [] [.ptr o 0]), (10, .ptr b0 0), (46, .any), (47, .any)], []⟩ st0 Q := by
  rw [f6_44w]
  refine loop_op (A := Nat × Nat × Qu × Nat × St) (fun a => 2 - a.1) (fun a => ⟨[(3, .ptr 0 0), (4, .ptr 1 0), (5, .ptr q 0), (6, .ptr 4 0), (9, .fn (.func n_f55) [] [.ptr o 0]), (10, .ptr a.2.1 0), (46, .any), (47, .any)], []⟩) (fun a => a.2.2.2.2)
    (fun a => a.1 ≤ 2 ∧ ItI a.2.2.2.2 stop X L a.2.2.1 g a.2.2.2.1 a.1 a.2.1 q mid o q' mid' ∧ a.2.2.1.length ≤ 60 + a.1 ∧ a.2.2.2.1 ≤ 60 + a.1) (0, b0, L0, g0, st0) ⟨by simp, hI0, hL0, hg0⟩ (Sf.le_refl _) rfl ?_
  rintro ⟨k, b, L', g', st⟩ ⟨h1, h2, h3, h4⟩ K hK hKe hKr
  simp only at h1 h2 h3 h4
  have gk := h2.hk
  have gb := get_lt gk
  by_cases hk : k < 2
  · simp -implicitDefEqProofs (maxSteps := 10000000) (disch := omega) only [seqQ_normal, aC_skip, opsK_eq, runI_nil, runI_none, putP_eq, o_mv, o_bin, o_load, o_newB, o_store, loadV, boxX, writeX, derefI, takeI_none, n_lss, wp_ok, bind_ok, ofOpt_some, ev_r, ev_c, evOwn_c, disOp_c, setB_r, putS, Sf.set, Sf.reg, mask_eq, maskR_nil, maskR_cons, getR, setR, maskL, dis_lit, dis_fn, cells_lit, solid1_lit, solid_eq, List.length_cons, List.length_nil, List.all_cons, List.all_nil, List.drop_zero, List.set_cons_zero, ↓reduceIte, Nat.reduceEqDiff, Nat.reduceLeDiff, Bool.true_and, Bool.and_true, and_true, true_and, Nat.zero_add, cond_yes, get_push, set_push, setAt_nil, setAt_cons, f6_45e, f6_46e, f6_47e, f6_47l, f6_48e, f6_49e, f6_50e, f6_51e, f6_52e, f6_52l, f6_53e, f6_54e, f6_55e, f6_55l, f6_56e, gk]
    refine iter_range hX h2 hb _ fun st1 c ho hc hk0 hk1 e he => ?_
    have h5 := h2.at ho
    have gk1 := h5.hk
    have gx1 := h5.hx
    have gs1 := h5.hs
    obtain ⟨x1, x2, x3, x4, x5, x6⟩ := hX.noL
    have hxl := hX.len
    have hcl := get_lt hc
    have fin : ∀ st3 L'' g'', QIs st3 q mid L'' g'' → Oth st1 st3 [q, mid] → L''.length ≤ 61 + k → g'' ≤ 61 + k → st3.get b = some [.lit (.int .i64 (k : Nat))] ∧
        K .normal ⟨[(3, .ptr 0 0), (4, .ptr 1 0), (5, .ptr q 0), (6, .ptr 4 0), (9, .fn (.func n_f55) [] [.ptr o 0]), (10, .ptr st3.boxes.length 0), (46, .any), (47, .any)], []⟩ (st3.push (.cells [.lit (.int .i64 ((k + 1 : Nat)))])) := fun st3 L'' g'' a1 a2 a3 a4 => by
      have nb : ∀ i, i ≠ q ∧ i ≠ mid → i ∉ [q, mid] := fun i hi => by simp [hi.1, hi.2]
      have hn := h5.nq
      have gb3 := (a2.get (nb b (hn b (by simp)))).trans h5.hk
      refine ⟨gb3, hK (k + 1, st3.boxes.length, L'', g'', _) _ ⟨by simp only; omega, ?_, by simp only; omega, by simp only; omega⟩ (by simp only; omega) (Sf.le_refl _)⟩
      have l0 := get_lt ((a2.get (nb 0 (hn 0 (by simp)))).trans h5.hs)
      have hp : ∀ i, i < st3.boxes.length → (st3.push (.cells [.lit (.int .i64 ((k + 1 : Nat)))])).boxes[i]? = st3.boxes[i]? := fun i hi => push_at hi
      have hg : ∀ {i : Nat} {cs : List AV}, i ∈ [0, 1, 4, b, o, q', mid'] → st1.get i = some cs → (st3.push (.cells [.lit (.int .i64 ((k + 1 : Nat)))])).get i = some cs := fun {i cs} hi he => by
        have := (a2.get (nb i (hn i hi))).trans he
        rw [get_at (hp _ (get_lt this))]; exact this
      have c1 := a2.2 q' (nb q' (hn q' (by simp)))
      have c2 := a2.2 mid' (nb mid' (hn mid' (by simp)))
      have c3 := h5.hc.at c1 c2
      refine ⟨hg (by simp) h5.hs, hg (by simp) h5.hr, hg (by simp) h5.hx, get_push .., hg (by simp) h5.ho, c3.at (hp _ c3.ltq) (hp _ c3.ltm), a1.at (hp _ a1.ltq) (hp _ a1.ltm), fun i hi => ?_⟩
      have q1 := a1.ltq
      have q2 := a1.ltm
      by_cases hi2 : i = st3.boxes.length
      · omega
      · refine hn i ?_
        simp only [List.mem_cons, List.not_mem_nil, or_false] at hi ⊢
        omega
    by_cases hkz : k = 0
    all_goals rcases he with rfl | rfl
    all_goals
      first
        | have k1 : decide ((k : Int) = 0) = true := decide_eq_true (by omega)
          simp -implicitDefEqProofs (maxSteps := 10000000) (disch := omega) only [seqQ_normal, blockQ_normal, blockQ_exit, aC_skip, opsK_eq, runI_nil, runI_none, runI_some, skipI_eq, AI.dst, putP_eq, cond_ff, guard_tt, guard_ff, o_mv, o_pick, o_bin, o_addr, o_load, o_len, o_mn, o_call, pick_tt, pick_ff, loadV, addA, derefI, takeI_none, minmaxA, n_eql, n_neq, wp_ok, bind_ok, ofOpt_some, ev_r, ev_c, ev_f, setB_r, putS, Sf.set, Sf.reg, mask_eq, maskR_nil, maskR_cons, getR, setR, maskL, id, dis_lit, dis_ptr, List.map_cons, List.map_nil, List.drop_zero, ↓reduceIte, Nat.reduceEqDiff, Nat.add_zero, Bool.false_eq_true, guard_no, f6_73e, f6_74e, f6_75e, f6_75l, f6_76e, f6_79e, f6_80e, f6_80l, gk1, gx1, gs1, hc, k1, x2, hxl]
        | have k1 : decide ((k : Int) = 0) = false := decide_eq_false (by omega)
          have k2 : decide ((k : Int) = 1) = true := decide_eq_true (by omega)
          have hcc := hk1 hkz
          subst hcc
          simp -implicitDefEqProofs (maxSteps := 10000000) (disch := omega) only [seqQ_normal, blockQ_normal, blockQ_exit, aC_skip, opsK_eq, runI_nil, runI_none, runI_some, skipI_eq, AI.dst, putP_eq, cond_ff, guard_tt, guard_ff, o_mv, o_pick, o_bin, o_addr, o_load, o_len, o_call, pick_tt, pick_ff, loadV, addA, derefI, takeI_none, n_eql, n_neq, wp_ok, bind_ok, ofOpt_some, ev_r, ev_c, ev_f, setB_r, putS, Sf.set, Sf.reg, mask_eq, maskR_nil, maskR_cons, getR, setR, maskL, id, dis_lit, dis_ptr, List.map_cons, List.map_nil, List.drop_zero, ↓reduceIte, Nat.reduceEqDiff, Nat.add_zero, not_true_eq_false, decide_false, Bool.false_eq_true, f6_73e, f6_74e, f6_75e, f6_75l, f6_76e, f6_79e, f6_80e, f6_80l, gk1, gx1, hc, k1, k2, x2, hxl]
      rcases L' with _ | ⟨⟨u, y⟩, B⟩
      · refine call_a rfl e_f31 (qpop_nil h5.hq) rfl fun r st2 hr => ?_
        obtain ⟨rfl, rfl⟩ := hr
        simp -implicitDefEqProofs (maxSteps := 10000000) (disch := omega) only [seqQ_normal, opsK_eq, runI_nil, runI_none, o_mv, o_call, ev_r, ev_c, ev_f, putS, Sf.set, Sf.reg, mask_eq, maskR_nil, maskR_cons, getR, setR, maskL, id, dis_ptr, List.map_cons, List.map_nil, ↓reduceIte, Nat.reduceEqDiff, f6_81e, f6_81l]
        refine call_a rfl e_f32 (qpush_calls (v := 99) h5.hq (by simp) (by omega)) rfl fun r st3 hr => ?_
        obtain ⟨rfl, h6, ho6⟩ := hr
        obtain ⟨gb3, hfin⟩ := fin _ _ _ h6 ho6 (by simp; omega) (by omega)
        simp -implicitDefEqProofs (maxSteps := 10000000) (disch := omega) only [seqQ_normal, blockQ_normal, opsK_eq, runI_nil, runI_none, putP_eq, o_bin, o_load, o_newB, o_store, loadV, boxX, writeX, derefI, takeI_none, n_add, wp_ok, bind_ok, ofOpt_some, ev_r, ev_c, evOwn_r, disOp_r, putS, Sf.set, Sf.reg, mask_eq, maskR_nil, maskR_cons, getR, setR, maskL, Sf.disAt, dis_lit, cells_lit, solid1_lit, solid_eq, List.length_cons, List.length_nil, List.all_cons, List.all_nil, List.drop_zero, List.set_cons_zero, ↓reduceIte, Nat.reduceEqDiff, Nat.reduceLeDiff, Bool.true_and, Bool.and_true, and_true, true_and, Nat.zero_add, IntWalk.i64_in, up_addL, get_push, set_push, setAt_nil, setAt_cons, f6_82e, f6_83e, f6_84e, f6_84l, f6_85e, f6_85l, f6_86e, f6_86l, gb3]
        exact hfin
      · simp only [List.length_cons] at h3
        refine call_a rfl e_f31 (qpop_calls h5.hq (by omega)) rfl fun r st2 hr => ?_
        obtain ⟨rfl, h6, ho6⟩ := hr
        simp -implicitDefEqProofs (maxSteps := 10000000) (disch := omega) only [seqQ_normal, opsK_eq, runI_nil, runI_none, o_mv, o_call, ev_r, ev_c, ev_f, putS, Sf.set, Sf.reg, mask_eq, maskR_nil, maskR_cons, getR, setR, maskL, id, dis_ptr, List.map_cons, List.map_nil, ↓reduceIte, Nat.reduceEqDiff, f6_81e, f6_81l]
        refine call_a rfl e_f32 (qpush_calls (v := 99) h6 (by omega) (by omega)) rfl fun r st3 hr => ?_
        obtain ⟨rfl, h7, ho7⟩ := hr
        obtain ⟨gb3, hfin⟩ := fin _ _ _ h7 (ho6.trans ho7) (by simp; omega) (by omega)
        simp -implicitDefEqProofs (maxSteps := 10000000) (disch := omega) only [seqQ_normal, blockQ_normal, opsK_eq, runI_nil, runI_none, putP_eq, o_bin, o_load, o_newB, o_store, loadV, boxX, writeX, derefI, takeI_none, n_add, wp_ok, bind_ok, ofOpt_some, ev_r, ev_c, evOwn_r, disOp_r, putS, Sf.set, Sf.reg, mask_eq, maskR_nil, maskR_cons, getR, setR, maskL, Sf.disAt, dis_lit, cells_lit, solid1_lit, solid_eq, List.length_cons, List.length_nil, List.all_cons, List.all_nil, List.drop_zero, List.set_cons_zero, ↓reduceIte, Nat.reduceEqDiff, Nat.reduceLeDiff, Bool.true_and, Bool.and_true, and_true, true_and, Nat.zero_add, IntWalk.i64_in, up_addL, get_push, set_push, setAt_nil, setAt_cons, f6_82e, f6_83e, f6_84e, f6_84l, f6_85e, f6_85l, f6_86e, f6_86l, gb3]
        exact hfin
  · simp -implicitDefEqProofs (maxSteps := 10000000) (disch := omega) only [seqQ_normal, seqQ_exit, aC_exit, opsK_eq, runI_nil, runI_none, putP_eq, o_bin, o_load, loadV, derefI, takeI_none, n_lss, wp_ok, bind_ok, ofOpt_some, ev_r, ev_c, setB_r, putS, Sf.set, Sf.reg, mask_eq, maskR_nil, maskR_cons, getR, setR, maskL, dis_lit, List.drop_zero, ↓reduceIte, Nat.reduceEqDiff, cond_no, f6_45e, f6_46e, f6_47e, f6_47l, f6_48e, gk]
    exact hKe _ _ _ (hQ _ h2.hr)
end Go.Fx.YtenijlfcfmhmkaaFx

