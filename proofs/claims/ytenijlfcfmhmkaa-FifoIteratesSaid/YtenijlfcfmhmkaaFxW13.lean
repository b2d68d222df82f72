/- What the functions that the statement reaches compute: part 13. -/
import Derived.Test.YtenijlfcfmhmkaaFxW12
namespace Go.Fx.YtenijlfcfmhmkaaFx
open Go Go.Fx
attribute [local irreducible] aC runI headI loopI

set_option maxRecDepth 100000
set_option maxHeartbeats 4000000

structure HEnd (L : Qu) (n k : Nat) (G : List Bool) : Prop where
  len : G.length = 64
  val : ∀ x ∈ L, x.2 = (x.1 : Int)
  yes : ∀ t ∈ ticks L, k ≤ t ∧ G[t]? = some false
  no : ∀ t, k ≤ t → t ≤ n → t ∉ ticks L → G[t]? = some true

theorem HInv.end {L : Qu} {n p : Nat} {G : List Bool} (h : HInv L n p G) (hp : ∀ t ∈ ticks L, 0 < t ∧ t ≤ n) : HEnd L n 1 G :=
  ⟨h.len, h.val, fun t ht => ⟨(hp t ht).1, h.yes t ht⟩, fun t h1 h2 h3 => h.no t h1 h2 h3⟩

theorem holds_loop2 {q mid n p : Nat} {L : Qu} {G : List Bool} {st0 : St} (h0 : QIs st0 q mid L n) (hI0 : HInv L n p G) (hn : n ≤ 60) (Q : Exit → Sf → St → Prop)
    (hQ : ∀ st, QIs st q mid [] n → Q (.exit 3) ⟨[(3, .ptr q 0)], []⟩ st) :
    aC Go.Proofs.Try.prog id false f9_99 ⟨[(3, .ptr q 0), (4, .lptr 4 0), (5, .lit (.int .u64 (n : Nat))), (21, .lit (.int .u64 1))], [(4, boolsC G)]⟩ st0 Q := by
  rw [f9_99w]
  refine loop_op (A := Nat × Qu × St) (fun a => n + 2 - a.1) (fun a => ⟨[(3, .ptr q 0), (4, .lptr 4 0), (5, .lit (.int .u64 (n : Nat))), (21, .lit (.int .u64 (a.1 : Nat)))], [(4, boolsC G)]⟩) (fun a => a.2.2)
    (fun a => 1 ≤ a.1 ∧ a.1 ≤ n + 1 ∧ QIs a.2.2 q mid a.2.1 n ∧ HEnd a.2.1 n a.1 G) (1, L, st0) ⟨by simp, by simp, h0, hI0.end h0.pos⟩ (Sf.le_refl _) rfl ?_
  rintro ⟨k, L, st⟩ ⟨h1, h2, h3, h4⟩ K hK hKe hKr
  simp only at h1 h2 h3 h4
  have hG := h4.len
  by_cases hk : k ≤ n
  · have hgl : k < G.length := by omega
    by_cases hm : k ∈ ticks L
    · rcases L with _ | ⟨⟨u, x⟩, B⟩
      · simp [ticks] at hm
      have huk : u = k := by
        have hs := h3.srt
        have hs2 := (List.pairwise_cons.mp hs).1
        have h5 := (h4.yes u (by simp [ticks])).1
        rcases List.mem_cons.mp hm with e | hm
        · exact e.symm
        · have := hs2 k hm
          simp only at this
          omega
      subst huk
      have hx := h4.val _ List.mem_cons_self
      simp only at hx
      subst hx
      have hgk := boolsC_drop (h4.yes u hm).2
      simp -implicitDefEqProofs (maxSteps := 10000000) (disch := omega) only [seqQ_normal, aC_skip, opsK_eq, runI_nil, runI_none, putP_eq, cond_ff, o_mv, o_bin, o_conv, o_ixA, o_load, o_call, loadV, ixA, addA, convI, derefI, takeI_none, n_leq, wp_ok, bind_ok, bind_req, ofOpt_some, ev_r, ev_f, setB_r, putS, Sf.set, Sf.reg, mask_eq, maskR_nil, maskR_cons, getR, setR, maskL, look, id, dis_lit, dis_ptr, List.map_cons, List.map_nil, Int.toNat_natCast, Int.cast_ofNat_Int, ↓reduceIte, Nat.reduceEqDiff, Nat.zero_add, req_dec, cond_yes, IntWalk.i64_in, and_pre, Nat.mul_one, f9_100e, f9_101e, f9_102e, f9_102l, f9_103e, f9_104e, f9_105e, f9_106e, f9_107e, f9_108e, f9_108l, f9_109e, f9_110e, f9_111e, f9_111l, hgk]
      refine call_a rfl e_f33 (pops_calls h3 (by omega)) rfl fun r st1 hr => ?_
      obtain ⟨rfl, h5⟩ := hr
      simp -implicitDefEqProofs (maxSteps := 10000000) (disch := omega) only [seqQ_normal, blockQ_normal, aC_skip, opsK_eq, runI_nil, runI_none, putP_eq, cond_ff, o_mv, o_bin, o_un, o_own, unA, n_add, wp_ok, ev_r, ev_c, setB_r, putS, Sf.set, Sf.reg, mask_eq, maskR_nil, maskR_cons, getR, setR, maskL, Sf.disAt, look, dis_lit, ↓reduceIte, Nat.reduceEqDiff, Bool.not_true, IntWalk.u64_in, up_addL, f9_112e, f9_115e, f9_115l]
      refine hK (u + 1, B, st1) _ ⟨by simp, by simp only; omega, h5, hG, fun y hy => h4.val y (List.mem_cons_of_mem _ hy), fun t ht => ⟨?_, (h4.yes t (List.mem_cons_of_mem _ ht)).2⟩, fun t a1 a2 a3 => ?_⟩ (by simp only; omega) (Sf.le_refl _)
      · exact (List.pairwise_cons.mp h3.srt).1 t ht
      · simp only at a1 a2 a3
        refine h4.no t (by omega) a2 fun hm2 => ?_
        rcases List.mem_cons.mp hm2 with e | hm2
        · simp only at e; omega
        · exact a3 hm2
    · have hgk := boolsC_drop (h4.no k (Nat.le_refl _) hk hm)
      simp -implicitDefEqProofs (maxSteps := 10000000) (disch := omega) only [seqQ_normal, seqQ_exit, blockQ_exit, aC_skip, aC_exit, opsK_eq, runI_nil, runI_none, putP_eq, cond_tt, o_mv, o_bin, o_ixA, o_load, o_own, loadV, ixA, addA, derefI, takeI_none, n_add, n_leq, wp_ok, bind_ok, bind_req, ofOpt_some, ev_r, ev_c, setB_r, putS, Sf.set, Sf.reg, mask_eq, maskR_nil, maskR_cons, getR, setR, maskL, Sf.disAt, look, dis_lit, Int.toNat_natCast, Int.cast_ofNat_Int, ↓reduceIte, Nat.reduceEqDiff, Nat.zero_add, req_dec, cond_yes, IntWalk.u64_in, up_addL, and_pre, Nat.mul_one, f9_100e, f9_101e, f9_102e, f9_102l, f9_103e, f9_104e, f9_105e, f9_106e, f9_107e, f9_108e, f9_108l, f9_109e, f9_115e, f9_115l, hgk]
      refine hK (k + 1, L, st) _ ⟨by simp, by simp only; omega, h3, hG, h4.val, fun t ht => ⟨?_, (h4.yes t ht).2⟩, fun t a1 a2 a3 => h4.no t (by simp only at a1; omega) a2 a3⟩ (by simp only; omega) (Sf.le_refl _)
      have := (h4.yes t ht).1
      have hne : t ≠ k := fun e => hm (e ▸ ht)
      simp only; omega
  · simp -implicitDefEqProofs (maxSteps := 10000000) (disch := omega) only [seqQ_normal, seqQ_exit, aC_exit, opsK_eq, runI_nil, runI_none, putP_eq, o_mv, o_bin, n_leq, wp_ok, ev_r, setB_r, putS, Sf.set, Sf.reg, mask_eq, maskR_nil, maskR_cons, getR, setR, maskL, look, dis_lit, ↓reduceIte, Nat.reduceEqDiff, cond_no, f9_100e, f9_101e, f9_102e, f9_102l, f9_103e]
    rcases L with _ | ⟨⟨u, x⟩, B⟩
    · exact hKe _ _ _ (hQ _ h3)
    · have a := (h4.yes u (by simp [ticks])).1
      have b := (h3.pos u (by simp [ticks])).2
      omega

theorem fifoHolds_law (l : List Fa) : ACalls Go.Proofs.Try.prog n_f9 [fasAV l] ⟨[]⟩ (fun v _ => v = .lit (.bool true)) := by
  refine acalls_op hmix k_f9 rfl rfl fun Q hQ => ?_
  unfold aFun c_f9
  by_cases hl : 60 < l.length
  · simp -implicitDefEqProofs (maxSteps := 10000000) (disch := omega) only [seqQ_normal, opsK_eq, runI_nil, runI_none, putP_eq, o_mv, o_bin, o_len, o_call, lenI, n_gtr, wp_ok, ev_r, ev_c, ev_f, setB_r, putS, Sf.set, Sf.reg, mask_eq, maskR_nil, maskR_cons, getR, setR, maskL, regs0, id, dis_lit, dis_sl, List.map_nil, ↓reduceIte, Nat.reduceEqDiff, reduceCtorEq, List.length_map, cond_yes, f9_1e, f9_2e, f9_2l, f9_3e, f9_4e, f9_5e, f9_5l, f9_6e, f9_7e, f9_8e, f9_8l, fasAV]
    refine call_a rfl e_f23 (known06 _) rfl fun r st1 hr => ?_
    subst hr
    simp -implicitDefEqProofs (maxSteps := 10000000) (disch := omega) only [seqQ_normal, seqQ_ret, aC_ret, opsK_eq, retQ_ret, retI, runI_nil, runI_none, o_own, wp_ok, putS, Sf.set, Sf.reg, mask_eq, maskR_nil, maskR_cons, getR, setR, maskL, Sf.disAt, dis_lit, noL_lit, ↓reduceIte, Nat.reduceEqDiff, Bool.true_and, true_and, reduceCtorEq]
    exact hQ _ _ rfl
  · simp -implicitDefEqProofs (maxSteps := 10000000) (disch := omega) only [seqQ_normal, aC_skip, opsK_eq, runI_nil, runI_none, putP_eq, o_mv, o_bin, o_len, o_call, lenI, n_gtr, wp_ok, ev_r, ev_c, ev_f, setB_r, putS, Sf.set, Sf.reg, mask_eq, maskR_nil, maskR_cons, getR, setR, maskL, regs0, id, dis_lit, dis_sl, List.map_nil, ↓reduceIte, Nat.reduceEqDiff, reduceCtorEq, List.length_map, cond_no, f9_1e, f9_2e, f9_2l, f9_3e, f9_4e, f9_5e, f9_5l, f9_6e, f9_9e, f9_10e, f9_10l, fasAV]
    refine call_a rfl e_f24 (qnew_calls _) rfl fun r st0 hr => ?_
    obtain ⟨rfl, h0, _⟩ := hr
    generalize (St.boxes ⟨[]⟩).length + 1 = q at *
    generalize (St.boxes ⟨[]⟩).length = mid at *
    simp -implicitDefEqProofs (maxSteps := 10000000) (disch := omega) only [seqQ_normal, aC_skip, opsK_eq, runI_nil, runI_none, putP_eq, cond_ff, o_mv, o_bin, o_len, o_own, o_newL, n_nileq, eqNilI, isNilI, lenI, wp_ok, bind_ok, ofOpt_some, ev_r, ev_c, setB_r, putS, Sf.set, Sf.reg, mask_eq, maskR_nil, maskR_cons, getR, setR, maskL, Sf.disAt, Sf.newLoc, look, killR, drop1, dis_lit, dis_ptr, dis_sl, kill_lit, kill_ptr, kill_sl, ↓reduceIte, Nat.reduceEqDiff, reduceCtorEq, List.length_map, f9_11e, f9_12e, f9_13e, f9_13l, f9_14e, f9_17e, f9_18e, f9_18l, f9_19e, f9_20e, f9_20l, f9_21e, f9_22e, f9_23e, f9_23l, f9_24e]
    refine holds_loop1 h0 l (by omega) _ fun L n p G st1 h1 hI hn => ?_
    simp -implicitDefEqProofs (maxSteps := 10000000) (disch := omega) only [seqQ_normal, blockQ_exit, opsK_eq, runI_nil, runI_none, o_mv, ev_c, putS, Sf.set, mask_eq, maskR_nil, maskR_cons, getR, setR, maskL, look, dis_lit, ↓reduceIte, Nat.reduceEqDiff, f9_95e, f9_96e, f9_97e, f9_97l, f9_98e]
    refine holds_loop2 h1 hI hn _ fun st2 h2 => ?_
    simp -implicitDefEqProofs (maxSteps := 10000000) (disch := omega) only [seqQ_normal, blockQ_exit, runI_none, o_mv, o_call, ev_r, ev_f, putS, Sf.set, Sf.reg, getR, setR, id, dis_ptr, List.map_cons, List.map_nil, ↓reduceIte, Nat.reduceEqDiff, f9_116e, f9_117e, f9_117l]
    refine call_p rfl e_f28 (qlen_pure h2) rfl ?_
    simp -implicitDefEqProofs (maxSteps := 10000000) (disch := omega) only [runI_none, runI_some, AI.dst, putP_eq, guard_tt, o_mv, o_bin, o_call, n_eql, wp_ok, ev_r, ev_c, ev_f, putS, Sf.set, Sf.reg, getR, setR, id, dis_lit, List.map_nil, List.length_nil, Int.cast_ofNat_Int, ↓reduceIte, Nat.reduceEqDiff, decide_true]
    refine call_a rfl e_f23 (known06 _) rfl fun r st1 hr => ?_
    subst hr
    simp -implicitDefEqProofs (maxSteps := 10000000) (disch := omega) only [seqQ_normal, aC_ret, opsK_eq, retQ_ret, retI, runI_nil, runI_none, putP_eq, o_pick, o_own, pick_tt, wp_ok, ev_r, ev_c, putS, Sf.set, Sf.reg, mask_eq, maskR_nil, maskR_cons, getR, setR, maskL, Sf.disAt, dis_lit, noL_lit, ↓reduceIte, Nat.reduceEqDiff, Bool.true_and, true_and]
    exact hQ _ _ rfl

theorem fifoHolds_top {l : List Fx3} (h : ∀ x ∈ l, 0 ≤ x.2.2.1) : ACalls Go.Proofs.Try.prog n_f9 [.sl false 3 (l.map fun x => .agg [.lit (.int .i64 x.1), .lit (.int .i64 x.2.1), .lit (.int .u64 x.2.2.1)])] ⟨[]⟩ (fun v _ => v = .lit (.bool true)) := by
  rw [fas_lit l h]
  exact fifoHolds_law _
end Go.Fx.YtenijlfcfmhmkaaFx

