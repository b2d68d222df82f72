/- What the functions that the statement reaches compute: part 14. -/
import Derived.Test.YtenijlfcfmhmkaaFxW13
namespace Go.Fx.YtenijlfcfmhmkaaFx
open Go Go.Fx
attribute [local irreducible] aC runI headI loopI

set_option maxRecDepth 100000
set_option maxHeartbeats 4000000

/-- What the reference has, where no value may be there yet. -/
def OrNil (L : Qu) (X : AV) : Prop := X = vsAV L ∨ (L = [] ∧ X = .lit (.slice none 0 0))
theorem OrNil.len {L : Qu} {X : AV} (h : OrNil L X) : ∀ st, lenI .sl st X = .ok (.lit (.int .i64 (L.length : Nat))) := by
  intro st
  rcases h with rfl | ⟨rfl, rfl⟩
  · simp [vsAV, lenI]
  · rfl
theorem OrNil.noL {L : Qu} {X : AV} (h : OrNil L X) : X.noL = true ∧ X.dis = X ∧ X.own1 = X ∧ X.own2 = X ∧ X.cells = [X] ∧ X.keep = X := by
  rcases h with rfl | ⟨rfl, rfl⟩
  · exact ⟨rfl, rfl, rfl, rfl, rfl, rfl⟩
  · exact ⟨rfl, rfl, rfl, rfl, rfl, rfl⟩
theorem acalls_weakV {P : Program} {f : FuncId} {vs vs' : List AV} {st : St} {Q : AV → St → Prop} (h : ACalls P f vs' st Q) (hv : leL vs vs') : ACalls P f vs st Q :=
  fun D g w us L hg hb ha => h D g w us L hg hb (ha.weak hv)
theorem do_any {q mid : Nat} {st : St} {X : AV} (s : QS) (a : Fa) (hX : OrNil s.1 X) (h : QIs st q mid s.1 s.2) (hl : s.1.length ≤ 1000 ∧ s.2 ≤ 1000) :
    ACalls Go.Proofs.Try.prog n_f25 [.ptr q 0, .agg [X, .lit (.int .u64 (s.2 : Nat))], faAV a] st (fun r st' => ∃ q' mid', r = .tup [.ptr q' 0, rqAV (fDo s a), .lit (.bool true)] ∧ QIs st' q' mid' (fDo s a).1 (fDo s a).2 ∧ DoFr st st' q mid q' mid') := by
  rcases hX with rfl | ⟨e, rfl⟩
  · exact do_calls2 s a h hl
  · refine acalls_weakV (do_calls2 s a h hl) ⟨.refl _, .aggL ⟨?_, .refl _, trivial⟩, .refl _, trivial⟩
    rw [e]
    exact .nil _ _

/-- What stays around the steps. -/
structure StepI (st : St) (stop : Int) (X : AV) (g q mid : Nat) : Prop where
  s : st.get 0 = some [.lit (.int .i64 stop)]
  r : st.get 1 = some [.lit (.bool false)]
  x : st.get 4 = some [X, .lit (.int .u64 (g : Nat))]
  nq : q ≠ 0 ∧ q ≠ 1 ∧ q ≠ 4
  nm : mid ≠ 0 ∧ mid ≠ 1 ∧ mid ≠ 4

theorem iter_loop1 {stop : Int} (l : List Fa) (hl : l.length ≤ 60) {st0 : St} (h0 : QIs st0 3 2 [] 0) (hI0 : StepI st0 stop (.lit (.slice none 0 0)) 0 3 2) (Q : Exit → Sf → St → Prop)
    (hQ : ∀ L g q mid X st, QIs st q mid L g → OrNil L X → StepI st stop X g q mid → L.length ≤ 60 → g ≤ 60 → Q (.exit 0) ⟨[(3, .ptr 0 0), (4, .ptr 1 0), (5, .ptr q 0), (6, .ptr 4 0), (46, .any), (47, .any)], []⟩ st) :
    aC Go.Proofs.Try.prog id false f6_21 ⟨[(3, .ptr 0 0), (4, .ptr 1 0), (5, .ptr 3 0), (6, .ptr 4 0), (22, .sl false 3 (l.map faAV)), (23, .lit (.int .i64 (l.length : Nat))), (24, .lit (.int .i64 0)), (46, .any), (47, .any)], []⟩ st0 Q := by
  rw [f6_21w]
  refine loop_op (A := Nat × QS × AV × Nat × Nat × St) (fun a => l.length - a.1) (fun a => ⟨[(3, .ptr 0 0), (4, .ptr 1 0), (5, .ptr a.2.2.2.1 0), (6, .ptr 4 0), (22, .sl false 3 (l.map faAV)), (23, .lit (.int .i64 (l.length : Nat))), (24, .lit (.int .i64 (a.1 : Nat))), (46, .any), (47, .any)], []⟩) (fun a => a.2.2.2.2.2)
    (fun a => a.1 ≤ l.length ∧ QIs a.2.2.2.2.2 a.2.2.2.1 a.2.2.2.2.1 a.2.1.1 a.2.1.2 ∧ OrNil a.2.1.1 a.2.2.1 ∧ StepI a.2.2.2.2.2 stop a.2.2.1 a.2.1.2 a.2.2.2.1 a.2.2.2.2.1 ∧ a.2.1.1.length ≤ a.1 ∧ a.2.1.2 ≤ a.1) (0, ([], 0), .lit (.slice none 0 0), 3, 2, st0) ⟨by simp, h0, .inr ⟨rfl, rfl⟩, hI0, by simp, by simp⟩ (Sf.le_refl _) rfl ?_
  rintro ⟨i, ⟨L, g⟩, X, q, mid, st⟩ ⟨h1, h2, hX, hI, h3, h4⟩ K hK hKe hKr
  simp only at h1 h2 hX hI h3 h4
  by_cases hi : i < l.length
  · obtain ⟨⟨w, v, t⟩, hw⟩ : ∃ a, a = l[i] := ⟨_, rfl⟩
    have e1 : (l.map faAV).getD i .any = .agg [.lit (.int .i64 w), .lit (.int .i64 v), .lit (.int .u64 (t : Nat))] := by simp [List.getD, hi, ← hw, faAV]
    have hd := do_any (L, g) (w, v, t) hX h2 (by simp only; omega)
    have hle := fDo_le (L, g) (w, v, t) (n := i) (by simp only; omega)
    generalize hs : fDo (L, g) (w, v, t) = s' at hd hle
    obtain ⟨L', g'⟩ := s'
    simp only [rqAV, vsAV, faAV] at hd hle
    have gx := hI.x
    obtain ⟨x1, x2, x3, x4, x5, x6⟩ := hX.noL
    simp -implicitDefEqProofs (maxSteps := 10000000) (disch := omega) only [seqQ_normal, aC_skip, opsK_eq, runI_nil, runI_none, putP_eq, o_mv, o_bin, o_ixS, o_load, o_newL, o_store, o_call, ixSV, loadV, boxX, writeX, ixA, derefI, takeI_some, n_lss, wp_ok, bind_ok, bind_req, ofOpt_some, req_tt, ev_r, ev_f, evOwn_r, disOp_r, setB_r, putS, Sf.set, Sf.reg, mask_eq, maskR_nil, maskR_cons, getR, setR, maskL, Sf.disAt, Sf.newLoc, Sf.setLoc, look, killR, drop1, id, dis_ptr, dis_agg, own1_lit, cells_agg, solid1_lit, solid_eq, kill_any, kill_lit, kill_ptr, kill_cptr, kill_sl, kill_agg, List.map_cons, List.map_nil, List.length_cons, List.length_nil, List.all_cons, List.all_nil, List.drop_zero, List.take_succ_cons, List.take_zero, List.set_cons_zero, List.set_cons_succ, Int.toNat_natCast, ↓reduceIte, Nat.reduceEqDiff, Nat.reduceAdd, Nat.reduceLeDiff, Bool.true_and, Bool.and_true, and_true, true_and, Nat.zero_add, decide_true, List.length_map, req_dec, cond_yes, and_pre, setAt_nil, setAt_cons, f6_22e, f6_23e, f6_23l, f6_24e, f6_25e, f6_26e, f6_27e, f6_28e, f6_29e, f6_29l, f6_30e, f6_30l, e1, gx, x3]
    refine call_a (by simp only [List.map_cons, List.map_nil, List.nil_append, List.append_nil, dis_agg, dis_ptr, x3, own1_lit]) e_f25 hd rfl fun r st1 hr => ?_
    obtain ⟨q', mid', rfl, h5, hf⟩ := hr
    have l0 := get_lt hI.s
    have l1 := get_lt hI.r
    have l4 := get_lt hI.x
    have g0 := (get_at (hf.old 0 l0 hI.nq.1.symm hI.nm.1.symm)).trans hI.s
    have g1 := (get_at (hf.old 1 l1 hI.nq.2.1.symm hI.nm.2.1.symm)).trans hI.r
    have g4 := (get_at (hf.old 4 l4 hI.nq.2.2.symm hI.nm.2.2.symm)).trans hI.x
    have k4 := get_lt g4
    have lq := h5.ltq
    have lm := h5.ltm
    simp -implicitDefEqProofs (maxSteps := 10000000) (disch := omega) only [seqQ_normal, blockQ_normal, opsK_eq, runI_nil, runI_none, putP_eq, o_mv, o_bin, o_ext, o_own, o_store, extV, boxX, writeX, n_add, wp_ok, bind_ok, ofOpt_some, ev_r, ev_c, evOwn_r, disOp_r, putS, Sf.set, Sf.reg, mask_eq, maskR_nil, maskR_cons, getR, setR, maskL, Sf.disAt, dis_lit, dis_ptr, dis_agg, dis_tup, own1_lit, own1_sl, own2_lit, own2_ptr, own2_agg, cells_agg, solid1_lit, solid1_sl, solid_eq, List.map_cons, List.map_nil, List.length_cons, List.length_nil, List.getElem?_cons_zero, List.getElem?_cons_succ, List.all_cons, List.all_nil, List.set_cons_zero, List.set_cons_succ, ↓reduceIte, Nat.reduceEqDiff, Nat.reduceAdd, Nat.reduceLeDiff, Bool.true_and, Bool.and_true, and_true, true_and, Nat.zero_add, IntWalk.i64_in, up_addL, setAt_nil, setAt_cons, f6_31e, f6_31l, g4]
    refine hK (i + 1, (L', g'), .sl false 2 (L'.map vAV), q', mid', st1.set 4 [.sl false 2 (L'.map vAV), .lit (.int .u64 (g' : Nat))]) _ ⟨by simp only; omega, h5.at (set_at ?_) (set_at ?_), .inl rfl, ⟨?_, ?_, ?_, ?_, ?_⟩, by simp only; omega, by simp only; omega⟩ (by simp only; omega) (Sf.le_refl _)
    · rcases hf.new with ⟨rfl, rfl⟩ | ⟨a, b⟩
      · exact hI.nq.2.2
      · omega
    · rcases hf.new with ⟨rfl, rfl⟩ | ⟨a, b⟩
      · exact hI.nm.2.2
      · omega
    · rw [get_at (set_at (by omega))]; exact g0
    · rw [get_at (set_at (by omega))]; exact g1
    · exact get_set k4
    · rcases hf.new with ⟨rfl, rfl⟩ | ⟨a, b⟩
      · exact hI.nq
      · show q' ≠ 0 ∧ q' ≠ 1 ∧ q' ≠ 4
        omega
    · rcases hf.new with ⟨rfl, rfl⟩ | ⟨a, b⟩
      · exact hI.nm
      · show mid' ≠ 0 ∧ mid' ≠ 1 ∧ mid' ≠ 4
        omega
  · simp -implicitDefEqProofs (maxSteps := 10000000) (disch := omega) only [seqQ_normal, seqQ_exit, aC_exit, opsK_eq, runI_nil, runI_none, putP_eq, o_bin, n_lss, wp_ok, ev_r, setB_r, putS, Sf.set, Sf.reg, mask_eq, maskR_nil, maskR_cons, getR, setR, maskL, ↓reduceIte, Nat.reduceEqDiff, cond_no, f6_22e, f6_23e, f6_23l, f6_24e, f6_25e]
    exact hKe _ _ _ (hQ _ _ _ _ _ _ h2 hX hI (by omega) (by omega))
end Go.Fx.YtenijlfcfmhmkaaFx

