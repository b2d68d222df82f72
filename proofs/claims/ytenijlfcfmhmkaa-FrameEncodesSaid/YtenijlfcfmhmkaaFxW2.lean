/- What the functions that the statement reaches compute: part 2. -/
import Derived.Test.YtenijlfcfmhmkaaFxW1
namespace Go.Fx.YtenijlfcfmhmkaaFx
open Go Go.Fx
attribute [local irreducible] aC runI headI loopI

set_option maxRecDepth 100000
set_option maxHeartbeats 4000000

/-- A slice of bytes that may be nil. -/
def IsZ (z : AV) (c : List AV) : Prop := z = .sl false 1 c ∨ (z = .lit (.slice none 0 0) ∧ c = [])
def Joined (a b c : List AV) (st : St) (v : AV) (st' : St) : Prop :=
  ∃ e : List AV, (∀ x ∈ e, x = .any) ∧ v = .bs st.boxes.length 1 0 (a.length + b.length + c.length) (a.length + b.length + c.length) ∧ st' = st.push (.cells (a ++ (b ++ (c ++ e))))

theorem join_calls {a b c : List AV} {z : AV} (hz : IsZ z c) (ha : Lits a) (hb : Lits b) (hc : Lits c) (hl : a.length + b.length + c.length ≤ 1000000) (ha0 : 0 < a.length) (st : St) :
    ACalls Go.Proofs.Try.prog n_bytes_Join [.sl false 1 [.sl false 1 a, .sl false 1 b, z], .lit (.slice none 0 0)] st (Joined a b c st) := by
  refine acalls_id hmix k_bytes_Join rfl rfl ?_
  rcases hz with rfl | ⟨rfl, rfl⟩
  · exact join3_sl _ a b c ha hb hc st _ hl ha0 fun e he => ⟨e, he, rfl, rfl⟩
  · exact join3_nil _ a b ha hb st _ hl ha0 fun e he => ⟨e, he, rfl, rfl⟩

theorem joined_calls {a b c : List AV} {z : AV} (hz : IsZ z c) (ha : Lits a) (hb : Lits b) (hc : Lits c) (hl : a.length + b.length + c.length ≤ 1000000) (ha0 : 0 < a.length) (st : St) :
    ACalls Go.Proofs.Try.prog n_frame_joined [.sl false 1 [.sl false 1 a, .sl false 1 b, z]] st (Joined a b c st) := by
  refine acalls_id hmix k_frame_joined rfl rfl ?_
  unfold aFun c_frame_joined
  simp -implicitDefEqProofs (maxSteps := 10000000) (disch := omega) only [seqQ_normal, opsK_eq, runI_nil, runI_none, o_mv, o_call, ev_r, ev_c, ev_f, putS, Sf.set, Sf.reg, mask_eq, maskR_nil, maskR_cons, getR, setR, maskL, regs0, id, dis_lit, dis_sl, List.map_cons, List.map_nil, ↓reduceIte, reduceCtorEq, frame_joined_1e, frame_joined_2e, frame_joined_2l, frame_joined_3e, frame_joined_4e, frame_joined_4l]
  refine call_a rfl e_bytes_Join (join_calls hz ha hb hc hl ha0 st) rfl fun v st' h => ?_
  obtain ⟨e, he, rfl, rfl⟩ := h
  simp -implicitDefEqProofs (maxSteps := 10000000) (disch := omega) only [seqQ_normal, aC_ret, opsK_eq, retQ_ret, retI, runI_nil, runI_none, o_own, wp_ok, putS, Sf.set, Sf.reg, mask_eq, maskR_nil, maskR_cons, getR, setR, maskL, Sf.disAt, dis_bs, noL_bs, ↓reduceIte, Nat.reduceEqDiff, Bool.true_and, true_and, reduceCtorEq]
  exact ⟨e, he, rfl, rfl⟩

theorem frz_joined {a b c : List AV} (ha : Lits a) (hb : Lits b) (hc : Lits c) {v : AV} {st' : St} (h : Joined a b c ⟨[]⟩ v st') : Frz st' v (.sl false 1 (a ++ (b ++ c))) := by
  obtain ⟨e, he, rfl, rfl⟩ := h
  have h1 : grp 1 (a.length + b.length + c.length) ((a ++ (b ++ (c ++ e))).drop 0) = a ++ (b ++ c) := by
    rw [List.drop_zero, grp_one (by simp; omega)]
    have : a ++ (b ++ (c ++ e)) = (a ++ (b ++ c)) ++ e := by simp
    rw [this]
    exact List.take_left' (by simp; omega)
  rw [← h1]
  refine .bs _ _ _ _ _ (a ++ (b ++ (c ++ e))) (get_push ⟨[]⟩ _) (by simp; omega) (Nat.le_refl _) fun x hx => ?_
  simp only [List.drop_zero, List.mem_append] at hx
  rcases hx with hx | hx | hx | hx
  · exact ha.nb x hx
  · exact hb.nb x hx
  · exact hc.nb x hx
  · rw [he x hx]; exact .any

theorem nb_parts {a b c : List AV} {z : AV} (hz : IsZ z c) (ha : Lits a) (hb : Lits b) (hc : Lits c) : (AV.sl false 1 [.sl false 1 a, .sl false 1 b, z]).NB := by
  refine .sl _ _ _ fun x hx => ?_
  simp only [List.mem_cons, List.not_mem_nil, or_false] at hx
  rcases hx with rfl | rfl | rfl
  · exact .sl _ _ _ ha.nb
  · exact .sl _ _ _ hb.nb
  · rcases hz with rfl | ⟨rfl, rfl⟩
    · exact .sl _ _ _ hc.nb
    · exact .lit _

theorem join_pure {a b c : List AV} {z : AV} (hz : IsZ z c) (ha : Lits a) (hb : Lits b) (hc : Lits c) (hl : a.length + b.length + c.length ≤ 1000000) (ha0 : 0 < a.length) (st : St) :
    PCalls Go.Proofs.Try.prog n_bytes_Join [.sl false 1 [.sl false 1 a, .sl false 1 b, z], .lit (.slice none 0 0)] st (.sl false 1 (a ++ (b ++ c))) := by
  refine pure_of ((join_calls hz ha hb hc hl ha0 ⟨[]⟩).mono fun v st' h => frz_joined ha hb hc h) (fun v hv => ?_) st
  simp only [List.mem_cons, List.not_mem_nil, or_false] at hv
  rcases hv with rfl | rfl
  · exact nb_parts hz ha hb hc
  · exact .lit _

theorem joined_pure {a b c : List AV} {z : AV} (hz : IsZ z c) (ha : Lits a) (hb : Lits b) (hc : Lits c) (hl : a.length + b.length + c.length ≤ 1000000) (ha0 : 0 < a.length) (st : St) :
    PCalls Go.Proofs.Try.prog n_frame_joined [.sl false 1 [.sl false 1 a, .sl false 1 b, z]] st (.sl false 1 (a ++ (b ++ c))) := by
  refine pure_of ((joined_calls hz ha hb hc hl ha0 ⟨[]⟩).mono fun v st' h => frz_joined ha hb hc h) (fun v hv => ?_) st
  simp only [List.mem_cons, List.not_mem_nil, or_false] at hv
  subst hv
  exact nb_parts hz ha hb hc

theorem clone_calls {l : List AV} (hl : l.length ≤ 1000000) (st : St) : ACalls Go.Proofs.Try.prog n_bytes_Clone [.sl false 1 l] st (fun v st' => st' = st ∧ (v = .sl true 1 (l.map AV.dis) ∨ (l = [] ∧ v = .lit (.slice none 0 0)))) := by
  refine acalls_id hmix k_bytes_Clone rfl rfl ?_
  unfold aFun c_bytes_Clone
  rcases l with _ | ⟨x, l⟩
  · simp -implicitDefEqProofs (maxSteps := 10000000) (disch := omega) only [seqQ_normal, opsK_eq, runI_nil, runI_none, putK_eq, o_mv, o_x, stepX, nilX_empty, ev_r, ev_c, putS, Sf.set, Sf.reg, mask_eq, maskR_nil, maskR_cons, getR, setR, maskL, regs0, dis_lit, dis_sl, List.map_nil, ↓reduceIte, Nat.reduceEqDiff, Bool.true_and, true_and, reduceCtorEq, bytes_Clone_1e, bytes_Clone_2e, bytes_Clone_2l, bytes_Clone_3e, bytes_Clone_4e, bytes_Clone_5e, bytes_Clone_5l, bytes_Clone_6e]
    intro b
    cases b <;> simp -implicitDefEqProofs (maxSteps := 10000000) (disch := omega) only [Bool.or_false, Bool.or_true, and_self, seqQ_normal, seqQ_ret, aC_skip, aC_ret, opsK_eq, retQ_ret, retI, runI_nil, runI_none, putP_eq, cond_tt, cond_ff, o_mv, o_bsl, o_own, o_appS, bslV, appSX, List.replicate_zero, appOwnI, srcA, fillA, wp_ok, bind_ok, req_tt, ev_r, ev_c, setB_r, putS, Sf.set, Sf.reg, mask_eq, maskR_nil, maskR_cons, getR, setR, maskL, Sf.disAt, dis_lit, dis_sl, noL_lit, noL_sl, List.map_nil, List.length_nil, List.nil_append, ↓reduceIte, Nat.reduceEqDiff, Bool.true_and, true_and, reduceCtorEq, Nat.zero_add, or_true, or_false, room_of, bytes_Clone_7e, bytes_Clone_8e, bytes_Clone_8l, bytes_Clone_9e, bytes_Clone_10e, bytes_Clone_10l]
  · simp only [List.length_cons] at hl
    simp -implicitDefEqProofs (maxSteps := 10000000) (disch := omega) only [Bool.or_false, and_self, seqQ_normal, aC_skip, aC_ret, opsK_eq, retQ_ret, retI, runI_nil, runI_none, putP_eq, putK_eq, atS_eq, cond_ff, o_mv, o_bsl, o_own, o_appS, o_x, bslV, appSX, stepX, nilX_cons, n_nileq, eqNilI, isNilI, List.isEmpty_cons, List.replicate_zero, appOwnI, srcA, fillA, wp_ok, bind_ok, ofOpt_some, req_tt, ev_r, ev_c, setB_r, putS, Sf.set, Sf.reg, mask_eq, maskR_nil, maskR_cons, getR, setR, maskL, Sf.disAt, regs0, dis_lit, dis_sl, noL_sl, List.map_cons, List.map_nil, List.length_cons, List.length_nil, List.nil_append, ↓reduceIte, Nat.reduceEqDiff, Bool.true_and, true_and, reduceCtorEq, Nat.zero_add, or_false, Bool.false_eq_true, room_of, bytes_Clone_1e, bytes_Clone_2e, bytes_Clone_2l, bytes_Clone_3e, bytes_Clone_4e, bytes_Clone_5e, bytes_Clone_5l, bytes_Clone_6e, bytes_Clone_9e, bytes_Clone_10e, bytes_Clone_10l]

theorem clone_pure {l : List AV} (hl : l.length ≤ 1000000) (hn : Lits l) (st : St) : PCalls Go.Proofs.Try.prog n_bytes_Clone [.sl false 1 l] st (.sl false 1 l) := by
  refine pure_of ((clone_calls hl ⟨[]⟩).mono fun v st' h => ?_) (fun v hv => ?_) st
  · obtain ⟨_, rfl | ⟨rfl, rfl⟩⟩ := h
    · rw [hn.dis]
      exact .le _ _ (.own _ _) (.sl _ _ _ hn.nb)
    · exact .le _ _ (.nil _ _) (.sl _ _ _ hn.nb)
  · simp only [List.mem_cons, List.not_mem_nil, or_false] at hv
    subst hv
    exact .sl _ _ _ hn.nb

def litB : AV → Bool
  | .lit _ => true
  | _ => false
theorem lits_of {l : List AV} (h : l.all litB = true) : Lits l := fun x hx => by
  have := List.all_eq_true.1 h x hx
  cases x <;> first | exact ⟨_, rfl⟩ | cases this

def okB (a b c : List AV) : Bool := a.all litB && b.all litB && c.all litB && decide (a.length + b.length + c.length ≤ 1000000) && decide (0 < a.length)

/-- The calls of bytes.Join in closed code. -/
def prim (q : FuncId) (vs : List AV) : Option AV :=
  if q = n_bytes_Join then
    match vs with
    | [.sl false 1 [.sl false 1 a, .sl false 1 b, .sl false 1 c], .lit (.slice none 0 0)] => if okB a b c = true then some (.sl false 1 (a ++ (b ++ c))) else none
    | [.sl false 1 [.sl false 1 a, .sl false 1 b, .lit (.slice none 0 0)], .lit (.slice none 0 0)] => if okB a b [] = true then some (.sl false 1 (a ++ (b ++ []))) else none
    | _ => none
  else if q = n_bytes_Clone then
    match vs with
    | [.sl false 1 l] => if l.all litB = true ∧ l.length ≤ 1000000 then some (.sl false 1 l) else none
    | _ => none
  else none

theorem primOk : PrimOk Go.Proofs.Try.prog prim := by
  intro q vs v h
  unfold prim at h
  split at h
  case isFalse =>
    split at h
    case isFalse => cases h
    rename_i e
    subst e
    refine ⟨e_bytes_Clone, fun st => ?_⟩
    split at h
    · rename_i l
      split at h
      · rename_i hk
        cases h
        exact clone_pure hk.2 (lits_of hk.1) st
      · cases h
    · cases h
  rename_i e
  subst e
  refine ⟨e_bytes_Join, fun st => ?_⟩
  split at h
  · rename_i a b c
    split at h
    · rename_i hk
      cases h
      simp only [okB, Bool.and_eq_true, decide_eq_true_eq] at hk
      exact join_pure (.inl rfl) (lits_of hk.1.1.1.1) (lits_of hk.1.1.1.2) (lits_of hk.1.1.2) hk.1.2 hk.2 st
    · cases h
  · rename_i a b
    split at h
    · rename_i hk
      cases h
      simp only [okB, Bool.and_eq_true, decide_eq_true_eq] at hk
      exact join_pure (.inr ⟨rfl, rfl⟩) (lits_of hk.1.1.1.1) (lits_of hk.1.1.1.2) Lits.nil hk.1.2 hk.2 st
    · cases h
  · cases h

theorem known_pure (st : St) : PCalls Go.Proofs.Try.prog n_aqueductlaw43_known [] st (.lit (.bool true)) :=
  x_pure hmix tabOk primOk 100 12 (by kernel_rfl) rfl rfl st
end Go.Fx.YtenijlfcfmhmkaaFx

