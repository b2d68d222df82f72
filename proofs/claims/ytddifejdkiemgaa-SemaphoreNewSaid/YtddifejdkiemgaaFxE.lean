/- An evaluator for resolved code, proved against the model: part 5. -/
import Derived.Test.YtddifejdkiemgaaFxD
import Derived.ProofKit
import Derived.IntWalk
/- Functions, resolved: from what the resolved code does to a contract. -/
namespace Go.Fx
def msOf : List (Nat × List Nat × List Nat) → Nat → List Nat × List Nat
  | [], _ => ([], [])
  | (q, r) :: l, p => if q = p then r else msOf l p
open Go Go.RowKit Go.Lib
section
variable {P : Program} {X : Cx} {f : FuncId} {fn' : AFun} {vs : List AV} {st : St}
theorem compF_inv (h : compF P X f = some fn') : ∃ fn c b rs, P.funcs[f]? = some fn ∧ fn.body = some c ∧ X.n = fn.ntmps ∧ compA P X 1 c = some b ∧ compR P X.n fn.results.toList = some rs ∧ fn' = ⟨X.n, rs, b⟩ := by
  unfold compF at h
  split at h
  case h_2 => cases h
  rename_i fn hf
  split at h
  case h_2 => cases h
  rename_i c hc
  split at h
  case isFalse => cases h
  rename_i hn
  split at h
  case h_2 => cases h
  rename_i b rs hb hr
  cases h
  exact ⟨fn, c, b, rs, hf, hc, hn.1, hb, hr, rfl⟩
theorem Ok.toE {m : Bool} {E E' : Ent} {g : Gh} {w : World} {fr : Fr} {st : St} {a : Act} (h : Ok false E' g w fr st a) (hE : Ext false E E') : Ok false E g w fr st { a with defers := [] } := by
  have hmv := hE.mvE h.mv
  have h1 := hE.dd
  have h2 := hE.NN
  obtain ⟨d, N, g0, w0, st0, lo⟩ := E
  obtain ⟨d', N', g0', w0', st0', lo'⟩ := E'
  simp only at h1 h2
  subst h1; subst h2
  exact ⟨h.size, h.slots, h.ctx, DefsR.nil _, hmv, fun e => (by cases e), h.hN, h.hm⟩
theorem leaves_of {P : Program} {fn : Func} {R : Ending → World → Prop} {E : Ent} {g : Gh} {fr : Fr} {st : St} {a : Act} (hE : ∀ D c, E.g.cls D = some c → D < E.lo) (hlo : E.g.base ≤ E.lo)
    (hfin : ∀ w, Ok false E g w fr st a → ∃ v, (results fn a.tmps).run P w = .ok v w ∧ R (.returned v) w) : ∀ (ds : List Deferred) (w : World), (∀ x ∈ ds, ∃ D dd s, x = { target := .collected D, args := #[] } ∧ E.lo ≤ D ∧ g.cls D = some (.loc dd s) ∧ dd < E.d ∧ w.heap[D]? = some (.deferred (some []))) →
      (ds.map fun x => x.target).Nodup → Ok false E g w fr st a → LeavesInM (FW none) 0 P fn a.tmps R ds .returning w
  | [], w, _, _, h => hfin w h
  | x :: ds, w, ha, hn, h => by
    obtain ⟨D, dd, s, rfl, h1, h2, h3, h4⟩ := ha x (by simp)
    simp only [List.map_cons, List.nodup_cons] at hn
    refine ⟨by simp, .inl ⟨D, _, rfl, run_takeDeferred h4, ?_⟩⟩
    have hnone : E.g.cls D = none := by
      cases hc : E.g.cls D with
      | none => rfl
      | some c => have := hE D c hc; omega
    refine leaves_of hE hlo hfin ds _ (fun y hy => ?_) hn.2 (h.putD h2 (by omega) hnone (Nat.le_trans hlo h1) _)
    obtain ⟨D', dd', s', rfl, k1, k2, k3, k4⟩ := ha y (by simp [hy])
    have hne : D' ≠ D := by
      rintro rfl
      exact hn.1 (List.mem_map.2 ⟨_, hy, rfl⟩)
    exact ⟨D', dd', s', rfl, k1, k2, k3, by rw [World.putObj_heap_other hne]; exact k4⟩
theorem acalls_of (hmix : P.follows .mixedOrders = true) (hf : compF P X f = some fn') (hlen : vs.length ≤ fn'.n) {K : AV → St → Prop} (h : aFun P X.F false fn' vs st K) : ACalls P f vs st K := by
  obtain ⟨fn, c, b, rs, hfn, hc, hn, hb, hr, rfl⟩ := compF_inv hf
  intro D g w us L hg hbx ha
  have hus : us.size ≤ X.n := by rw [ha.1]; exact hlen
  refine callsIn_fw.1 (callsIn_of_wp_marks (F := FW none) (n := 0) hfn hc trivial ?_)
  have h0 := ok_start (m := false) (d := D + 1) (N := 0) (n := X.n) (st := st) hg hbx ha (Nat.zero_le _) (fun _ => rfl) hus
  rw [← hn]
  have key : ∀ (sf : Sf) (st' : St) (g' : Gh) (w' : World) (a' : Act), Ok false ⟨D + 1, 0, g, w, st, w.heap.size⟩ g' w' (sp X.n sf) st' a' → ((retI rs sf st').wp fun v => v.noL = true ∧ K v st') →
      ∃ v, (results fn a'.tmps).run P w' = .ok v w' ∧ ∃ u v' st' g', Ending.returned v = .returned u ∧ K v' st' ∧ Mv false 0 D g w g' w' ∧ BoxR g' w' st' ∧ R g' v' u ∧ OwnV g' w' 0 L v' u := by
    intro sf st' g' w' a' hok hret
    obtain ⟨v, u, hK, hnl, hrun, hR, hown⟩ := ret_sound (K := fun v => K v st') hok hr hret
    refine ⟨u, hrun, u, v, st', ?_⟩
    rcases hown with hno | ⟨t, ht, rfl, rfl⟩
    · exact ⟨g', rfl, hK, hok.mv.inner (Nat.le_succ _), hok.ctx.box, noL_r hnl hR, fun i c x hc _ => Own.of_no (hno i c hc)⟩
    · obtain ⟨h1, h2, h3⟩ := hok.steal t L
      rw [sp_getD ht] at h2 h3
      exact ⟨_, rfl, hK, h1.mv.inner (Nat.le_succ _), h1.ctx.box, noL_r hnl h2, h3⟩
  have key2 : ∀ (E' : Ent) (sf : Sf) (st' : St) (g' : Gh) (w' : World) (a' : Act), Ext false ⟨D + 1, 0, g, w, st, w.heap.size⟩ E' → Ok false E' g' w' (sp X.n sf) st' a' → ((retI rs sf st').wp fun v => v.noL = true ∧ K v st') →
      LeavesInM (FW none) 0 P fn a'.tmps (fun e w' => ∃ u v st' g', e = .returned u ∧ K v st' ∧ Mv false 0 D g w g' w' ∧ BoxR g' w' st' ∧ R g' v u ∧ OwnV g' w' 0 L v u) a'.defers .returning w' := by
    intro E' sf st' g' w' a' hE hok hret
    have hok0 := hok.toE (m := false) hE
    refine leaves_of (E := ⟨D + 1, 0, g, w, st, w.heap.size⟩) (a := { a' with defers := [] }) (fun b c hc => (hg.cls b c hc).2) hg.base (fun w2 hok2 => key sf st' g' w2 _ hok2 hret) a'.defers w' (fun x hx => ?_) hok.defers.nd hok0
    obtain ⟨b, dd, s, h1, h2, h3, h4, h5⟩ := hok.defers.all x hx
    obtain ⟨q1, q2, _⟩ := hok.mv.outer b _ h3 h4
    have hd := hE.dd
    have hl := hE.lolo
    simp only at hd hl
    exact ⟨b, dd, s, h1, by rw [← hl]; exact h2, q1, by rw [← hd]; exact h4, by rw [q2]; exact h5⟩
  refine aC_sound hmix c 1 b hb (.inl ⟨rfl, by simp, Nat.le_refl _⟩) h0 h fun E' e sf st' g' w' a' hE hok hq => ?_
  cases e with
  | normal => exact key2 E' sf st' g' w' a' hE hok hq
  | ret => exact key2 E' sf st' g' w' a' hE hok hq
  | exit id => exact hq.elim
  | goto l => exact hq.elim
  | panic ch => exact hq.elim
  | outgrown => exact hq.elim
theorem pcalls_of (hmix : P.follows .mixedOrders = true) (hf : compF P X f = some fn') (hlen : vs.length ≤ fn'.n) {v0 : AV} (h : aFun P X.F true fn' vs st fun v st' => v = v0) : PCalls P f vs st v0 := by
  obtain ⟨fn, c, b, rs, hfn, hc, hn, hb, hr, rfl⟩ := compF_inv hf
  intro g w us L hg hbx ha
  have hus : us.size ≤ X.n := by rw [ha.1]; exact hlen
  refine calls_of_wp hfn hc ?_
  have h0 := ok_start (m := true) (d := 1) (N := w.heap.size) (n := X.n) (st := st) hg hbx ha (Nat.le_refl _) (fun e => by cases e) hus
  rw [← hn]
  have fin : ∀ (g' : Gh) (w' : World), Mv true w.heap.size 1 g w g' w' → LeP g w { g' with lb := g.lb } w' := by
    intro g' w' hm
    obtain ⟨h1, h2⟩ := hm.pure rfl
    exact ⟨⟨hm.os, hm.tape, hm.output, hm.size, fun k hk => (h1 k hk).1⟩, fun b hb => (h1 b hb).2.1, fun b hb => (h1 b hb).2.2, h2, rfl, hm.base, fun _ => ⟨hm.good.imm, hm.good.immc, hm.good.cls, hm.good.base⟩⟩
  have hle : ∀ g' : Gh, GhLe g' { g' with lb := g.lb } := fun g' => ⟨fun _ _ _ h => h, fun _ _ h => h⟩
  have key : ∀ (sf : Sf) (st' : St) (g' : Gh) (w' : World) (a' : Act), Ok true ⟨1, w.heap.size, g, w, st, w.heap.size⟩ g' w' (sp X.n sf) st' a' → ((retI rs sf st').wp fun v => v.noL = true ∧ v = v0) →
      a'.defers = [] ∧ ∃ v, (results fn a'.tmps).run P w' = .ok v w' ∧ ∃ u g', Ending.returned v = .returned u ∧ LeP g w g' w' ∧ R g' v0 u ∧ OwnV g' w' w.heap.size L v0 u := by
    intro sf st' g' w' a' hok hret
    obtain ⟨v, u, hK, hnl, hrun, hR, hown⟩ := ret_sound (K := fun v => v = v0) hok hr hret
    subst hK
    have hdf : a'.defers = [] := by
      cases hds : a'.defers with
      | nil => rfl
      | cons x r =>
        obtain ⟨b, dd, s, h1, h2, h3, h4, h5⟩ := hok.defers.all x (by rw [hds]; simp)
        have := (hg.cls b _ h3).2
        simp only at h2
        omega
    refine ⟨hdf, u, hrun, u, ?_⟩
    rcases hown with hno | ⟨t, ht, rfl, rfl⟩
    · exact ⟨_, rfl, fin g' w' hok.mv, (noL_r hnl hR).mono (hle g'), fun i c x hc _ => Own.of_no (hno i c hc)⟩
    · obtain ⟨h1, h2, h3⟩ := hok.steal t L
      rw [sp_getD ht] at h2 h3
      exact ⟨_, rfl, fin _ w' h1.mv, (noL_r hnl h2).mono (hle _), fun i c x hc hx => h3 i c x hc hx⟩
  refine (wpIn_wide (n := 0)).1 (aC_sound hmix c 1 b hb (.inl ⟨rfl, by simp, Nat.le_refl _⟩) h0 h fun E' e sf st' g' w' a' hE hok hq => ?_)
  rcases hE with rfl | ⟨hE, _⟩
  case inr => cases hE
  cases e with
  | normal => exact key sf st' g' w' a' hok hq
  | ret => exact key sf st' g' w' a' hok hq
  | exit id => exact hq.elim
  | goto l => exact hq.elim
  | panic ch => exact hq.elim
  | outgrown => exact hq.elim
end
end Go.Fx
/- A function that keeps what it makes to itself leaves all alone. -/
namespace Go.Fx
open Go Go.RowKit Go.Lib
inductive AV.NB : AV → Prop where
  | any : AV.NB .any
  | lit (v : Value) : AV.NB (.lit v)
  | cptr (cs : List AV) (h : ∀ c ∈ cs, AV.NB c) : AV.NB (.cptr cs)
  | sl (o : Bool) (k : Nat) (es : List AV) (h : ∀ c ∈ es, AV.NB c) : AV.NB (.sl o k es)
  | fn (f : Fn) (fs cs : List AV) (h1 : ∀ c ∈ fs, AV.NB c) (h2 : ∀ c ∈ cs, AV.NB c) : AV.NB (.fn f fs cs)
  | agg (cs : List AV) (h : ∀ c ∈ cs, AV.NB c) : AV.NB (.agg cs)
  | tup (cs : List AV) (h : ∀ c ∈ cs, AV.NB c) : AV.NB (.tup cs)
  | ifc (t : Nat) (v : AV) (h : AV.NB v) : AV.NB (.ifc t v)
section
variable {g g' : Gh} {w w' : World} {N : Nat}
theorem nb_cells {e : AV} (h : e.NB) : ∀ c ∈ e.cells, c.NB := by
  cases h with
  | agg cs h => exact h
  | any => intro c hc; simp [AV.cells] at hc; subst hc; exact .any
  | lit v => intro c hc; simp [AV.cells] at hc; subst hc; exact .lit v
  | cptr cs h => intro c hc; simp [AV.cells] at hc; subst hc; exact .cptr cs h
  | sl o k es h => intro c hc; simp [AV.cells] at hc; subst hc; exact .sl o k es h
  | fn f fs cs h1 h2 => intro c hc; simp [AV.cells] at hc; subst hc; exact .fn f fs cs h1 h2
  | tup cs h => intro c hc; simp [AV.cells] at hc; subst hc; exact .tup cs h
  | ifc t v h => intro c hc; simp [AV.cells] at hc; subst hc; exact .ifc t v h
theorem R.nb (hi : ∀ b o u, g.imm b o = some u → g'.imm b o = some u) {v : AV} {u : Value} (h : R g v u) : v.NB → R g' v u := by
  induction h with
  | any u => exact fun _ => .any u
  | lit v h => exact fun _ => .lit v h
  | ptr id off b h => exact fun h => by cases h
  | cptr cs us b o h1 _ ih =>
    intro hn
    cases hn with
    | cptr _ hn => exact .cptr cs us b o (fun i c hc => hi _ _ _ (h1 i c hc)) (fun i c hc => ih i c hc (hn c (List.mem_of_getElem? hc)))
  | sl own k es us b o c hc hk h1 _ h3 ih =>
    intro hn
    cases hn with
    | sl _ _ _ hn =>
      refine .sl own k es us b o c hc hk (fun i x hx => hi _ _ _ (h1 i x hx)) (fun i x hx => ih i x hx ?_) h3
      have := List.mem_of_getElem? hx
      simp only [List.mem_flatMap] at this
      obtain ⟨e, he, hxe⟩ := this
      exact nb_cells (hn e he) x hxe
  | slE own k a c => exact fun _ => .slE own k a c
  | slN own k => exact fun _ => .slN own k
  | bs id k off len cap b h => exact fun h => by cases h
  | mit id s l p b => exact fun h => by cases h
  | yld id b h => exact fun h => by cases h
  | ifc t v u _ ih =>
    intro hn
    cases hn with | ifc _ _ hn => exact .ifc t v u (ih hn)
  | map id b h => exact fun h => by cases h
  | fn f fs cs us vs hu hv _ _ ih1 ih2 =>
    intro hn
    cases hn with
    | fn _ _ _ n1 n2 => exact .fn f fs cs us vs hu hv (fun i x u hx hu => ih1 i x u hx hu (n1 x (List.mem_of_getElem? hx))) (fun i x u hx hu => ih2 i x u hx hu (n2 x (List.mem_of_getElem? hx)))
  | agg cs us hu _ ih =>
    intro hn
    cases hn with | agg _ hn => exact .agg cs us hu (fun i x u hx hu => ih i x u hx hu (hn x (List.mem_of_getElem? hx)))
  | tup cs us hu _ ih =>
    intro hn
    cases hn with | tup _ hn => exact .tup cs us hu (fun i x u hx hu => ih i x u hx hu (hn x (List.mem_of_getElem? hx)))
inductive Frz (st : St) : AV → AV → Prop where
  | le (v v0 : AV) (h : AV.le v v0) (hn : v0.NB) : Frz st v v0
  | bs (id k off len cap : Nat) (cs : List AV) (hg : st.get id = some cs) (hl : off + len * k ≤ cs.length) (hcap : len ≤ cap) (hk : ∀ c ∈ cs.drop off, c.NB) : Frz st (.bs id k off len cap) (.sl false k (grp k len (cs.drop off)))
  | agg (cs ds : List AV) (hl : ds.length = cs.length) (h : ∀ (i : Nat) (c d : AV), cs[i]? = some c → ds[i]? = some d → Frz st c d) (hn : ∀ d ∈ ds, d.noOwn) : Frz st (.agg cs) (.agg ds)
  | tup (cs ds : List AV) (hl : ds.length = cs.length) (h : ∀ (i : Nat) (c d : AV), cs[i]? = some c → ds[i]? = some d → Frz st c d) : Frz st (.tup cs) (.tup ds)
def Gh.hide (g : Gh) (n : Nat) : Gh := { base := 0, imm := g.imm, bx := fun _ => none, lb := g.lb, cls := fun b => if b < n then some (.arr (.slot 0 0 0)) else none }
theorem hide_good (h : Good g w) : Good (g.hide w.heap.size) w := by
  refine ⟨h.imm, fun b o u hi => .inr ⟨_, by simp [Gh.hide, h.lt hi]; rfl⟩, fun b c hc => ?_, Nat.zero_le _⟩
  simp only [Gh.hide] at hc
  split at hc
  · rename_i hl; exact ⟨Nat.zero_le _, hl⟩
  · cases hc
def Gh.show (g g1 : Gh) (n : Nat) (L : Nat → Loc) (fb : Nat → Option (Array Value)) : Gh :=
  { base := g.base, bx := g.bx, lb := g.lb
    imm := fun b o => if b < n then g.imm b o else match fb b with
      | some us => us[o]?
      | none => g1.imm b o
    cls := fun b => if b < n then g.cls b else match g1.cls b with
      | some (.arr (.slot 5 0 k)) => some (.arr (L k))
      | _ => none }
def frzB (g1 : Gh) (w : World) (n : Nat) (b : Nat) : Option (Array Value) :=
  if n ≤ b then (match g1.cls b, w.heap[b]? with
    | some (.box _), some (.cells us _ (0, 0)) => some us
    | _, _ => none) else none
def Fzn (g1 gs : Gh) (st : St) : Prop := ∀ id cs, st.get id = some cs → ∃ (b : Nat) (us : Array Value), g1.bx id = some b ∧ (∀ o : Nat, gs.imm b o = us[o]?) ∧ us.size = cs.length ∧
  (∀ (i : Nat) (c : AV) (x : Value), cs[i]? = some c → us[i]? = some x → R g1 c x) ∧ ∀ x ∈ us, x.oneCell' = true
theorem fzn_of {g1 gs : Gh} {w : World} {st : St} {n : Nat} (hb1 : BoxR g1 w st) (hbn : ∀ id b, g1.bx id = some b → g1.cls b = some (.box id) → n ≤ b) (kf : ∀ b us, frzB g1 w n b = some us → ∀ o : Nat, gs.imm b o = us[o]?) : Fzn g1 gs st := by
  intro id cs hgt
  obtain ⟨b, us', T, a1, a2, a3, a4, a5, a6⟩ := hb1.2.1 id cs (by unfold St.get at hgt; split at hgt <;> first | (cases hgt; assumption) | cases hgt)
  have hge := hbn id b a1 a2
  have hfz : frzB g1 w n b = some us' := by simp [frzB, hge, a2, a3]
  exact ⟨b, us', a1, kf b us' hfz, a4, fun i c x hc hx => (a5 i c x hc hx).1, a6⟩
theorem frz_R {g1 gs : Gh} {st : St} (hf : Fzn g1 gs st) (k2 : ∀ b o u, g1.imm b o = some u → gs.imm b o = some u) {v v0 : AV} (h : Frz st v v0) : ∀ {u : Value}, R g1 v u → R gs v0 u := by
  induction h with
  | le v v0 hle hn => exact fun hR => (hle.r hR).nb k2 hn
  | agg cs ds hl h hn ih =>
    intro u hR
    obtain ⟨us, rfl, hr⟩ := hR.agg_inv
    refine .agg ds us (by have := hr.1; simp at this; omega) fun i x u hx hu => ?_
    have hlt : i < cs.length := by rw [← hl]; exact (List.getElem?_eq_some_iff.1 hx).1
    exact ih i cs[i] x (by simp [hlt]) hx (hr.2 i cs[i] u (by simp [hlt]) (by simpa using hu))
  | tup cs ds hl h ih =>
    intro u hR
    cases hR with
    | tup _ us hu hR =>
      refine .tup ds us (by omega) fun i x u hx hu' => ?_
      have hlt : i < cs.length := by rw [← hl]; exact (List.getElem?_eq_some_iff.1 hx).1
      exact ih i cs[i] x (by simp [hlt]) hx (hR i cs[i] u (by simp [hlt]) hu')
  | bs id k off len cap cs hgt hl hcap hk =>
    intro u hR
    obtain ⟨b, us', a1, kf, a4, a5, a6⟩ := hf id cs hgt
    cases hR with
    | bs _ _ _ _ _ b' hb' =>
      have : b' = b := Option.some.inj (hb'.symm.trans a1)
      subst this
      have hone : ∀ c ∈ cs.drop off, c.cells = [c] := by
        intro c hc
        obtain ⟨i, hi⟩ := List.mem_iff_getElem?.1 (List.mem_of_mem_drop hc)
        have hlt : i < us'.size := by rw [a4]; exact (List.getElem?_eq_some_iff.1 hi).1
        have hx : us'[i]? = some us'[i] := Array.getElem?_eq_getElem hlt
        exact cells_one (a5 i c _ hi hx) (a6 _ (Array.getElem_mem hlt))
      obtain ⟨q1, q2, q3⟩ := grp_facts (k := k) len (cs.drop off) hone (by simp; omega)
      have hcell : ∀ (i : Nat) (x : AV), ((grp k len (cs.drop off)).flatMap AV.cells)[i]? = some x → i < len * k ∧ cs[off + i]? = some x := by
        intro i x hx
        rw [q3, List.getElem?_take] at hx
        split at hx
        · rename_i hil; exact ⟨hil, by simpa using hx⟩
        · cases hx
      have := R.sl (g := gs) false k (grp k len (cs.drop off)) (fun i => us'.getD (off + i) undef) b' off cap (by rw [q1]; exact hcap) q2 (fun i x hx => ?_) (fun i x hx => ?_) (fun i x hx => ?_)
      · rw [q1] at this; exact this
      · obtain ⟨hi, hc⟩ := hcell i x hx
        have hlt : off + i < us'.size := by omega
        rw [kf]
        simp [hlt]
      · obtain ⟨hi, hc⟩ := hcell i x hx
        have hlt : off + i < us'.size := by omega
        have e1 : us'.getD (off + i) undef = us'[off + i] := by simp [hlt]
        rw [e1]
        exact (a5 (off + i) x _ hc (Array.getElem?_eq_getElem hlt)).nb k2 (hk x (by rw [List.mem_iff_getElem?]; exact ⟨i, by simpa using hc⟩))
      · obtain ⟨hi, hc⟩ := hcell i x hx
        have hlt : off + i < us'.size := by omega
        have e1 : us'.getD (off + i) undef = us'[off + i] := by simp [hlt]
        rw [e1]
        exact a6 _ (Array.getElem_mem hlt)
theorem pure_of {P : Program} {f : FuncId} {vs : List AV} {v0 : AV} (h : ACalls P f vs ⟨[]⟩ fun v st' => Frz st' v v0) (hvs : ∀ v ∈ vs, v.NB) (st : St) : PCalls P f vs st v0 := by
  intro g w us L hg hbx ha
  have ha0 : ArgsR (g.hide w.heap.size) vs us := ⟨ha.1, fun i x u hx hu => R.nb (g := g) (g' := g.hide w.heap.size) (fun _ _ _ h => h) (ha.2 i x u hx hu) (hvs x (List.mem_of_getElem? hx))⟩
  have hb0 : BoxR (g.hide w.heap.size) w ⟨[]⟩ := ⟨fun _ _ => rfl, fun id cs hc => by simp at hc, fun id bx hc => by simp at hc⟩
  refine (h 1 _ w us (fun k => .slot 5 0 k) (hide_good hg) hb0 ha0).mono fun e w' ⟨u, v, st', g1, he, hF, hmv, hb1, hR, hO⟩ => ?_
  have hout : ∀ b, b < w.heap.size → g1.cls b = some (.arr (.slot 0 0 0)) ∧ w'.heap[b]? = w.heap[b]? ∧ g1.imm b = g.imm b := fun b hb =>
    hmv.outer b (.arr (.slot 0 0 0)) (by simp [Gh.hide, hb]) (Nat.zero_lt_one)
  have hbel : Below w.heap.size w w' := ⟨hmv.os, hmv.tape, hmv.output, hmv.size, fun k hk => (hout k hk).2.1⟩
  have hfz : ∀ b us, frzB g1 w' w.heap.size b = some us → w.heap.size ≤ b ∧ b < w'.heap.size ∧ (∃ id, g1.cls b = some (.box id)) ∧ ∃ T, w'.heap[b]? = some (.cells us T (0, 0)) := by
    intro b us h
    unfold frzB at h
    split at h
    · rename_i hge
      split at h
      · rename_i id us' T h1 h2
        cases h
        exact ⟨hge, (Array.getElem?_eq_some_iff.1 h2).1, ⟨id, h1⟩, T, h2⟩
      · cases h
    · cases h
  have himm : ∀ b o u, g1.imm b o = some u → (g.show g1 w.heap.size L (frzB g1 w' w.heap.size)).imm b o = some u := by
    intro b o u hi
    simp only [Gh.show]
    split
    · rename_i hl; rw [← (hout b hl).2.2]; exact hi
    · split
      · rename_i us e
        obtain ⟨_, _, ⟨id, hid⟩, _⟩ := hfz b us e
        rcases hmv.good.immc b o u hi with h1 | ⟨L', h1⟩ <;> rw [hid] at h1 <;> cases h1
      · exact hi
  have k1 : LeP g w (g.show g1 w.heap.size L (frzB g1 w' w.heap.size)) w' := by
    refine ⟨hbel, fun b hb => by funext o; simp [Gh.show, hb], fun b hb => by simp [Gh.show, hb], rfl, rfl, rfl, fun _ => ?_⟩
    refine ⟨fun b o u hi => ?_, fun b o u hi => ?_, fun b c hc => ?_, ?_⟩
    · simp only [Gh.show] at hi
      split at hi
      · rename_i hl
        have := hg.imm b o u hi
        unfold World.cell? at this ⊢
        rw [(hout b hl).2.1]; exact this
      · split at hi
        · rename_i us e
          obtain ⟨_, _, _, T, hT⟩ := hfz b us e
          rw [cell_of_row w' b o us T (0, 0) hT]; exact hi
        · exact hmv.good.imm b o u hi
    · simp only [Gh.show] at hi ⊢
      split at hi
      · rename_i hl; simp only [hl, if_true]; exact hg.immc b o u hi
      · rename_i hl
        simp only [hl, if_false]
        split
        · exact .inr ⟨_, rfl⟩
        · exact .inl rfl
    · simp only [Gh.show] at hc
      split at hc
      · rename_i hl
        have := hg.cls b c hc
        exact ⟨this.1, Nat.lt_of_lt_of_le hl hmv.size⟩
      · rename_i hl
        split at hc
        · rename_i k hk
          have := (hmv.good.cls b _ hk).2
          have hb := hg.base
          exact ⟨by simp only [Gh.show]; omega, this⟩
        · cases hc
    · have := hg.base
      have := hmv.size
      simp only [Gh.show]; omega
  have hbn : ∀ id b, g1.bx id = some b → g1.cls b = some (.box id) → w.heap.size ≤ b := by
    intro id b _ h2
    refine Nat.le_of_not_lt fun hlt => ?_
    rw [(hout b hlt).1] at h2; cases h2
  have kf : ∀ b us, frzB g1 w' w.heap.size b = some us → ∀ o : Nat, (g.show g1 w.heap.size L (frzB g1 w' w.heap.size)).imm b o = us[o]? := by
    intro b us h o
    have hge := (hfz b us h).1
    have hnl : ¬ b < w.heap.size := by omega
    simp only [Gh.show, hnl, if_false, h]
  have hRR := frz_R (fzn_of hb1 hbn kf) himm hF hR
  cases hF with
  | le _ _ hle hn =>
    have hO0 : OwnV g1 w' 0 (fun k => .slot 5 0 k) v0 u := hle.ownV (d := 0) (RS.of hR) hO
    refine ⟨u, _, he, k1, hRR, fun i c x hc hx => ⟨fun k es e => ?_, fun id s l stp e => ?_⟩⟩
    · rcases (hO0 i c x hc hx).1 k es e with h0 | ⟨b, o, c', cur, T, q1, _, q2, q3, q4, q5, q6⟩
      · exact .inl h0
      · have hge : w.heap.size ≤ b := by
          refine Nat.le_of_not_lt fun hl => ?_
          rw [(hout b hl).1] at q2; cases q2
        have hnl : ¬ b < w.heap.size := by omega
        have hf0 : frzB g1 w' w.heap.size b = none := by simp [frzB, q2]
        exact .inr ⟨b, o, c', cur, T, q1, hge, by simp [Gh.show, hnl, q2], q3, q4, q5, fun j hj hj' => by simp [Gh.show, hnl, hf0, q6 j hj hj']⟩
    · subst e
      have := nb_cells hn _ (List.mem_of_getElem? hc)
      cases this
  | bs id k off len cap cs hgt hl hcap hk =>
    exact ⟨_, _, he, k1, hRR, fun i c x hc hx => by
      cases i with
      | succ i => simp [AV.cells] at hc
      | zero => simp [AV.cells] at hc; subst hc; exact Own.of_no trivial⟩
  | agg cs ds hl h hn => exact ⟨_, _, he, k1, hRR, fun i c x hc hx => Own.of_no (hn c (List.mem_of_getElem? hc))⟩
  | tup cs ds hl h =>
    exact ⟨_, _, he, k1, hRR, fun i c x hc hx => by
      cases i with
      | succ i => simp [AV.cells] at hc
      | zero => simp [AV.cells] at hc; subst hc; exact Own.of_no trivial⟩
end
end Go.Fx
/- Equations for evaluation: each with all its arguments, so that nothing is opened ahead of its turn. -/
namespace Go.Fx
open Go
section
variable (P : Program) (F : Nat → FuncId) (m : Bool) (sf : Sf) (st : St) (Q : Exit → Sf → St → Prop) (K : Sf → St → Prop)
theorem aC_skip : aC P F m .skip sf st Q = Q .normal sf st := rfl
theorem aC_exit (lv ll : List Nat) (id : Nat) : aC P F m (.exit lv ll id) sf st Q = Q (.exit id) (sf.mask lv ll) st := rfl
theorem aC_ret : aC P F m .ret sf st Q = Q .ret sf st := rfl
theorem seqQ_normal (C : Sf → St → (Exit → Sf → St → Prop) → Prop) : seqQ C Q .normal sf st = C sf st Q := rfl
theorem seqQ_ret (C : Sf → St → (Exit → Sf → St → Prop) → Prop) : seqQ C Q .ret sf st = Q .ret sf st := rfl
theorem seqQ_exit (C : Sf → St → (Exit → Sf → St → Prop) → Prop) (id : Nat) : seqQ C Q (.exit id) sf st = Q (.exit id) sf st := rfl
theorem blockQ_normal (id : Nat) : blockQ id Q .normal sf st = Q .normal sf st := rfl
theorem blockQ_ret (id : Nat) : blockQ id Q .ret sf st = Q .ret sf st := rfl
theorem blockQ_exit (id id' : Nat) : blockQ id Q (.exit id') sf st = if id' = id then Q .normal sf st else Q (.exit id') sf st := rfl
theorem opsK_eq (lv ll : List Nat) : opsK lv ll Q sf st = Q .normal (sf.mask lv ll) st := rfl
theorem retQ_ret (rs : List RI) (C : AV → St → Prop) : retQ rs C .ret sf st = (retI rs sf st).wp (fun v => v.noL = true ∧ C v st) := rfl
theorem retQ_normal (rs : List RI) (C : AV → St → Prop) : retQ rs C .normal sf st = (retI rs sf st).wp (fun v => v.noL = true ∧ C v st) := rfl
theorem condI_eq (x : Opd) (b : Bool) (A B : Sf → St → (Exit → Sf → St → Prop) → Prop) : condI x (.lit (.bool b)) A B sf st Q = ((b = true → A (x.setB sf true) st Q) ∧ (b = false → B (x.setB sf false) st Q)) := rfl
theorem runI_nil : runI P F m [] K sf st = K sf st := rfl
theorem runI_none (i : AI) (r : List GI) : runI P F m (⟨none, i⟩ :: r) K sf st = oneI P F m i (runI P F m r K) sf st := rfl
theorem runI_some (t : Nat) (want : Bool) (i : AI) (r : List GI) : runI P F m (⟨some (t, want), i⟩ :: r) K sf st = guardI t want (sf.reg t) (oneI P F m i (runI P F m r K)) (skipI i.dst (runI P F m r K)) sf st := rfl
theorem guardI_eq (t : Nat) (want b : Bool) (Y N : Sf → St → Prop) : guardI t want (.lit (.bool b)) Y N sf st = ((b = want → Y (sf.set t (.lit (.bool want))) st) ∧ (b = (!want) → N (sf.set t (.lit (.bool (!want)))) st)) := by
  unfold guardI
  refine propext ⟨fun h => ⟨fun e => ?_, fun e => ?_⟩, fun ⟨h1, h2⟩ c hc => ?_⟩
  · have := h want e; simpa using this
  · have := h (!want) e
    rw [if_neg (by cases want <;> simp)] at this
    exact this
  · subst hc
    by_cases hw : b = want
    · subst hw; rw [if_pos rfl]; exact h1 rfl
    · rw [if_neg hw]
      have : b = !want := by cases b <;> cases want <;> simp_all
      subst this
      exact h2 rfl
theorem skipI_eq (d : Option Nat) : skipI d K sf st = K (sf.put d (.tup [])) st := rfl
theorem putP_eq (d : Option Nat) (v : AV) : putP K d sf st v = K (sf.put d v) st := rfl
theorem putK_eq (d : Option Nat) (v : AV) : putK K d sf v st = K (sf.put d v) st := rfl
theorem one_pop (i : AI) (h1 : oneI P F m i K sf st = (stepI F m i sf st).wp (pairK K)) (h2 : stepI F m i sf st = vI i.dst sf st (popI F i sf st)) : oneI P F m i K sf st = (popI F i sf st).wp (putP K i.dst sf st) := by
  rw [h1, h2]
  unfold vI
  exact propext Res.wp_bind
def pickV (c a b : AV) : Res AV := match c with
  | .lit (.bool t) => .ok (if t then a.dis else b.dis)
  | _ => .fail
def extV (v : AV) (i : Nat) : Res AV := match v with
  | .tup vs => (Res.ofOpt vs[i]?).bind fun v => .ok v.dis
  | _ => .fail
def fieldV (v : AV) (off : Nat) (k : Option Nat) : Res AV := match v with
  | .agg cs => (takeI k (cs.drop off)).bind fun v => .ok v.dis
  | _ => .fail
def ixSV (v i : AV) (k : Nat) : Res AV := match v with
  | .sl _ k' es => if k' = k then (ixA i es.length).bind fun j => .ok (.cptr (es.getD j .any).cells) else .fail
  | .bs id k' off len _ => if k' = k then (ixA i len).bind fun j => .ok (.ptr id (off + j * k)) else .fail
  | _ => .fail
def loadV (sf : Sf) (st : St) (v : AV) (k : Option Nat) : Res AV := (derefI sf st v).bind fun cs => (takeI k cs).bind fun v => .ok v.dis
def nilckV (v : AV) : Res AV := match v with
  | .ptr a b => .ok (.ptr a b)
  | .lptr a b => .ok (.lptr a b)
  | .cptr cs => .ok (.cptr cs)
  | _ => .fail
def sli3V (v : AV) (lo hi : Option AV) (mx : AV) (k : Nat) : Res AV := match v with
  | .bs id k' off len cap => if k' = k then sliB (some mx) hi lo id k off len cap else .fail
  | .sl _ k' es => if k' = k then sl3 (some mx) hi lo es.length es.length fun l h m => if m = l then .ok (.sl true k []) else .ok (.sl false k ((es.take h).drop l)) else .fail
  | _ => .fail
def tasV (v : AV) (t : Nat) : Res AV := match v with
  | .ifc t' v => if t' = t then .ok v.dis else .fail
  | _ => .fail
def mkfnV (q : FuncId) (fs cs : List AV) : Res AV := if (fs ++ cs).all AV.solid1 = true then .ok (.fn (.func q) fs cs) else .fail
def mkifV (v : AV) (t : Nat) : Res AV := if v.solid1 = true then .ok (.ifc t v.dis) else .fail
def bslV (k len : Nat) (z : AV) (parts : List (Nat × AV)) : Res AV := (fillA k parts (List.replicate len z)).bind fun es => .ok (.sl true k es)
def bstV (places : List (Nat × Nat)) (z : AV) (parts : List (Nat × AV)) : Res AV := (buildA (fun i => places[i]?) parts z.cells).bind fun cs => .ok (.agg cs)
section
variable (d : Option Nat) (x y i : Opd)
theorem o_mv : oneI P F m (.mv d x) K sf st = K (sf.put d (sf.ev F x).dis) st := one_pop P F m sf st K (.mv d x) rfl rfl
theorem o_pick (c a b : Opd) : oneI P F m (.pick d c a b) K sf st = (pickV (sf.ev F c) (sf.ev F a) (sf.ev F b)).wp (putP K d sf st) := one_pop P F m sf st K (.pick d c a b) rfl rfl
theorem o_bin (k : BinK) (op : BinOp) : oneI P F m (.bin d k op x y) K sf st = (binI k op (sf.ev F x) (sf.ev F y)).wp (putP K d sf st) := one_pop P F m sf st K (.bin d k op x y) rfl rfl
theorem o_un (op : UnOp) : oneI P F m (.un d op x) K sf st = (unA op (sf.ev F x)).wp (putP K d sf st) := one_pop P F m sf st K (.un d op x) rfl rfl
theorem o_ext (j : Nat) : oneI P F m (.ext d x j) K sf st = (extV (sf.ev F x) j).wp (putP K d sf st) := one_pop P F m sf st K (.ext d x j) rfl rfl
theorem o_field (off : Nat) (k : Option Nat) : oneI P F m (.field d x off k) K sf st = (fieldV (sf.ev F x) off k).wp (putP K d sf st) := one_pop P F m sf st K (.field d x off k) rfl rfl
theorem o_addr (off : Nat) : oneI P F m (.addr d x off) K sf st = (addA (sf.ev F x) off).wp (putP K d sf st) := one_pop P F m sf st K (.addr d x off) rfl rfl
theorem o_ixS (k : Nat) : oneI P F m (.ixS d x i k) K sf st = (ixSV (sf.ev F x) (sf.ev F i) k).wp (putP K d sf st) := one_pop P F m sf st K (.ixS d x i k) rfl rfl
theorem o_ixA (n k : Nat) : oneI P F m (.ixA d x i n k) K sf st = ((Fx.ixA (sf.ev F i) n).bind fun j => addA (sf.ev F x) (j * k)).wp (putP K d sf st) := one_pop P F m sf st K (.ixA d x i n k) rfl rfl
theorem o_load (k : Option Nat) : oneI P F m (.load d x k) K sf st = (loadV sf st (sf.ev F x) k).wp (putP K d sf st) := one_pop P F m sf st K (.load d x k) rfl rfl
theorem o_nilck : oneI P F m (.nilck d x) K sf st = (nilckV (sf.ev F x)).wp (putP K d sf st) := one_pop P F m sf st K (.nilck d x) rfl rfl
theorem o_sli3 (lo hi : Option Opd) (mx : Opd) (k : Nat) : oneI P F m (.sli3 d x lo hi mx k) K sf st = (sli3V (sf.ev F x) (lo.map (sf.ev F)) (hi.map (sf.ev F)) (sf.ev F mx) k).wp (putP K d sf st) := one_pop P F m sf st K (.sli3 d x lo hi mx k) rfl rfl
theorem o_mkif (t : Nat) : oneI P F m (.mkif d t x) K sf st = (mkifV (sf.ev F x) t).wp (putP K d sf st) := one_pop P F m sf st K (.mkif d t x) rfl rfl
theorem o_tas (t : Nat) : oneI P F m (.tas d t x) K sf st = (tasV (sf.ev F x) t).wp (putP K d sf st) := one_pop P F m sf st K (.tas d t x) rfl rfl
theorem o_bsl (k len : Nat) (z : AV) (parts : List (Nat × Opd)) : oneI P F m (.bsl d k len z parts) K sf st = (bslV k len z (parts.map fun p => (p.1, sf.ev F p.2))).wp (putP K d sf st) := one_pop P F m sf st K (.bsl d k len z parts) rfl rfl
theorem o_bst (places : List (Nat × Nat)) (z : AV) (parts : List (Nat × Opd)) : oneI P F m (.bst d places z parts) K sf st = (bstV places z (parts.map fun p => (p.1, sf.ev F p.2))).wp (putP K d sf st) := one_pop P F m sf st K (.bst d places z parts) rfl rfl
theorem o_lookup (k : KeyK) (z : AV) (ok : Bool) (mp key : Opd) : oneI P F m (.lookup d k z ok mp key) K sf st = (lookupI k z ok st (sf.ev F mp) (sf.ev F key)).wp (putP K d sf st) := one_pop P F m sf st K (.lookup d k z ok mp key) rfl rfl
theorem o_mkfn (g : Nat) (first cap : List Opd) : oneI P F m (.mkfn d g first cap) K sf st = (mkfnV (F g) (first.map (sf.ev F)) (cap.map (sf.ev F))).wp (putP K d sf st) := one_pop P F m sf st K (.mkfn d g first cap) rfl rfl
theorem o_len (k : LenK) : oneI P F m (.len d k x) K sf st = (lenI k st (sf.ev F x)).wp (putP K d sf st) := one_pop P F m sf st K (.len d k x) rfl rfl
theorem o_mn (lt : Bool) : oneI P F m (.mn d lt x y) K sf st = (minmaxA lt (sf.ev F x) (sf.ev F y)).wp (putP K d sf st) := one_pop P F m sf st K (.mn d lt x y) rfl rfl
end
def loadOwnX (m : Bool) (d : Nat) (v : AV) (K : Sf → St → Prop) (sf : Sf) (st : St) : Prop :=
  match v with
  | .lptr s off => (Res.ofOpt (look s sf.locs)).wp fun cs => match cs[off]? with
      | some (.sl true k es) => K ((sf.setLoc s (cs.set off (.sl false k es))).set d (.sl true k es)) st
      | _ => (loadV sf st (.lptr s off) none).wp (putP K (some d) sf st)
  | .ptr id off => if m then (loadV sf st (.ptr id off) none).wp (putP K (some d) sf st) else (Res.ofOpt (st.get id)).wp fun cs => match cs[off]? with
      | some (.sl true k es) => K (sf.set d (.sl true k es)) (st.set id (cs.set off (.sl false k es)))
      | _ => (loadV sf st (.ptr id off) none).wp (putP K (some d) sf st)
  | v => (loadV sf st v none).wp (putP K (some d) sf st)
theorem vI_wp (d : Option Nat) (r : Res AV) : (vI d sf st r).wp (pairK K) = r.wp (putP K d sf st) := by
  unfold vI
  exact propext Res.wp_bind
theorem o_loadOwn (d : Nat) (x : Opd) : oneI P F m (.loadOwn d x) K sf st = loadOwnX m d (sf.ev F x) K sf st := by
  show (stepI F m (.loadOwn d x) sf st).wp (pairK K) = _
  have hld : (popI F (.load (some d) x none) sf st) = loadV sf st (sf.ev F x) none := rfl
  simp only [stepI, hld]
  generalize sf.ev F x = v
  unfold loadOwnX
  cases v with
  | lptr s off =>
    simp only
    cases hl : look s sf.locs with
    | none => rfl
    | some cs =>
      simp only [Res.ofOpt, Res.bind, Res.wp]
      cases hc : cs[off]? with
      | none => exact vI_wp sf st K (some d) _
      | some c =>
        cases c with
        | sl o k es => cases o <;> first | rfl | exact vI_wp sf st K (some d) _
        | _ => exact vI_wp sf st K (some d) _
  | ptr id off =>
    simp only
    cases m
    · simp only [Bool.false_eq_true, if_false]
      cases hl : st.get id with
      | none => rfl
      | some cs =>
        simp only [Res.ofOpt, Res.bind, Res.wp]
        cases hc : cs[off]? with
        | none => exact vI_wp sf st K (some d) _
        | some c =>
          cases c with
          | sl o k es => cases o <;> first | rfl | exact vI_wp sf st K (some d) _
          | _ => exact vI_wp sf st K (some d) _
    · simp only [if_true]
      exact vI_wp sf st K (some d) _
  | _ => exact vI_wp sf st K (some d) _
theorem o_own (d s : Nat) : oneI P F m (.own d s) K sf st = K ((sf.disAt s).set d (sf.reg s)) st := rfl
def appSX (d s k bytes : Nat) (v y : AV) (K : Sf → St → Prop) (sf : Sf) (st : St) : Prop :=
  match v with
  | .sl true k' es => (appOwnI st k bytes (.sl true k' es) y).wp fun v => K ((sf.disAt s).set d v) st
  | v => (appNewI st k bytes v y).wp (putP K (some d) sf st)
theorem o_appS (d s k bytes : Nat) (y : Opd) : oneI P F m (.appS d s k bytes y) K sf st = appSX d s k bytes (sf.reg s) (sf.ev F y) K sf st := by
  show (stepI F m (.appS d s k bytes y) sf st).wp (pairK K) = _
  have hld : (popI F (.app (some d) k bytes (.r s) y) sf st) = appNewI st k bytes (sf.reg s) (sf.ev F y) := rfl
  simp only [stepI, hld]
  unfold appSX
  generalize sf.reg s = v
  cases v with
  | sl o k' es =>
    cases o
    · exact vI_wp sf st K (some d) _
    · exact propext Res.wp_bind
  | _ => exact vI_wp sf st K (some d) _
theorem o_newL (d : Nat) (cs : List AV) : oneI P F m (.newL d cs) K sf st = K (sf.newLoc d cs) st := rfl
theorem o_newB (d : Nat) (cs : List AV) : oneI P F m (.newB d cs) K sf st = (m = false ∧ K (sf.set d (.ptr st.boxes.length 0)) (st.push (.cells cs))) := by
  cases m
  · exact propext ⟨fun h => ⟨rfl, h⟩, fun h => h.2⟩
  · exact propext ⟨fun h => h.elim, fun h => by cases h.1⟩
def boxX (n : Nat) (v : AV) (C : Prop) : Prop := v.solid = true ∧ v.cells.length = n ∧ C
theorem o_boxL (d n : Nat) (x : Opd) : oneI P F m (.boxL d n x) K sf st = boxX n (sf.evOwn F x) (K (sf.newLoc d (sf.evOwn F x).dis.cells) st) := by
  show (stepI F m (.boxL d n x) sf st).wp (pairK K) = _
  unfold boxX
  simp only [stepI]
  split
  · rename_i h; exact propext ⟨fun q => ⟨h.1, h.2, q⟩, fun q => q.2.2⟩
  · rename_i h; exact propext ⟨fun q => q.elim, fun q => h ⟨q.1, q.2.1⟩⟩
theorem o_boxB (d n : Nat) (x : Opd) : oneI P F m (.boxB d n x) K sf st = boxX n (sf.evOwn F x) (m = false ∧ K ((sf.disOp x).set d (.ptr st.boxes.length 0)) (st.push (.cells (sf.evOwn F x).cells))) := by
  show (stepI F m (.boxB d n x) sf st).wp (pairK K) = _
  unfold boxX
  simp only [stepI]
  split
  · rename_i h; exact propext ⟨fun q => ⟨h.1, h.2.1, h.2.2, q⟩, fun q => q.2.2.2⟩
  · rename_i h; exact propext ⟨fun q => q.elim, fun q => h ⟨q.1, q.2.1, q.2.2.1⟩⟩
def writeX (m : Bool) (a : AV) (vs : List AV) (K : Sf → St → Prop) (sf : Sf) (st : St) : Prop :=
  match a with
  | .lptr s off => (Res.ofOpt (look s sf.locs)).wp fun cs => off + vs.length ≤ cs.length ∧ K (sf.setLoc s (setAt cs off vs)) st
  | .ptr id off => m = false ∧ (Res.ofOpt (st.get id)).wp fun cs => off + vs.length ≤ cs.length ∧ K sf (st.set id (setAt cs off vs))
  | _ => False
theorem o_store (n : Nat) (a x : Opd) : oneI P F m (.store n a x) K sf st = boxX n (sf.evOwn F x) (writeX m (sf.ev F a) (sf.evOwn F x).cells K (sf.disOp x) st) := by
  show (stepI F m (.store n a x) sf st).wp (pairK K) = _
  have hw : (writeI m (sf.disOp x) st (sf.ev F a) (sf.evOwn F x).cells).wp (pairK K) = writeX m (sf.ev F a) (sf.evOwn F x).cells K (sf.disOp x) st := by
    generalize (sf.evOwn F x).cells = vs
    generalize sf.disOp x = sf1
    unfold writeI writeX
    generalize sf.ev F a = v
    have hif : ∀ (c : Prop) [Decidable c] (r : Sf × St), (if c then Res.ok r else Res.fail).wp (pairK K) = (c ∧ K r.1 r.2) := by
      intro c _ r
      by_cases hc : c
      · rw [if_pos hc]; exact propext ⟨fun q => ⟨hc, q⟩, fun q => q.2⟩
      · rw [if_neg hc]; exact propext ⟨fun q => q.elim, fun q => hc q.1⟩
    cases v with
    | lptr s off =>
      simp only
      cases hl : look s sf1.locs with
      | none => rfl
      | some cs => exact hif _ _
    | ptr id off =>
      simp only
      cases m
      · simp only [Bool.false_eq_true, if_false, true_and]
        cases hl : st.get id with
        | none => rfl
        | some cs => exact hif _ _
      · exact propext ⟨fun q => q.elim, fun q => by cases q.1⟩
    | _ => rfl
  unfold boxX
  simp only [stepI]
  split
  · rename_i h; rw [hw]; exact propext ⟨fun q => ⟨h.1, h.2, q⟩, fun q => q.2.2⟩
  · rename_i h; exact propext ⟨fun q => q.elim, fun q => h ⟨q.1, q.2.1⟩⟩
def delX (m : Bool) (k : KeyK) (mp key : AV) (K : Sf → St → Prop) (sf : Sf) (st : St) : Prop :=
  keyI k key = true ∧ m = false ∧ match mp with
  | .map id => (Res.ofOpt (st.getM id)).wp fun es => (findA key es 0).wp fun r => match r with
      | some (i, _) => K sf (st.delM id es i)
      | none => K sf st
  | _ => False
theorem o_del (k : KeyK) (mp key : Opd) : oneI P F m (.del k mp key) K sf st = delX m k (sf.ev F mp) (sf.ev F key) K sf st := by
  show (stepI F m (.del k mp key) sf st).wp (pairK K) = _
  simp only [stepI]
  unfold delX
  generalize sf.ev F key = kv
  generalize sf.ev F mp = v
  by_cases h : keyI k kv = true ∧ m = false
  · have : ∀ A : Prop, (keyI k kv = true ∧ m = false ∧ A) = A := fun A => propext ⟨fun q => q.2.2, fun q => ⟨h.1, h.2, q⟩⟩
    rw [if_pos h, this]
    cases v with
    | map id =>
      simp only
      cases hl : st.getM id with
      | none => rfl
      | some es =>
        refine propext ((Res.wp_bind (r := findA kv es 0)).trans ?_)
        refine ⟨fun q => Res.wp_mono (r := findA kv es 0) q fun r hr => ?_, fun q => Res.wp_mono (r := findA kv es 0) q fun r hr => ?_⟩ <;> (cases r <;> exact hr)
    | _ => rfl
  · rw [if_neg h]
    exact propext ⟨fun q => q.elim, fun q => h ⟨q.1, q.2.1⟩⟩
theorem o_mkmap (d : Nat) : oneI P F m (.mkmap d) K sf st = (m = false ∧ K (sf.set d (.map st.boxes.length)) (st.push (.mp [] [] 0))) := by
  cases m
  · exact propext ⟨fun h => ⟨rfl, h⟩, fun h => h.2⟩
  · exact propext ⟨fun h => h.elim, fun h => by cases h.1⟩
def updX (m : Bool) (k : KeyK) (mp key x : AV) (K : Sf → St → Prop) (sf : Sf) (st : St) : Prop :=
  keyI k key = true ∧ m = false ∧ x.solid = true ∧ match mp with
  | .map id => (Res.ofOpt (st.getM id)).wp fun es => (findA key es 0).wp fun r => K sf (st.updM id es key x.dis r)
  | _ => False
theorem o_upd (k : KeyK) (mp key x : Opd) : oneI P F m (.upd k mp key x) K sf st = updX m k (sf.ev F mp) (sf.ev F key) (sf.ev F x) K sf st := by
  show (stepI F m (.upd k mp key x) sf st).wp (pairK K) = _
  simp only [stepI]
  unfold updX
  generalize sf.ev F key = kv
  generalize sf.ev F mp = v
  generalize sf.ev F x = xv
  by_cases h : keyI k kv = true ∧ m = false ∧ xv.solid = true
  · have : ∀ A : Prop, (keyI k kv = true ∧ m = false ∧ xv.solid = true ∧ A) = A := fun A => propext ⟨fun q => q.2.2.2, fun q => ⟨h.1, h.2.1, h.2.2, q⟩⟩
    rw [if_pos h, this]
    cases v with
    | map id =>
      simp only
      cases hl : st.getM id with
      | none => rfl
      | some es => exact propext (Res.wp_bind (r := findA kv es 0))
    | _ => rfl
  · rw [if_neg h]
    exact propext ⟨fun q => q.elim, fun q => h ⟨q.1, q.2.1, q.2.2.1⟩⟩
theorem o_x (d : Option Nat) (i : XI) : oneI P F m (.x d i) K sf st = stepX F m i d K sf st := rfl
theorem o_call (d : Option Nat) (p : Bool) (f : Opd) (args : List Opd) : oneI P F m (.call d p f args) K sf st = callI P m p d (sf.ev F f) (args.map (sf.ev F)) K sf st := rfl
theorem callI_eq (p : Bool) (d : Option Nat) (q : FuncId) (fs cs args : List AV) : callI P m p d (.fn (.func q) fs cs) args K sf st =
    (args.all AV.noL = true ∧ (if (p || m) = true then CallP P q (fs ++ args.map AV.dis ++ cs) st (putP K d sf st) else CallA P q (fs ++ args.map AV.dis ++ cs) st (putK K d sf))) := rfl
theorem wp_ok {A : Type} (a : A) (C : A → Prop) : (Res.ok a).wp C = C a := rfl
theorem wp_req {A : Type} (b : Bool) (r : Res A) (C : A → Prop) : (Res.req b r).wp C = (b = true ∧ r.wp C) := rfl
theorem wp_fail {A : Type} (C : A → Prop) : (Res.fail : Res A).wp C = False := rfl
theorem bind_ok {A B : Type} (a : A) (f : A → Res B) : (Res.ok a).bind f = f a := rfl
theorem bind_req {A B : Type} (b : Bool) (r : Res A) (f : A → Res B) : (Res.req b r).bind f = .req b (r.bind f) := rfl
theorem ofOpt_some {A : Type} (a : A) : Res.ofOpt (some a) = .ok a := rfl
end
section
variable {P : Program} {m : Bool} {d : Option Nat} {q : FuncId} {fs cs args vs : List AV} {sf : Sf} {st : St} {K : Sf → St → Prop} {v : AV}
theorem call_p {p : Bool} (hvs : fs ++ args.map AV.dis ++ cs = vs) (hent : enterB P q = true) (h : PCalls P q vs st v) (hn : args.all AV.noL = true) (hK : K (sf.put d v) st) : callI P m p d (.fn (.func q) fs cs) args K sf st := by
  rw [callI_eq, hvs]
  refine ⟨hn, ?_⟩
  split
  · exact ⟨hent, v, h, hK⟩
  · exact ⟨hent, _, h.acalls, fun v' st' e => by obtain ⟨rfl, rfl⟩ := e; exact hK⟩
theorem call_a {Q : AV → St → Prop} (hvs : fs ++ args.map AV.dis ++ cs = vs) (hent : enterB P q = true) (h : ACalls P q vs st Q) (hn : args.all AV.noL = true) (hK : ∀ v st', Q v st' → K (sf.put d v) st') : callI P false false d (.fn (.func q) fs cs) args K sf st := by
  rw [callI_eq, hvs]
  exact ⟨hn, hent, Q, h, hK⟩
theorem call_y {id : Nat} {Q : Bool → St → Prop} (hvs : args.map AV.dis = vs) (h : YCalls P id vs st Q) (hn : args.all AV.noL = true) (hK : ∀ t st', Q t st' → K (sf.put d (.lit (.bool t))) st') : callI P false false d (.yld id) args K sf st := by
  subst hvs
  exact ⟨hn, rfl, Q, h, hK⟩
end
theorem range_a {P : Program} {CA CB : Sf → St → (Exit → Sf → St → Prop) → Prop} {ps lb lv ll : List Nat} {q : FuncId} {fs cs : List AV} {sf : Sf} {st : St} {Q : Exit → Sf → St → Prop} (hent : enterB P q = true)
    (h : ∀ r : Loop, (∀ vs st' Q', roundI CA CB ps st.boxes.length r (regsB lb sf) vs st' Q' → YCalls P st.boxes.length vs st' Q') →
      ∃ Qc, ACalls P q (fs ++ [.yld st.boxes.length] ++ cs) (st.push (.lp r (regsB lb sf))) Qc ∧ ∀ v st', Qc v st' → behindI lv ll st.boxes.length r (regsB lb sf) sf st' Q) : rangeI P CA CB ps lb lv ll (.fn (.func q) fs cs) sf st Q := ⟨hent, h⟩
end Go.Fx
/- From the readings of a row to abstract values, and back. -/
namespace Go.Fx
open Go Go.RowKit Go.ChangeShapes
inductive Sh where
  | bool
  | int (k : IntKind)
  | str
  | sl (e : Sh)
  | unit
  | pair (a r : Sh)
@[reducible] def Sh.T : Sh → Type
  | .bool => Bool
  | .int _ => Int
  | .str => ByteArray
  | .sl e => List e.T
  | .unit => Unit
  | .pair a r => a.T × r.T
def Sh.size : Sh → Nat
  | .unit => 0
  | .pair a r => a.size + r.size
  | _ => 1
def Sh.isSt : Sh → Bool
  | .unit => true
  | .pair _ _ => true
  | _ => false
def wrapSt : Bool → List AV → AV
  | true, cs => .agg cs
  | false, cs => cs.headD .any
def Sh.cells : (s : Sh) → s.T → List AV
  | .bool, b => [.lit (.bool b)]
  | .int k, n => [.lit (.int k n)]
  | .str, s => [.lit (.string s)]
  | .sl e, l => [.sl false e.size (List.map (fun x => wrapSt e.isSt (e.cells x)) l)]
  | .unit, _ => []
  | .pair a r, x => a.cells x.1 ++ r.cells x.2
def Sh.av (s : Sh) (x : s.T) : AV := wrapSt s.isSt (s.cells x)
def Sh.ok : (s : Sh) → s.T → Prop
  | .bool, _ => True
  | .int k, n => k.min ≤ n ∧ n ≤ k.max
  | .str, s => s.size ≤ maxLen
  | .sl e, l => l.length ≤ maxLen ∧ ∀ x ∈ l, e.ok x
  | .unit, _ => True
  | .pair a r, x => a.ok x.1 ∧ r.ok x.2
theorem Sh.cells_len : ∀ (s : Sh) (x : s.T), (s.cells x).length = s.size
  | .bool, _ => rfl
  | .int _, _ => rfl
  | .str, _ => rfl
  | .sl _, _ => rfl
  | .unit, _ => rfl
  | .pair a r, x => by simp [Sh.cells, Sh.size, Sh.cells_len a, Sh.cells_len r]
theorem Sh.av_cells (s : Sh) (x : s.T) : (s.av x).cells = s.cells x := by
  cases s <;> rfl
section
variable (P : Program)
mutual
def shape : Nat → TypeId → Option Sh
  | 0, _ => none
  | n + 1, t => match P.underlying t with
    | some .bool => some .bool
    | some (.int k) => some (.int k)
    | some .string => some .str
    | some (.slice e) => (shape n e).bind fun s => if s.size = P.cellsOf e ∧ 0 < s.size then some (.sl s) else none
    | some (.struct fs) => (shapeF n 0 fs.toList).bind fun s => if s.size = P.cellsOf t then some s else none
    | _ => none
def shapeF : Nat → Nat → List Field → Option Sh
  | 0, _, _ => none
  | _ + 1, _, [] => some .unit
  | n + 1, off, f :: r => if f.offset = off then (shape n f.type).bind fun a => if a.size = P.cellsOf f.type then (shapeF n (off + a.size) r).map (.pair a ·) else none else none
end
end
theorem shapeF_st {P : Program} : ∀ {n off : Nat} {l : List Field} {s : Sh}, shapeF P n off l = some s → s.isSt = true
  | 0, _, _, _, h => by simp [shapeF] at h
  | n + 1, off, [], s, h => by simp [shapeF] at h; subst h; rfl
  | n + 1, off, f :: r, s, h => by
    simp only [shapeF] at h
    split at h
    · rw [Option.bind_eq_some_iff] at h
      obtain ⟨a, _, h⟩ := h
      split at h
      · obtain ⟨q, _, rfl⟩ := map_some h; rfl
      · cases h
    · cases h
section
variable {H : Type} {enc : TypeId × Value → H} {P : Program} {w : World} {base : Nat} {spare : Nat → Bool} {held : Bool} {g : Gh}
theorem cells_get {a : Addr} {q : Nat} {cs : List Value} (h : w.cells? base a q = some cs) : cs.length = q ∧ ∀ (i : Nat) (u : Value), cs[i]? = some u → w.cell? (a.add i) = some u := by
  unfold World.cells? at h
  split at h
  · have key : ∀ (l : List Nat) (cs : List Value), l.mapM (fun i => w.cell? (a.add i)) = some cs → cs.length = l.length ∧ ∀ (i j : Nat) (u : Value), l[i]? = some j → cs[i]? = some u → w.cell? (a.add j) = some u := by
      intro l
      induction l with
      | nil => intro cs h; simp at h; subst h; exact ⟨rfl, fun i j u h => by simp at h⟩
      | cons x r ih =>
        intro cs h
        simp only [List.mapM_cons, bind, Option.bind_eq_some_iff, pure, Option.some.injEq] at h
        obtain ⟨v, hv, l', hl, rfl⟩ := h
        obtain ⟨h1, h2⟩ := ih l' hl
        refine ⟨by simp [h1], fun i j u hi hu => ?_⟩
        cases i with
        | zero => simp at hi hu; subst hi; subst hu; exact hv
        | succ i => exact h2 i j u (by simpa using hi) (by simpa using hu)
    obtain ⟨h1, h2⟩ := key _ _ h
    simp at h1
    refine ⟨h1, fun i u hu => h2 i i u ?_ hu⟩
    have : i < q := by rw [← h1]; exact (List.getElem?_eq_some_iff.1 hu).1
    simp [this]
  · cases h
theorem add_spot {a : Addr} {i : Nat} {u : Value} (h : w.cell? (a.add i) = some u) : i = 0 → a.spot = none := by
  intro e
  subst e
  simp only [Addr.add, if_true] at h
  unfold World.cell? at h
  split at h
  · split at h
    · cases h
    · rename_i hs; simpa using hs
  · cases h
theorem reads_one {x : AV} {u : Value} (h : R g x u) : RL g [x] [u] := ⟨rfl, fun i a b ha hb => by cases i <;> simp at ha hb; subst ha; subst hb; exact h⟩
def Reads (g : Gh) (s : Sh) (cs : List Value) : Prop := ∃ x : s.T, s.ok x ∧ RL g (s.cells x) cs ∧ ∀ u ∈ cs, u.oneCell' = true
theorem shape_R (hi : ∀ b o u, w.cell? ⟨b, o, none⟩ = some u → g.imm b o = some u) : ∀ (n : Nat),
    (∀ (t : TypeId) (s : Sh) (fuel : Nat) (cs : List Value) (x : DataW H × List MemPlace), shape P n t = some s → DataW.trod enc P w base spare held fuel t cs = some x → Reads g s cs) ∧
    (∀ (off : Nat) (l : List Field) (s : Sh) (fuel : Nat) (cs : List Value) (xs : List (DataW H × List MemPlace)), shapeF P n off l = some s → cs.length = off + s.size →
      (l.mapM fun f => DataW.trod enc P w base spare held fuel f.type ((cs.drop f.offset).take (P.cellsOf f.type))) = some xs → Reads g s (cs.drop off)) := by
  intro n
  induction n with
  | zero => exact ⟨fun t s fuel cs x h => by simp [shape] at h, fun off l s fuel cs xs h => by simp [shapeF] at h⟩
  | succ n ih =>
    obtain ⟨ih1, ih2⟩ := ih
    constructor
    · intro t s fuel cs x hs ht
      cases fuel with
      | zero => simp [DataW.trod] at ht
      | succ fuel =>
      simp only [shape] at hs
      split at hs
      · rename_i hu
        cases hs
        have : ∃ b, cs = [.bool b] := by
          simp only [DataW.trod, hu] at ht
          split at ht <;> simp_all
        obtain ⟨b, rfl⟩ := this
        exact ⟨b, trivial, reads_one (R.lit _ rfl), by simp [Value.oneCell']⟩
      · rename_i k hu
        cases hs
        have : ∃ m, cs = [.int k m] ∧ (Lit.int k m).wf = true := by
          simp only [DataW.trod, hu] at ht
          split at ht <;> simp_all
        obtain ⟨m, rfl, hwf⟩ := this
        simp only [Lit.wf, Bool.and_eq_true, decide_eq_true_eq] at hwf
        exact ⟨m, hwf, reads_one (R.lit _ rfl), by simp [Value.oneCell']⟩
      · rename_i hu
        cases hs
        have : ∃ q, cs = [.string q] ∧ q.size ≤ maxLen := by
          simp only [DataW.trod, hu] at ht
          split at ht <;> simp_all
        obtain ⟨q, rfl, hwf⟩ := this
        exact ⟨q, hwf, reads_one (R.lit _ rfl), by simp [Value.oneCell']⟩
      · rename_i e hu
        rw [Option.bind_eq_some_iff] at hs
        obtain ⟨se, hse, hs⟩ := hs
        split at hs
        case isFalse => cases hs
        rename_i hsz
        cases hs
        have : cs = [.slice none 0 0] ∨ ∃ a len cap elems, cs = [.slice (some a) len cap] ∧ len ≤ cap ∧ cap ≤ maxLen ∧
            (List.range len).mapM (fun i => (w.cells? base (a.add (i * P.cellsOf e)) (P.cellsOf e)).bind (DataW.trod enc P w base spare held fuel e)) = some elems := by
          simp only [DataW.trod, hu] at ht
          split at ht
          all_goals try (exfalso; simp_all; done)
          · rename_i e1 h1
            exact .inl rfl
          · rename_i e1 a len cap h1
            cases h1
            split at ht
            · rename_i hc
              rw [Option.bind_eq_some_iff] at ht
              obtain ⟨elems, hm, _⟩ := ht
              exact .inr ⟨a, len, cap, elems, rfl, hc.2.1, hc.2.2, hm⟩
            · cases ht
        rcases this with rfl | ⟨a, len, cap, elems, rfl, hlc, hcm, hm⟩
        · exact ⟨[], ⟨Nat.zero_le _, by simp⟩, reads_one (R.slN _ _), by simp [Value.oneCell']⟩
        · have key : ∀ (l : List Nat) (es : List (DataW H × List MemPlace)), l.mapM (fun i => (w.cells? base (a.add (i * P.cellsOf e)) (P.cellsOf e)).bind (DataW.trod enc P w base spare held fuel e)) = some es →
              ∃ ys : List se.T, ys.length = l.length ∧ ∀ (q j : Nat) (y : se.T), l[q]? = some j → ys[q]? = some y → se.ok y ∧ ∃ cj, w.cells? base (a.add (j * P.cellsOf e)) (P.cellsOf e) = some cj ∧ RL g (se.cells y) cj ∧ ∀ u ∈ cj, u.oneCell' = true := by
            intro l
            induction l with
            | nil => intro es _; exact ⟨[], rfl, fun q j y h => by simp at h⟩
            | cons z r ihl =>
              intro es h
              simp only [List.mapM_cons, bind, Option.bind_eq_some_iff, pure, Option.some.injEq] at h
              obtain ⟨v, ⟨cj, hcj, hv⟩, l', hl, rfl⟩ := h
              obtain ⟨ys, h1, h2⟩ := ihl l' hl
              obtain ⟨y, hy1, hy2, hy3⟩ := ih1 e se fuel cj v hse hv
              refine ⟨y :: ys, by simp [h1], fun q j y' hq hy => ?_⟩
              cases q with
              | zero => simp at hq hy; subst hq; subst hy; exact ⟨hy1, cj, hcj, hy2, hy3⟩
              | succ q => exact h2 q j y' (by simpa using hq) (by simpa using hy)
          obtain ⟨ys, hyl, hys⟩ := key _ _ hm
          simp at hyl
          have hsz1 := hsz.1
          refine ⟨ys, ⟨by rw [hyl]; omega, fun y hy => ?_⟩, reads_one ?_, by simp [Value.oneCell']⟩
          · obtain ⟨q, hq⟩ := List.mem_iff_getElem?.1 hy
            have hql : q < len := by rw [← hyl]; exact (List.getElem?_eq_some_iff.1 hq).1
            exact (hys q q y (by simp [hql]) hq).1
          · have hel : (List.map (fun x => wrapSt se.isSt (se.cells x)) ys).length = len := by simp [hyl]
            rcases Nat.eq_zero_or_pos len with h0 | h0
            · subst h0
              have : ys = [] := List.eq_nil_of_length_eq_zero hyl
              subst this
              exact R.slE false _ a cap
            · have hsp : a.spot = none := by
                obtain ⟨y0, hy0⟩ : ∃ y0, ys[0]? = some y0 := ⟨ys[0], by simp⟩
                obtain ⟨_, cj, hcj, hrl, _⟩ := hys 0 0 y0 (by simp [h0]) hy0
                obtain ⟨hl0, hc0⟩ := cells_get hcj
                have hpos : 0 < cj.length := by rw [hl0, ← hsz1]; exact hsz.2
                have := hc0 0 cj[0] (by simp [hpos])
                simp only [Nat.zero_mul] at this
                have ha0 : (a.add 0).add 0 = a.add 0 := by simp [Addr.add]
                rw [ha0] at this
                exact add_spot this rfl
              obtain ⟨b, o, sp⟩ := a
              simp only at hsp
              subst hsp
              have hcl : ∀ x ∈ (List.map (fun x => wrapSt se.isSt (se.cells x)) ys), x.cells.length = se.size := by
                intro x hx
                obtain ⟨y, _, rfl⟩ := List.mem_map.1 hx
                have := Sh.av_cells se y
                unfold Sh.av at this
                rw [this]; exact Sh.cells_len se y
              have hget : ∀ (i : Nat) (x : AV), ((List.map (fun x => wrapSt se.isSt (se.cells x)) ys).flatMap AV.cells)[i]? = some x → ∃ u, w.cell? ⟨b, o + i, none⟩ = some u ∧ R g x u ∧ u.oneCell' = true := by
                intro i x hx
                obtain ⟨q, r, e', rfl, h2, h3⟩ := flat_index hcl hx
                simp only [List.getElem?_map, Option.map_eq_some_iff] at h2
                obtain ⟨y, hy, rfl⟩ := h2
                have hql : q < len := by rw [← hyl]; exact (List.getElem?_eq_some_iff.1 hy).1
                obtain ⟨_, cj, hcj, hrl, hone⟩ := hys q q y (by simp [hql]) hy
                have hav := Sh.av_cells se y
                unfold Sh.av at hav
                rw [hav] at h3
                obtain ⟨hl0, hc0⟩ := cells_get hcj
                have hr : r < cj.length := by rw [hrl.1]; exact (List.getElem?_eq_some_iff.1 h3).1
                have h4 := hc0 r cj[r] (by simp [hr])
                rw [addr_add, addr_add, ← hsz1] at h4
                refine ⟨cj[r], ?_, hrl.2 r x _ h3 (by simp [hr]), hone _ (List.getElem_mem hr)⟩
                rw [← Nat.add_assoc]; exact h4
              have := R.sl (g := g) false se.size _ (fun i => (w.cell? ⟨b, o + i, none⟩).getD undef) b o cap (by rw [hel]; exact hlc) hcl (fun i x hx => ?_) (fun i x hx => ?_) (fun i x hx => ?_)
              · rw [hel] at this; exact this
              · obtain ⟨u, h1, h2, h3⟩ := hget i x hx
                rw [h1]; exact hi _ _ _ h1
              · obtain ⟨u, h1, h2, h3⟩ := hget i x hx
                rw [h1]; exact h2
              · obtain ⟨u, h1, h2, h3⟩ := hget i x hx
                rw [h1]; exact h3
      · rename_i fs hu
        rw [Option.bind_eq_some_iff] at hs
        obtain ⟨s', hs', hs⟩ := hs
        split at hs
        case isFalse => cases hs
        rename_i hsz
        have hss : s' = s := Option.some.inj hs
        subst hss
        have : cs.length = P.cellsOf t ∧ ∃ xs, (fs.toList.mapM fun f => DataW.trod enc P w base spare held fuel f.type ((cs.drop f.offset).take (P.cellsOf f.type))) = some xs := by
          simp only [DataW.trod, hu] at ht
          split at ht
          all_goals try (exfalso; simp_all; done)
          rename_i hc
          obtain ⟨xs, hxs, _⟩ := map_some ht
          exact ⟨hc, xs, hxs⟩
        obtain ⟨hlen, xs, hxs⟩ := this
        have := ih2 0 fs.toList s' fuel cs xs hs' (by rw [hlen, hsz]; simp) hxs
        simpa using this
      · cases hs
    · intro off l s fuel cs xs hs hlen hm
      cases l with
      | nil =>
        simp only [shapeF] at hs
        cases hs
        refine ⟨(), trivial, ?_, ?_⟩
        · have : cs.drop off = [] := by apply List.drop_eq_nil_of_le; simp [Sh.size] at hlen; omega
          rw [this]; exact RL.nil
        · have : cs.drop off = [] := by apply List.drop_eq_nil_of_le; simp [Sh.size] at hlen; omega
          rw [this]; simp
      | cons f r =>
        simp only [shapeF] at hs
        split at hs
        case isFalse => cases hs
        rename_i hoff
        rw [Option.bind_eq_some_iff] at hs
        obtain ⟨a, ha, hs⟩ := hs
        split at hs
        case isFalse => cases hs
        rename_i hsz
        obtain ⟨q, hq, rfl⟩ := map_some hs
        simp only [List.mapM_cons, bind, Option.bind_eq_some_iff, pure, Option.some.injEq] at hm
        obtain ⟨x0, hx0, xr, hxr, rfl⟩ := hm
        obtain ⟨y, hy1, hy2, hy3⟩ := ih1 f.type a fuel _ x0 ha hx0
        obtain ⟨z, hz1, hz2, hz3⟩ := ih2 (off + a.size) r q fuel cs xr hq (by rw [hlen]; simp [Sh.size]; omega) hxr
        have hsplit : cs.drop off = (cs.drop f.offset).take (P.cellsOf f.type) ++ cs.drop (off + a.size) := by
          rw [hoff, ← hsz, ← List.drop_drop]
          exact (List.take_append_drop a.size (cs.drop off)).symm
        rw [hsplit]
        exact ⟨(y, z), ⟨hy1, hz1⟩, hy2.append hz2, fun u hu => (List.mem_append.1 hu).elim (hy3 u) (hz3 u)⟩
theorem cell_plain {r : Reach} {b0 : Nat} {t : TypeId} {v : Value} {s : Sh} {n : Nat} (hs : shape P (n + 1) t = some s) (hv : Value.okWide P w r b0 t v) : (s.isSt = true ∧ ∃ cs, v = .agg cs) ∨ (s.isSt = false ∧ v.cells = #[v]) := by
  simp only [shape] at hs
  unfold Value.okWide at hv
  split at hs
  · rename_i hu
    cases hs
    simp only [hu, Cell.okWide, Cell.ok] at hv
    right
    refine ⟨rfl, ?_⟩
    cases v <;> first | rfl | (simp at hv; done)
  · rename_i k hu
    cases hs
    simp only [hu, Cell.okWide, Cell.ok] at hv
    right
    refine ⟨rfl, ?_⟩
    cases v <;> first | rfl | (simp at hv; done)
  · rename_i hu
    cases hs
    simp only [hu, Cell.okWide, Cell.ok] at hv
    right
    refine ⟨rfl, ?_⟩
    cases v <;> first | rfl | (simp at hv; done)
  · rename_i e hu
    rw [Option.bind_eq_some_iff] at hs
    obtain ⟨se, hse, hs⟩ := hs
    split at hs
    case isFalse => cases hs
    cases hs
    simp only [hu, Cell.okWide, Cell.ok] at hv
    right
    refine ⟨rfl, ?_⟩
    cases v <;> first | rfl | (simp at hv; done)
  · rename_i fs hu
    rw [Option.bind_eq_some_iff] at hs
    obtain ⟨s', hs', hs⟩ := hs
    split at hs
    case isFalse => cases hs
    have hss : s' = s := Option.some.inj hs
    subst hss
    simp only [hu] at hv
    obtain ⟨cs, rfl, _⟩ := hv
    exact .inl ⟨shapeF_st hs', cs, rfl⟩
  · cases hs
theorem trod_sh (hi : ∀ b o u, w.cell? ⟨b, o, none⟩ = some u → g.imm b o = some u) {n : Nat} {t : TypeId} {s : Sh} {v : Value} {d : DataW H} {ps : List MemPlace} {r : Reach} {b0 : Nat} (hs : shape P (n + 1) t = some s) (h : DataW.Trod enc P w base spare held t v d ps)
    (hv : Value.okWide P w r b0 t v) : ∃ x : s.T, s.ok x ∧ R g (s.av x) v := by
  obtain ⟨fuel, hf⟩ := h
  obtain ⟨x, h1, h2, h3⟩ := (shape_R (enc := enc) (base := base) (spare := spare) (held := held) hi (n + 1)).1 t s fuel _ _ hs hf
  refine ⟨x, h1, ?_⟩
  rcases cell_plain hs hv with ⟨hst, cs, rfl⟩ | ⟨hst, hc⟩
  · unfold Sh.av
    rw [hst]
    have := RL.agg h2
    simpa [wrapSt, Value.cells] using this
  · rw [hc] at h2
    unfold Sh.av
    rw [hst]
    simp only [wrapSt]
    have hl := h2.1
    match hcs : s.cells x, hl with
    | [c], _ =>
      rw [hcs] at h2
      exact h2.2 0 c v rfl rfl
def parS (P : Program) : List TypeId → Option Sh
  | [] => some .unit
  | t :: r => match shape P 20 t, parS P r with
    | some s, some q => some (.pair s q)
    | _, _ => none
def avsOf : (s : Sh) → s.T → List AV
  | .pair a r, x => a.av x.1 :: avsOf r x.2
  | .bool, _ => []
  | .int _, _ => []
  | .str, _ => []
  | .sl _, _ => []
  | .unit, _ => []
theorem args_R (hi : ∀ b o u, w.cell? ⟨b, o, none⟩ = some u → g.imm b o = some u) {b0 : Nat} : ∀ {ts : List TypeId} {vs : List Value} {ds : List (DataW H)} {ps : List MemPlace} {S : Sh}, parS P ts = some S → DataW.TrodAll enc P w base spare held ts vs ds ps →
    (∀ (j : Nat) t v, ts[j]? = some t → vs[j]? = some v → Value.okWide P w .any b0 t v) → ∃ x : S.T, S.ok x ∧ ArgsR g (avsOf S x) vs.toArray
  | [], vs, ds, ps, S, hS, h, _ => by
    simp only [parS] at hS
    cases hS
    cases vs with
    | nil => exact ⟨(), trivial, rfl, fun i x u hx => by simp [avsOf] at hx⟩
    | cons v r => cases ds <;> exact h.elim
  | t :: ts, vs, ds, ps, S, hS, h, hok => by
    simp only [parS] at hS
    split at hS
    · rename_i s q hs hq
      cases hS
      cases vs with
      | nil => cases ds <;> exact h.elim
      | cons v vs =>
        cases ds with
        | nil => exact h.elim
        | cons d ds =>
          obtain ⟨p1, p2, h1, h2, _⟩ := h
          obtain ⟨x, hx1, hx2⟩ := trod_sh hi (n := 19) hs h1 (hok 0 t v rfl rfl)
          obtain ⟨y, hy1, hy2⟩ := args_R hi hq h2 (fun j t v ht hv => hok (j + 1) t v (by simpa using ht) (by simpa using hv))
          refine ⟨(x, y), ⟨hx1, hy1⟩, by simpa [avsOf] using hy2.1, fun i a u ha hu => ?_⟩
          cases i with
          | zero => simp [avsOf] at ha hu; subst ha; subst hu; exact hx2
          | succ i => exact hy2.2 i a u (by simpa [avsOf] using ha) (by simpa using hu)
    · cases hS
theorem trodAll_stays (hl : laidOutB P = true) {W W' : World} {sp' : Nat → Bool} : ∀ {ts : List TypeId} {vs : List Value} {ds : List (DataW H)} {ps : List MemPlace}, (∀ t ∈ ts, P.readableRec t = true ∧ t < P.types.size) →
    DataW.TrodAll enc P W base (fun _ => true) true ts vs ds ps → (∀ p ∈ ps, W.sameAt W' p) → (∀ p ∈ ps, sp' p.block = true) → DataW.TrodAll enc P W' base sp' true ts vs ds ps
  | [], [], [], ps, _, h, _, _ => h
  | [], [], _ :: _, _, _, h, _, _ => h.elim
  | [], _ :: _, [], _, _, h, _, _ => h.elim
  | [], _ :: _, _ :: _, _, _, h, _, _ => h.elim
  | _ :: _, [], [], _, _, h, _, _ => h.elim
  | _ :: _, [], _ :: _, _, _, h, _, _ => h.elim
  | _ :: _, _ :: _, [], _, _, h, _, _ => h.elim
  | t :: ts, v :: vs, d :: ds, ps, ht, h, hs, hp => by
    obtain ⟨p, q, h1, h2, rfl⟩ := h
    exact ⟨p, q, WideElems.Trod_stays hl (ht t (by simp)).1 (ht t (by simp)).2 h1 (fun x hx => hs x (by simp [hx])) (fun x hx => hp x (by simp [hx])),
      trodAll_stays hl (fun t h => ht t (by simp [h])) h2 (fun x hx => hs x (by simp [hx])) (fun x hx => hp x (by simp [hx])), rfl⟩
theorem keptBut_below {W W' : World} {may : MemPlace → Prop} (hb : Below W.heap.size W W') : W.keptBut W' may := by
  refine ⟨hb.os, hb.output, fun i hi => ?_⟩
  rw [hb.block i hi]
  cases hh : W.heap[i]? with
  | none => rfl
  | some o => cases o <;> first | rfl | exact ⟨rfl, rfl, rfl, fun _ _ => rfl⟩ | exact .inr ⟨rfl, rfl⟩
theorem post_law {f : Func} {s : ChangeSpec} {apart fresh handsOn again : Bool} {W W' : World} {args : Array Value} {ds gs : List (DataW H)} {before : List MemPlace} {tb : TypeId} (hl : laidOutB P = true) (ht : ∀ t ∈ f.params.toList, P.readableRec t = true ∧ t < P.types.size)
    (hres : f.resultTypes = #[tb]) (htb : P.underlying tb = some .bool) (hvars : s.vars = []) (hfn : ∀ ds : List (DataW H), ds.length = f.params.size → (s.fn H ds).results = [.lit (.bool true)] ∧ (s.fn H ds).args = ds ∧ (s.fn H ds).vars = [])
    (hW : DataW.Whole enc P f.params.toList s.vars apart W args.toList ds gs before) (hb : Below W.heap.size W W') : s.post enc P f apart fresh handsOn again W args (.bool true) W' := by
  have hW0 := hW
  obtain ⟨p, q, hA, hV, hpq, hz, hn⟩ := hW
  rw [hvars] at hV
  obtain ⟨rfl, rfl⟩ := trodVars_none hV
  simp only [List.append_nil] at hpq
  subst hpq
  have hlen : ds.length = f.params.size := by
    have key : ∀ {ts : List TypeId} {vs : List Value} {ds : List (DataW H)} {ps : List MemPlace}, DataW.TrodAll enc P W 0 (fun _ => true) true ts vs ds ps → ds.length = ts.length := by
      intro ts
      induction ts with
      | nil => intro vs ds ps h; cases vs <;> cases ds <;> first | rfl | exact h.elim
      | cons t ts ih =>
        intro vs ds ps h
        cases vs <;> cases ds <;> first | exact h.elim | skip
        obtain ⟨_, _, _, h2, _⟩ := h
        simp [ih h2]
    have := key hA
    simpa using this
  obtain ⟨hr1, hr2, hr3⟩ := hfn (ds ++ []) (by simpa using hlen)
  have hlt : ∀ x ∈ before, x.block < W.heap.size := fun x hx => by simpa using hW0.lt x hx
  have hsame : ∀ x ∈ before, W.sameAt W' x := fun x hx => hb.same (hlt x hx)
  have hret : ∀ (b : Nat) (sp : Nat → Bool) (hd : Bool), DataW.TrodAll enc P W' b sp hd f.resultTypes.toList ((Value.bool true).resultList f.resultTypes.size) (s.fn H (ds ++ [])).results [] := by
    intro b sp hd
    rw [hr1, hres]
    refine ⟨[], [], ⟨1, ?_⟩, rfl, rfl⟩
    simp [DataW.trod, htb, Value.cells]
  have hargs : ∀ sp : Nat → Bool, (∀ p ∈ before, sp p.block = true) → DataW.TrodAll enc P W' 0 sp true f.params.toList args.toList (s.fn H (ds ++ [])).args before := by
    intro sp hsp
    rw [hr2, List.append_nil]
    exact trodAll_stays hl ht hA hsame hsp
  have hvs : ∀ sp : Nat → Bool, DataW.TrodVars enc P W' sp s.vars (s.fn H (ds ++ [])).vars [] := by
    intro sp
    rw [hvars, hr3]
    rfl
  refine ⟨ds, [], before, [], before, [], hW0, hret _ _ _, hargs _ (fun x hx => by simpa using hlt x hx), hvs _, keptBut_below hb, fun _ => ?_⟩
  refine ⟨fun j t r hj hr => ?_, _, _, ([] ++ before) ++ [], ⟨[] ++ before, [], trodAll_append (hargs _ (fun _ _ => rfl)) (hret _ _ _), hvs _, rfl, ?_, ?_⟩, ?_⟩
  · rw [hres] at hj hr
    match j with
    | 0 =>
      simp [Value.resultList] at hj hr
      subst hj; subst hr
      simp [Value.okWide, htb, Cell.okWide, Cell.ok]
    | j + 1 => simp at hj
  · intro b off hp
    have hp' : (MemPlace.cell b off) ∈ before := by simpa using hp
    have h1 := hz b off hp'
    have h2 := hlt _ hp'
    unfold World.frozen? at h1 ⊢
    rw [hb.block b h2]; exact h1
  · intro ha
    have := hn ha
    simpa using this
  · intro x hx _
    simpa using hx
theorem wrap_nb {b : Bool} {l : List AV} (h : ∀ c ∈ l, c.NB) : (wrapSt b l).NB := by
  cases b
  · cases l with
    | nil => exact .any
    | cons c r => exact h c (List.mem_cons_self ..)
  · exact .agg _ h
theorem cells_nb : ∀ (s : Sh) (x : s.T), ∀ c ∈ s.cells x, c.NB
  | .bool, b, c, h => by simp only [Sh.cells, List.mem_singleton] at h; subst h; exact .lit _
  | .int _, b, c, h => by simp only [Sh.cells, List.mem_singleton] at h; subst h; exact .lit _
  | .str, b, c, h => by simp only [Sh.cells, List.mem_singleton] at h; subst h; exact .lit _
  | .sl e, l, c, h => by
    simp only [Sh.cells, List.mem_singleton] at h; subst h
    refine .sl _ _ _ fun v hv => ?_
    obtain ⟨y, _, rfl⟩ := List.mem_map.1 hv
    exact wrap_nb (cells_nb e y)
  | .unit, _, c, h => by simp [Sh.cells] at h
  | .pair a r, x, c, h => by
    simp only [Sh.cells, List.mem_append] at h
    exact h.elim (cells_nb a x.1 c) (cells_nb r x.2 c)
theorem avsOf_nb : ∀ (s : Sh) (x : s.T), ∀ c ∈ avsOf s x, c.NB
  | .pair a r, x, c, h => by
    simp only [avsOf, List.mem_cons] at h
    rcases h with rfl | h
    · exact wrap_nb (cells_nb a x.1)
    · exact avsOf_nb r x.2 c h
  | .bool, _, c, h => by simp [avsOf] at h
  | .int _, _, c, h => by simp [avsOf] at h
  | .str, _, c, h => by simp [avsOf] at h
  | .sl _, _, c, h => by simp [avsOf] at h
  | .unit, _, c, h => by simp [avsOf] at h
theorem law_calls {f : FuncId} {fn : Func} {s : ChangeSpec} {apart fresh handsOn again : Bool} {tb : TypeId} {S : Sh} (hl : laidOutB P = true) (ht : ∀ t ∈ fn.params.toList, P.readableRec t = true ∧ t < P.types.size)
    (hS : parS P fn.params.toList = some S) (hres : fn.resultTypes = #[tb]) (htb : P.underlying tb = some .bool) (hvars : s.vars = []) (hfn : ∀ ds : List (DataW H), ds.length = fn.params.size → (s.fn H ds).results = [.lit (.bool true)] ∧ (s.fn H ds).args = ds ∧ (s.fn H ds).vars = [])
    (hlaw : ∀ x : S.T, S.ok x → PCalls P f (avsOf S x) ⟨[]⟩ (.lit (.bool true)))
    (W : World) (b0 : Nat) (args : Array Value) (ds gs : List (DataW H)) (before : List MemPlace) (hval : ∀ (j : Nat) t v, fn.params[j]? = some t → args[j]? = some v → Value.okWide P W .any b0 t v)
    (hW : DataW.Whole enc P fn.params.toList s.vars apart W args.toList ds gs before) : Calls P f args W fun e W' => ∃ v, e = .returned v ∧ s.post enc P fn apart fresh handsOn again W args v W' := by
  have hW0 := hW
  obtain ⟨p, q, hA, _⟩ := hW
  let g0 : Gh := ⟨W.heap.size, fun b o => W.cell? ⟨b, o, none⟩, fun _ => none, fun _ _ => none, fun _ => none⟩
  have hg : Good g0 W := ⟨fun _ _ _ h => h, fun _ _ _ _ => .inl rfl, (fun b c hc => by cases hc), Nat.le_refl _⟩
  have hbx : BoxR g0 W ⟨[]⟩ := ⟨fun _ _ => rfl, fun id cs hc => by simp at hc, fun id bx hc => by simp at hc⟩
  obtain ⟨x, hx, hargs⟩ := args_R (g := g0) (b0 := b0) (fun b o u h => h) hS hA (fun j t v ht hv => hval j t v (by simpa using ht) (by simpa using hv))
  refine (hlaw x hx g0 W args (fun _ => .box 0 0) hg hbx (by simpa using hargs)).mono fun e W' ⟨u, g', he, hle, hR, _⟩ => ?_
  have hu := hR.lit_inv.1
  subst hu
  exact ⟨_, he, post_law hl ht hres htb hvars hfn hW0 hle.below⟩
theorem law_top {f : FuncId} {fn : Func} {s : ChangeSpec} {apart fresh handsOn again : Bool} {tb : TypeId} {S : Sh} (hl : laidOutB P = true) (ht : (fn.params.toList.all fun t => P.readableRec t && decide (t < P.types.size)) = true)
    (hS : parS P fn.params.toList = some S) (hres : fn.resultTypes = #[tb]) (htb : P.underlying tb = some .bool) (hvars : s.vars = []) (hfn : ∀ ds : List (DataW H), ds.length = fn.params.size → (s.fn H ds).results = [.lit (.bool true)] ∧ (s.fn H ds).args = ds ∧ (s.fn H ds).vars = [])
    (hlaw : ∀ x : S.T, S.ok x → ACalls P f (avsOf S x) ⟨[]⟩ fun v _ => v = .lit (.bool true))
    (W : World) (b0 : Nat) (args : Array Value) (ds gs : List (DataW H)) (before : List MemPlace) (hval : ∀ (j : Nat) t v, fn.params[j]? = some t → args[j]? = some v → Value.okWide P W .any b0 t v)
    (hW : DataW.Whole enc P fn.params.toList s.vars apart W args.toList ds gs before) : Calls P f args W fun e W' => ∃ v, e = .returned v ∧ s.post enc P fn apart fresh handsOn again W args v W' := by
  refine law_calls hl (fun t h => by have := List.all_eq_true.1 ht t h; simpa using this) hS hres htb hvars hfn (fun x hx => ?_) W b0 args ds gs before hval hW
  refine pure_of ((hlaw x hx).mono fun v st e => by subst e; exact .le _ _ (.refl _) (.lit _)) (fun v hv => avsOf_nb S x v hv) _
end
end Go.Fx
/- Code that is carried out: an evaluator, and that it is right. -/
namespace Go.Fx
open Go
section
variable (F : Nat → FuncId) (call : FuncId → List AV → St → Option (AV × St)) (pc : FuncId → List AV → Option AV)
end
section
variable {P : Program} {F : Nat → FuncId} {call : FuncId → List AV → St → Option (AV × St)} {pc : FuncId → List AV → Option AV}
def TabOk (P : Program) (F : Nat → FuncId) (T : FuncId → Option AFun) : Prop := ∀ q fn, T q = some fn → enterB P q = true ∧ ∃ X : Cx, X.F = F ∧ compF P X q = some fn
end
end Go.Fx
/- Evaluation by rewriting: small equations, and steps at branches. -/
namespace Go.Fx
open Go
section
variable (v : Value) (vs cs : List AV) (i o k s t n l c : Nat) (b : Bool) (x : AV) (f : Fn) (w : Option Nat)
theorem dis_any : AV.any.dis = .any := rfl
theorem dis_lit : (AV.lit v).dis = .lit v := rfl
theorem dis_ptr : (AV.ptr i o).dis = .ptr i o := rfl
theorem dis_sl : (AV.sl b k cs).dis = .sl false k cs := rfl
theorem dis_map : (AV.map i).dis = .map i := rfl
theorem dis_yld (i : Nat) : (AV.yld i).dis = .yld i := rfl
theorem dis_fn : (AV.fn f vs cs).dis = .fn f vs cs := rfl
theorem dis_agg : (AV.agg cs).dis = .agg (cs.map AV.own1) := rfl
theorem dis_tup : (AV.tup cs).dis = .tup (cs.map AV.own2) := rfl
theorem dis_bs : (AV.bs i k o l c).dis = .bs i k o l c := rfl
theorem own1_lit : (AV.lit v).own1 = .lit v := rfl
theorem own1_ptr : (AV.ptr i o).own1 = .ptr i o := rfl
theorem own1_map : (AV.map i).own1 = .map i := rfl
theorem own2_lit : (AV.lit v).own2 = .lit v := rfl
theorem own2_ptr : (AV.ptr i o).own2 = .ptr i o := rfl
theorem own2_agg : (AV.agg cs).own2 = .agg (cs.map AV.own1) := rfl
theorem own2_bs : (AV.bs i k o l c).own2 = .bs i k o l c := rfl
theorem cells_lit : (AV.lit v).cells = [.lit v] := rfl
theorem cells_ptr : (AV.ptr i o).cells = [.ptr i o] := rfl
theorem cells_sl : (AV.sl b k cs).cells = [.sl b k cs] := rfl
theorem cells_map : (AV.map i).cells = [.map i] := rfl
theorem cells_agg : (AV.agg cs).cells = cs := rfl
theorem solid1_lit : (AV.lit v).solid1 = true := rfl
theorem solid1_ptr : (AV.ptr i o).solid1 = true := rfl
theorem solid1_sl : (AV.sl b k cs).solid1 = true := rfl
theorem solid1_map : (AV.map i).solid1 = true := rfl
theorem solid_eq : x.solid = x.cells.all AV.solid1 := rfl
theorem noL_any : AV.any.noL = true := rfl
theorem noL_lit : (AV.lit v).noL = true := rfl
theorem noL_ptr : (AV.ptr i o).noL = true := rfl
theorem noL_sl : (AV.sl b k cs).noL = true := rfl
theorem noL_map : (AV.map i).noL = true := rfl
theorem noL_fn : (AV.fn f vs cs).noL = true := rfl
theorem noL_agg : (AV.agg cs).noL = true := rfl
theorem noL_tup : (AV.tup cs).noL = true := rfl
theorem noL_bs : (AV.bs i k o l c).noL = true := rfl
theorem kill_any : kill s .any = .any := rfl
theorem kill_lit : kill s (.lit v) = .lit v := rfl
theorem kill_ptr : kill s (.ptr i o) = .ptr i o := rfl
theorem kill_lptr : kill s (.lptr t o) = if t = s then .any else .lptr t o := rfl
theorem kill_map : kill s (.map i) = .map i := rfl
theorem kill_agg : kill s (.agg cs) = .agg cs := rfl
theorem kill_tup : kill s (.tup cs) = .tup cs := rfl
theorem kill_bs : kill s (.bs i k o l c) = .bs i k o l c := rfl
end
section
variable (F : Nat → FuncId) (sf : Sf) (t g : Nat) (v : AV) (st : St)
theorem ev_r : sf.ev F (.r t) = sf.reg t := rfl
theorem ev_c : sf.ev F (.c v) = v := rfl
theorem ev_f : sf.ev F (.f g) = .fn (.func (F g)) [] [] := rfl
theorem evOwn_r : sf.evOwn F (.r t) = sf.reg t := rfl
theorem disOp_r : sf.disOp (.r t) = sf.disAt t := rfl
theorem setB_r (b : Bool) : (Opd.r t).setB sf b = sf.set t (.lit (.bool b)) := rfl
theorem putS (d : Nat) : sf.put (some d) v = sf.set d v := rfl
variable (k k' : IntKind) (a b : Int) (p q : Bool) (sa sb : ByteArray)
theorem n_add : binI .num .add (.lit (.int k a)) (.lit (.int k b)) = .ok (.lit (.int k (k.wrap (a + b)))) := by cases k <;> rfl
theorem n_sub : binI .num .sub (.lit (.int k a)) (.lit (.int k b)) = .ok (.lit (.int k (k.wrap (a - b)))) := by cases k <;> rfl
theorem n_eql : binI .num .eql (.lit (.int k a)) (.lit (.int k b)) = .ok (.lit (.bool (decide (a = b)))) := by cases k <;> rfl
theorem n_neq : binI .num .neq (.lit (.int k a)) (.lit (.int k b)) = .ok (.lit (.bool (decide (¬ a = b)))) := by
  have h : (a != b) = decide (¬ a = b) := by rw [bne_eq, decide_not]; rfl
  rw [← h]
  cases k <;> rfl
theorem n_lss : binI .num .lss (.lit (.int k a)) (.lit (.int k b)) = .ok (.lit (.bool (decide (a < b)))) := by cases k <;> rfl
theorem n_leq : binI .num .leq (.lit (.int k a)) (.lit (.int k b)) = .ok (.lit (.bool (decide (a ≤ b)))) := by cases k <;> rfl
theorem n_gtr : binI .num .gtr (.lit (.int k a)) (.lit (.int k b)) = .ok (.lit (.bool (decide (a > b)))) := by cases k <;> rfl
theorem n_geq : binI .num .geq (.lit (.int k a)) (.lit (.int k b)) = .ok (.lit (.bool (decide (a ≥ b)))) := by cases k <;> rfl
end
theorem req_dec {A : Type} {p : Prop} [Decidable p] {r : Res A} {K : A → Prop} (h : p) : (Res.req (decide p) r).wp K = r.wp K := by
  rw [wp_req, decide_eq_true h]
  exact propext ⟨fun q => q.2, fun q => ⟨rfl, q⟩⟩
theorem req_tt {A : Type} {r : Res A} {K : A → Prop} : (Res.req true r).wp K = r.wp K := propext ⟨fun q => q.2, fun q => ⟨rfl, q⟩⟩
section
variable {x : Opd} {p : Prop} [Decidable p] {A B : Sf → St → (Exit → Sf → St → Prop) → Prop} {sf : Sf} {st : St} {Q : Exit → Sf → St → Prop} {t : Nat} {b : Bool} {Y N : Sf → St → Prop}
theorem cond_tt : condI x (.lit (.bool true)) A B sf st Q = A (x.setB sf true) st Q := by
  rw [condI_eq]; exact propext ⟨fun h => h.1 rfl, fun h => ⟨fun _ => h, fun e => by cases e⟩⟩
theorem cond_ff : condI x (.lit (.bool false)) A B sf st Q = B (x.setB sf false) st Q := by
  rw [condI_eq]; exact propext ⟨fun h => h.2 rfl, fun h => ⟨fun e => (by cases e), fun _ => h⟩⟩
theorem cond_yes (h : p) : condI x (.lit (.bool (decide p))) A B sf st Q = A (x.setB sf true) st Q := by
  rw [decide_eq_true h, cond_tt]
theorem cond_no (h : ¬ p) : condI x (.lit (.bool (decide p))) A B sf st Q = B (x.setB sf false) st Q := by
  rw [decide_eq_false h, cond_ff]
theorem guard_tt {want : Bool} : guardI t want (.lit (.bool true)) Y N sf st = if want = true then Y (sf.set t (.lit (.bool true))) st else N (sf.set t (.lit (.bool true))) st := by
  rw [guardI_eq]
  cases want
  · exact propext ⟨fun h => h.2 rfl, fun h => ⟨fun e => (by cases e), fun _ => h⟩⟩
  · exact propext ⟨fun h => h.1 rfl, fun h => ⟨fun _ => h, fun e => (by cases e)⟩⟩
theorem guard_ff {want : Bool} : guardI t want (.lit (.bool false)) Y N sf st = if want = true then N (sf.set t (.lit (.bool false))) st else Y (sf.set t (.lit (.bool false))) st := by
  rw [guardI_eq]
  cases want
  · exact propext ⟨fun h => h.1 rfl, fun h => ⟨fun _ => h, fun e => (by cases e)⟩⟩
  · exact propext ⟨fun h => h.2 rfl, fun h => ⟨fun e => (by cases e), fun _ => h⟩⟩
theorem guard_yes (h : p) {want : Bool} : guardI t want (.lit (.bool (decide p))) Y N sf st = if want = true then Y (sf.set t (.lit (.bool true))) st else N (sf.set t (.lit (.bool true))) st := by
  rw [decide_eq_true h, guard_tt]
theorem guard_no (h : ¬ p) {want : Bool} : guardI t want (.lit (.bool (decide p))) Y N sf st = if want = true then N (sf.set t (.lit (.bool false))) st else Y (sf.set t (.lit (.bool false))) st := by
  rw [decide_eq_false h, guard_ff]
end
def maskR : List Nat → List (Nat × AV) → List (Nat × AV)
  | [], _ => []
  | t :: r, l => (t, getR l t) :: maskR r l
theorem maskR_nil (l : List (Nat × AV)) : maskR [] l = [] := rfl
theorem maskR_cons (t : Nat) (r : List Nat) (l : List (Nat × AV)) : maskR (t :: r) l = (t, getR l t) :: maskR r l := rfl
theorem mask_eq (sf : Sf) (lv ll : List Nat) : sf.mask lv ll = ⟨maskR lv sf.regs, maskL ll sf.locs⟩ := by
  have : ∀ lv : List Nat, (lv.map fun t => (t, sf.reg t)) = maskR lv sf.regs := by
    intro lv
    induction lv with
    | nil => rfl
    | cons t r ih => simp only [List.map_cons, maskR, ih]; rfl
  unfold Sf.mask
  rw [this]
theorem and_pre {p q : Prop} (h : p) : (p ∧ q) = q := propext ⟨fun a => a.2, fun a => ⟨h, a⟩⟩
theorem room_of {n bytes : Nat} (h : n * bytes ≤ 140737488355328 ∧ n ≤ 1000000000000000) : roomB n bytes = true := decide_eq_true h
theorem n_nileq (k : NilK) (x y : AV) : binI (.nil k) .eql x y = (Res.ofOpt (eqNilI k x y)).bind fun b => .ok (.lit (.bool b)) := rfl
theorem n_nilne (k : NilK) (x y : AV) : binI (.nil k) .neq x y = (Res.ofOpt (eqNilI k x y)).bind fun b => .ok (.lit (.bool !b)) := rfl
theorem b_eql (a b : Bool) : binI .bool .eql (.lit (.bool a)) (.lit (.bool b)) = .ok (.lit (.bool (a == b))) := rfl
theorem takeI_none (c : AV) (r : List AV) : takeI none (c :: r) = .ok c := rfl
theorem takeI_some (n : Nat) (r : List AV) : takeI (some n) r = .req (decide (n ≤ r.length)) (.ok (.agg (r.take n))) := rfl
section
variable (c a b : AV) (q : Bool) (vs : List AV) (i : Nat)
theorem pick_tt : pickV (.lit (.bool true)) a b = .ok a.dis := rfl
theorem pick_ff : pickV (.lit (.bool false)) a b = .ok b.dis := rfl
end
end Go.Fx
/- What holds of weaker demands; loops that are carried out round by round. -/
namespace Go.Fx
open Go
section
variable {P : Program} {F : Nat → FuncId} {m : Bool}
theorem callI_mono {p : Bool} {d : Option Nat} {f : AV} {args : List AV} {K K' : Sf → St → Prop} {sf : Sf} {st : St} (h : ∀ sf st, K sf st → K' sf st) : callI P m p d f args K sf st → callI P m p d f args K' sf st := by
  unfold callI
  split
  · rintro ⟨h1, h2⟩
    refine ⟨h1, ?_⟩
    split
    · rename_i e; rw [if_pos e] at h2; obtain ⟨a, v, b, c⟩ := h2; exact ⟨a, v, b, h _ _ c⟩
    · rename_i e; rw [if_neg e] at h2; obtain ⟨a, Q, b, c⟩ := h2; exact ⟨a, Q, b, fun v st' q => h _ _ (c v st' q)⟩
  · rintro ⟨h1, h2, Q, h3, h4⟩; exact ⟨h1, h2, Q, h3, fun t st' q => h _ _ (h4 t st' q)⟩
  · exact id
theorem appX_mono {m : Bool} {k bytes : Nat} {b : AV} {C C' : AV → St → Prop} {st : St} {new : List AV} (h : ∀ v st, C v st → C' v st) : appX m k bytes b C st new → appX m k bytes b C' st new := by
  unfold appX
  split
  · rintro ⟨h1, h2, h3, h4⟩
    refine ⟨h1, h2, h3, Res.wp_mono h4 fun cs hc => ?_⟩
    split
    · rename_i e; rw [if_pos e] at hc; exact ⟨hc.1, h _ _ hc.2⟩
    · rename_i e; rw [if_neg e] at hc; exact ⟨hc.1, fun c hc' => h _ _ (hc.2 c hc')⟩
  · rintro ⟨h1, h2, h3⟩
    refine ⟨h1, h2, ?_⟩
    split
    · rename_i e; rw [if_pos e] at h3; exact h _ _ h3
    · rename_i e; rw [if_neg e] at h3; exact fun c hc => h _ _ (h3 c hc)
  · exact id
theorem stepX_mono {i : XI} {d : Option Nat} {K K' : Sf → St → Prop} {sf : Sf} {st : St} (h : ∀ sf st, K sf st → K' sf st) : stepX F m i d K sf st → stepX F m i d K' sf st := by
  have hk : ∀ v st, putK K d sf v st → putK K' d sf v st := fun v st => h _ _
  cases i with
  | bad => exact id
  | nilU op x y =>
    simp only [stepX, nilX]
    split
    · exact fun q b => hk _ _ (q b)
    · exact fun q => Res.wp_mono q fun v => hk v st
  | appB s k bytes y => exact fun q => Res.wp_mono q fun es => appX_mono hk
  | copyB k x y =>
    refine fun q => Res.wp_mono q fun es => ?_
    unfold copyX
    split
    · rintro ⟨h1, h2, h3, h4⟩; exact ⟨h1, h2, h3, Res.wp_mono h4 fun cs hc => ⟨hc.1, hk _ _ hc.2⟩⟩
    · exact fun q => ⟨q.1, hk _ _ q.2⟩
    · exact fun q => ⟨q.1, hk _ _ q.2⟩
    · exact id
  | clrB k z x =>
    simp only [stepX, clrX]
    split
    · rintro ⟨h1, h2, h4⟩; exact ⟨h1, h2, Res.wp_mono h4 fun cs hc => ⟨hc.1, hk _ _ hc.2⟩⟩
    · exact hk _ _
    · exact id
  | clrM x =>
    simp only [stepX, clrMX]
    split
    · rintro ⟨h1, h4⟩; exact ⟨h1, Res.wp_mono h4 fun cs hc => hk _ _ hc⟩
    · exact hk _ _
    · exact id
  | mksB k bytes z l c =>
    simp only [stepX, mksBX]
    split
    · rintro ⟨h1, h2, h3, h4, h5, h6⟩; exact ⟨h1, h2, h3, h4, h5, hk _ _ h6⟩
    · exact id
  | mks k bytes z l c =>
    simp only [stepX, mksX]
    split
    · rintro ⟨h2, h3, h4, h5, h6⟩; exact ⟨h2, h3, h4, h5, hk _ _ h6⟩
    · exact id
  | mknz x =>
    simp only [stepX, mknzX]
    split
    · rintro ⟨h2, h3, h4, h5⟩; exact ⟨h2, h3, h4, fun c hc => hk _ _ (h5 c hc)⟩
    · exact id
  | slA n k x lo hi mx =>
    simp only [stepX, slAX]
    split
    · exact fun q => Res.wp_mono q fun v => hk v st
    · exact id
  | rng x =>
    simp only [stepX, rngX]
    split
    · exact fun q => Res.wp_mono q fun _ => hk _ _
    · exact hk _ _
    · exact id
  | nxt s =>
    simp only [stepX, nxtX]
    split
    · exact h _ _
    · refine fun q => Res.wp_mono q fun es ⟨h1, h2, h3, h4⟩ => ⟨h1, h2, fun i k x b a1 a2 a3 => h _ _ (h3 i k x b a1 a2 a3), fun a => h _ _ (h4 a)⟩
    · exact id
  | ent s =>
    simp only [stepX, entX]
    split
    · exact fun q => Res.wp_mono q fun es ⟨h1, i, k, x, b, h2, h3, h4, h5⟩ => ⟨h1, i, k, x, b, h2, h3, h4, hk _ _ h5⟩
    · exact id
  | mclone x =>
    simp only [stepX, mcloneX]
    split
    · rintro ⟨h1, h4⟩; exact ⟨h1, Res.wp_mono h4 fun cs hc => hk _ _ hc⟩
    · exact id
  | bstO places z parts => exact fun q => Res.wp_mono q fun v => h _ _
theorem oneI_mono {i : AI} {K K' : Sf → St → Prop} {sf : Sf} {st : St} (h : ∀ sf st, K sf st → K' sf st) : oneI P F m i K sf st → oneI P F m i K' sf st := by
  unfold oneI
  split
  · exact callI_mono h
  · exact stepX_mono h
  · exact fun q => Res.wp_mono q fun r => h r.1 r.2
theorem runI_mono : ∀ {l : List GI} {K K' : Sf → St → Prop} {sf : Sf} {st : St}, (∀ sf st, K sf st → K' sf st) → runI P F m l K sf st → runI P F m l K' sf st
  | [], K, K', sf, st, h => h _ _
  | ⟨none, i⟩ :: r, K, K', sf, st, h => by
    simp only [runI]
    exact oneI_mono fun sf st => runI_mono h
  | ⟨some (t, want), i⟩ :: r, K, K', sf, st, h => by
    simp only [runI, guardI]
    split
    · intro q c hc
      have q := q c hc
      split
      · rename_i e; rw [if_pos e] at q; exact oneI_mono (fun sf st => runI_mono h) q
      · rename_i e; rw [if_neg e] at q; exact runI_mono h q
    · exact fun ⟨a, b⟩ => ⟨oneI_mono (fun sf st => runI_mono h) a, runI_mono h b⟩
    · exact runI_mono h
    · exact id
theorem headOne_mono {locs0 : List (Nat × List AV)} {st : St} {i : AI} {C C' : PK → Sf → Prop} {sf : Sf} (h : ∀ k sf, C k sf → C' k sf) : headOne P F locs0 st i C sf → headOne P F locs0 st i C' sf := by
  unfold headOne
  split
  · unfold headCall
    split
    · rintro ⟨h1, h2, v, h3, h4⟩; exact ⟨h1, h2, v, h3, h _ _ h4⟩
    · exact id
  · exact h _ _
  · unfold headAddr
    split
    · unfold headStore
      split
      · rintro ⟨h1, h2, h3, h4⟩; exact ⟨h1, h2, h3, h _ _ h4⟩
      · exact id
    · unfold headNst
      split
      · rintro ⟨h1, h2, h3⟩; exact ⟨h1, h2, h _ _ h3⟩
      · exact id
    · exact id
  · unfold headApp
    split
    · exact fun q => Res.wp_mono q fun v => h _ _
    · exact fun q => Res.wp_mono q fun v => h _ _
  · exact fun q => Res.wp_mono q fun v => h _ _
theorem headI_mono {locs0 : List (Nat × List AV)} {st : St} : ∀ {l : List GI} {K K' : List PK → Sf → Prop} {ks : List PK} {sf : Sf}, (∀ ks sf, K ks sf → K' ks sf) → headI P F locs0 st l K ks sf → headI P F locs0 st l K' ks sf
  | [], K, K', ks, sf, h => h _ _
  | ⟨none, i⟩ :: r, K, K', ks, sf, h => by
    simp only [headI]
    exact headOne_mono fun k sf => headI_mono h
  | ⟨some (t, want), i⟩ :: r, K, K', ks, sf, h => by
    simp only [headI, guardH]
    split
    · intro q c hc
      have q := q c hc
      split
      · rename_i e; rw [if_pos e] at q; exact headOne_mono (fun k sf => headI_mono h) q
      · rename_i e; rw [if_neg e] at q; exact headI_mono h q
    · exact headI_mono h
    · exact id
theorem oneM_mono {locs0 : List (Nat × List AV)} {ρ : St} {i : AI} {C C' : PK → Sf → Prop} {sf : Sf} (h : ∀ k sf, C k sf → C' k sf) : oneM P F locs0 ρ i C sf → oneM P F locs0 ρ i C' sf := by
  unfold oneM
  split
  · unfold callM1
    split
    · rintro ⟨h1, h2, v, h3, h4⟩; exact ⟨h1, h2, v, h3, h _ _ h4⟩
    · exact id
  · exact h _ _
  · unfold headAddr
    split
    · unfold headStore
      split
      · rintro ⟨h1, h2, h3, h4⟩; exact ⟨h1, h2, h3, h _ _ h4⟩
      · exact id
    · unfold headNst
      split
      · rintro ⟨h1, h2, h3⟩; exact ⟨h1, h2, h _ _ h3⟩
      · exact id
    · exact id
  · exact fun q => Res.wp_mono q fun v => h _ _
theorem guardH_mono {t : Nat} {want : Bool} {v : AV} {Y Y' N N' : Sf → Prop} {sf : Sf} (hy : ∀ sf, Y sf → Y' sf) (hn : ∀ sf, N sf → N' sf) : guardH t want v Y N sf → guardH t want v Y' N' sf := by
  unfold guardH
  split
  · intro q c hc
    have q := q c hc
    split
    · rename_i e; rw [if_pos e] at q; exact hy _ q
    · rename_i e; rw [if_neg e] at q; exact hn _ q
  · exact hn _
  · exact id
theorem preM_mono {locs0 : List (Nat × List AV)} {ρ : St} : ∀ {l : List GI} {K K' : List PK → Sf → Prop} {ks : List PK} {sf : Sf}, (∀ ks sf, K ks sf → K' ks sf) → preM P F locs0 ρ l K ks sf → preM P F locs0 ρ l K' ks sf
  | [], K, K', ks, sf, h => h _ _
  | ⟨none, i⟩ :: r, K, K', ks, sf, h => by
    simp only [preM]
    exact oneM_mono fun v sf => preM_mono h
  | ⟨some (t, want), i⟩ :: r, K, K', ks, sf, h => by
    simp only [preM]
    exact guardH_mono (fun sf => oneM_mono fun v sf => preM_mono h) fun sf => preM_mono h
theorem holeM_mono {locs0 : List (Nat × List AV)} {ρ : St} : ∀ {l : List (Bool × GI)} {K K' : List PK → Prop} {ks : List PK} {sf : Sf}, (∀ ks, K ks → K' ks) → holeM P F locs0 ρ l K ks sf → holeM P F locs0 ρ l K' ks sf
  | [], K, K', ks, sf, h => h _
  | (true, g) :: r, K, K', ks, sf, h => by
    simp only [holeM]
    exact holeM_mono h
  | (false, ⟨none, i⟩) :: r, K, K', ks, sf, h => by
    simp only [holeM]
    exact oneM_mono fun v sf => holeM_mono h
  | (false, ⟨some (t, want), i⟩) :: r, K, K', ks, sf, h => by
    simp only [holeM]
    exact guardH_mono (fun sf => oneM_mono fun v sf => holeM_mono h) fun sf => holeM_mono h
theorem callM_mono {locs0 : List (Nat × List AV)} {ρ st : St} {d : Option Nat} {f : AV} {args : List AV} {post : List (Bool × GI)} {drop : List Nat} {T T' : St → Sf → Prop} {ks1 : List PK} {sf : Sf} (h : ∀ st sf, T st sf → T' st sf) : callM P F locs0 ρ st d f args post drop T ks1 sf → callM P F locs0 ρ st d f args post drop T' ks1 sf := by
  unfold callM
  split
  · rintro ⟨h1, h2, Qc, h3, h4⟩
    exact ⟨h1, h2, Qc, h3, holeM_mono (fun ks hk => ⟨hk.1, fun v s hq => ⟨(hk.2 v s hq).1, preM_mono (fun ks sf hp => ⟨hp.1, hp.2.1, h _ _ hp.2.2⟩) (hk.2 v s hq).2⟩⟩) h4⟩
  · exact id
theorem oneG1_mono {ρ : St} {i : AI} {C C' : PK → Sf → Prop} {sf : Sf} (h : ∀ k sf, C k sf → C' k sf) : oneG1 P F ρ i C sf → oneG1 P F ρ i C' sf := by
  unfold oneG1
  split
  · unfold callG1
    split
    · rintro ⟨h1, h2, v, h3, h4⟩; exact ⟨h1, h2, v, h3, h _ _ h4⟩
    · exact id
  · exact id
theorem oneB_mono {locs0 : List (Nat × List AV)} {ρ : St} {b : Bool} {i : AI} {C C' : PK → Sf → Prop} {sf : Sf} (h : ∀ k sf, C k sf → C' k sf) : oneB P F locs0 ρ b i C sf → oneB P F locs0 ρ b i C' sf := by
  cases b
  · exact oneM_mono h
  · exact oneG1_mono h
theorem preG_mono {locs0 : List (Nat × List AV)} {ρ : St} : ∀ {l : List (Bool × GI)} {K K' : List PK → Sf → Prop} {ks : List PK} {sf : Sf}, (∀ ks sf, K ks sf → K' ks sf) → preG P F locs0 ρ l K ks sf → preG P F locs0 ρ l K' ks sf
  | [], K, K', ks, sf, h => h _ _
  | (b, ⟨none, i⟩) :: r, K, K', ks, sf, h => by
    simp only [preG]
    exact oneB_mono fun v sf => preG_mono h
  | (b, ⟨some (t, want), i⟩) :: r, K, K', ks, sf, h => by
    simp only [preG]
    exact guardH_mono (fun sf => oneB_mono fun v sf => preG_mono h) fun sf => preG_mono h
theorem aC_mono : ∀ {c : AC} {Q Q' : Exit → Sf → St → Prop} {sf : Sf} {st : St}, (∀ e sf st, Q e sf st → Q' e sf st) → aC P F m c sf st Q → aC P F m c sf st Q' := by
  intro c
  induction c with
  | skip => intro Q Q' sf st h; exact h _ _ _
  | ops lv ll l => intro Q Q' sf st h; exact runI_mono fun sf st => h _ _ _
  | draw lv ll dr hl tl => intro Q Q' sf st h; exact headI_mono fun ks sf ⟨h1, h2⟩ => ⟨h1, runI_mono (fun sf st => h _ _ _) h2⟩
  | drawM lv ll pre d f args post tl =>
    intro Q Q' sf st h
    rintro ⟨hm, ρ, hs, hp⟩
    exact ⟨hm, ρ, hs, preM_mono (fun ks sf => callM_mono fun st sf => runI_mono fun sf st => h _ _ _) hp⟩
  | drawG lv ll dr fl tl => intro Q Q' sf st h; exact fun ⟨hm, q⟩ => ⟨hm, preG_mono (fun ks sf ⟨h1, h2⟩ => ⟨h1, fun s a b => runI_mono (fun sf st => h _ _ _) (h2 s a b)⟩) q⟩
  | seq a b iha ihb =>
    intro Q Q' sf st h
    exact iha fun e sf st => by
      cases e with
      | normal => exact ihb h
      | _ => exact h _ _ _
  | cond x a b iha ihb =>
    intro Q Q' sf st h
    simp only [aC, condI]
    split
    · exact fun q => ⟨fun e => iha h (q.1 e), fun e => ihb h (q.2 e)⟩
    · exact id
  | block id b ih =>
    intro Q Q' sf st h
    exact ih fun e sf st => by
      cases e with
      | exit i =>
        simp only [blockQ]
        split
        · exact h _ _ _
        · exact h _ _ _
      | _ => exact h _ _ _
  | loop lv ll b ih =>
    intro Q Q' sf st h
    rintro ⟨I, h0, hr⟩
    exact ⟨I, h0, fun k sf st hi => ih (fun e sf st => by
      cases e with
      | normal => exact fun q => q
      | _ => exact h _ _ _) (hr k sf st hi)⟩
  | exit lv ll id => intro Q Q' sf st h; exact h _ _ _
  | scope b ih =>
    intro Q Q' sf st h
    exact ih fun e sf st => by
      cases e with
      | goto l => exact fun q => q
      | _ => exact h _ _ _
  | rangeF lv ll x ps lb a b _ _ =>
    intro Q Q' sf st h
    rintro ⟨hm, hr⟩
    refine ⟨hm, ?_⟩
    unfold rangeI at hr ⊢
    split at hr
    · obtain ⟨h1, h2⟩ := hr
      refine ⟨h1, fun r hy => ?_⟩
      obtain ⟨Qc, h3, h4⟩ := h2 r hy
      refine ⟨Qc, h3, fun v st' q => ?_⟩
      rcases h4 v st' q with ⟨a, b⟩ | ⟨a, b⟩ | ⟨k, a, b⟩
      · exact .inl ⟨a, h _ _ _ b⟩
      · exact .inr (.inl ⟨a, h _ _ _ b⟩)
      · exact .inr (.inr ⟨k, a, h _ _ _ b⟩)
    · exact hr.elim
  | ret => intro Q Q' sf st h; exact h _ _ _
  | bad => intro Q Q' sf st h; exact fun q => q
end
theorem tabOk_nil {P : Program} {F : Nat → FuncId} : TabOk P F (fun _ => none) := fun q fn h => by cases h
theorem tabOk_cons {P : Program} {F : Nat → FuncId} {T : FuncId → Option AFun} {n : FuncId} {X : Cx} {c : AFun} (h1 : enterB P n = true) (h2 : compF P X n = some c) (h3 : X.F = F) (hT : TabOk P F T) : TabOk P F (fun q => if q = n then some c else T q) := by
  intro q fn h
  by_cases e : q = n
  · subst e
    simp only [if_true, Option.some.injEq] at h
    subst h
    exact ⟨h1, X, h3, h2⟩
  · simp only [e, if_false] at h
    exact hT q fn h
def unrQ (L : Sf → St → Prop) (Q : Exit → Sf → St → Prop) : Exit → Sf → St → Prop
  | .normal, sf, st => L sf st
  | e, sf, st => Q e sf st
section
variable {P : Program} {F : Nat → FuncId} {m : Bool} {b : AC} {lv ll : List Nat} {Q : Exit → Sf → St → Prop}
def loopN (P : Program) (F : Nat → FuncId) (m : Bool) (b : AC) (lv ll : List Nat) (Q : Exit → Sf → St → Prop) : Nat → Sf → St → Prop
  | 0, _, _ => False
  | n + 1, sf, st => aC P F m b (sf.mask lv ll) st (unrQ (loopN P F m b lv ll Q n) Q)
theorem loop_rounds (n : Nat) {sf : Sf} {st : St} (h : loopN P F m b lv ll Q n sf st) : loopI (aC P F m b) lv ll sf st Q := by
  cases n with
  | zero => exact h.elim
  | succ n =>
    refine ⟨fun k sf st => aC P F m b sf st (unrQ (loopN P F m b lv ll Q k) Q), ⟨n, _, Sf.le_refl _, h⟩, fun k sf st hk => aC_mono (fun e sf st => ?_) hk⟩
    cases e with
    | normal =>
      cases k with
      | zero => exact fun q => q.elim
      | succ k => exact fun q => ⟨k, Nat.lt_succ_self k, _, Sf.le_refl _, q⟩
    | _ => exact fun q => q
variable (sf : Sf) (st : St) (L : Sf → St → Prop) (n : Nat)
theorem loopN_succ : loopN P F m b lv ll Q (n + 1) sf st = aC P F m b (sf.mask lv ll) st (unrQ (loopN P F m b lv ll Q n) Q) := rfl
theorem unrQ_normal : unrQ L Q .normal sf st = L sf st := rfl
theorem unrQ_exit (id : Nat) : unrQ L Q (.exit id) sf st = Q (.exit id) sf st := rfl
end
end Go.Fx
/- Lists of cells, boxes and numbers: small laws for evaluation. -/
namespace Go.Fx
open Go
theorem up_addL (a k : Nat) : (a : Int) + (no_index (OfNat.ofNat k)) = ((a + OfNat.ofNat k : Nat) : Int) := by exact id rfl
theorem len_setAt : ∀ (vs cs : List AV) (i : Nat), (setAt cs i vs).length = cs.length
  | [], cs, i => rfl
  | v :: vs, cs, i => by simp only [setAt]; rw [len_setAt vs]; simp
theorem setAt_nil (cs : List AV) (i : Nat) : setAt cs i [] = cs := by cases cs <;> rfl
theorem setAt_app : ∀ (vs xs rs : List AV), vs.length ≤ rs.length → setAt (xs ++ rs) xs.length vs = xs ++ (vs ++ rs.drop vs.length)
  | [], xs, rs, _ => by simp [setAt]
  | v :: vs, xs, [], h => by simp at h
  | v :: vs, xs, r :: rs, h => by
    simp only [setAt]
    have h1 : (xs ++ r :: rs).set xs.length v = (xs ++ [v]) ++ rs := by simp
    have h2 : xs.length + 1 = (xs ++ [v]).length := by simp
    rw [h1, h2, setAt_app vs (xs ++ [v]) rs (by simpa using h)]
    simp
theorem setAt_at {vs xs rs : List AV} {n : Nat} (hn : n = xs.length) (h : vs.length ≤ rs.length) : setAt (xs ++ rs) n vs = xs ++ (vs ++ rs.drop vs.length) := by subst hn; exact setAt_app vs xs rs h
def Lits (l : List AV) : Prop := ∀ x ∈ l, ∃ v, x = .lit v
theorem Lits.nil : Lits [] := fun _ h => by cases h
theorem Lits.cons {v : Value} {l : List AV} (h : Lits l) : Lits (.lit v :: l) := fun x hx => by
  rcases List.mem_cons.1 hx with rfl | hx
  · exact ⟨v, rfl⟩
  · exact h x hx
theorem Lits.app {l l' : List AV} (h : Lits l) (h' : Lits l') : Lits (l ++ l') := fun x hx => (List.mem_append.1 hx).elim (h x) (h' x)
theorem Lits.drop {l : List AV} (h : Lits l) (n : Nat) : Lits (l.drop n) := fun x hx => h x (List.mem_of_mem_drop hx)
theorem Lits.take {l : List AV} (h : Lits l) (n : Nat) : Lits (l.take n) := fun x hx => h x (List.mem_of_mem_take hx)
theorem Lits.map {A : Type} (f : A → Value) (l : List A) : Lits (l.map fun a => .lit (f a)) := fun x hx => by
  obtain ⟨a, _, rfl⟩ := List.mem_map.1 hx; exact ⟨_, rfl⟩
theorem Lits.dis {l : List AV} (h : Lits l) : l.map AV.dis = l := by
  induction l with
  | nil => rfl
  | cons x r ih =>
    obtain ⟨v, rfl⟩ := h x (List.mem_cons_self ..)
    simp only [List.map_cons, dis_lit]
    rw [ih fun y hy => h y (List.mem_cons_of_mem _ hy)]
theorem Lits.own {l : List AV} (h : Lits l) : l.map AV.own1 = l := by
  induction l with
  | nil => rfl
  | cons x r ih =>
    obtain ⟨v, rfl⟩ := h x (List.mem_cons_self ..)
    simp only [List.map_cons, own1_lit]
    rw [ih fun y hy => h y (List.mem_cons_of_mem _ hy)]
theorem Lits.cells {l : List AV} (h : Lits l) : l.flatMap AV.cells = l := by
  induction l with
  | nil => rfl
  | cons x r ih =>
    obtain ⟨v, rfl⟩ := h x (List.mem_cons_self ..)
    simp only [List.flatMap_cons, cells_lit]
    rw [ih fun y hy => h y (List.mem_cons_of_mem _ hy)]
    rfl
theorem Lits.cellsD {l : List AV} (h : Lits l) : Fx.cellsD l = l := by unfold Fx.cellsD; rw [h.dis, h.cells]
theorem Lits.grp {l : List AV} : ∀ (n : Nat) (l : List AV), n ≤ l.length → Fx.grp 1 n l = l.take n
  | 0, l, _ => by simp [Fx.grp]
  | n + 1, [], h => by simp at h
  | n + 1, x :: l, h => by simp only [Fx.grp, if_true, List.getD_cons_zero, List.drop_succ_cons, List.drop_zero, List.take_succ_cons]; rw [Lits.grp (l := l) n l (by simpa using h)]
theorem grp_one {n : Nat} {l : List AV} (h : n ≤ l.length) : grp 1 n l = l.take n := Lits.grp (l := l) n l h
theorem Lits.nb {l : List AV} (h : Lits l) : ∀ x ∈ l, x.NB := fun x hx => by obtain ⟨v, rfl⟩ := h x hx; exact .lit v
theorem acalls_id {P : Program} {X : Cx} {f : FuncId} {fn : AFun} {vs : List AV} {st : St} (hmix : P.follows .mixedOrders = true) (hf : compF P X f = some fn) (hX : X.F = id) (hlen : Nat.ble vs.length fn.n = true) {K : AV → St → Prop} (h : aFun P id false fn vs st K) : ACalls P f vs st K := by
  refine acalls_of hmix hf (Nat.le_of_ble_eq_true hlen) ?_
  rw [hX]; exact h
theorem get_push (st : St) (cs : List AV) : (st.push (.cells cs)).get st.boxes.length = some cs := by simp [St.push, St.get]
theorem getM_push (st : St) (es : List (AV × AV)) (bs : List Nat) (k : Nat) : (st.push (.mp es bs k)).getM st.boxes.length = some es := by simp [St.push, St.getM]
theorem getB_push (st : St) (es : List (AV × AV)) (bs : List Nat) (k : Nat) : (st.push (.mp es bs k)).getB st.boxes.length = (bs, k) := by simp [St.push, St.getB]
theorem set_push (st : St) (b : Box) (cs : List AV) : (st.push b).set st.boxes.length cs = st.push (.cells cs) := by simp [St.push, St.set]
theorem len_push (st : St) (b : Box) : (st.push b).boxes.length = st.boxes.length + 1 := by simp [St.push]
theorem len_set (st : St) (id : Nat) (cs : List AV) : (st.set id cs).boxes.length = st.boxes.length := by simp [St.set]
theorem get_push_old {st : St} {b : Box} {id : Nat} (h : id < st.boxes.length) : (st.push b).get id = st.get id := by simp [St.push, St.get, List.getElem?_append_left h]
theorem get_lt {st : St} {id : Nat} {cs : List AV} (h : st.get id = some cs) : id < st.boxes.length := by
  rcases Nat.lt_or_ge id st.boxes.length with hl | hl
  · exact hl
  · simp [St.get, List.getElem?_eq_none hl] at h
theorem get_set {st : St} {id : Nat} {cs : List AV} (h : id < st.boxes.length) : (st.set id cs).get id = some cs := by simp [St.set, St.get, h]
theorem get_set_ne {st : St} {id id' : Nat} {cs : List AV} (h : id ≠ id') : (st.set id cs).get id' = st.get id' := by simp [St.set, St.get, List.getElem?_set_ne h]
theorem set_set (st : St) (id : Nat) (cs ds : List AV) : (st.set id cs).set id ds = st.set id ds := by simp [St.set]
theorem setAt_cons (cs : List AV) (i : Nat) (v : AV) (vs : List AV) : setAt cs i (v :: vs) = setAt (cs.set i v) (i + 1) vs := rfl
end Go.Fx
/- Loops with states that are told; lists of bytes. -/
namespace Go.Fx
open Go
section
variable {P : Program} {F : Nat → FuncId} {m : Bool} {b : AC} {lv ll : List Nat} {Q : Exit → Sf → St → Prop}
def stepQ {A : Type} (S : A → Sf) (T : A → St) (R : A → Prop) (lv ll : List Nat) (Q : Exit → Sf → St → Prop) : Exit → Sf → St → Prop
  | .normal, sf, st => ∃ a, R a ∧ Sf.le (sf.mask lv ll) (S a) ∧ st = T a
  | e, sf, st => Q e sf st
theorem loop_for {A : Type} (μ : A → Nat) (S : A → Sf) (T : A → St) (I : A → Prop) (a0 : A) {sf : Sf} {st : St} (h0 : I a0) (hs : Sf.le (sf.mask lv ll) (S a0)) (ht : st = T a0)
    (step : ∀ a, I a → aC P F m b (S a) (T a) (stepQ S T (fun a' => I a' ∧ μ a' < μ a) lv ll Q)) : loopI (aC P F m b) lv ll sf st Q := by
  refine ⟨fun k sf st => ∃ a, I a ∧ μ a = k ∧ sf = S a ∧ st = T a, ⟨μ a0, _, hs, a0, h0, rfl, rfl, ht⟩, ?_⟩
  rintro k sf st ⟨a, ha, rfl, rfl, rfl⟩
  refine aC_mono (fun e sf st => ?_) (step a ha)
  cases e with
  | normal => exact fun ⟨a', ⟨h1, h2⟩, h3, h4⟩ => ⟨μ a', h2, S a', h3, a', h1, rfl, rfl, h4⟩
  | _ => exact fun q => q
variable {A : Type} (S : A → Sf) (T : A → St) (R : A → Prop) (sf : Sf) (st : St)
end
section
variable {CB : Sf → St → (Exit → Sf → St → Prop) → Prop} {id : Nat} {r : Loop} {rs : List (Nat × AV)} {Q : Bool → St → Prop} {sf : Sf} {st : St}
theorem keep_eq (v : AV) : v.keep = if v.noL = true then v.dis else .any := rfl
theorem regsB_nil (sf : Sf) : regsB [] sf = [] := rfl
theorem regsB_cons (t : Nat) (l : List Nat) (sf : Sf) : regsB (t :: l) sf = (t, (getR sf.regs t).keep) :: regsB l sf := rfl
theorem setRs_nil (rg : List (Nat × AV)) (vs : List AV) : setRs rg [] vs = rg := by cases vs <;> rfl
theorem setRs_cons (rg : List (Nat × AV)) (p : Nat) (ps : List Nat) (v : AV) (vs : List AV) : setRs rg (p :: ps) (v :: vs) = setRs (setR rg p v.dis) ps vs := rfl
theorem assignQ_normal : assignQ CB id r rs Q .normal sf st = (st.isLp id r rs ∧ CB sf (st.setL id (lpBusy r) rs) (endI id r rs Q)) := rfl
theorem endI_normal : endI id r rs Q .normal sf st = (st.isLp id (lpBusy r) rs ∧ Q true (st.setL id r rs)) := rfl
theorem round_a {P : Program} {CA CB : Sf → St → (Exit → Sf → St → Prop) → Prop} {ps : List Nat} (hy : ∀ vs st' Q', roundI CA CB ps id r rs vs st' Q' → YCalls P id vs st' Q') {vs : List AV} (hl : st.isLp id r rs) (hn : vs.length = ps.length)
    (h : CA ⟨setRs rs ps vs, []⟩ st (assignQ CB id r rs Q)) : YCalls P id vs st Q := hy _ _ _ ⟨hl, hn, h⟩
end
theorem setL_box {st : St} {id q : Nat} {r : Loop} {rs : List (Nat × AV)} (h : q ≠ id) : (st.setL id r rs).boxes[q]? = st.boxes[q]? := by
  simp only [St.setL]; rw [List.getElem?_set_ne (fun e => h e.symm)]
theorem setL_isLp {st : St} {id : Nat} {r r' : Loop} {rs rs' : List (Nat × AV)} (h : st.isLp id r' rs') : (st.setL id r rs).isLp id r rs := by
  have hl : id < st.boxes.length := (List.getElem?_eq_some_iff.1 h).1
  simp [St.isLp, St.setL, hl]
theorem drop_box_ne {st : St} {id q : Nat} (h : q ≠ id) : (st.drop id).boxes[q]? = st.boxes[q]? := by
  simp only [St.drop]; rw [List.getElem?_set_ne (fun e => h e.symm)]
theorem push_isLp (st : St) (r : Loop) (rs : List (Nat × AV)) : (st.push (.lp r rs)).isLp st.boxes.length r rs := by simp [St.isLp, St.push]
theorem isLp_at {st st' : St} {id : Nat} {r : Loop} {rs : List (Nat × AV)} (h : st.isLp id r rs) (hb : st'.boxes[id]? = st.boxes[id]?) : st'.isLp id r rs := hb.trans h
def str (l : List UInt8) : ByteArray := ⟨l.toArray⟩
theorem pure_eq {P : Program} {f : FuncId} {vs : List AV} {x : AV} (h : ACalls P f vs ⟨[]⟩ (fun v _ => AV.le v x)) (hx : x.NB) (hvs : ∀ v ∈ vs, v.NB) (st : St) : PCalls P f vs st x :=
  pure_of (h.mono fun _ _ h => .le _ _ h hx) hvs st
end Go.Fx
/- Regions that draw their order: evaluation. -/
namespace Go.Fx
open Go
section
variable (P : Program) (F : Nat → FuncId) (m : Bool) (locs0 : List (Nat × List AV)) (st : St) (C : PK → Sf → Prop) (sf : Sf) (d : Option Nat) (x y i : Opd) (K : List PK → Sf → Prop) (ks : List PK)
theorem h_nil : headI P F locs0 st [] K ks sf = K ks sf := rfl
theorem h_none (i : AI) (r : List GI) : headI P F locs0 st (⟨none, i⟩ :: r) K ks sf = headOne P F locs0 st i (consH (headI P F locs0 st r K) ks) sf := rfl
theorem hh_mv : headOne P F locs0 st (.mv d x) C sf = valH C d sf (sf.ev F x).dis := rfl
theorem hh_bin (k : BinK) (op : BinOp) : headOne P F locs0 st (.bin d k op x y) C sf = (binI k op (sf.ev F x) (sf.ev F y)).wp (valH C d sf) := rfl
theorem hh_field (off : Nat) (k : Option Nat) : headOne P F locs0 st (.field d x off k) C sf = (fieldV (sf.ev F x) off k).wp (valH C d sf) := rfl
theorem hh_addr (off : Nat) : headOne P F locs0 st (.addr d x off) C sf = (addA (sf.ev F x) off).wp (valH C d sf) := rfl
theorem hh_ixS (k : Nat) : headOne P F locs0 st (.ixS d x i k) C sf = (ixSV (sf.ev F x) (sf.ev F i) k).wp (valH C d sf) := rfl
theorem hh_ixA (n k : Nat) : headOne P F locs0 st (.ixA d x i n k) C sf = ((Fx.ixA (sf.ev F i) n).bind fun j => addA (sf.ev F x) (j * k)).wp (valH C d sf) := rfl
theorem hh_load (k : Option Nat) : headOne P F locs0 st (.load d x k) C sf = (loadV sf st (sf.ev F x) k).wp (valH C d sf) := rfl
theorem hh_nilck : headOne P F locs0 st (.nilck d x) C sf = (nilckV (sf.ev F x)).wp (valH C d sf) := rfl
theorem hh_bst (places : List (Nat × Nat)) (z : AV) (parts : List (Nat × Opd)) : headOne P F locs0 st (.bst d places z parts) C sf = (bstV places z (parts.map fun p => (p.1, sf.ev F p.2))).wp (valH C d sf) := rfl
theorem hh_lookup (k : KeyK) (z : AV) (ok : Bool) (mp key : Opd) : headOne P F locs0 st (.lookup d k z ok mp key) C sf = (lookupI k z ok st (sf.ev F mp) (sf.ev F key)).wp (valH C d sf) := rfl
theorem hh_call (p : Bool) (f : Opd) (args : List Opd) : headOne P F locs0 st (.call d p f args) C sf = headCall P st d (sf.ev F f) (args.map (sf.ev F)) C sf := rfl
theorem hh_newL (s : Nat) (cs : List AV) : headOne P F locs0 st (.newL s cs) C sf = C (.new s cs) (sf.set s .any) := rfl
theorem guardH_tt (t : Nat) (want : Bool) (Y N : Sf → Prop) : guardH t want (.lit (.bool true)) Y N sf = if true = want then Y (sf.set t (.lit (.bool true))) else N (sf.set t (.lit (.bool true))) := by
  unfold guardH
  exact propext ⟨fun h => h true rfl, fun h c e => by subst e; exact h⟩
end
def PK.keep : PK → Bool
  | .val _ => false
  | .skip => false
  | _ => true
theorem stores_keep : ∀ ks : List PK, storesOf (ks.filter PK.keep) = storesOf ks
  | [] => rfl
  | .val _ :: r => stores_keep r
  | .skip :: r => stores_keep r
  | .mk _ _ :: r => stores_keep r
  | .hole :: r => stores_keep r
  | .chole _ _ :: r => stores_keep r
  | .nst _ _ :: r => stores_keep r
  | .new _ _ :: r => stores_keep r
  | .app _ _ :: r => stores_keep r
  | .store s _ :: r => congrArg (s :: ·) (stores_keep r)
theorem news_keep : ∀ ks : List PK, newsOf (ks.filter PK.keep) = newsOf ks
  | [] => rfl
  | .val _ :: r => news_keep r
  | .skip :: r => news_keep r
  | .mk _ _ :: r => news_keep r
  | .hole :: r => news_keep r
  | .chole _ _ :: r => news_keep r
  | .nst _ _ :: r => news_keep r
  | .store _ _ :: r => news_keep r
  | .app _ _ :: r => news_keep r
  | .new s _ :: r => congrArg (s :: ·) (news_keep r)
theorem apps_keep : ∀ ks : List PK, appsOf (ks.filter PK.keep) = appsOf ks
  | [] => rfl
  | .val _ :: r => apps_keep r
  | .skip :: r => apps_keep r
  | .mk _ _ :: r => apps_keep r
  | .hole :: r => apps_keep r
  | .chole _ _ :: r => apps_keep r
  | .nst _ _ :: r => apps_keep r
  | .store _ _ :: r => apps_keep r
  | .new _ _ :: r => apps_keep r
  | .app s _ :: r => congrArg (s :: ·) (apps_keep r)
theorem finS_keep : ∀ (ks : List PK) (sf : Sf), finSS (ks.filter PK.keep) sf = finSS ks sf
  | [], _ => rfl
  | .val _ :: r, sf => finS_keep r sf
  | .skip :: r, sf => finS_keep r sf
  | .mk _ _ :: r, sf => finS_keep r sf
  | .hole :: r, sf => finS_keep r sf
  | .chole _ _ :: r, sf => finS_keep r sf
  | .nst _ _ :: r, sf => finS_keep r sf
  | .new _ _ :: r, sf => finS_keep r sf
  | .app _ _ :: r, sf => finS_keep r sf
  | .store _ _ :: r, _ => finS_keep r _
theorem nstOf_keep (t : Nat) : ∀ ks : List PK, nstOf t (ks.filter PK.keep) = nstOf t ks
  | [] => rfl
  | .val _ :: r => nstOf_keep t r
  | .skip :: r => nstOf_keep t r
  | .mk _ _ :: r => nstOf_keep t r
  | .hole :: r => nstOf_keep t r
  | .chole _ _ :: r => nstOf_keep t r
  | .store _ _ :: r => nstOf_keep t r
  | .app _ _ :: r => nstOf_keep t r
  | .new _ _ :: r => nstOf_keep t r
  | .nst s cs :: r => by
    show (if s = t then some cs else nstOf t (r.filter PK.keep)) = if s = t then some cs else nstOf t r
    rw [nstOf_keep t r]
theorem nsts_keep : ∀ ks : List PK, nstsOf (ks.filter PK.keep) = nstsOf ks
  | [] => rfl
  | .val _ :: r => nsts_keep r
  | .skip :: r => nsts_keep r
  | .mk _ _ :: r => nsts_keep r
  | .hole :: r => nsts_keep r
  | .chole _ _ :: r => nsts_keep r
  | .store _ _ :: r => nsts_keep r
  | .new _ _ :: r => nsts_keep r
  | .app _ _ :: r => nsts_keep r
  | .nst s _ :: r => congrArg (s :: ·) (nsts_keep r)
theorem nstB_keep : ∀ (ks : List PK) (seen : List (Nat × Nat)), nstB seen (ks.filter PK.keep) = nstB seen ks
  | [], _ => rfl
  | .val _ :: r, s => nstB_keep r s
  | .skip :: r, s => nstB_keep r s
  | .mk _ _ :: r, s => nstB_keep r s
  | .hole :: r, s => nstB_keep r s
  | .chole _ _ :: r, s => nstB_keep r s
  | .store _ _ :: r, s => nstB_keep r s
  | .app _ _ :: r, s => nstB_keep r s
  | .new _ _ :: r, s => nstB_keep r _
  | .nst _ _ :: r, s => congrArg (_ && ·) (nstB_keep r s)
theorem finN_keep (all : List PK) : ∀ (ks : List PK) (sf : Sf), finNN (all.filter PK.keep) (ks.filter PK.keep) sf = finNN all ks sf
  | [], _ => rfl
  | .val _ :: r, sf => finN_keep all r sf
  | .skip :: r, sf => finN_keep all r sf
  | .mk _ _ :: r, sf => finN_keep all r sf
  | .hole :: r, sf => finN_keep all r sf
  | .chole _ _ :: r, sf => finN_keep all r sf
  | .store _ _ :: r, sf => finN_keep all r sf
  | .app _ _ :: r, sf => finN_keep all r sf
  | .nst _ _ :: r, sf => finN_keep all r sf
  | .new s cs :: r, sf => by
    show finNN (all.filter PK.keep) (r.filter PK.keep) (sf.newLoc s ((nstOf s (all.filter PK.keep)).getD cs)) = finNN all r (sf.newLoc s ((nstOf s all).getD cs))
    rw [nstOf_keep, finN_keep all r]
section
variable {P : Program} {F : Nat → FuncId} {m : Bool} {locs0 : List (Nat × List AV)} {st st2 : St} {drop lv ll : List Nat} {tl : List GI} {Q : Exit → Sf → St → Prop}
theorem tail_keep (ks : List PK) (sf : Sf) : tailK P F m drop lv ll tl Q st (ks.filter PK.keep) sf = tailK P F m drop lv ll tl Q st ks sf := by
  unfold tailK ksB
  rw [stores_keep, news_keep, apps_keep, nsts_keep, nstB_keep, finS_keep, finN_keep]
theorem head_keep : ∀ (r : List GI) (ks : List PK) (sf : Sf), headI P F locs0 st r (tailK P F m drop lv ll tl Q st) (ks.filter PK.keep) sf = headI P F locs0 st r (tailK P F m drop lv ll tl Q st) ks sf
  | [], ks, sf => tail_keep ks sf
  | ⟨g, i⟩ :: r, ks, sf => by
    have h1 : consH (headI P F locs0 st r (tailK P F m drop lv ll tl Q st)) (ks.filter PK.keep) = consH (headI P F locs0 st r (tailK P F m drop lv ll tl Q st)) ks := by
      funext k sf
      simp only [consH]
      rw [← head_keep r (ks ++ [k]) sf, ← head_keep r (ks.filter PK.keep ++ [k]) sf]
      simp
    have h2 : ∀ d, skipH (headI P F locs0 st r (tailK P F m drop lv ll tl Q st)) (ks.filter PK.keep) d = skipH (headI P F locs0 st r (tailK P F m drop lv ll tl Q st)) ks d := by
      intro d
      funext sf
      exact congrFun (congrFun h1 .skip) (sf.put d (.tup []))
    cases g with
    | none => simp only [headI, h1]
    | some g => obtain ⟨t, w⟩ := g; simp only [headI, h1, h2]
variable (ks : List PK) (sf : Sf) (r : List GI) (v : AV) (d : Option Nat)
theorem cons_val : consH (headI P F locs0 st r (tailK P F m drop lv ll tl Q st)) ks (.val v) sf = headI P F locs0 st r (tailK P F m drop lv ll tl Q st) ks sf := by
  show headI P F locs0 st r _ (ks ++ [.val v]) sf = _
  exact (head_keep r (ks ++ [PK.val v]) sf).symm.trans ((congrArg (fun q => headI P F locs0 st r (tailK P F m drop lv ll tl Q st) q sf) (by simp [PK.keep])).trans (head_keep r ks sf))
theorem val_head : valH (consH (headI P F locs0 st r (tailK P F m drop lv ll tl Q st)) ks) d sf v = headI P F locs0 st r (tailK P F m drop lv ll tl Q st) ks (sf.put d v) := cons_val ks (sf.put d v) r v
theorem tail_nil : tailK P F m drop lv ll tl Q st [] sf = runI P F m tl (opsK lv ll Q) sf st := propext ⟨fun h => h.2, fun h => ⟨rfl, h⟩⟩
theorem tail_eq (k : PK) : tailK P F m drop lv ll tl Q st (k :: ks) sf = (ksB drop (k :: ks) = true ∧ runI P F m tl (opsK lv ll Q) (finNN (k :: ks) (k :: ks) (finSS (k :: ks) sf)) st) := rfl
end
section
variable (H : List PK → Sf → Prop) (ks : List PK) (sf : Sf) (s : Nat) (cs : List AV) (v : AV)
theorem cons_new : consH H ks (.new s cs) sf = H (ks ++ [.new s cs]) sf := rfl
end
theorem call_h {P : Program} {d : Option Nat} {q : FuncId} {fs cs args vs : List AV} {sf : Sf} {st : St} {C : PK → Sf → Prop} {v : AV} (hvs : fs ++ args.map AV.dis ++ cs = vs) (hent : enterB P q = true) (h : PCalls P q vs st v) (hn : args.all AV.noL = true) (hK : C (.val v) (sf.put d v)) : headCall P st d (.fn (.func q) fs cs) args C sf := by
  subst hvs
  exact ⟨hn, hent, v, h, hK⟩
section
variable (P : Program) (F : Nat → FuncId) (L0 : List (Nat × List AV)) (ρ : St) (C : PK → Sf → Prop) (sf : Sf) (d : Option Nat) (x y i : Opd) (K : List PK → Sf → Prop) (ks : List PK)
theorem m_nil : preM P F L0 ρ [] K ks sf = K ks sf := rfl
theorem m_none (i : AI) (r : List GI) : preM P F L0 ρ (⟨none, i⟩ :: r) K ks sf = oneM P F L0 ρ i (consM (preM P F L0 ρ r K) ks) sf := rfl
theorem m_val (v : AV) (r : List GI) : valM (consM (preM P F L0 ρ r K) ks) d sf v = preM P F L0 ρ r K (ks ++ [.val v]) (sf.put d v) := rfl
theorem mm_call (p : Bool) (f : Opd) (args : List Opd) : oneM P F L0 ρ (.call d p f args) C sf = callM1 P ρ d (sf.ev F f) (args.map (sf.ev F)) C sf := rfl
theorem mm_mv : oneM P F L0 ρ (.mv d x) C sf = valM C d sf (sf.ev F x).dis := rfl
theorem mm_pick (c a b : Opd) : oneM P F L0 ρ (.pick d c a b) C sf = (pickV (sf.ev F c) (sf.ev F a) (sf.ev F b)).wp (valM C d sf) := rfl
theorem mm_bin (k : BinK) (op : BinOp) : oneM P F L0 ρ (.bin d k op x y) C sf = (binI k op (sf.ev F x) (sf.ev F y)).wp (valM C d sf) := rfl
theorem mm_addr (off : Nat) : oneM P F L0 ρ (.addr d x off) C sf = (addA (sf.ev F x) off).wp (valM C d sf) := rfl
theorem mm_load (k : Option Nat) : oneM P F L0 ρ (.load d x k) C sf = (loadV sf ρ (sf.ev F x) k).wp (valM C d sf) := rfl
theorem mm_nilck : oneM P F L0 ρ (.nilck d x) C sf = (nilckV (sf.ev F x)).wp (valM C d sf) := rfl
variable (KH : List PK → Prop) (st : St) (post : List (Bool × GI)) (T : St → Sf → Prop) (T1 : Sf → Prop)
theorem hm_nil : holeM P F L0 ρ [] KH ks sf = KH ks := rfl
variable (drop : List Nat) (ks1 : List PK)
theorem atM_eq (f : Opd) (args : List Opd) : atM P F L0 ρ st d f args post drop T ks1 sf = callM P F L0 ρ st d (sf.ev F f) (args.map (sf.ev F)) post drop T ks1 sf := rfl
theorem postM_eq (ksh : List PK) : postM post drop ks1 ksh T1 ks sf = (compM post ksh ks ∧ finK drop T1 (ks1 ++ ks) sf) := rfl
theorem finK_eq : finK drop T1 ks sf = (ksB drop ks = true ∧ T1 (finNN ks ks (finSS ks sf))) := rfl
theorem holeK_eq (A : List PK → Prop) : holeK drop ks1 A ks = (ksB drop (ks1 ++ ks) = true ∧ A ks) := rfl
theorem compM_nil : compM [] [] [] = True := rfl
theorem tailM_eq (m : Bool) (lv ll : List Nat) (tl : List GI) (Q : Exit → Sf → St → Prop) : tailM P F m lv ll tl Q st sf = runI P F m tl (opsK lv ll Q) sf st := rfl
end
section
variable {P : Program} {F : Nat → FuncId} {L0 : List (Nat × List AV)} {ρ st : St}
theorem draw_s {pre : List GI} {d : Option Nat} {f : Opd} {args : List Opd} {post : List (Bool × GI)} {sf : Sf} {T : St → Sf → Prop} (h : preM P F sf.locs st pre (atM P F sf.locs st st d f args post (dropM pre post) T) [] ⟨sf.regs, dropL (dropM pre post) sf.locs⟩) : drawM P F pre d f args post sf st T := ⟨st, St.sub_refl st, h⟩
theorem call_m {q : FuncId} {fs cs args vs : List AV} {d : Option Nat} {post : List (Bool × GI)} {drop : List Nat} {T : St → Sf → Prop} {ks1 : List PK} {sf : Sf} {Qc : AV → St → Prop} (hvs : fs ++ args.map AV.dis ++ cs = vs) (hent : enterB P q = true) (hA : ACalls P q vs st Qc) (hn : args.all AV.noL = true)
    (hK : holeM P F L0 ρ post (holeK drop ks1 (afterM P F L0 ρ post Qc d sf drop T ks1)) [] (sf.put d .any)) : callM P F L0 ρ st d (.fn (.func q) fs cs) args post drop T ks1 sf := by
  subst hvs
  exact ⟨hn, hent, Qc, hA, hK⟩
end
section
variable (P : Program) (F : Nat → FuncId) (L0 : List (Nat × List AV)) (ρ : St) (C : PK → Sf → Prop) (sf : Sf) (d : Option Nat) (K H : List PK → Sf → Prop) (ks : List PK)
theorem g_nil : preG P F L0 ρ [] K ks sf = K ks sf := rfl
theorem g_none_f (i : AI) (r : List (Bool × GI)) : preG P F L0 ρ ((false, ⟨none, i⟩) :: r) K ks sf = oneM P F L0 ρ i (consG (preG P F L0 ρ r K) ks) sf := rfl
theorem g_some_f (t : Nat) (want : Bool) (i : AI) (r : List (Bool × GI)) : preG P F L0 ρ ((false, ⟨some (t, want), i⟩) :: r) K ks sf = guardH t want (sf.reg t) (oneM P F L0 ρ i (consG (preG P F L0 ρ r K) ks)) (skipG (preG P F L0 ρ r K) ks i.dst) sf := rfl
theorem g_some_t (t : Nat) (want : Bool) (i : AI) (r : List (Bool × GI)) : preG P F L0 ρ ((true, ⟨some (t, want), i⟩) :: r) K ks sf = guardH t want (sf.reg t) (oneG1 P F ρ i (consG (preG P F L0 ρ r K) ks)) (skipG (preG P F L0 ρ r K) ks i.dst) sf := rfl
theorem g_val (v : AV) : valM (consG H ks) d sf v = H ks (sf.put d v) := rfl
theorem g_mkv (v : AV) : valG ρ (consG H ks) d sf v = H ks (sf.put d v) := rfl
theorem g_call (p : Bool) (f : Opd) (args : List Opd) : oneG1 P F ρ (.call d p f args) C sf = callG1 P ρ d (sf.ev F f) (args.map (sf.ev F)) C sf := rfl
theorem tailG_nil (m : Bool) (st : St) (drop lv ll : List Nat) (tl : List GI) (Q : Exit → Sf → St → Prop) : tailG P F m drop lv ll tl Q st [] sf = ∀ s, St.sub st s → st.boxes.length ≤ s.boxes.length → runI P F m tl (opsK lv ll Q) sf s := propext ⟨fun h => h.2, fun h => ⟨rfl, h⟩⟩
end
theorem call_g {P : Program} {ρ : St} {q : FuncId} {fs cs args vs : List AV} {d : Option Nat} {sf : Sf} {C : PK → Sf → Prop} {v : AV} (hvs : fs ++ args.map AV.dis ++ cs = vs) (hent : enterB P q = true) (h : ∀ s, St.sub ρ s → ρ.boxes.length ≤ s.boxes.length → ACalls P q vs s (Grow v s)) (hn : args.all AV.noL = true) (hK : valG ρ C d sf v) : callG1 P ρ d (.fn (.func q) fs cs) args C sf := by
  subst hvs
  exact ⟨hn, hent, v, h, hK⟩
theorem call_1 {P : Program} {ρ : St} {q : FuncId} {fs cs args vs : List AV} {d : Option Nat} {sf : Sf} {C : PK → Sf → Prop} {v : AV} (hvs : fs ++ args.map AV.dis ++ cs = vs) (hent : enterB P q = true) (h : ∀ s, St.sub ρ s → PCalls P q vs s v) (hn : args.all AV.noL = true) (hK : valM C d sf v) : callM1 P ρ d (.fn (.func q) fs cs) args C sf := by
  subst hvs
  exact ⟨hn, hent, v, h, hK⟩
end Go.Fx
/- Numbers of bytes: shifts and the like. -/
namespace Go.Fx
open Go
theorem loop_op {P : Program} {F : Nat → FuncId} {m : Bool} {b : AC} {lv ll : List Nat} {Q : Exit → Sf → St → Prop} {A : Type} (μ : A → Nat) (S : A → Sf) (T : A → St) (I : A → Prop) (a0 : A) {sf : Sf} {st : St} (h0 : I a0) (hs : Sf.le (sf.mask lv ll) (S a0)) (ht : st = T a0)
    (step : ∀ a, I a → ∀ K : Exit → Sf → St → Prop, (∀ a' sf', I a' → μ a' < μ a → Sf.le (sf'.mask lv ll) (S a') → K .normal sf' (T a')) → (∀ id sf st, Q (.exit id) sf st → K (.exit id) sf st) → (∀ sf st, Q .ret sf st → K .ret sf st) → aC P F m b (S a) (T a) K) : loopI (aC P F m b) lv ll sf st Q :=
  loop_for μ S T I a0 h0 hs ht fun a ha => step a ha _ (fun a' _ h1 h2 h3 => ⟨a', ⟨h1, h2⟩, h3, rfl⟩) (fun _ _ _ h => h) (fun _ _ h => h)
theorem acalls_op {P : Program} {X : Cx} {f : FuncId} {fn : AFun} {vs : List AV} {st : St} (hmix : P.follows .mixedOrders = true) (hf : compF P X f = some fn) (hX : X.F = id) (hlen : Nat.ble vs.length fn.n = true) {K : AV → St → Prop} (h : ∀ Q : AV → St → Prop, (∀ v st', K v st' → Q v st') → aFun P id false fn vs st Q) : ACalls P f vs st K :=
  acalls_id hmix hf hX hlen (h K fun _ _ h => h)
theorem pure_lev {P : Program} {X : Cx} {f : FuncId} {fn : AFun} {vs : List AV} {x : AV} (hmix : P.follows .mixedOrders = true) (hf : compF P X f = some fn) (hX : X.F = id) (hlen : Nat.ble vs.length fn.n = true) (hx : x.NB) (hvs : ∀ v ∈ vs, v.NB)
    (h : ∀ Q : AV → St → Prop, (∀ v st', v.le x → Q v st') → aFun P id false fn vs ⟨[]⟩ Q) (st : St) : PCalls P f vs st x :=
  pure_eq (acalls_op hmix hf hX hlen fun Q hQ => h Q fun v st' hv => hQ v st' hv) hx hvs st
end Go.Fx
/- Slices of plain cells that are written to and appended to. -/
namespace Go.Fx
open Go
def MB (v : AV) (st : St) (l : List AV) : Prop := (v = .lit (.slice none 0 0) ∧ l = []) ∨ ∃ id cap r, v = .bs id 1 0 l.length cap ∧ st.get id = some (l ++ r) ∧ l.length ≤ cap ∧ cap ≤ (l ++ r).length
def Kept (st st' : St) (v : AV) : Prop := st.boxes.length ≤ st'.boxes.length ∧ ∀ id cs, st.get id = some cs → (∀ k o l c, v ≠ .bs id k o l c) → st'.get id = some cs
theorem Kept.refl (st : St) (v : AV) : Kept st st v := ⟨Nat.le_refl _, fun _ _ h _ => h⟩
theorem MB.facts {v : AV} {st : St} {l : List AV} (h : MB v st l) : v.dis = v ∧ v.own1 = v ∧ v.own2 = v ∧ v.solid1 = true ∧ v.noL = true ∧ v.cells = [v] ∧ (∀ s, kill s v = v) ∧ ∀ st', lenI .sl st' v = .ok (.lit (.int .i64 l.length)) := by
  rcases h with ⟨rfl, rfl⟩ | ⟨id, cap, r, rfl, _⟩
  · exact ⟨rfl, rfl, rfl, rfl, rfl, rfl, fun _ => rfl, fun _ => rfl⟩
  · exact ⟨rfl, rfl, rfl, rfl, rfl, rfl, fun _ => rfl, fun _ => rfl⟩
def NBs (st : St) : Prop := ∀ id cs, st.get id = some cs → ∀ c ∈ cs, c.NB
theorem NBs.nil : NBs ⟨[]⟩ := fun id cs h => by simp [St.get] at h
theorem NBs.push {st : St} {cs : List AV} (h : NBs st) (hc : ∀ c ∈ cs, c.NB) : NBs (st.push (.cells cs)) := by
  intro id ds hg
  by_cases e : id < st.boxes.length
  · rw [get_push_old e] at hg
    exact h id ds hg
  · by_cases e2 : id = st.boxes.length
    · subst e2
      rw [get_push] at hg
      cases hg
      exact hc
    · have := get_lt hg
      rw [len_push] at this
      omega
theorem NBs.set {st : St} {id : Nat} {cs : List AV} (h : NBs st) (hid : id < st.boxes.length) (hc : ∀ c ∈ cs, c.NB) : NBs (st.set id cs) := by
  intro id' ds hg
  by_cases e : id = id'
  · subst e
    rw [get_set hid] at hg
    cases hg
    exact hc
  · rw [get_set_ne e] at hg
    exact h id' ds hg
theorem MB.app {v : AV} {st : St} {l new : List AV} {bytes : Nat} {C : AV → St → Prop} (h : MB v st l) (hl : Lits l) (hn : Lits new) (hr : roomB (l.length + new.length) bytes = true)
    (hC : ∀ v' st', MB v' st' (l ++ new) → Kept st st' v → (NBs st → NBs st') → C v' st') : appX false 1 bytes v C st new := by
  rcases h with ⟨rfl, rfl⟩ | ⟨id, cap, r, rfl, hg, h1, h2⟩
  · refine ⟨rfl, by simpa using hr, ?_⟩
    split
    · rename_i h
      have : new = [] := by simpa using h
      subst this
      exact hC _ _ (.inl ⟨rfl, rfl⟩) (Kept.refl _ _) id
    · intro c hc
      refine hC _ _ (.inr ⟨st.boxes.length, c, List.replicate (c - new.length) .any, by simp, ?_, by simpa using hc, by simp; omega⟩) ⟨by simp [St.push], fun id cs hg _ => by rw [get_push_old (get_lt hg)]; exact hg⟩ (fun h => h.push fun x hx => ?_)
      · rw [hn.cellsD]
        simp only [List.nil_append, Nat.mul_one]
        exact get_push st _
      · rw [hn.cellsD] at hx
        simp only [List.nil_append, Nat.mul_one, List.mem_append] at hx
        rcases hx with hx | hx
        · exact hn.nb x hx
        · rw [List.eq_of_mem_replicate hx]; exact .any
  · refine ⟨rfl, rfl, hr, ?_⟩
    rw [hg]
    show (Res.ok _).wp _
    rw [wp_ok, hn.cellsD]
    have hid := get_lt hg
    split
    · rename_i hc
      refine ⟨by omega, hC _ _ (.inr ⟨id, cap, r.drop new.length, by simp, ?_, by simpa using hc, ?_⟩) ⟨by simp [St.set], fun id' cs hg' hne => ?_⟩ (fun h => h.set hid ?_)⟩
      · rw [get_set hid, Nat.zero_add, Nat.mul_one, setAt_at rfl (by simp at h2; omega)]
        simp
      · simp at h2 ⊢; omega
      · rw [get_set_ne (fun e => hne _ _ _ _ (by rw [e])), hg']
      · rw [Nat.zero_add, Nat.mul_one, setAt_at rfl (by simp at h2; omega)]
        have h3 := h id _ hg
        intro x hx
        simp only [List.mem_append] at hx
        rcases hx with hx | hx | hx
        · exact hl.nb x hx
        · exact hn.nb x hx
        · exact h3 x (List.mem_append_right _ (List.mem_of_mem_drop hx))
    · rename_i hc
      have e : List.map AV.own1 (List.take (l.length * 1) (List.drop 0 (l ++ r))) = l := by simp [hl.own]
      refine ⟨by simp, fun c hc => hC _ _ (.inr ⟨st.boxes.length, c, List.replicate (c - (l.length + new.length)) .any, by simp, ?_, by simpa using hc, by simp; omega⟩) ⟨by simp [St.push], fun id' cs hg' _ => by rw [get_push_old (get_lt hg')]; exact hg'⟩ (fun h => h.push fun x hx => ?_)⟩
      · rw [e]
        simp only [Nat.mul_one]
        exact get_push st _
      · rw [e] at hx
        simp only [List.mem_append] at hx
        rcases hx with (hx | hx) | hx
        · exact hl.nb x hx
        · exact hn.nb x hx
        · rw [List.eq_of_mem_replicate hx]; exact .any
theorem MB.src {v : AV} {st : St} {l : List AV} (h : MB v st l) : ∃ r, srcA st 1 v = r ∧ ∀ K : List AV → Prop, K l → r.wp K := by
  refine ⟨_, rfl, fun K hK => ?_⟩
  rcases h with ⟨rfl, rfl⟩ | ⟨id, cap, r, rfl, hg, h1, h2⟩
  · exact hK
  · show (bsElems st id 1 0 l.length).wp K
    unfold bsElems
    rw [hg]
    show _ ∧ _
    refine ⟨by simp, ?_⟩
    rw [List.drop_zero, grp_one (by simp), List.take_left]
    exact hK
end Go.Fx
/- Functions that keep nothing may be handed what lies in boxes. -/
namespace Go.Fx
open Go
def Gh.still (g : Gh) (w : World) : Gh := { base := g.base, lb := g.lb, bx := fun _ => none
                                            imm := fun b o => match frzB g w 0 b with | some us => us[o]? | none => g.imm b o
                                            cls := fun b => match g.cls b with | some (.box _) => none | c => c }
def Gh.back (g g2 : Gh) (n : Nat) : Gh := { base := g.base, lb := g.lb, bx := g.bx
                                            imm := fun b => if b < n then g.imm b else g2.imm b
                                            cls := fun b => if b < n then g.cls b else g2.cls b }
def St.one (id : Nat) (cs : List AV) : St := ⟨List.replicate id none ++ [some (.cells cs)]⟩
def St.kill (st : St) (id : Nat) : St := ⟨st.boxes.set id none⟩
end Go.Fx
/- Maps with plain keys, as lists; boxes that others are left alone by. -/
namespace Go.Fx
open Go
section
variable {β : Type}
def findP (t : Int) : List (Int × β) → Nat → Option (Nat × β)
  | [], _ => none
  | (k, b) :: r, i => if t = k then some (i, b) else findP t r (i + 1)
def lookP (t : Int) : List (Int × β) → Option β
  | [] => none
  | (k, b) :: r => if t = k then some b else lookP t r
def updP (t : Int) (b : β) : List (Int × β) → List (Int × β)
  | [] => [(t, b)]
  | (k, c) :: r => if t = k then (t, b) :: r else (k, c) :: updP t b r
def delP (t : Int) : List (Int × β) → List (Int × β)
  | [] => []
  | (k, c) :: r => if t = k then r else (k, c) :: delP t r
def keysP (m : List (Int × β)) : List Int := m.map Prod.fst
theorem findP_look (t : Int) : ∀ (m : List (Int × β)) (i : Nat), (findP t m i).map Prod.snd = lookP t m
  | [], _ => rfl
  | (k, b) :: r, i => by simp only [findP, lookP]; split; · rfl
                         · exact findP_look t r (i + 1)
theorem findP_upd {γ : Type} (e : Int × β → γ) (t : Int) (b : β) : ∀ (m : List (Int × β)) (i : Nat), match findP t m i with
    | some (j, _) => i ≤ j ∧ (m.map e).set (j - i) (e (t, b)) = (updP t b m).map e ∧ (m.map e).eraseIdx (j - i) = (delP t m).map e ∧ j - i < m.length
    | none => m.map e ++ [e (t, b)] = (updP t b m).map e ∧ delP t m = m
  | [], _ => by simp [findP, updP, delP]
  | (k, c) :: r, i => by
    simp only [findP]
    by_cases h : t = k
    · subst h
      simp [updP, delP]
    · rw [if_neg h]
      have ih := findP_upd e t b r (i + 1)
      cases hf : findP t r (i + 1) with
      | none => rw [hf] at ih; simp only at ih; simp [updP, delP, h, ih.1, ih.2]
      | some p =>
        obtain ⟨j, c'⟩ := p
        rw [hf] at ih
        simp only at ih ⊢
        obtain ⟨h1, h2, h3, h4⟩ := ih
        obtain ⟨q, rfl⟩ : ∃ q, j = i + 1 + q := ⟨j - (i + 1), by omega⟩
        rw [show i + 1 + q - (i + 1) = q by omega] at h2 h3 h4
        rw [show i + 1 + q - i = q + 1 by omega]
        refine ⟨by omega, ?_, ?_, by simp; omega⟩
        · simp [updP, h, h2]
        · simp [delP, h, h3]
theorem look_upd (t t' : Int) (b : β) : ∀ m : List (Int × β), lookP t' (updP t b m) = if t' = t then some b else lookP t' m
  | [] => by simp only [updP, lookP]
  | (k, c) :: r => by
    simp only [updP]
    by_cases h : t = k
    · subst h
      rw [if_pos rfl]
      simp only [lookP]
      split <;> rfl
    · rw [if_neg h]
      simp only [lookP]
      rw [look_upd t t' b r]
      by_cases h1 : t' = k
      · subst h1
        have : ¬ t' = t := fun e => h e.symm
        simp [this]
      · simp [h1]
theorem look_none {t : Int} : ∀ {m : List (Int × β)}, t ∉ keysP m → lookP t m = none
  | [], _ => rfl
  | (k, c) :: r, h => by
    simp only [keysP, List.map_cons, List.mem_cons, not_or] at h
    simp only [lookP]
    rw [if_neg h.1]
    exact look_none h.2
theorem look_del (t t' : Int) : ∀ {m : List (Int × β)}, (keysP m).Nodup → lookP t' (delP t m) = if t' = t then none else lookP t' m
  | [], _ => by simp [delP, lookP]
  | (k, c) :: r, hn => by
    simp only [keysP, List.map_cons, List.nodup_cons] at hn
    simp only [delP]
    by_cases h : t = k
    · subst h
      rw [if_pos rfl]
      simp only [lookP]
      by_cases h1 : t' = t
      · subst h1; rw [if_pos rfl]; exact look_none hn.1
      · rw [if_neg h1, if_neg h1]
    · rw [if_neg h]
      simp only [lookP]
      by_cases h1 : t' = k
      · subst h1
        have : ¬ t' = t := fun e => h e.symm
        simp [this]
      · rw [if_neg h1, if_neg h1]; exact look_del t t' hn.2
theorem len_upd (t : Int) (b : β) : ∀ m : List (Int × β), (updP t b m).length = if (lookP t m).isSome then m.length else m.length + 1
  | [] => by simp [updP, lookP]
  | (k, c) :: r => by
    simp only [updP, lookP]
    by_cases h : t = k
    · simp [h]
    · simp only [if_neg h, List.length_cons, len_upd t b r]
      split <;> rfl
theorem len_del (t : Int) : ∀ m : List (Int × β), (delP t m).length = if (lookP t m).isSome then m.length - 1 else m.length
  | [] => by simp [delP, lookP]
  | (k, c) :: r => by
    simp only [delP, lookP]
    by_cases h : t = k
    · simp [h]
    · simp only [if_neg h, List.length_cons, len_del t r]
      split
      · rename_i q
        have : r ≠ [] := by rintro rfl; simp [lookP] at q
        have := List.length_pos_iff.2 this
        omega
      · rfl
theorem keys_upd (t : Int) (b : β) : ∀ m : List (Int × β), keysP (updP t b m) = if (lookP t m).isSome then keysP m else keysP m ++ [t]
  | [] => by simp [updP, lookP, keysP]
  | (k, c) :: r => by
    simp only [updP, lookP]
    by_cases h : t = k
    · simp [h, keysP]
    · have := keys_upd t b r
      simp only [keysP] at this
      simp only [if_neg h, keysP, List.map_cons, this]
      split <;> rfl
theorem keys_del_sub (t x : Int) : ∀ {m : List (Int × β)}, x ∈ keysP (delP t m) → x ∈ keysP m
  | [], h => h
  | (k, c) :: r, h => by
    simp only [delP] at h
    simp only [keysP, List.map_cons, List.mem_cons]
    split at h
    · exact .inr h
    · simp only [keysP, List.map_cons, List.mem_cons] at h
      rcases h with h | h
      · exact .inl h
      · exact .inr (keys_del_sub t x h)
theorem nodup_upd {t : Int} {b : β} {m : List (Int × β)} (h : (keysP m).Nodup) : (keysP (updP t b m)).Nodup := by
  rw [keys_upd]
  split
  · exact h
  · rename_i hs
    refine List.nodup_append.2 ⟨h, by simp, ?_⟩
    intro x hx y hy
    simp only [List.mem_singleton] at hy
    subst hy
    rintro rfl
    have : ∀ m : List (Int × β), x ∈ keysP m → (lookP x m).isSome = true := by
      intro m
      induction m with
      | nil => intro h; simp [keysP] at h
      | cons p r ih =>
        obtain ⟨k, c⟩ := p
        intro h
        simp only [keysP, List.map_cons, List.mem_cons] at h
        simp only [lookP]
        split
        · rfl
        · rename_i hne
          rcases h with h | h
          · exact absurd h hne
          · exact ih h
    exact hs (this m hx)
theorem nodup_del {t : Int} : ∀ {m : List (Int × β)}, (keysP m).Nodup → (keysP (delP t m)).Nodup
  | [], h => h
  | (k, c) :: r, h => by
    simp only [keysP, List.map_cons, List.nodup_cons] at h
    simp only [delP]
    split
    · exact h.2
    · simp only [keysP, List.map_cons, List.nodup_cons]
      exact ⟨fun e => h.1 (keys_del_sub t k e), nodup_del h.2⟩
def encE (k : IntKind) (ev : β → AV) (p : Int × β) : AV × AV := (.lit (.int k p.1), ev p.2)
def encM (k : IntKind) (ev : β → AV) (m : List (Int × β)) : List (AV × AV) := m.map (encE k ev)
theorem findA_enc (k : IntKind) (ev : β → AV) (t : Int) : ∀ (m : List (Int × β)) (i : Nat), findA (.lit (.int k t)) (encM k ev m) i = .ok ((findP t m i).map fun p => (p.1, ev p.2))
  | [], _ => rfl
  | (q, b) :: r, i => by
    have ih := findA_enc k ev t r (i + 1)
    simp only [encM, List.map_cons, encE, findA, mapKeyEq, if_true, findP] at ih ⊢
    by_cases h : t = q
    · subst h; simp
    · have : (t == q) = false := by simpa using h
      simp only [this, if_neg h, Bool.false_eq_true, if_false]
      exact ih
end
section
variable {st st' : St} {id q : Nat}
theorem getM_lt {es : List (AV × AV)} (h : st.getM id = some es) : id < st.boxes.length := by
  unfold St.getM at h
  split at h
  · rename_i hb
    exact (List.getElem?_eq_some_iff.1 hb).1
  · cases h
theorem get_at (h : st'.boxes[id]? = st.boxes[id]?) : st'.get id = st.get id := by unfold St.get; rw [h]
theorem getM_at (h : st'.boxes[id]? = st.boxes[id]?) : st'.getM id = st.getM id := by unfold St.getM; rw [h]
theorem getB_at (h : st'.boxes[id]? = st.boxes[id]?) : st'.getB id = st.getB id := by unfold St.getB; rw [h]
theorem set_at {cs : List AV} (h : id ≠ q) : (st.set q cs).boxes[id]? = st.boxes[id]? := by simp [St.set, List.getElem?_set_ne (fun e => h e.symm)]
theorem setM_at {es : List (AV × AV)} {bs : List Nat} {c : Nat} (h : id ≠ q) : (st.setM q es bs c).boxes[id]? = st.boxes[id]? := by simp [St.setM, List.getElem?_set_ne (fun e => h e.symm)]
theorem push_at {b : Box} (h : id < st.boxes.length) : (st.push b).boxes[id]? = st.boxes[id]? := by simp [St.push, List.getElem?_append_left h]
theorem getM_setM {es : List (AV × AV)} {bs : List Nat} {c : Nat} (h : id < st.boxes.length) : (st.setM id es bs c).getM id = some es := by simp [St.setM, St.getM, h]
theorem getB_setM {es : List (AV × AV)} {bs : List Nat} {c : Nat} (h : id < st.boxes.length) : (st.setM id es bs c).getB id = (bs, c) := by simp [St.setM, St.getB, h]
theorem get_mt {es : List (AV × AV)} (h : st.getM id = some es) : st.get id = none := by
  unfold St.getM at h; unfold St.get
  split at h
  · rename_i hb; simp [hb]
  · cases h
end
theorem St.sub_push (st : St) (b : Box) : St.sub st (st.push b) := fun id x h => by
  rw [push_at (List.getElem?_eq_some_iff.1 h).1]; exact h
theorem St.sub_of {st st' : St} (h : ∀ id, id < st.boxes.length → st'.boxes[id]? = st.boxes[id]?) : St.sub st st' := fun id x hx => by
  rw [h id (List.getElem?_eq_some_iff.1 hx).1]; exact hx
def Oth (st st' : St) (S : List Nat) : Prop := st'.boxes.length = st.boxes.length ∧ ∀ id, id ∉ S → st'.boxes[id]? = st.boxes[id]?
theorem Oth.refl (st : St) (S : List Nat) : Oth st st S := ⟨rfl, fun _ _ => rfl⟩
theorem Oth.trans {a b c : St} {S : List Nat} (h : Oth a b S) (k : Oth b c S) : Oth a c S := ⟨k.1.trans h.1, fun id hid => (k.2 id hid).trans (h.2 id hid)⟩
theorem Oth.mono {a b : St} {S S' : List Nat} (h : Oth a b S) (hs : ∀ x ∈ S, x ∈ S') : Oth a b S' := ⟨h.1, fun id hid => h.2 id fun e => hid (hs id e)⟩
theorem Oth.set (st : St) (q : Nat) (cs : List AV) {S : List Nat} (h : q ∈ S) : Oth st (st.set q cs) S := ⟨len_set .., fun id hid => set_at fun e => hid (e ▸ h)⟩
theorem Oth.get {a b : St} {S : List Nat} (h : Oth a b S) {id : Nat} (hid : id ∉ S) : b.get id = a.get id := get_at (h.2 id hid)
theorem Oth.getM {a b : St} {S : List Nat} (h : Oth a b S) {id : Nat} (hid : id ∉ S) : b.getM id = a.getM id := getM_at (h.2 id hid)
section
variable {β : Type}
structure MapIs (st : St) (id : Nat) (k : IntKind) (ev : β → AV) (m : List (Int × β)) : Prop where
  get : st.getM id = some (encM k ev m)
  nd : (keysP m).Nodup
  bl : (st.getB id).1.length = m.length
  bn : (st.getB id).1.Nodup
  bc : ∀ b ∈ (st.getB id).1, b < (st.getB id).2
variable {st st' : St} {id : Nat} {k : IntKind} {ev : β → AV} {m : List (Int × β)}
theorem MapIs.lt (h : MapIs st id k ev m) : id < st.boxes.length := getM_lt h.get
theorem MapIs.at (h : MapIs st id k ev m) (hb : st'.boxes[id]? = st.boxes[id]?) : MapIs st' id k ev m := by
  refine ⟨(getM_at hb).trans h.get, h.nd, ?_, ?_, ?_⟩ <;> rw [getB_at hb]
  · exact h.bl
  · exact h.bn
  · exact h.bc
theorem MapIs.oth {S : List Nat} (h : MapIs st id k ev m) (ho : Oth st st' S) (hid : id ∉ S) : MapIs st' id k ev m := h.at (ho.2 id hid)
theorem MapIs.set (h : MapIs st id k ev m) {q : Nat} {cs : List AV} (hq : id ≠ q) : MapIs (st.set q cs) id k ev m := h.at (set_at hq)
theorem MapIs.push (h : MapIs st id k ev m) (b : Box) : MapIs (st.push b) id k ev m := h.at (push_at h.lt)
theorem MapIs.ne (h : MapIs st id k ev m) {q : Nat} {cs : List AV} (hq : st.get q = some cs) : id ≠ q := by
  rintro rfl
  rw [get_mt h.get] at hq; cases hq
theorem lookI_enc (h : MapIs st id k ev m) {z : AV} {ok : Bool} {t : Int} : lookupI (.int k) z ok st (.map id) (.lit (.int k t)) = .ok (match lookP t m with
    | some b => if ok then .tup [(ev b).dis, .lit (.bool true)] else (ev b).dis
    | none => if ok then .tup [z, .lit (.bool false)] else z) := by
  have hk : keyI (.int k) (.lit (.int k t)) = true := by simp [keyI]
  unfold lookupI
  rw [if_pos hk]
  simp only [h.get, Res.ofOpt, Res.bind, findA_enc]
  rw [← findP_look t m 0]
  cases findP t m 0 <;> rfl
theorem upd_step (h : MapIs st id k ev m) {t : Int} {b : β} {x : AV} (hx : x.solid = true) (hd : x.dis = ev b) {K : Sf → St → Prop} {sf : Sf}
    (hK : ∀ st', MapIs st' id k ev (updP t b m) → Oth st st' [id] → K sf st') : updX false (.int k) (.map id) (.lit (.int k t)) x K sf st := by
  refine ⟨by simp [keyI], rfl, hx, ?_⟩
  have hlt := h.lt
  simp only [h.get, Res.ofOpt, Res.wp, findA_enc, hd]
  have hu := findP_upd (encE k ev) t b m 0
  cases hf : findP t m 0 with
  | none =>
    rw [hf] at hu
    simp only [Option.map_none, St.updM, updA]
    have hno : lookP t m = none := by rw [← findP_look t m 0, hf]; rfl
    refine hK _ ⟨?_, nodup_upd h.nd, ?_, ?_, ?_⟩ ⟨by simp [St.setM], fun q hq => setM_at (by simpa using hq)⟩
    · rw [getM_setM hlt]; exact congrArg some hu.1
    · rw [getB_setM hlt, len_upd, hno]; simp [h.bl]
    · rw [getB_setM hlt]
      refine List.nodup_append.2 ⟨h.bn, by simp, fun x hx y hy e => ?_⟩
      simp only [List.mem_singleton] at hy
      subst hy; subst e
      exact Nat.lt_irrefl _ (h.bc _ hx)
    · rw [getB_setM hlt]
      intro b hb
      simp only [List.mem_append, List.mem_singleton] at hb
      rcases hb with hb | rfl
      · have := h.bc b hb; simp only; omega
      · simp
  | some p =>
    obtain ⟨j, c⟩ := p
    rw [hf] at hu
    simp only [Nat.sub_zero] at hu
    simp only [Option.map_some, St.updM, updA]
    have hyes : (lookP t m).isSome = true := by rw [← findP_look t m 0, hf]; rfl
    refine hK _ ⟨?_, nodup_upd h.nd, ?_, ?_, ?_⟩ ⟨by simp [St.setM], fun q hq => setM_at (by simpa using hq)⟩
    · rw [getM_setM hlt]; exact congrArg some hu.2.1
    · rw [getB_setM hlt, len_upd, if_pos hyes]; exact h.bl
    · rw [getB_setM hlt]; exact h.bn
    · rw [getB_setM hlt]; exact h.bc
theorem del_step (h : MapIs st id k ev m) {t : Int} {K : Sf → St → Prop} {sf : Sf}
    (hK : ∀ st', MapIs st' id k ev (delP t m) → Oth st st' [id] → K sf st') : delX false (.int k) (.map id) (.lit (.int k t)) K sf st := by
  refine ⟨by simp [keyI], rfl, ?_⟩
  have hlt := h.lt
  simp only [h.get, Res.ofOpt, Res.wp, findA_enc]
  cases hf : findP t m 0 with
  | none =>
    have hu : delP t m = m := by
      have : ∀ (m : List (Int × β)) (i : Nat), findP t m i = none → delP t m = m := by
        intro m
        induction m with
        | nil => intro i _; rfl
        | cons p r ih =>
          obtain ⟨k, c⟩ := p
          intro i h
          simp only [findP] at h
          simp only [delP]
          split at h
          · cases h
          · rename_i hne; rw [if_neg hne, ih (i + 1) h]
      exact this m 0 hf
    simp only [Option.map_none]
    exact hK _ (by rw [hu]; exact h) (Oth.refl _ _)
  | some p =>
    obtain ⟨j, c⟩ := p
    have hu := findP_upd (encE k ev) t c m 0
    rw [hf] at hu
    simp only [Nat.sub_zero] at hu
    simp only [Option.map_some, St.delM]
    have hyes : (lookP t m).isSome = true := by rw [← findP_look t m 0, hf]; rfl
    refine hK _ ⟨?_, nodup_del h.nd, ?_, ?_, ?_⟩ ⟨by simp [St.setM], fun q hq => setM_at (by simpa using hq)⟩
    · rw [getM_setM hlt]; exact congrArg some hu.2.2.1
    · rw [getB_setM hlt, len_del, if_pos hyes]
      simp only [List.length_eraseIdx, h.bl, if_pos hu.2.2.2]
    · rw [getB_setM hlt]; exact h.bn.sublist (List.eraseIdx_sublist ..)
    · rw [getB_setM hlt]; exact fun b hb => h.bc b (List.mem_of_mem_eraseIdx hb)
theorem lenI_enc (h : MapIs st id k ev m) : lenI .mp st (.map id) = .ok (.lit (.int .i64 m.length)) := by
  simp only [lenI, h.get, Res.ofOpt, Res.bind, encM, List.length_map]
theorem MapIs.clone (h : MapIs st id k ev m) : MapIs (st.push (.mp (encM k ev m) (st.getB id).1 (st.getB id).2)) st.boxes.length k ev m := by
  refine ⟨getM_push .., h.nd, ?_, ?_, ?_⟩ <;> rw [getB_push]
  · exact h.bl
  · exact h.bn
  · exact h.bc
theorem MapIs.new (st : St) (k : IntKind) (ev : β → AV) : MapIs (st.push (.mp [] [] 0)) st.boxes.length k ev [] := by
  refine ⟨getM_push .., by simp [keysP], ?_, ?_, ?_⟩ <;> rw [getB_push] <;> simp
end
theorem pcalls_id {P : Program} {X : Cx} {f : FuncId} {fn : AFun} {vs : List AV} {st : St} (hmix : P.follows .mixedOrders = true) (hf : compF P X f = some fn) (hX : X.F = id) (hlen : Nat.ble vs.length fn.n = true) {v0 : AV} (h : ∀ Q : AV → St → Prop, (∀ st', Q v0 st') → aFun P id true fn vs st Q) : PCalls P f vs st v0 := by
  refine pcalls_of hmix hf (Nat.le_of_ble_eq_true hlen) ?_
  rw [hX]; exact h _ fun _ => rfl
end Go.Fx
/- Linked nodes in a map: a queue (plain lists; no program in sight). -/
namespace Go.Fx
open Go
abbrev Nd := Int × Nat × Nat
abbrev Qu := List (Nat × Int)
def nxtOf : Qu → Nat → Nat
  | [], h => h
  | (x, _) :: _, _ => x
def lastT : Nat → Qu → Nat
  | p, [] => p
  | _, (t, _) :: r => lastT t r
def nodeA : Nat → Qu → Nat → Nat → Option Nd
  | _, [], _, _ => none
  | p, (u, v) :: r, h, t => if t = u then some (v, p, nxtOf r h) else nodeA u r h t
def ticks (L : Qu) : List Nat := L.map Prod.fst
theorem nodeA_app (B : Qu) (h t : Nat) : ∀ (A : Qu) (p : Nat), nodeA p (A ++ B) h t = match nodeA p A (nxtOf B h) t with | some x => some x | none => nodeA (lastT p A) B h t
  | [], p => rfl
  | (u, v) :: A, p => by
    simp only [List.cons_append, nodeA, lastT]
    split
    · cases A <;> rfl
    · exact nodeA_app B h t A u
theorem nodeA_none {h t : Nat} : ∀ {L : Qu} {p : Nat}, t ∉ ticks L → nodeA p L h t = none
  | [], _, _ => rfl
  | (u, v) :: r, p, hn => by
    simp only [ticks, List.map_cons, List.mem_cons, not_or] at hn
    simp only [nodeA]
    rw [if_neg hn.1]
    exact nodeA_none hn.2
theorem last_mem : ∀ {L : Qu} {p : Nat}, L ≠ [] → lastT p L ∈ ticks L
  | [(t, v)], p, _ => by simp [lastT, ticks]
  | (t, v) :: y :: r, p, _ => by
    have := last_mem (L := y :: r) (p := t) (by simp)
    simp only [lastT, ticks, List.map_cons, List.mem_cons] at this ⊢
    exact .inr this
theorem last_app (B : Qu) : ∀ (A : Qu) (p : Nat), lastT p (A ++ B) = lastT (lastT p A) B
  | [], _ => rfl
  | (t, v) :: A, p => last_app B A t
theorem last_ne {L : Qu} {p p' : Nat} (h : L ≠ []) : lastT p L = lastT p' L := by
  cases L with
  | nil => exact absurd rfl h
  | cons x r => rfl
theorem nodeA_h {h h' t : Nat} : ∀ {L : Qu} {p : Nat}, (ticks L).Nodup → L ≠ [] → nodeA p L h' t = if t = lastT p L then (nodeA p L h t).map (fun x => (x.1, x.2.1, h')) else nodeA p L h t
  | [(u, v)], p, _, _ => by
    simp only [nodeA, lastT, nxtOf]
    by_cases e : t = u
    · simp [e]
    · simp [e]
  | (u, v) :: (u2, v2) :: r, p, hn, _ => by
    have ih := nodeA_h (h := h) (h' := h') (t := t) (L := (u2, v2) :: r) (p := u) (List.nodup_cons.1 hn).2 (by simp)
    have hl := last_mem (L := (u2, v2) :: r) (p := u) (by simp)
    have hne : u ≠ lastT u ((u2, v2) :: r) := fun e => (List.nodup_cons.1 hn).1 (by rw [e]; exact hl)
    have e0 : ∀ q, nodeA p ((u, v) :: (u2, v2) :: r) q t = if t = u then some (v, p, u2) else nodeA u ((u2, v2) :: r) q t := fun q => rfl
    rw [e0, e0, show lastT p ((u, v) :: (u2, v2) :: r) = lastT u ((u2, v2) :: r) from rfl]
    by_cases e : t = u
    · subst e; rw [if_pos rfl, if_pos rfl, if_neg hne]
    · rw [if_neg e, if_neg e]; exact ih
theorem nodeA_p {h t p p' : Nat} {u : Nat} {v : Int} {r : Qu} (hn : (ticks ((u, v) :: r)).Nodup) : nodeA p' ((u, v) :: r) h t = if t = u then (nodeA p ((u, v) :: r) h t).map (fun x => (x.1, p', x.2.2)) else nodeA p ((u, v) :: r) h t := by
  simp only [nodeA]
  by_cases e : t = u
  · simp [e]
  · simp [e]
theorem nodeA_push {L : Qu} {u : Nat} {v : Int} {t : Nat} (hn : (ticks L).Nodup) (hu : u ∉ ticks L) (hL : L ≠ []) :
    nodeA 0 (L ++ [(u, v)]) 0 t = if t = lastT 0 L then (nodeA 0 L 0 t).map (fun x => (x.1, x.2.1, u)) else if t = u then some (v, lastT 0 L, 0) else nodeA 0 L 0 t := by
  rw [nodeA_app]
  simp only [nxtOf, nodeA]
  have hl := last_mem (p := 0) hL
  rw [nodeA_h (h := 0) hn hL]
  by_cases e : t = lastT 0 L
  · rw [if_pos e, if_pos e]
    cases hx : nodeA 0 L 0 t with
    | some x => rfl
    | none =>
      exfalso
      have : ∀ (L : Qu) (p : Nat), t ∈ ticks L → nodeA p L 0 t ≠ none := by
        intro L
        induction L with
        | nil => intro p h; simp [ticks] at h
        | cons y r ih =>
          obtain ⟨a, b⟩ := y
          intro p h
          simp only [nodeA]
          split
          · simp
          · rename_i hne
            simp only [ticks, List.map_cons, List.mem_cons] at h
            exact ih a (h.resolve_left hne)
      exact this L 0 (e ▸ hl) hx
  · rw [if_neg e, if_neg e]
    by_cases e2 : t = u
    · subst e2; rw [nodeA_none hu]
      try simp
    · simp only [if_neg e2]
      cases nodeA 0 L 0 t <;> rfl
theorem nodeA_del {A B : Qu} {u : Nat} {v : Int} {t : Nat} (hn : (ticks (A ++ (u, v) :: B)).Nodup) :
    nodeA 0 (A ++ B) 0 t = if t = u then none else
      if A ≠ [] ∧ t = lastT 0 A then (nodeA 0 (A ++ (u, v) :: B) 0 t).map (fun x => (x.1, x.2.1, nxtOf B 0)) else
      if B ≠ [] ∧ t = nxtOf B 0 then (nodeA 0 (A ++ (u, v) :: B) 0 t).map (fun x => (x.1, lastT 0 A, x.2.2)) else nodeA 0 (A ++ (u, v) :: B) 0 t := by
  have h1 : (ticks A).Nodup ∧ (ticks ((u, v) :: B)).Nodup ∧ ∀ x ∈ ticks A, ∀ y ∈ ticks ((u, v) :: B), x ≠ y := by
    simp only [ticks, List.map_append] at hn
    exact List.nodup_append.1 hn
  obtain ⟨hA, hB0, hAB⟩ := h1
  have hB := List.nodup_cons.1 hB0
  have hu : u ∉ ticks A := fun e => hAB u e u (by simp [ticks]) rfl
  rw [nodeA_app, nodeA_app, show nxtOf ((u, v) :: B) 0 = u from rfl]
  by_cases e : t = u
  · subst e
    rw [if_pos rfl, nodeA_none hu]
    exact nodeA_none hB.1
  · rw [if_neg e]
    have e1 : nodeA (lastT 0 A) ((u, v) :: B) 0 t = nodeA u B 0 t := by simp only [nodeA]; rw [if_neg e]
    rw [e1]
    by_cases hAe : A = []
    · subst hAe
      simp only [nodeA, lastT, ne_eq, not_true_eq_false, false_and, if_false]
      cases B with
      | nil => simp [nodeA]
      | cons y r =>
        obtain ⟨w, z⟩ := y
        rw [nodeA_p (p := u) (p' := 0) hB.2]
        simp [show nxtOf ((w, z) :: r) 0 = w from rfl]
    · rw [nodeA_h (h := u) (h' := nxtOf B 0) hA hAe]
      by_cases e2 : t = lastT 0 A
      · have hin : t ∈ ticks A := e2 ▸ last_mem hAe
        rw [if_pos e2, if_pos ⟨hAe, e2⟩]
        cases hx : nodeA 0 A u t with
        | some x => rfl
        | none =>
          have hnb : t ∉ ticks B := fun hb => hAB t hin t (by simp only [ticks, List.map_cons, List.mem_cons]; exact .inr hb) rfl
          simp only [Option.map_none, nodeA_none hnb]
      · rw [if_neg e2, if_neg (fun q => e2 q.2)]
        cases B with
        | nil => simp [nodeA]
        | cons y r =>
          obtain ⟨w, z⟩ := y
          rw [nodeA_p (p := u) (p' := lastT 0 A) hB.2]
          simp only [show nxtOf ((w, z) :: r) 0 = w from rfl, ne_eq, reduceCtorEq, not_false_eq_true, true_and]
          by_cases e3 : t = w
          · have hna : t ∉ ticks A := fun ha => hAB t ha t (by simp [ticks, e3]) rfl
            rw [if_pos e3, if_pos e3, nodeA_none hna]
          · rw [if_neg e3, if_neg e3]
theorem nodeA_at {A B : Qu} {u : Nat} {v : Int} (hu : u ∉ ticks A) : nodeA 0 (A ++ (u, v) :: B) 0 u = some (v, lastT 0 A, nxtOf B 0) := by
  rw [nodeA_app, nodeA_none hu]
  simp [nodeA]
def ndAV (x : Nd) : AV := .agg [.lit (.int .i64 x.1), .lit (.int .u64 (x.2.1 : Nat)), .lit (.int .u64 (x.2.2 : Nat))]
theorem ndAV_dis (x : Nd) : (ndAV x).dis = ndAV x := rfl
structure QIs (st : St) (q mid : Nat) (L : Qu) (g : Nat) : Prop where
  get : st.get q = some [.lit (.int .u64 (nxtOf L 0 : Nat)), .lit (.int .u64 (lastT 0 L : Nat)), .lit (.int .u64 (g : Nat)), .map mid]
  mp : ∃ m, MapIs st mid .u64 ndAV m ∧ (∀ t : Nat, lookP t m = nodeA 0 L 0 t) ∧ m.length = L.length
  srt : (ticks L).Pairwise (· < ·)
  pos : ∀ t ∈ ticks L, 0 < t ∧ t ≤ g
theorem QIs.nd {st : St} {q mid g : Nat} {L : Qu} (h : QIs st q mid L g) : (ticks L).Nodup := h.srt.imp fun h => Nat.ne_of_lt h
theorem QIs.ne {st : St} {q mid g : Nat} {L : Qu} (h : QIs st q mid L g) : mid ≠ q := by
  obtain ⟨m, hm, _⟩ := h.mp
  exact hm.ne h.get
theorem QIs.ltq {st : St} {q mid g : Nat} {L : Qu} (h : QIs st q mid L g) : q < st.boxes.length := get_lt h.get
theorem QIs.ltm {st : St} {q mid g : Nat} {L : Qu} (h : QIs st q mid L g) : mid < st.boxes.length := by
  obtain ⟨m, hm, _⟩ := h.mp
  exact hm.lt
theorem QIs.at {st st' : St} {q mid g : Nat} {L : Qu} (h : QIs st q mid L g) (h1 : st'.boxes[q]? = st.boxes[q]?) (h2 : st'.boxes[mid]? = st.boxes[mid]?) : QIs st' q mid L g := by
  obtain ⟨m, hm, h3, h4⟩ := h.mp
  exact ⟨(get_at h1).trans h.get, ⟨m, hm.at h2, h3, h4⟩, h.srt, h.pos⟩
theorem QIs.oth {st st' : St} {q mid g : Nat} {L : Qu} {S : List Nat} (h : QIs st q mid L g) (ho : Oth st st' S) (h1 : q ∉ S) (h2 : mid ∉ S) : QIs st' q mid L g := h.at (ho.2 _ h1) (ho.2 _ h2)
theorem QIs.nil_iff {st : St} {q mid g : Nat} {L : Qu} (h : QIs st q mid L g) : (nxtOf L 0 = 0 ↔ L = []) ∧ (lastT 0 L = 0 ↔ L = []) := by
  cases L with
  | nil => simp [nxtOf, lastT]
  | cons x r =>
    obtain ⟨t, v⟩ := x
    have h1 := h.pos t (by simp [ticks])
    have h2 := h.pos _ (last_mem (L := (t, v) :: r) (p := 0) (by simp))
    simp only [nxtOf, reduceCtorEq, iff_false]
    omega
theorem nodeA_some {t : Nat} : ∀ {L : Qu} {p : Nat}, t ∈ ticks L → ∃ x, nodeA p L 0 t = some x
  | (u, v) :: r, p, h => by
    simp only [nodeA]
    split
    · exact ⟨_, rfl⟩
    · rename_i hne
      simp only [ticks, List.map_cons, List.mem_cons] at h
      exact nodeA_some (h.resolve_left hne)
theorem ticks_app (A B : Qu) : ticks (A ++ B) = ticks A ++ ticks B := by simp [ticks]
theorem QIs.le {st : St} {q mid g : Nat} {L : Qu} (h : QIs st q mid L g) {t : Nat} (ht : t ∈ ticks L) : 0 < t ∧ t ≤ g := h.pos t ht
theorem QIs.clone {st st' : St} {q mid q' mid' g : Nat} {L : Qu} (h : QIs st q mid L g) (hg : st'.get q' = some [.lit (.int .u64 (nxtOf L 0 : Nat)), .lit (.int .u64 (lastT 0 L : Nat)), .lit (.int .u64 (g : Nat)), .map mid'])
    (hm : ∀ m, MapIs st mid .u64 ndAV m → MapIs st' mid' .u64 ndAV m) : QIs st' q' mid' L g := by
  obtain ⟨m, h1, h2, h3⟩ := h.mp
  exact ⟨hg, ⟨m, hm m h1, h2, h3⟩, h.srt, h.pos⟩
theorem nodeA_get {L : Qu} (hn : (ticks L).Nodup) {i : Nat} (hi : i < L.length) : nodeA 0 L 0 L[i].1 = some (L[i].2, lastT 0 (L.take i), nxtOf (L.drop (i + 1)) 0) := by
  have e : L = L.take i ++ (L[i].1, L[i].2) :: L.drop (i + 1) := by
    rw [← List.drop_eq_getElem_cons hi, List.take_append_drop]
  have hno : L[i].1 ∉ ticks (L.take i) := by
    intro hm
    have hn' := hn
    rw [e, ticks_app] at hn'
    exact (List.nodup_append.1 hn').2.2 _ hm _ (by simp [ticks]) rfl
  have := nodeA_at (v := L[i].2) (B := L.drop (i + 1)) hno
  rw [← e] at this
  exact this
theorem nxt_drop {L : Qu} {i : Nat} (hi : i < L.length) : nxtOf (L.drop i) 0 = L[i].1 := by
  rw [List.drop_eq_getElem_cons hi]
  rfl
theorem tick_get {L : Qu} {i : Nat} (hi : i < L.length) : L[i].1 ∈ ticks L := List.mem_map.2 ⟨L[i], List.getElem_mem hi, rfl⟩
theorem QIs.push {st st' : St} {q mid g : Nat} {L : Qu} {v : Int} (h : QIs st q mid L g) {m' : List (Int × Nd)} (hg : st'.get q = some [.lit (.int .u64 (nxtOf (L ++ [(g + 1, v)]) 0 : Nat)), .lit (.int .u64 ((g + 1 : Nat))), .lit (.int .u64 ((g + 1 : Nat))), .map mid])
    (hm : MapIs st' mid .u64 ndAV m') (hl : ∀ t : Nat, lookP t m' = nodeA 0 (L ++ [(g + 1, v)]) 0 t) (hn : m'.length = L.length + 1) : QIs st' q mid (L ++ [(g + 1, v)]) (g + 1) := by
  refine ⟨by rw [last_app]; exact hg, ⟨m', hm, hl, by simp [hn]⟩, ?_, fun t ht => ?_⟩
  · rw [ticks_app]
    refine List.pairwise_append.2 ⟨h.srt, by simp [ticks], fun x hx y hy => ?_⟩
    simp only [ticks, List.map_cons, List.map_nil, List.mem_singleton] at hy
    have := (h.pos x hx).2
    omega
  · rw [ticks_app] at ht
    rcases List.mem_append.1 ht with ht | ht
    · have := h.pos t ht; omega
    · simp only [ticks, List.map_cons, List.map_nil, List.mem_singleton] at ht
      omega
theorem QIs.fresh {st : St} {q mid g : Nat} {L : Qu} (h : QIs st q mid L g) : g + 1 ∉ ticks L := fun e => by have := (h.pos _ e).2; omega
theorem QIs.del {st st' : St} {q mid g : Nat} {A B : Qu} {t : Nat} {v : Int} (h : QIs st q mid (A ++ (t, v) :: B) g) {m' : List (Int × Nd)} (hg : st'.get q = some [.lit (.int .u64 (nxtOf (A ++ B) 0 : Nat)), .lit (.int .u64 (lastT 0 (A ++ B) : Nat)), .lit (.int .u64 (g : Nat)), .map mid])
    (hm : MapIs st' mid .u64 ndAV m') (hl : ∀ t : Nat, lookP t m' = nodeA 0 (A ++ B) 0 t) (hn : m'.length = (A ++ B).length) : QIs st' q mid (A ++ B) g := by
  have hsub : (ticks (A ++ B)).Sublist (ticks (A ++ (t, v) :: B)) := by
    simp only [ticks_app]
    exact List.Sublist.append (List.Sublist.refl _) (List.sublist_cons_self _ _)
  exact ⟨hg, ⟨m', hm, hl, hn⟩, h.srt.sublist hsub, fun x hx => h.pos x (hsub.subset hx)⟩
end Go.Fx
/- A channel's state: plain lists, and where they lie. -/
namespace Go.Fx
open Go
abbrev W3 := Nat × Int × Int
structure ChP where
  closed : Bool
  cap : Nat
  buf : List Int
  S : List W3
  V : List W3
  g0 : Nat
  g1 : Nat
def qOf (l : List W3) : Qu := l.map fun x => (x.1, x.2.1)
def wEnt (d : Int) (l : List W3) : List (Int × (Int × Int × Nat)) := l.map fun x => (x.2.1, (d, x.2.2, x.1))
def entC (S V : List W3) : List (Int × (Int × Int × Nat)) := wEnt 0 S ++ wEnt 1 V
def wtAV (x : Int × Int × Nat) : AV := .agg [.lit (.int .i64 x.1), .lit (.int .i64 x.2.1), .lit (.int .u64 (x.2.2 : Nat))]
def ints (l : List Int) : List AV := l.map fun v => .lit (.int .i64 v)
theorem ints_lits (l : List Int) : Lits (ints l) := fun x hx => by
  simp only [ints, List.mem_map] at hx
  obtain ⟨v, _, rfl⟩ := hx
  exact ⟨_, rfl⟩
theorem ints_len (l : List Int) : (ints l).length = l.length := by simp [ints]
theorem ints_app (l k : List Int) : ints (l ++ k) = ints l ++ ints k := by simp [ints]
theorem look_split {β : Type} {k : Int} {x : β} {B : List (Int × β)} : ∀ {A : List (Int × β)}, (keysP (A ++ (k, x) :: B)).Nodup → lookP k (A ++ (k, x) :: B) = some x ∧ ∀ t, lookP t (A ++ B) = if t = k then none else lookP t (A ++ (k, x) :: B)
  | [], h => by
    simp only [List.nil_append, keysP, List.map_cons, List.nodup_cons] at h
    refine ⟨by simp [lookP], fun t => ?_⟩
    by_cases e : t = k
    · subst e; rw [if_pos rfl]; exact look_none h.1
    · simp [lookP, e]
  | (a, b) :: A, h => by
    simp only [List.cons_append, keysP, List.map_cons, List.nodup_cons] at h
    obtain ⟨h1, h2⟩ := look_split (A := A) (B := B) (k := k) (x := x) h.2
    have hne : ¬ k = a := fun e => h.1 (by rw [← e]; simp)
    refine ⟨by simp only [List.cons_append, lookP]; rw [if_neg hne]; exact h1, fun t => ?_⟩
    simp only [List.cons_append, lookP]
    by_cases e : t = a
    · have e2 : ¬ t = k := fun q => hne (by rw [← q, e])
      rw [if_pos e, if_neg e2, if_pos e]
    · rw [if_neg e, if_neg e]; exact h2 t
def bufIds : AV → List Nat
  | .bs id _ _ _ _ => [id]
  | _ => []
structure ChIs (st : St) (c : Nat) (P : ChP) (q0 m0 q1 m1 wid : Nat) (bv : AV) : Prop where
  get : st.get c = some [.lit (.bool true), .lit (.bool P.closed), .lit (.int .i64 (P.cap : Nat)), bv, .ptr q0 0, .ptr q1 0, .map wid]
  buf : MB bv st (ints P.buf)
  s : QIs st q0 m0 (qOf P.S) P.g0
  r : QIs st q1 m1 (qOf P.V) P.g1
  w : ∃ W, MapIs st wid .i64 wtAV W ∧ ∀ t, lookP t W = lookP t (entC P.S P.V)
  ids : [c, q0, q1, m0, m1, wid].Nodup
  bid : ∀ x ∈ bufIds bv, x ∉ [c, q0, q1, m0, m1, wid]
  nd : (keysP (entC P.S P.V)).Nodup
  rng : ∀ t ∈ keysP (entC P.S P.V), 0 ≤ t ∧ t < 64
  zv : ∀ x ∈ P.V, x.2.2 = 0
def Kp (st st' : St) (F : List Nat) : Prop := st.boxes.length ≤ st'.boxes.length ∧ ∀ id, id < st.boxes.length → id ∉ F → st'.boxes[id]? = st.boxes[id]?
theorem Kp.refl (st : St) (F : List Nat) : Kp st st F := ⟨Nat.le_refl _, fun _ _ _ => rfl⟩
theorem Kp.trans {a b c : St} {F F' : List Nat} (h : Kp a b F) (k : Kp b c F') (hf : ∀ x ∈ F', x ∈ F ∨ a.boxes.length ≤ x) : Kp a c F :=
  ⟨Nat.le_trans h.1 k.1, fun id hid hn => (k.2 id (Nat.lt_of_lt_of_le hid h.1) fun e => (hf id e).elim hn (fun q => by omega)).trans (h.2 id hid hn)⟩
theorem MB.at {v : AV} {st st' : St} {l : List AV} (h : MB v st l) (hb : ∀ x ∈ bufIds v, st'.boxes[x]? = st.boxes[x]?) : MB v st' l := by
  rcases h with ⟨rfl, rfl⟩ | ⟨id, cap, r, rfl, hg, h1, h2⟩
  · exact .inl ⟨rfl, rfl⟩
  · exact .inr ⟨id, cap, r, rfl, (get_at (hb id (by simp [bufIds]))).trans hg, h1, h2⟩
theorem MB.lt {v : AV} {st : St} {l : List AV} (h : MB v st l) : ∀ x ∈ bufIds v, x < st.boxes.length := by
  rcases h with ⟨rfl, rfl⟩ | ⟨id, cap, r, rfl, hg, h1, h2⟩
  · simp [bufIds]
  · intro x hx
    simp only [bufIds, List.mem_singleton] at hx
    subst hx
    exact get_lt hg
section
variable {st st' : St} {c q0 m0 q1 m1 wid : Nat} {bv : AV} {P : ChP}
theorem ChIs.lts (h : ChIs st c P q0 m0 q1 m1 wid bv) : ∀ x ∈ [c, q0, q1, m0, m1, wid] ++ bufIds bv, x < st.boxes.length := by
  obtain ⟨W, hW, _⟩ := h.w
  intro x hx
  simp only [List.mem_append, List.mem_cons, List.not_mem_nil, or_false] at hx
  rcases hx with (rfl | rfl | rfl | rfl | rfl | rfl) | hx
  · exact get_lt h.get
  · exact h.s.ltq
  · exact h.r.ltq
  · exact h.s.ltm
  · exact h.r.ltm
  · exact hW.lt
  · exact h.buf.lt x hx
end
def foot (c q0 m0 q1 m1 wid : Nat) (bv : AV) : List Nat := [c, q0, q1, m0, m1, wid] ++ bufIds bv
def ChPost (st : St) (c : Nat) (P : ChP) (q0 m0 q1 m1 wid : Nat) (bv : AV) (st' : St) : Prop :=
  ∃ bv', ChIs st' c P q0 m0 q1 m1 wid bv' ∧ Kp st st' (foot c q0 m0 q1 m1 wid bv) ∧ ∀ x ∈ bufIds bv', x ∈ bufIds bv ∨ st.boxes.length ≤ x
theorem ChIs.post {st st' : St} {c q0 m0 q1 m1 wid : Nat} {bv : AV} {P : ChP} (h : ChIs st' c P q0 m0 q1 m1 wid bv) (hk : Kp st st' (foot c q0 m0 q1 m1 wid bv)) : ChPost st c P q0 m0 q1 m1 wid bv st' := ⟨bv, h, hk, fun _ h => .inl h⟩
theorem ChPost.trans {a b st' : St} {c q0 m0 q1 m1 wid : Nat} {bv bv1 : AV} {P : ChP} (hk : Kp a b (foot c q0 m0 q1 m1 wid bv)) (hb : ∀ x ∈ bufIds bv1, x ∈ bufIds bv ∨ a.boxes.length ≤ x) (h : ChPost b c P q0 m0 q1 m1 wid bv1 st') : ChPost a c P q0 m0 q1 m1 wid bv st' := by
  obtain ⟨bv', h1, h2, h3⟩ := h
  refine ⟨bv', h1, hk.trans h2 fun x hx => ?_, fun x hx => ?_⟩
  · simp only [foot, List.mem_append] at hx ⊢
    rcases hx with hx | hx
    · exact .inl (.inl hx)
    · exact (hb x hx).elim (fun e => .inl (.inr e)) .inr
  · rcases h3 x hx with h | h
    · exact hb x h
    · exact .inr (Nat.le_trans hk.1 h)
end Go.Fx
