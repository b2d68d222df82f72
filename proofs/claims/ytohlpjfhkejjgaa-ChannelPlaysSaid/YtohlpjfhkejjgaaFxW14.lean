/- What the functions that the statement reaches compute: part 14. -/
import Derived.Test.YtohlpjfhkejjgaaFxW13
namespace Go.Fx.YtohlpjfhkejjgaaFx
open Go Go.Fx
attribute [local irreducible] aC runI headI loopI

set_option maxRecDepth 100000
set_option maxHeartbeats 4000000

theorem pure_le {P : Program} {X : Cx} {f : FuncId} {fn : AFun} {vs : List AV} {x : AV} (hmix : P.follows .mixedOrders = true) (hf : compF P X f = some fn) (hX : X.F = id) (hlen : Nat.ble vs.length fn.n = true) (hx : x.NB) (hvs : ∀ v ∈ vs, v.NB)
    (h : ∀ Q : AV → St → Prop, (∀ v st', v.le x → Q v st') → aFun P id false fn vs ⟨[]⟩ Q) (st : St) : PCalls P f vs st x :=
  pure_eq (acalls_op hmix hf hX hlen fun Q hQ => h Q fun v st' hv => hQ v st' hv) hx hvs st

/-! The reference's channel. -/
def wAV (x : W3) : AV := .agg [.lit (.int .i64 x.2.1), .lit (.int .i64 x.2.2)]
def wlAV (l : List W3) : AV := .sl false 2 (l.map wAV)
def refAV (P : ChP) : AV := .agg [.lit (.int .i64 (P.cap : Nat)), .sl false 1 (ints P.buf), wlAV P.S, wlAV P.V, .lit (.bool P.closed)]
theorem wAV_nb (x : W3) : (wAV x).NB := .agg _ (by simp [nb_lit])
theorem wl_nb (l : List W3) : (wlAV l).NB := .sl _ _ _ (fun x hx => by
  simp only [List.mem_map] at hx
  obtain ⟨y, _, rfl⟩ := hx
  exact wAV_nb y)
theorem wl_dis (l : List W3) : (l.map wAV).map AV.dis = l.map wAV := by simp only [List.map_map]; rfl
theorem ints_dis (l : List Int) : (ints l).map AV.dis = ints l := (ints_lits l).dis
theorem ints_nb (l : List Int) : (AV.sl false 1 (ints l)).NB := .sl _ _ _ (ints_lits l).nb
theorem ref_nb (P : ChP) : (refAV P).NB := .agg _ (by simp [nb_lit, wl_nb, ints_nb])
theorem its_nb (l : List It) : (itsAV l).NB := by
  unfold itsAV
  split
  · exact .lit _
  · refine .sl _ _ _ (fun x hx => ?_)
    simp only [List.mem_map] at hx
    obtain ⟨y, _, rfl⟩ := hx
    exact .agg _ (by simp [nb_lit])
theorem rs_nb (x : Rs) : (rsAV x).NB := .agg _ (by simp [nb_lit, its_nb])

end Go.Fx.YtohlpjfhkejjgaaFx

