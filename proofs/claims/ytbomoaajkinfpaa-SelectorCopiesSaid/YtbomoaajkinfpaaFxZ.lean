/- aqueductlaw37.SelectorCopies: for all capacities and all calls before and behind the copy the law answers true. No condition. -/
import Derived.Test.YtbomoaajkinfpaaFxW48
import Derived.Test.YtbomoaajkinfpaaRows
import Derived.ProofKit

namespace Go.Proofs.Ytbomoaajkinfpaa
open Go.ChangeShapes Go.WideShapes Go.ChangeAt Go.RowKit Go.Fx Go.Fx.YtbomoaajkinfpaaFx

theorem Try.own : ownKnob Try.prog.godebug = none := by kernel_rfl
theorem Try.laidOut : laidOutB Try.prog = true := by kernel_rfl

set_option maxRecDepth 100000 in
theorem selectorCopies_lifted (os : Os) (started : os.Started) (H : Type) (enc : TypeId × Value → H) :
    ReturnsInHanded {} Try.checked os 7 .any (Rows.selectorCopiesSpec.pre6 enc Try.prog Try.f7 Rows.selectorCopiesRow.domain false) (Rows.selectorCopiesSpec.post enc Try.prog Try.f7 false true false false) := by
  refine returnsInHanded_of_change (C := Try.checked) Try.own started (by kernel_rfl) Try.func7
    (ChangeSpec.witness6 (enc := enc) (C := Try.checked) false ⟨#[], #[.slice none 0 0, .slice none 0 0, .slice none 0 0, .slice none 0 0], []⟩ 8 (by kernel_rfl) (by kernel_rfl) (by kernel_rfl) (by kernel_rfl)) ?_
  intro W base args ds gs before hval hW _ _
  exact law_top (P := Try.prog) (fn := Try.f7) (S := .pair (.sl (.int .i64)) (.pair (.sl (.pair (.int .i64) (.pair (.int .i64) (.pair (.int .i64) (.pair (.sl (.pair (.int .i64) (.pair .bool (.pair (.int .i64) .unit)))) (.pair .bool .unit)))))) (.pair (.sl (.pair (.int .i64) (.pair (.int .i64) (.pair (.int .i64) (.pair (.sl (.pair (.int .i64) (.pair .bool (.pair (.int .i64) .unit)))) (.pair .bool .unit)))))) (.pair (.sl (.pair (.int .i64) (.pair (.int .i64) (.pair (.int .i64) (.pair (.sl (.pair (.int .i64) (.pair .bool (.pair (.int .i64) .unit)))) (.pair .bool .unit)))))) .unit)))) (tb := 4) Try.laidOut (by kernel_rfl) (by kernel_rfl) (by kernel_rfl) (by kernel_rfl) rfl
    (fun ds hd => by
      match ds, hd with
      | [d0, d1, d2, d3], _ => exact ⟨rfl, rfl, rfl⟩)
    (fun x hx => jx (fun a ha => (hx.2.1.2 a ha).2.2.2.1.1) (fun a ha => (hx.2.2.1.2 a ha).2.2.2.1.1) (fun a ha => (hx.2.2.2.1.2 a ha).2.2.2.1.1)) W base args ds gs before hval hW

theorem selectorCopies_holds : Rows.SelectorCopiesSaid :=
  OpenClaim.holds_of_wide 7 Try.f7 rfl rfl rfl rfl rfl rfl rfl ⟨rfl, rfl, rfl, rfl, rfl⟩ rfl rfl rfl rfl rfl (by kernel_rfl) Try.func7 (by kernel_rfl)
    (of_decide_eq_true (by kernel_rfl)) (by unfold Func.isWrapper; first | (rw [if_pos (by decide +kernel)]; kernel_rfl) | (rw [if_neg (by decide +kernel)]; exact ⟨rfl, rfl⟩))
    (fun os started H enc _ => selectorCopies_lifted os started H enc)
end Go.Proofs.Ytbomoaajkinfpaa
