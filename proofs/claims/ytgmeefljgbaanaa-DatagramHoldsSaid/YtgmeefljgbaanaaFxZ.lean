/- aqueductlaw34.DatagramHolds: for all numbers and calls the law answers true. No condition. -/
import Derived.Test.YtgmeefljgbaanaaFxW27
import Derived.Test.YtgmeefljgbaanaaRows
import Derived.ProofKit

namespace Go.Proofs.Ytgmeefljgbaanaa
open Go.ChangeShapes Go.WideShapes Go.ChangeAt Go.RowKit Go.Fx Go.Fx.YtgmeefljgbaanaaFx

theorem Try.own : ownKnob Try.prog.godebug = none := by kernel_rfl
theorem Try.laidOut : laidOutB Try.prog = true := by kernel_rfl

set_option maxRecDepth 100000 in
theorem datagramHolds_lifted (os : Os) (started : os.Started) (H : Type) (enc : TypeId × Value → H) :
    ReturnsInHanded {} Try.checked os 4 .any (Rows.datagramHoldsSpec.pre6 enc Try.prog Try.f4 Rows.datagramHoldsRow.domain false) (Rows.datagramHoldsSpec.post enc Try.prog Try.f4 false true false false) := by
  refine returnsInHanded_of_change (C := Try.checked) Try.own started (by kernel_rfl) Try.func4
    (ChangeSpec.witness6 (enc := enc) (C := Try.checked) false ⟨#[], #[.int .i64 0, .int .i64 0, .int .i64 0, .int .u64 0, .slice none 0 0], []⟩ 8 (by kernel_rfl) (by kernel_rfl) (by kernel_rfl) (by kernel_rfl)) ?_
  intro W base args ds gs before hval hW _ _
  exact law_top (P := Try.prog) (fn := Try.f4) (S := .pair (.int .i64) (.pair (.int .i64) (.pair (.int .i64) (.pair (.int .u64) (.pair (.sl (.pair (.int .i64) (.pair (.int .i64) (.pair (.int .i64) (.pair (.int .i64) (.pair (.pair .str (.pair (.int .i64) .unit)) (.pair (.int .i64) (.pair (.int .u64) (.pair (.sl (.int .u8)) (.pair (.int .u64) .unit)))))))))) .unit))))) (tb := 4) Try.laidOut (by kernel_rfl) (by kernel_rfl) (by kernel_rfl) (by kernel_rfl) rfl
    (fun ds hd => by
      match ds, hd with
      | [d0, d1, d2, d3, d4], _ => exact ⟨rfl, rfl, rfl⟩)
    (fun x hx => ky hx.2.2.2.1 fun x h => ⟨(hx.2.2.2.2.1.2 x h).2.2.2.2.2.2.1, (hx.2.2.2.2.1.2 x h).2.2.2.2.2.2.2.1.2, (hx.2.2.2.2.1.2 x h).2.2.2.2.2.2.2.2.1⟩) W base args ds gs before hval hW

theorem datagramHolds_holds : Rows.DatagramHoldsSaid :=
  OpenClaim.holds_of_wide 4 Try.f4 rfl rfl rfl rfl rfl rfl rfl ⟨rfl, rfl, rfl, rfl, rfl⟩ rfl rfl rfl rfl rfl (by kernel_rfl) Try.func4 (by kernel_rfl)
    (of_decide_eq_true (by kernel_rfl)) (by unfold Func.isWrapper; first | (rw [if_pos (by decide +kernel)]; kernel_rfl) | (rw [if_neg (by decide +kernel)]; exact ⟨rfl, rfl⟩))
    (fun os started H enc _ => datagramHolds_lifted os started H enc)
end Go.Proofs.Ytgmeefljgbaanaa
