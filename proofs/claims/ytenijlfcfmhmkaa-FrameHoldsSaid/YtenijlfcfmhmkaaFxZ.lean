/- aqueductlaw43.FrameHolds: for all frames, all lengths of parts and every number of bytes looked at alone the law answers true, and the arguments are as they were. No condition. -/
import Derived.Test.YtenijlfcfmhmkaaFxW14
import Derived.Test.YtenijlfcfmhmkaaRows
import Derived.ProofKit

namespace Go.Proofs.Ytenijlfcfmhmkaa
open Go.ChangeShapes Go.WideShapes Go.ChangeAt Go.RowKit Go.Fx Go.Fx.YtenijlfcfmhmkaaFx

theorem Try.own : ownKnob Try.prog.godebug = none := by kernel_rfl
theorem Try.laidOut : laidOutB Try.prog = true := by kernel_rfl

set_option maxRecDepth 100000 in
theorem frameHolds_lifted (os : Os) (started : os.Started) (H : Type) (enc : TypeId × Value → H) :
    ReturnsInHanded {} Try.checked os 11 .any (Rows.frameHoldsSpec.pre6 enc Try.prog Try.f11 Rows.frameHoldsRow.domain false) (Rows.frameHoldsSpec.post enc Try.prog Try.f11 false true false false) := by
  refine returnsInHanded_of_change (C := Try.checked) Try.own started (by kernel_rfl) Try.func11
    (ChangeSpec.witness6 (enc := enc) (C := Try.checked) false ⟨#[], #[.slice none 0 0, .slice none 0 0, .int .u16 0], []⟩ 8 (by kernel_rfl) (by kernel_rfl) (by kernel_rfl) (by kernel_rfl)) ?_
  intro W base args ds gs before hval hW _ _
  exact law_top (P := Try.prog) (fn := Try.f11) (S := .pair (.sl (.pair (.int .u8) (.pair (.sl (.int .u8)) .unit))) (.pair (.sl (.int .u8)) (.pair (.int .u16) .unit))) (tb := 4) Try.laidOut (by kernel_rfl) (by kernel_rfl) (by kernel_rfl) (by kernel_rfl) rfl
    (fun ds hd => by
      match ds, hd with
      | [d0, d1, d2], _ => exact ⟨rfl, rfl, rfl⟩)
    (fun x hx => frameHolds_top hx.1 hx.2.1 hx.2.2.1) W base args ds gs before hval hW

theorem frameHolds_holds : Rows.FrameHoldsSaid :=
  OpenClaim.holds_of_wide 11 Try.f11 rfl rfl rfl rfl rfl rfl rfl ⟨rfl, rfl, rfl, rfl, rfl⟩ rfl rfl rfl rfl rfl (by kernel_rfl) Try.func11 (by kernel_rfl)
    (of_decide_eq_true (by kernel_rfl)) (by unfold Func.isWrapper; first | (rw [if_pos (by decide +kernel)]; kernel_rfl) | (rw [if_neg (by decide +kernel)]; exact ⟨rfl, rfl⟩))
    (fun os started H enc _ => frameHolds_lifted os started H enc)
end Go.Proofs.Ytenijlfcfmhmkaa
