/- aqueductlaw43.FrameAlls: for all bytes before and after, every frame, every index and every change the law answers true, and the bytes are as they were. No condition. -/
import Derived.Test.YtenijlfcfmhmkaaFxW8
import Derived.Test.YtenijlfcfmhmkaaRows
import Derived.ProofKit

namespace Go.Proofs.Ytenijlfcfmhmkaa
open Go.ChangeShapes Go.WideShapes Go.ChangeAt Go.RowKit Go.Fx Go.Fx.YtenijlfcfmhmkaaFx

theorem Try.own : ownKnob Try.prog.godebug = none := by kernel_rfl
theorem Try.laidOut : laidOutB Try.prog = true := by kernel_rfl

set_option maxRecDepth 100000 in
theorem frameAlls_lifted (os : Os) (started : os.Started) (H : Type) (enc : TypeId × Value → H) :
    ReturnsInHanded {} Try.checked os 3 .any (Rows.frameAllsSpec.pre6 enc Try.prog Try.f3 Rows.frameAllsRow.domain false) (Rows.frameAllsSpec.post enc Try.prog Try.f3 false true false false) := by
  refine returnsInHanded_of_change (C := Try.checked) Try.own started (by kernel_rfl) Try.func3
    (ChangeSpec.witness6 (enc := enc) (C := Try.checked) false ⟨#[], #[.slice none 0 0, .agg #[.int .u8 0, .slice none 0 0], .slice none 0 0, .int .u16 0, .int .u8 0], []⟩ 8 (by kernel_rfl) (by kernel_rfl) (by kernel_rfl) (by kernel_rfl)) ?_
  intro W base args ds gs before hval hW _ _
  exact law_top (P := Try.prog) (fn := Try.f3) (S := .pair (.sl (.int .u8)) (.pair (.pair (.int .u8) (.pair (.sl (.int .u8)) .unit)) (.pair (.sl (.int .u8)) (.pair (.int .u16) (.pair (.int .u8) .unit))))) (tb := 4) Try.laidOut (by kernel_rfl) (by kernel_rfl) (by kernel_rfl) (by kernel_rfl) rfl
    (fun ds hd => by
      match ds, hd with
      | [d0, d1, d2, d3, d4], _ => exact ⟨rfl, rfl, rfl⟩)
    (fun x hx => frameAlls_top hx.1 hx.2.1.1 hx.2.1.2.1 hx.2.2.1 hx.2.2.2.1) W base args ds gs before hval hW

theorem frameAlls_holds : Rows.FrameAllsSaid :=
  OpenClaim.holds_of_wide 3 Try.f3 rfl rfl rfl rfl rfl rfl rfl ⟨rfl, rfl, rfl, rfl, rfl⟩ rfl rfl rfl rfl rfl (by kernel_rfl) Try.func3 (by kernel_rfl)
    (of_decide_eq_true (by kernel_rfl)) (by unfold Func.isWrapper; first | (rw [if_pos (by decide +kernel)]; kernel_rfl) | (rw [if_neg (by decide +kernel)]; exact ⟨rfl, rfl⟩))
    (fun os started H enc _ => frameAlls_lifted os started H enc)
end Go.Proofs.Ytenijlfcfmhmkaa
