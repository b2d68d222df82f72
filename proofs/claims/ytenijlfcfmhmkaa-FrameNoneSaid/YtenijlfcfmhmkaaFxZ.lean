/- aqueductlaw43.FrameNone: for every list of bytes the law answers true, and the bytes are as they were. No condition. -/
import Derived.Test.YtenijlfcfmhmkaaFxW3
import Derived.Test.YtenijlfcfmhmkaaRows
import Derived.ProofKit

namespace Go.Proofs.Ytenijlfcfmhmkaa
open Go.ChangeShapes Go.WideShapes Go.ChangeAt Go.RowKit Go.Fx Go.Fx.YtenijlfcfmhmkaaFx

theorem Try.own : ownKnob Try.prog.godebug = none := by kernel_rfl
theorem Try.laidOut : laidOutB Try.prog = true := by kernel_rfl

set_option maxRecDepth 100000 in
theorem frameNone_lifted (os : Os) (started : os.Started) (H : Type) (enc : TypeId × Value → H) :
    ReturnsInHanded {} Try.checked os 13 .any (Rows.frameNoneSpec.pre6 enc Try.prog Try.f13 Rows.frameNoneRow.domain false) (Rows.frameNoneSpec.post enc Try.prog Try.f13 false true false false) := by
  refine returnsInHanded_of_change (C := Try.checked) Try.own started (by kernel_rfl) Try.func13
    (ChangeSpec.witness6 (enc := enc) (C := Try.checked) false ⟨#[], #[.slice none 0 0], []⟩ 8 (by kernel_rfl) (by kernel_rfl) (by kernel_rfl) (by kernel_rfl)) ?_
  intro W base args ds gs before hval hW _ _
  exact law_top (P := Try.prog) (fn := Try.f13) (S := .pair (.sl (.int .u8)) .unit) (tb := 4) Try.laidOut (by kernel_rfl) (by kernel_rfl) (by kernel_rfl) (by kernel_rfl) rfl
    (fun ds hd => by
      match ds, hd with
      | [d], _ => exact ⟨rfl, rfl, rfl⟩)
    (fun x hx => frameNone_law _) W base args ds gs before hval hW

theorem frameNone_holds : Rows.FrameNoneSaid :=
  OpenClaim.holds_of_wide 13 Try.f13 rfl rfl rfl rfl rfl rfl rfl ⟨rfl, rfl, rfl, rfl, rfl⟩ rfl rfl rfl rfl rfl (by kernel_rfl) Try.func13 (by kernel_rfl)
    (of_decide_eq_true (by kernel_rfl)) (by unfold Func.isWrapper; first | (rw [if_pos (by decide +kernel)]; kernel_rfl) | (rw [if_neg (by decide +kernel)]; exact ⟨rfl, rfl⟩))
    (fun os started H enc _ => frameNone_lifted os started H enc)
end Go.Proofs.Ytenijlfcfmhmkaa
