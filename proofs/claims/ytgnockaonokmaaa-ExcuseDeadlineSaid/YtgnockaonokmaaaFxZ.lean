/- aqueductlaw28.ExcuseDeadline: for every trace, index, descriptor and direction the law answers true. No condition. -/
import Derived.Test.YtgnockaonokmaaaFxW9
import Derived.Test.YtgnockaonokmaaaRows
import Derived.ProofKit

namespace Go.Proofs.Ytgnockaonokmaaa
open Go.ChangeShapes Go.WideShapes Go.ChangeAt Go.RowKit Go.Fx Go.Fx.YtgnockaonokmaaaFx

theorem Try.own : ownKnob Try.prog.godebug = none := by kernel_rfl
theorem Try.laidOut : laidOutB Try.prog = true := by kernel_rfl

set_option maxRecDepth 100000 in
theorem excuseDeadline_lifted (os : Os) (started : os.Started) (H : Type) (enc : TypeId × Value → H) :
    ReturnsInHanded {} Try.checked os 4 .any (Rows.excuseDeadlineSpec.pre6 enc Try.prog Try.f4 Rows.excuseDeadlineRow.domain false) (Rows.excuseDeadlineSpec.post enc Try.prog Try.f4 false true false false) := by
  refine returnsInHanded_of_change (C := Try.checked) Try.own started (by kernel_rfl) Try.func4
    (ChangeSpec.witness6 (enc := enc) (C := Try.checked) false ⟨#[], #[.slice none 0 0, .int .i64 0, .agg #[.int .i64 0, .int .i64 0], .int .i64 0], []⟩ 8 (by kernel_rfl) (by kernel_rfl) (by kernel_rfl) (by kernel_rfl)) ?_
  intro W base args ds gs before hval hW _ _
  exact law_top (P := Try.prog) (fn := Try.f4) (S := .pair (.sl (.pair (.int .i64) (.pair (.int .i64) (.pair (.pair (.int .i64) (.pair (.pair (.int .i64) (.pair (.int .i64) .unit)) (.pair (.pair (.int .i64) (.pair (.int .i64) .unit)) (.pair (.pair .str (.pair (.int .i64) .unit)) (.pair (.sl (.sl (.int .u8))) (.pair (.int .i64) (.pair (.int .i64) (.pair (.int .i64) (.pair (.int .u64) .unit))))))))) (.pair (.int .i64) (.pair .bool (.pair (.pair (.int .i64) (.pair (.int .i64) (.pair (.int .i64) (.pair (.int .i64) (.pair (.sl (.int .u8)) (.pair (.pair (.int .i64) (.pair (.int .i64) .unit)) (.pair (.pair (.int .i64) (.pair (.int .i64) .unit)) (.pair (.pair .str (.pair (.int .i64) .unit)) (.pair (.int .u64) .unit))))))))) (.pair (.sl (.int .i64)) (.pair (.int .u64) .unit))))))))) (.pair (.int .i64) (.pair (.pair (.int .i64) (.pair (.int .i64) .unit)) (.pair (.int .i64) .unit)))) (tb := 4) Try.laidOut (by kernel_rfl) (by kernel_rfl) (by kernel_rfl) (by kernel_rfl) rfl
    (fun ds hd => by
      match ds, hd with
      | [d0, d1, d2, d3], _ => exact ⟨rfl, rfl, rfl⟩)
    (fun x hx => iE (fun x h => ⟨(hx.1.2 x h).2.2.1.2.2.2.2.2.2.2.2.1.1, (hx.1.2 x h).2.2.2.2.2.1.2.2.2.2.2.2.2.2.1.1, (hx.1.2 x h).2.2.2.2.2.2.2.1.1⟩) (hx.1.1)) W base args ds gs before hval hW

theorem excuseDeadline_holds : Rows.ExcuseDeadlineSaid :=
  OpenClaim.holds_of_wide 4 Try.f4 rfl rfl rfl rfl rfl rfl rfl ⟨rfl, rfl, rfl, rfl, rfl⟩ rfl rfl rfl rfl rfl (by kernel_rfl) Try.func4 (by kernel_rfl)
    (of_decide_eq_true (by kernel_rfl)) (by unfold Func.isWrapper; first | (rw [if_pos (by decide +kernel)]; kernel_rfl) | (rw [if_neg (by decide +kernel)]; exact ⟨rfl, rfl⟩))
    (fun os started H enc _ => excuseDeadline_lifted os started H enc)
end Go.Proofs.Ytgnockaonokmaaa
