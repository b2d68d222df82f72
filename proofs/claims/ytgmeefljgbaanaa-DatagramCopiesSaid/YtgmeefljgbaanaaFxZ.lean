/- aqueductlaw34.DatagramCopies: for all calls the law answers true. No condition. -/
import Derived.Test.YtgmeefljgbaanaaFxW27
import Derived.Test.YtgmeefljgbaanaaRows
import Derived.ProofKit

namespace Go.Proofs.Ytgmeefljgbaanaa
open Go.ChangeShapes Go.WideShapes Go.ChangeAt Go.RowKit Go.Fx Go.Fx.YtgmeefljgbaanaaFx

theorem Try.own : ownKnob Try.prog.godebug = none := by kernel_rfl
theorem Try.laidOut : laidOutB Try.prog = true := by kernel_rfl

set_option maxRecDepth 100000 in
theorem datagramCopies_lifted (os : Os) (started : os.Started) (H : Type) (enc : TypeId × Value → H) :
    ReturnsInHanded {} Try.checked os 6 .any (Rows.datagramCopiesSpec.pre6 enc Try.prog Try.f6 Rows.datagramCopiesRow.domain false) (Rows.datagramCopiesSpec.post enc Try.prog Try.f6 false true false false) := by
  refine returnsInHanded_of_change (C := Try.checked) Try.own started (by kernel_rfl) Try.func6
    (ChangeSpec.witness6 (enc := enc) (C := Try.checked) false ⟨#[], #[.slice none 0 0, .slice none 0 0, .slice none 0 0], []⟩ 8 (by kernel_rfl) (by kernel_rfl) (by kernel_rfl) (by kernel_rfl)) ?_
  intro W base args ds gs before hval hW _ _
  exact law_top (P := Try.prog) (fn := Try.f6) (S := .pair (.sl (.pair (.int .i64) (.pair (.int .i64) (.pair (.int .i64) (.pair (.int .i64) (.pair (.pair .str (.pair (.int .i64) .unit)) (.pair (.int .i64) (.pair (.int .u64) (.pair (.sl (.int .u8)) (.pair (.int .u64) .unit)))))))))) (.pair (.sl (.pair (.int .i64) (.pair (.int .i64) (.pair (.int .i64) (.pair (.int .i64) (.pair (.pair .str (.pair (.int .i64) .unit)) (.pair (.int .i64) (.pair (.int .u64) (.pair (.sl (.int .u8)) (.pair (.int .u64) .unit)))))))))) (.pair (.sl (.pair (.int .i64) (.pair (.int .i64) (.pair (.int .i64) (.pair (.int .i64) (.pair (.pair .str (.pair (.int .i64) .unit)) (.pair (.int .i64) (.pair (.int .u64) (.pair (.sl (.int .u8)) (.pair (.int .u64) .unit)))))))))) .unit))) (tb := 4) Try.laidOut (by kernel_rfl) (by kernel_rfl) (by kernel_rfl) (by kernel_rfl) rfl
    (fun ds hd => by
      match ds, hd with
      | [d0, d1, d2], _ => exact ⟨rfl, rfl, rfl⟩)
    (fun x hx => jW (fun x h => ⟨(hx.1.2 x h).2.2.2.2.2.2.1, (hx.1.2 x h).2.2.2.2.2.2.2.1.2, (hx.1.2 x h).2.2.2.2.2.2.2.2.1⟩) (fun x h => ⟨(hx.2.1.2 x h).2.2.2.2.2.2.1, (hx.2.1.2 x h).2.2.2.2.2.2.2.1.2, (hx.2.1.2 x h).2.2.2.2.2.2.2.2.1⟩) (fun x h => ⟨(hx.2.2.1.2 x h).2.2.2.2.2.2.1, (hx.2.2.1.2 x h).2.2.2.2.2.2.2.1.2, (hx.2.2.1.2 x h).2.2.2.2.2.2.2.2.1⟩)) W base args ds gs before hval hW

theorem datagramCopies_holds : Rows.DatagramCopiesSaid :=
  OpenClaim.holds_of_wide 6 Try.f6 rfl rfl rfl rfl rfl rfl rfl ⟨rfl, rfl, rfl, rfl, rfl⟩ rfl rfl rfl rfl rfl (by kernel_rfl) Try.func6 (by kernel_rfl)
    (of_decide_eq_true (by kernel_rfl)) (by unfold Func.isWrapper; first | (rw [if_pos (by decide +kernel)]; kernel_rfl) | (rw [if_neg (by decide +kernel)]; exact ⟨rfl, rfl⟩))
    (fun os started H enc _ => datagramCopies_lifted os started H enc)
end Go.Proofs.Ytgmeefljgbaanaa
