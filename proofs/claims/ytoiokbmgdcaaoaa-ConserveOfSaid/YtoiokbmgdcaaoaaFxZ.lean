/- aqueductlaw27.ConserveOf: for every trace and pipe the law answers true. No condition. -/
import Derived.Test.YtoiokbmgdcaaoaaFxW8
import Derived.Test.YtoiokbmgdcaaoaaRows
import Derived.ProofKit
import Derived.SizedLaws

namespace Go.Proofs.Ytoiokbmgdcaaoaa
open Go.ChangeShapes Go.WideShapes Go.ChangeAt Go.RowKit Go.Fx Go.Fx.YtoiokbmgdcaaoaaFx

theorem Try.own : ownKnob Try.prog.godebug = none := by kernel_rfl
theorem Try.laidOut : laidOutB Try.prog = true := by kernel_rfl

set_option maxRecDepth 100000 in
theorem conserveOf_lifted (os : Os) (started : os.Started) (H : Type) (enc : TypeId × Value → H) :
    ReturnsInHanded {} Try.checked os 5 .any (Rows.conserveOfSpec.pre6 enc Try.prog Try.f5 Rows.conserveOfRow.domain false) (Rows.conserveOfSpec.post enc Try.prog Try.f5 false true false false) := by
  refine returnsInHanded_of_change_sized (C := Try.checked) Try.own started (by kernel_rfl) Try.func5
    (ChangeSpec.witness6 (enc := enc) (C := Try.checked) false ⟨#[], #[.slice none 0 0, .agg #[.int .i64 0, .int .i64 0, .int .i64 0, .int .i64 0, .int .i64 0, .slice none 0 0, .slice none 0 0, .slice none 0 0, .bool false, .bool false]], []⟩ 8 (by kernel_rfl) (by kernel_rfl) (by kernel_rfl) (by kernel_rfl)) ?_
  intro W base args ds gs before hval hW _ hwt _
  exact law_topW (P := Try.prog) (fn := Try.f5) (S := .pair (.sl (.pair (.int .i64) (.pair (.int .i64) (.pair (.pair (.int .i64) (.pair (.pair (.int .i64) (.pair (.int .i64) .unit)) (.pair (.pair (.int .i64) (.pair (.int .i64) .unit)) (.pair (.pair .str (.pair (.int .i64) .unit)) (.pair (.sl (.sl (.int .u8))) (.pair (.int .i64) (.pair (.int .i64) (.pair (.int .i64) (.pair (.int .u64) .unit))))))))) (.pair (.int .i64) (.pair .bool (.pair (.pair (.int .i64) (.pair (.int .i64) (.pair (.int .i64) (.pair (.int .i64) (.pair (.sl (.int .u8)) (.pair (.pair (.int .i64) (.pair (.int .i64) .unit)) (.pair (.pair (.int .i64) (.pair (.int .i64) .unit)) (.pair (.pair .str (.pair (.int .i64) .unit)) (.pair (.int .u64) .unit))))))))) (.pair (.sl (.int .i64)) (.pair (.int .u64) .unit)))))))))
      (.pair (.pair (.pair (.int .i64) (.pair (.int .i64) .unit)) (.pair (.pair (.int .i64) (.pair (.int .i64) .unit)) (.pair (.int .i64) (.pair (.sl (.int .u8)) (.pair (.sl (.int .u8)) (.pair (.sl (.sl (.int .u8))) (.pair .bool (.pair .bool .unit)))))))) .unit)) (tb := 4) Try.laidOut (by kernel_rfl) (by kernel_rfl) (by kernel_rfl) (by kernel_rfl) rfl
    (fun ds hd => by
      match ds, hd with
      | [d0, d1], _ => exact ⟨rfl, rfl, rfl⟩)
    (fun x hx hy => qj (l := x.1) (p := x.2.1)
      (fun x h => ⟨(hx.1.2 x h).2.2.1.2.2.2.2.2.2.2.2.1.1, (hx.1.2 x h).2.2.2.2.2.1.2.2.2.2.2.2.2.2.1.1, (hx.1.2 x h).2.2.2.2.2.2.2.1.1,
        ⟨(hy.1.2 x h).2.2.1.2.2.2.2.1.1, fun d hd => ⟨((hy.1.2 x h).2.2.1.2.2.2.2.1.2 d hd).1, ((hx.1.2 x h).2.2.1.2.2.2.2.1.2 d hd).2⟩⟩,
        ⟨(hy.1.2 x h).2.2.2.2.2.1.2.2.2.2.1.1, (hx.1.2 x h).2.2.2.2.2.1.2.2.2.2.1.2⟩⟩)
      hy.1.1 ⟨hy.2.1.2.2.2.1.1, hx.2.1.2.2.2.1.2⟩ ⟨hy.2.1.2.2.2.2.1.1, hx.2.1.2.2.2.2.1.2⟩
      ⟨hy.2.1.2.2.2.2.2.1.1, fun d hd => ⟨(hy.2.1.2.2.2.2.2.1.2 d hd).1, (hx.2.1.2.2.2.2.2.1.2 d hd).2⟩⟩) W base args ds gs before hval hW hwt

theorem conserveOf_holds : Rows.ConserveOfSaid :=
  OpenClaim.holds_of_wide 5 Try.f5 rfl rfl rfl rfl rfl rfl rfl ⟨rfl, rfl, rfl, rfl, rfl⟩ rfl rfl rfl rfl rfl (by kernel_rfl) Try.func5 (by kernel_rfl)
    (of_decide_eq_true (by kernel_rfl)) (by unfold Func.isWrapper; first | (rw [if_pos (by decide +kernel)]; kernel_rfl) | (rw [if_neg (by decide +kernel)]; exact ⟨rfl, rfl⟩))
    (fun os started H enc _ => conserveOf_lifted os started H enc)
end Go.Proofs.Ytoiokbmgdcaaoaa
