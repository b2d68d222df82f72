/- What the functions that the statement reaches compute: part 16. -/
import Derived.Test.YtddifejdkiemgaaFxW15
namespace Go.Fx.YtddifejdkiemgaaFx
open Go Go.Fx
attribute [local irreducible] aC runI dg ep

set_option maxRecDepth 100000
set_option maxHeartbeats 4000000

/-! The reference's state. -/
section
variable {H:List Int} {V:List Vt}
theorem sum_take {H:List Int} {i:Nat} (h:i < H.length):(H.take (i + 1)).sum = (H.take i).sum + getH H i:=by
  have e:getH H i = H[i]:=by simp [getH,List.getD,h]
  rw [e,List.take_succ_eq_append_getElem h,List.sum_append]
  simp only [List.sum_cons,List.sum_nil,Int.add_zero]

end
end Go.Fx.YtddifejdkiemgaaFx

