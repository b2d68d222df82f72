/- What the functions that the statement reaches compute: part 16. -/
import Derived.Test.YtbdjfccgkdgbfaaFxW15
namespace Go.Fx.YtbdjfccgkdgbfaaFx
open Go Go.Fx
attribute [local irreducible] aC runI aE aY

set_option maxRecDepth 100000
set_option maxHeartbeats 4000000

theorem ez (l:List Nat):(itsV l).dis = itsV l∧(itsV l).own2 = itsV l∧(itsV l).own1 = itsV l∧(itsV l).noL = true:=by
  unfold itsV; split <;> exact ⟨rfl,rfl,rfl,rfl⟩
end Go.Fx.YtbdjfccgkdgbfaaFx

