/- What the functions that the statement reaches compute: part 3. -/
import Derived.Test.YtbdjfccgkdgbfaaFxW2
namespace Go.Fx.YtbdjfccgkdgbfaaFx
open Go Go.Fx
attribute [local irreducible] aC runI au aH

set_option maxRecDepth 100000
set_option maxHeartbeats 4000000

end Go.Fx.YtbdjfccgkdgbfaaFx

