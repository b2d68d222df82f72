/- What the functions that the statement reaches compute: part 3. -/
import Derived.Test.YtphaaebhgggbaaaFxW2
namespace Go.Fx.YtphaaebhgggbaaaFx
open Go Go.Fx
attribute [local irreducible] aC runI bD cS

set_option maxRecDepth 100000
set_option maxHeartbeats 4000000

end Go.Fx.YtphaaebhgggbaaaFx

