/- What the functions that the statement reaches compute: part 35. -/
import Derived.Test.YtbomoaajkinfpaaFxW34
namespace Go.Fx.YtbomoaajkinfpaaFx
open Go Go.Fx
attribute [local irreducible] aC runI aw aB

set_option maxRecDepth 100000
set_option maxHeartbeats 4000000

end Go.Fx.YtbomoaajkinfpaaFx

