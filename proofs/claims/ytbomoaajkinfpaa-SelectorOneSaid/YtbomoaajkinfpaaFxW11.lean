/- What the functions that the statement reaches compute: part 11. -/
import Derived.Test.YtbomoaajkinfpaaFxW10
namespace Go.Fx.YtbomoaajkinfpaaFx
open Go Go.Fx
attribute [local irreducible] aC runI aD aL

set_option maxRecDepth 100000
set_option maxHeartbeats 4000000

end Go.Fx.YtbomoaajkinfpaaFx

