/- What the functions that the statement reaches compute: part 27. -/
import Derived.Test.YtbomoaajkinfpaaFxW26
namespace Go.Fx.YtbomoaajkinfpaaFx
open Go Go.Fx
attribute [local irreducible] aC runI aD aL

set_option maxRecDepth 100000
set_option maxHeartbeats 4000000

section
variable {st:St} {s mid n:Nat} {cv ov:AV} {L:List CL} {R:RS}
end
end Go.Fx.YtbomoaajkinfpaaFx

