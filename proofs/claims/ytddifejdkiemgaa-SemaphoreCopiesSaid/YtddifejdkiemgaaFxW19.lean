/- What the functions that the statement reaches compute: part 19. -/
import Derived.Test.YtddifejdkiemgaaFxW18
namespace Go.Fx.YtddifejdkiemgaaFx
open Go Go.Fx
attribute [local irreducible] aC runI a9 cd

set_option maxRecDepth 100000
set_option maxHeartbeats 8000000

section
variable {st:St} {b q mid wid g:Nat} {sz nw:Int} {H:List Int} {V:List Vt}
end
end Go.Fx.YtddifejdkiemgaaFx

