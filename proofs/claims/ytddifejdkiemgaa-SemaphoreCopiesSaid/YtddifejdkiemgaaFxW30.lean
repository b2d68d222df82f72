/- What the functions that the statement reaches compute: part 30. -/
import Derived.Test.YtddifejdkiemgaaFxW29
namespace Go.Fx.YtddifejdkiemgaaFx
open Go Go.Fx
attribute [local irreducible] aC runI a9 cd

set_option maxRecDepth 100000
set_option maxHeartbeats 8000000

end Go.Fx.YtddifejdkiemgaaFx

