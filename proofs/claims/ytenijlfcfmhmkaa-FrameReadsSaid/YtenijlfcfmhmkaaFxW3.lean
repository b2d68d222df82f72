/- What the functions that the statement reaches compute: part 3. -/
import Derived.Test.YtenijlfcfmhmkaaFxW2
namespace Go.Fx.YtenijlfcfmhmkaaFx
open Go Go.Fx
attribute [local irreducible] aC runI ap br

set_option maxRecDepth 100000
set_option maxHeartbeats 4000000

theorem next_nil (st:St):aw Go.Proofs.Try.prog n_f40 [.lit (.pointer none)] st (.tup [.agg [.lit (.int .u8 0),.lit (.slice none 0 0)],.lit (.bool false),.lit (.int .i64 1)]) :=
  x_pure hmix tabOk primOk 100 12 (by kernel_rfl) rfl rfl st
theorem same_zero (st:St):aw Go.Proofs.Try.prog n_f41 [.agg [.lit (.int .u8 0),.lit (.slice none 0 0)],.agg [.lit (.int .u8 0),.lit (.slice none 0 0)]] st (.lit (.bool true)) :=
  x_pure hmix tabOk primOk 100 12 (by kernel_rfl) rfl rfl st
end Go.Fx.YtenijlfcfmhmkaaFx

