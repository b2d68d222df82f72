/- What the functions that the statement reaches compute: part 31. -/
import Derived.Test.YtbomoaajkinfpaaFxW30
namespace Go.Fx.YtbomoaajkinfpaaFx
open Go Go.Fx
attribute [local irreducible] aC runI aw aB

set_option maxRecDepth 100000
set_option maxHeartbeats 4000000

/-! The arguments of the statements. -/
abbrev CsT:=Int×Bool×Int×Unit
abbrev A7T:=Int×Int×Int×List CsT×Bool×Unit
def csOf (x:CsT):Cs:=(x.1,x.2.1,x.2.2.1)
def a7Of (x:A7T):A7:=(x.1,x.2.1,x.2.2.1,x.2.2.2.1.map csOf,x.2.2.2.2.1)
theorem cs_arg (l:List CsT):AV.sl false 3 (l.map fun x=>.agg [.lit (.int .i64 x.1),.lit (.bool x.2.1),.lit (.int .i64 x.2.2.1)]) = .sl false 3 ((l.map csOf).map csAV):=by
  rw [List.map_map]; rfl
theorem a7_arg (x:A7T):AV.agg [.lit (.int .i64 x.1),.lit (.int .i64 x.2.1),.lit (.int .i64 x.2.2.1),.sl false 3 (x.2.2.2.1.map fun y=>.agg [.lit (.int .i64 y.1),.lit (.bool y.2.1),.lit (.int .i64 y.2.2.1)]),.lit (.bool x.2.2.2.2.1)] = a7AV (a7Of x) (.sl false 3 ((a7Of x).2.2.2.1.map csAV)):=by
  rw [cs_arg]; rfl

end Go.Fx.YtbomoaajkinfpaaFx

