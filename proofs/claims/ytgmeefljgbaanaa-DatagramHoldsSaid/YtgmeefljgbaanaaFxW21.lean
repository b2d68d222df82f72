/- What the functions that the statement reaches compute: part 21. -/
import Derived.Test.YtgmeefljgbaanaaFxW20
namespace Go.Fx.YtgmeefljgbaanaaFx
open Go Go.Fx
attribute [local irreducible] aC runI aF a9

set_option maxRecDepth 100000
set_option maxHeartbeats 4000000

/-! Nil and zero nets. -/
section
variable {st:St} {v:AV}
def actA (w t n m:Int) (nm:ByteArray) (port pol life:Int) (d:AV) (at_:Int):AV:=.agg [.lit (.int .i64 w),.lit (.int .i64 t),.lit (.int .i64 n),.lit (.int .i64 m),.lit (.string nm),.lit (.int .i64 port),.lit (.int .i64 pol),.lit (.int .u64 life),d,.lit (.int .u64 at_)]
def resA (n:Int) (b:Bool) (t:Int) (nm:ByteArray) (port:Int) (w:AV) (a:Nat) (c:Bool) (er:Int) (all:AV) (e:Int):AV:=.agg [.lit (.int .i64 n),.lit (.bool b),.lit (.int .i64 t),.lit (.string nm),.lit (.int .i64 port),w,.lit (.int .u64 (a:Nat)),.lit (.bool c),.lit (.int .i64 er),all,.lit (.int .i64 e)]
end
end Go.Fx.YtgmeefljgbaanaaFx

namespace Go.Fx.YtgmeefljgbaanaaFx
open Go Go.Fx
attribute [local irreducible] aC runI aF a9

set_option maxRecDepth 100000
set_option maxHeartbeats 4000000

/-! Results are compared; nil and zero nets. -/
structure RO where
  n:Int
  done:Bool
  one:Rc
  all:List Rc
  err:Int
def resV (x:RO) (w av:AV):AV:=resA x.n x.done x.one.task x.one.nm x.one.port w x.one.at_ x.one.cut x.one.err av x.err
end Go.Fx.YtgmeefljgbaanaaFx

