/- What the functions that the statement reaches compute: part 14. -/
import Derived.Test.YtgmeefljgbaanaaFxW13
namespace Go.Fx.YtgmeefljgbaanaaFx
open Go Go.Fx
attribute [local irreducible] aC runI aE bz

set_option maxRecDepth 100000
set_option maxHeartbeats 4000000

/-! Close. -/
theorem SockR.del {M:List (Int×SL)} {socks:List Sk} {k now:Nat} (h:SockR M socks k now) (hn:(aP M).Nodup) {i:Int} {x:SL} (hx:ah i M = Option.some x):SockR (delP i M) (delS i socks) k now:=by
  obtain ⟨q1,q2,q3⟩:=h.some hx
  refine ⟨fun j=>?_,?_,h.srt.sublist mB,fun S hS=>h.ok S (mB.subset hS)⟩
  · rw [fI _ _ hn,atS_del j h.srt]
    split
    · rfl
    · exact h.at_ j
  · have h1:=delS_len q1
    have h2:=h.len
    rw [kS,hx]
    simp only [Option.isSome_some,if_true]
    omega

end Go.Fx.YtgmeefljgbaanaaFx

