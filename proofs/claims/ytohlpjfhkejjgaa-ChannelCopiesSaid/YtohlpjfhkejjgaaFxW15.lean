/- What the functions that the statement reaches compute: part 15. -/
import Derived.Test.YtohlpjfhkejjgaaFxW14
namespace Go.Fx.YtohlpjfhkejjgaaFx
open Go Go.Fx
attribute [local irreducible] aC runI aY cF

set_option maxRecDepth 100000
set_option maxHeartbeats 4000000

theorem f8 {P:Program} {X:Cx} {f:FuncId} {fn:AFun} {vs:List AV} {x:AV} (hmix:P.follows .mixedOrders = true) (hf:bK P X f = some fn) (hX:X.F = id) (hlen:Nat.ble vs.length fn.n = true) (hx:x.NB) (hvs:∀ v ∈ vs,v.NB)
    (h:∀ Q:AV→St→Prop,(∀ v st',v.le x→Q v st')→aFun P id false fn vs ⟨[]⟩ Q) (st:St):bF P f vs st x :=
  pure_eq (bf hmix hf hX hlen fun Q hQ=>h Q fun v st' hv=>hQ v st' hv) hx hvs st

/-! The reference's channel. -/
def wAV (x:W3):AV:=.agg [.lit (.int .i64 x.2.1),.lit (.int .i64 x.2.2)]
def wlAV (l:List W3):AV:=.sl false 2 (l.map wAV)
def bu (P:ChP):AV:=.agg [.lit (.int .i64 (P.cap:Nat)),.sl false 1 (ints P.buf),wlAV P.S,wlAV P.V,.lit (.bool P.closed)]
theorem wAV_nb (x:W3):(wAV x).NB:=.agg _ (by simp [eQ])
theorem mC (l:List W3):(wlAV l).NB:=.sl _ _ _ (fun x hx=>by
  simp only [List.mem_map] at hx
  obtain ⟨y,_,rfl⟩:=hx
  exact wAV_nb y)
theorem wl_dis (l:List W3):(l.map wAV).map AV.dis = l.map wAV:=by simp only [List.map_map]; rfl
theorem mD (l:List Int):(ints l).map AV.dis = ints l:=(em l).dis
theorem ints_nb (l:List Int):(AV.sl false 1 (ints l)).NB:=.sl _ _ _ (em l).nb
theorem ir (P:ChP):(bu P).NB:=.agg _ (by simp [eQ,mC,ints_nb])
theorem its_nb (l:List It):(cD l).NB:=by
  unfold cD
  split
  · exact .lit _
  · refine .sl _ _ _ (fun x hx=>?_)
    simp only [List.mem_map] at hx
    obtain ⟨y,_,rfl⟩:=hx
    exact .agg _ (by simp [eQ])
theorem rs_nb (x:Rs):(rsAV x).NB:=.agg _ (by simp [eQ,its_nb])

end Go.Fx.YtohlpjfhkejjgaaFx

