/- What the functions that the statement reaches compute: part 32. -/
import Derived.Test.YtbomoaajkinfpaaFxW31
namespace Go.Fx.YtbomoaajkinfpaaFx
open Go Go.Fx
attribute [local irreducible] aC runI aw aB

set_option maxRecDepth 100000
set_option maxHeartbeats 4000000

/-! The reference: those that wait. -/
def wtA2 (w:Wt):AV:=.agg [.lit (.int .i64 w.1),csSl w.2]
def wtS (ws:List Wt):AV:=if ws = [] then .lit (.slice none 0 0) else .sl false 2 (ws.map wtA2)
theorem jW (l:List Wt):(wtS l).dis = wtS l∧(wtS l).own1 = wtS l∧(wtS l).own2 = wtS l∧(wtS l).solid1 = true∧(wtS l).noL = true∧(wtS l).cells = [wtS l]∧(∀ s,kill s (wtS l) = wtS l)∧∀ st',lenI .sl st' (wtS l) = .ok (.lit (.int .i64 (l.length:Nat))):=by
  unfold wtS
  split
  · rename_i h; subst h; exact ⟨rfl,rfl,rfl,rfl,rfl,rfl,fun _=>rfl,fun _=>rfl⟩
  · exact ⟨rfl,rfl,rfl,rfl,rfl,rfl,fun _=>rfl,fun _=>by simp [lenI]⟩
def AV.isCh (cv:AV):Prop:=cv.dis = cv∧cv.own1 = cv∧cv.own2 = cv∧cv.solid1 = true∧cv.noL = true∧cv.cells = [cv]∧∀ s,kill s cv = cv
def rfA (cv:AV) (ws:List Wt):AV:=.agg [cv,wtS ws]

end Go.Fx.YtbomoaajkinfpaaFx

