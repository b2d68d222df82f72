/- What the functions that the statement reaches compute: part 37. -/
import Derived.Test.YtbomoaajkinfpaaFxW36
namespace Go.Fx.YtbomoaajkinfpaaFx
open Go Go.Fx
attribute [local irreducible] aC runI aw aB

set_option maxRecDepth 100000
set_option maxHeartbeats 4000000

def WV (ws:List Wt):Prop:=∀ w ∈ ws,(w.2.map (·.1)).Nodup
theorem WV.sub {ws ws':List Wt} (h:WV ws) (hs:ws'.Sublist ws):WV ws':=fun w hw=>h w (hs.subset hw)
theorem f0 (t:Int) (ws:List Wt):(wo t ws).Sublist ws:=List.filter_sublist
theorem mz (R:RS) (x:Cs):(ba R x).1.ws.Sublist R.ws:=by
  unfold ba
  split
  · split
    · exact List.Sublist.refl _
    · split
      · exact f0 _ _
      · exact List.Sublist.refl _
  · split
    · exact f0 _ _
    · split <;> exact List.Sublist.refl _
theorem rAct_wv {R:RS} (h:WV R.ws) (a:A7):WV (rAct R a).1.ws:=by
  unfold rAct
  split
  · unfold bG
    split
    · exact h
    · rename_i hn
      split
      · exact h
      · split
        · split
          · exact h
          · intro w hw
            rcases List.mem_append.1 hw with hw | hw
            · exact h w hw
            · simp only [List.mem_singleton] at hw
              subst hw
              have hv:a9 R.ch.length a.2.2.2.1 = true:=by
                cases hv:a9 R.ch.length a.2.2.2.1 with
                | true=>rfl
                | false=>exact absurd (.inr (.inr (.inl hv))) hn
              exact (cq hv).2.2.1
        · exact h.sub (mz _ _)
  · split
    · unfold dL
      split
      · exact h
      · split
        · exact h
        · exact h.sub (f0 _ _)
    · unfold cB
      split
      · exact h
      · split
        · exact h
        · exact h.sub (ej _ _)
def a7s (l:List A7):List AV:=l.map fun a=>a7AV a (.sl false 3 (a.2.2.2.1.map csAV))
def cr (l:List A7):AV:=.sl false 5 (a7s l)
theorem oY (l:List A7):(a7s l).length = l.length:=by simp [a7s]
theorem a7s_get {l:List A7} {i:Nat} (h:i < l.length):(a7s l).getD i .any = .agg [.lit (.int .i64 l[i].1),.lit (.int .i64 l[i].2.1),.lit (.int .i64 l[i].2.2.1),.sl false 3 (l[i].2.2.2.1.map csAV),.lit (.bool l[i].2.2.2.2)]:=by
  simp [a7s,h,a7AV]

section
variable {st:St} {s mid n:Nat} {cv ov rv:AV} {L:List CL} {R:RS} {F:List Nat}
end
end Go.Fx.YtbomoaajkinfpaaFx

