/- What the functions that the statement reaches compute: part 39. -/
import Derived.Test.YtbomoaajkinfpaaFxW38
namespace Go.Fx.YtbomoaajkinfpaaFx
open Go Go.Fx
attribute [local irreducible] aC runI aw aB

set_option maxRecDepth 100000
set_option maxHeartbeats 4000000

/-! One channel: the reference's selector and a channel's state. -/
def SC (ws:List Wt):Prop:=∀ w ∈ ws,∃ d v,w.2 = [((0:Int),d,v)]
structure One (R:RS) (P:ChP):Prop where
  ch:R.ch = [(P.cap,P.buf,P.closed)]
  s:P.S.map (·.2) = qD R.ws 0 true
  v:P.V.map (·.2) = qD R.ws 0 false
  nd:(R.ws.map (·.1)).Nodup
  one:SC R.ws

theorem qD_cons (w:Wt) (ws:List Wt) (i:Int) (d:Bool):qD (w::ws) i d = (match qW i d w with | some p=>[p] | none=>[])++qD ws i d:=by
  unfold qD
  rw [List.filterMap_cons]
  split <;> simp_all
theorem qD_memk {ws:List Wt} {i:Int} {d:Bool} {p:Int×Int} (h:p ∈ qD ws i d):p.1 ∈ ws.map (·.1):=by
  unfold qD at h
  obtain ⟨w,hw,he⟩:=List.mem_filterMap.1 h
  rw [fX he]
  exact List.mem_map_of_mem hw
theorem look_no (t:Int):∀ {ws:List Wt},ag t ws = none→t ∉ ws.map (·.1)
  | [],_=>by simp
  | (k, b) :: r, h => by
    simp only [ag] at h
    split at h
    · cases h
    · rename_i e
      simp only [List.map_cons,List.mem_cons,not_or]
      exact ⟨e,look_no t h⟩
section
variable {R:RS} {P:ChP}
theorem One.at (h:One R P):atR R 0 = (P.cap,P.buf,P.closed):=by
  unfold atR
  rw [h.ch]
  rfl
end
section
variable {R:RS} {P:ChP}
theorem wos_mem {w:Wt}:∀ {ts:List Int} {ws:List Wt},w ∈ wos ts ws→w ∈ ws∧w.1 ∉ ts
  | [],ws,h=>⟨h,by simp⟩
  | t :: ts, ws, h => by
    rw [jm] at h
    obtain ⟨h1,h2⟩:=wos_mem h
    have h3:=List.mem_filter.1 h1
    refine ⟨h3.1,?_⟩
    simp only [List.mem_cons,not_or]
    exact ⟨by simpa using h3.2,h2⟩
end
end Go.Fx.YtbomoaajkinfpaaFx

