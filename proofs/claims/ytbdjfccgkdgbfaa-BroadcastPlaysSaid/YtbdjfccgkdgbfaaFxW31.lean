/- What the functions that the statement reaches compute: part 31. -/
import Derived.Test.YtbdjfccgkdgbfaaFxW30
namespace Go.Fx.YtbdjfccgkdgbfaaFx
open Go Go.Fx
attribute [local irreducible] aC runI az aA

set_option maxRecDepth 100000
set_option maxHeartbeats 4000000

/-! What only reads, for subscribers in a buffer too. -/
theorem msg_nb (m:List UInt8):(msgV m).NB:=by
  unfold msgV
  split
  · exact .lit _
  · exact pT _ _
theorem ws_nb (ws:List WW):(wsV ws).NB:=by
  unfold wsV
  split
  · exact .lit _
  · refine .sl _ _ _ fun c hc=>?_
    obtain ⟨w,_,rfl⟩:=List.mem_map.1 hc
    refine .agg _ fun x hx=>?_
    simp only [List.mem_cons,List.not_mem_nil,or_false] at hx
    rcases hx with rfl | rfl | rfl
    · exact .lit _
    · exact .lit _
    · exact msg_nb _
theorem row_nb {rv:AV} {ms:List (List UInt8)} (h:RowV rv ms):rv.NB:=by
  rcases h with rfl | ⟨rfl,_⟩
  · refine .sl _ _ _ fun c hc=>?_
    obtain ⟨m,_,rfl⟩:=List.mem_map.1 hc
    exact msg_nb m
  · exact .lit _
theorem Es.cnb {es:List AV} {subs:List Sb} (h:Es es subs):∀ c ∈ es.flatMap AV.cells,c.NB:=by
  intro c hc
  obtain ⟨e,he,hce⟩:=List.mem_flatMap.1 hc
  obtain ⟨i,hi⟩:=List.mem_iff_getElem?.1 he
  have hl:=(List.getElem?_eq_some_iff.1 hi).1
  obtain ⟨rv,hr,rfl⟩:=h.2 i e (subs[i]'(h.1 ▸ hl)) hi (List.getElem?_eq_getElem (h.1 ▸ hl))
  have hce':c ∈ [AV.lit _,AV.lit _,AV.lit _,AV.lit _,rv,AV.lit _]:=hce
  simp only [List.mem_cons,List.not_mem_nil,or_false] at hce'
  rcases hce' with rfl | rfl | rfl | rfl | rfl | rfl
  · exact .lit _
  · exact .lit _
  · exact .lit _
  · exact .lit _
  · exact row_nb hr
  · exact .lit _
theorem dH {st:St} {v:AV} (h:v.NB):Frz st v v:=.le _ _ (.refl _) h
theorem qi {v:AV} {st:St} {es:List AV} {subs:List Sb} {ws:List WW} (hv:SV v st es) (h:Es es subs) {f:FuncId} {rest:List AV} {v0:AV} (hp:∀ st,aB Go.Proofs.Try.prog f (.agg [.sl false 6 es,wsV ws]::rest) st v0) (hf:v0.freshB = true) (hr:frzL st rest rest):aB Go.Proofs.Try.prog f (.agg [v,wsV ws]::rest) st v0:=by
  have hno:∀ d ∈ [AV.sl false 6 es,wsV ws],d.noOwn:=by
    intro d hd
    simp only [List.mem_cons,List.not_mem_nil,or_false] at hd
    rcases hd with rfl | rfl
    · trivial
    · unfold wsV; split <;> trivial
  rcases hv with ⟨rfl,rfl⟩ | rfl | ⟨bi,cap,r,rfl,hg,h1,h2,h3⟩
  · refine (hp ⟨[]⟩).view hf ⟨Frz.aggL (st:=st) (l:=[.lit (.slice none 0 0),wsV ws]) ⟨.le _ _ (.nil _ _) (.sl _ _ _ fun c hc=>by cases hc),dH (ws_nb ws),trivial⟩ hno,hr⟩
  · exact hp st
  · refine (hp ⟨[]⟩).view hf ⟨Frz.aggL (st:=st) (l:=[.bs bi 6 0 es.length cap,wsV ws]) ⟨?_,dH (ws_nb ws),trivial⟩ hno,hr⟩
    have:=Frz.bs (st:=st) bi 6 0 es.length cap _ hg (by simp [dg h.sc]) h1 (fun c hc=>by
      rw [List.drop_zero] at hc
      rcases List.mem_append.1 hc with hc | hc
      · exact h.cnb c hc
      · exact h3 c hc)
    rw [List.drop_zero,qh h.sc] at this
    exact this

section
variable {es:List AV} {subs:List Sb} {ws:List WW} {st:St} {v:AV}
theorem mv_frz {dv:AV} {p:List UInt8} (hd:MV dv p):Frz st dv dv:=by
  refine dH ?_
  rcases hd with rfl | ⟨rfl,_⟩
  · exact pT _ _
  · exact .lit _
theorem qj (hv:SV v st es) (h:Es es subs) (hl:subs.length≤64) (hw:ws.length≤1000) (n:Int):aB Go.Proofs.Try.prog n_f67 [.agg [v,wsV ws],.lit (.int .i64 n)] st (.lit (.int .i64 (fstI (fun w:WW=>decide (w.2.1 = n)) ws 0))) :=
  qi hv h (fun s=>first_pure (by have:=h.1; omega) hw n s) rfl ⟨dH (.lit _),trivial⟩
theorem waits_v (hv:SV v st es) (h:Es es subs) (hl:subs.length≤64) (hw:ws.length≤1000) (n:Int):aB Go.Proofs.Try.prog n_f70 [.agg [v,wsV ws],.lit (.int .i64 n)] st (.lit (.int .i64 (fstI (fun w:WW=>decide ((w.1:Int) = n)) ws 0))) :=
  qi hv h (fun s=>waits_pure (by have:=h.1; omega) hw n s) rfl ⟨dH (.lit _),trivial⟩
theorem can_v {n:Nat} (hv:SV v st es) (h:Es es subs) (hs:SOk subs n) (topic:Int) {dv:AV} {p:List UInt8} (hd:MV dv p) (hp:p.length≤100000):aB Go.Proofs.Try.prog n_f68 [.agg [v,wsV ws],.lit (.int .i64 topic),dv] st (.lit (.bool (canR topic p.length subs))) :=
  qi hv h (fun s=>can_pure h hs topic hd hp s) rfl ⟨dH (.lit _),mv_frz hd,trivial⟩
end
end Go.Fx.YtbdjfccgkdgbfaaFx

