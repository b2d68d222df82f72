/- What the functions that the statement reaches compute: part 41. -/
import Derived.Test.YtbomoaajkinfpaaFxW40
namespace Go.Fx.YtbomoaajkinfpaaFx
open Go Go.Fx
attribute [local irreducible] aC runI aw aB

set_option maxRecDepth 100000
set_option maxHeartbeats 4000000

/-! What a call says of the waits that end. -/
theorem mA (u:Int):∀ (ts:List Int) (ws:List Wt),ag u (wos ts ws) = if u ∈ ts then none else ag u ws
  | [],ws=>by simp [wos]
  | t :: ts, ws => by
    rw [jm,mA u ts,eR]
    by_cases h1:u ∈ ts
    · rw [if_pos h1,if_pos (List.mem_cons_of_mem _ h1)]
    · rw [if_neg h1]
      by_cases h2:u = t
      · rw [if_pos h2,if_pos (by rw [h2]; exact List.mem_cons_self ..)]
      · rw [if_neg h2,if_neg (by simp [h1,h2])]
theorem ea:∀ {ws:List Wt} (_:(ws.map (·.1)).Nodup) {w:Wt} (_:w ∈ ws),ag w.1 ws = some w.2
  | (k, b) :: r, hn, w, hw => by
    rw [List.map_cons,List.nodup_cons] at hn
    simp only [ag]
    rcases List.mem_cons.1 hw with rfl | hw
    · rw [if_pos rfl]
    · rw [if_neg fun e=>hn.1 (by simp only; rw [← e]; exact List.mem_map_of_mem hw)]
      exact ea hn.2 hw
theorem nd_inj {l:List Cs} (hn:(l.map (·.1)).Nodup) {x y:Cs} (hx:x ∈ l) (hy:y ∈ l) (e:x.1 = y.1):x = y:=by
  obtain ⟨a,ha,rfl⟩:=List.getElem_of_mem hx
  obtain ⟨b,hb,rfl⟩:=List.getElem_of_mem hy
  have:=(List.getElem_inj (i:=a) (j:=b) (h₀:=by rw [List.length_map]; exact ha) (h₁:=by rw [List.length_map]; exact hb) hn).1 (by simpa using e)
  subst this
  rfl
theorem qW_two {i:Int} {w:Wt} (hv:(w.2.map (·.1)).Nodup) {p q:Int×Int} (h1:qW i false w = some p) (h2:qW i true w = some q):False:=by
  unfold qW at h1 h2
  rw [Option.map_eq_some_iff] at h1 h2
  obtain ⟨x,hx,_⟩:=h1
  obtain ⟨y,hy,_⟩:=h2
  have hx1:=List.find?_some hx
  have hy1:=List.find?_some hy
  unfold onC at hx1 hy1
  simp only [Bool.and_eq_true,decide_eq_true_eq,beq_iff_eq] at hx1 hy1
  have:=nd_inj hv (List.mem_of_find?_eq_some hx) (List.mem_of_find?_eq_some hy) (hx1.1.trans hy1.1.symm)
  rw [this,hy1.2] at hx1
  cases hx1.2
theorem qD_nd2 {i:Int}:∀ {ws:List Wt} (_:(ws.map (·.1)).Nodup) (_:WV ws),((qD ws i false).map (·.1)++(qD ws i true).map (·.1)).Nodup
  | [],_,_=>by simp [qD]
  | w :: ws, hn, hv => by
    rw [List.map_cons,List.nodup_cons] at hn
    have ih:=qD_nd2 (i:=i) hn.2 fun x hx=>hv x (List.mem_cons_of_mem _ hx)
    have hk:∀ d,w.1 ∉ (qD ws i d).map (·.1):=fun d e=>by
      obtain ⟨p,hp,he⟩:=List.mem_map.1 e
      exact hn.1 (by rw [← he]; exact qD_memk hp)
    rw [qD_cons,qD_cons]
    cases h1:qW i false w with
    | none =>
      cases h2:qW i true w with
      | none=>exact ih
      | some q =>
        have e:=fX h2
        simp only [List.nil_append,List.cons_append,List.map_cons]
        rw [List.nodup_append] at ih ⊢
        obtain ⟨g1,g2,g3⟩:=ih
        refine ⟨g1,List.nodup_cons.2 ⟨by rw [e]; exact hk _,g2⟩,fun a ha b hb ee=>?_⟩
        rcases List.mem_cons.1 hb with hb | hb
        · subst ee; subst hb; rw [e] at ha; exact hk _ ha
        · exact g3 a ha b hb ee
    | some p =>
      cases h2:qW i true w with
      | some q=>exact (qW_two (hv w (List.mem_cons_self ..)) h1 h2).elim
      | none =>
        have e:=fX h1
        simp only [List.nil_append,List.cons_append,List.map_cons]
        exact List.nodup_cons.2 ⟨by rw [e]; simp only [List.mem_append,not_or]; exact ⟨hk _,hk _⟩,ih⟩
theorem clsI_nd {ws:List Wt} (hn:(ws.map (·.1)).Nodup) (hv:WV ws) (i:Int):((clsI ws i).map (·.1)).Nodup:=by
  unfold clsI
  rw [List.map_append,List.map_map,List.map_map]
  exact qD_nd2 hn hv
theorem gX {ws:List Wt} (hnd:(ws.map (·.1)).Nodup) {i:Int} {d:Bool} {p:Int×Int} (h:p ∈ qD ws i d):∃ l,ag p.1 ws = some l∧0≤mi ws p.1 i∧mi ws p.1 i < (l.length:Int):=by
  obtain ⟨l,hl,hm⟩:=oS h hnd
  refine ⟨l,hl,?_⟩
  unfold qD at h
  obtain ⟨w,hw,hq⟩:=List.mem_filterMap.1 h
  have hwl:w.2 = l:=by
    have e1:=fX hq
    have h2:=ea hnd hw
    rw [← e1,hl] at h2
    exact (Option.some.inj h2).symm
  unfold qW at hq
  rw [hwl,Option.map_eq_some_iff] at hq
  obtain ⟨x,hx,_⟩:=hq
  have hxm:=List.mem_of_find?_eq_some hx
  have hxc:=List.find?_some hx
  unfold onC at hxc
  simp only [Bool.and_eq_true,decide_eq_true_eq,beq_iff_eq] at hxc
  unfold mi
  rw [hl]
  simp only [Option.getD_some]
  cases hf:l.findIdx? fun x=>decide (x.1 = i) with
  | none =>
    rw [List.findIdx?_eq_none_iff] at hf
    have:=hf x hxm
    simp [hxc.1] at this
  | some k =>
    have hk:=(List.findIdx?_eq_some_iff_getElem.1 hf).1
    simp only [ixI]
    omega

/-- All that the law asks of the waits. -/
structure EndOk (R R':RS) (E:List It4):Prop where
  nd:(E.map (·.1)).Nodup
  inn:∀ y ∈ E,∃ l,ag y.1 R.ws = some l∧0≤y.2.1∧y.2.1 < (l.length:Int)
  look:∀ t,ag t R'.ws = if t ∈ E.map (·.1) then none else ag t R.ws
theorem EndOk.refl (R:RS):EndOk R R []:=⟨List.nodup_nil,(fun y hy=>by cases hy),fun t=>by simp⟩

section
variable {R:RS}
theorem carry_end (hnd:(R.ws.map (·.1)).Nodup) (x:Cs):EndOk R (ba R x).1 (ba R x).2.2.2:=by
  unfold ba
  split
  · split
    · exact EndOk.refl R
    · split
      · rename_i p l hq
        obtain ⟨c,h1,h2,h3⟩:=gX hnd (p:=p) (i:=x.1) (d:=false) (by rw [hq]; exact List.mem_cons_self ..)
        refine ⟨by simp,fun y hy=>?_,fun t=>?_⟩
        · rw [List.mem_singleton] at hy
          subst hy
          exact ⟨c,h1,h2,h3⟩
        · simp only [cF,List.map_cons,List.map_nil,List.mem_singleton]
          exact eR _ _ _
      · exact ⟨List.nodup_nil,(fun y hy=>by cases hy),fun t=>by simp⟩
  · split
    · rename_i p l hq
      obtain ⟨c,h1,h2,h3⟩:=gX hnd (p:=p) (i:=x.1) (d:=true) (by rw [hq]; exact List.mem_cons_self ..)
      refine ⟨by simp,fun y hy=>?_,fun t=>?_⟩
      · rw [List.mem_singleton] at hy
        subst hy
        exact ⟨c,h1,h2,h3⟩
      · simp only [cF,List.map_cons,List.map_nil,List.mem_singleton]
        exact eR _ _ _
    · split
      · exact EndOk.refl R
      · exact ⟨List.nodup_nil,(fun y hy=>by cases hy),fun t=>by simp⟩
theorem close_end (hnd:(R.ws.map (·.1)).Nodup) (hwv:WV R.ws) (i:Int):EndOk R (cB R i).1 (cB R i).2.1:=by
  unfold cB
  split
  · exact EndOk.refl R
  · split
    · exact EndOk.refl R
    · have hk:((clsI R.ws i).map (cF R.ws i)).map (·.1) = (clsI R.ws i).map (·.1):=by
        rw [List.map_map]
        rfl
      refine ⟨?_,fun y hy=>?_,fun t=>?_⟩
      · simp only
        rw [hk]
        exact clsI_nd hnd hwv i
      · obtain ⟨z,hz,rfl⟩:=List.mem_map.1 hy
        unfold clsI at hz
        rcases List.mem_append.1 hz with hz | hz
        · obtain ⟨p,hp,rfl⟩:=List.mem_map.1 hz
          exact gX hnd hp
        · obtain ⟨p,hp,rfl⟩:=List.mem_map.1 hz
          exact gX hnd hp
      · simp only
        rw [hk]
        exact mA _ _ _
end
end Go.Fx.YtbomoaajkinfpaaFx

