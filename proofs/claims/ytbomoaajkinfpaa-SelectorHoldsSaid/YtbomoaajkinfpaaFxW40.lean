/- What the functions that the statement reaches compute: part 40. -/
import Derived.Test.YtbomoaajkinfpaaFxW39
namespace Go.Fx.YtbomoaajkinfpaaFx
open Go Go.Fx
attribute [local irreducible] aC runI aw aB

set_option maxRecDepth 100000
set_option maxHeartbeats 4000000

/-! No waiting task is ready. -/
def NR (R:RS):Prop:=∀ w ∈ R.ws,∀ x ∈ w.2,(0≤x.1∧x.1 < (R.ch.length:Int))∧rdyR R x = false

section
variable {R:RS}
theorem cD {x:Cs}:rdyR R x = false↔(atR R x.1).2.2 = false∧qD R.ws x.1 (!x.2.1) = []∧(x.2.1 = true→(atR R x.1).1≤(atR R x.1).2.1.length)∧(x.2.1 = false→(atR R x.1).2.1 = []):=by
  unfold rdyR
  cases hd:x.2.1 <;> simp
theorem has_q {ws:List Wt} {w:Wt} (hw:w ∈ ws) {x:Cs} (hx:x ∈ w.2):∃ p ∈ qD ws x.1 x.2.1,p.1 = w.1:=by
  have:(w.2.find? (onC x.1 x.2.1)).isSome = true:=by
    rw [List.find?_isSome]
    exact ⟨x,hx,by simp [onC]⟩
  obtain ⟨y,hy⟩:=Option.isSome_iff_exists.1 this
  refine ⟨(w.1,if x.2.1 = true then y.2.2 else 0),?_,rfl⟩
  unfold qD
  rw [List.mem_filterMap]
  exact ⟨w,hw,by unfold qW; rw [hy]; rfl⟩
theorem has_ne {ws:List Wt} {w:Wt} (hw:w ∈ ws) {x:Cs} (hx:x ∈ w.2):qD ws x.1 x.2.1≠[]:=fun e=>by
  obtain ⟨p,hp,_⟩:=has_q hw hx
  rw [e] at hp
  cases hp
theorem oZ {ws ws':List Wt} (hs:ws'.Sublist ws) {i:Int} {d:Bool} (h:qD ws i d = []):qD ws' i d = []:=by
  have:(qD ws' i d).Sublist (qD ws i d):=hs.filterMap _
  rw [h] at this
  exact List.sublist_nil.1 this
theorem nr_sub (h:NR R) {ws':List Wt} (hs:ws'.Sublist R.ws):NR ⟨R.ch,ws'⟩:=fun w hw x hx=>by
  obtain ⟨h1,h2⟩:=h w (hs.subset hw) x hx
  refine ⟨h1,?_⟩
  rw [cD] at h2 ⊢
  exact ⟨h2.1,oZ hs h2.2.1,h2.2.2⟩
theorem atR_ne {ws ws':List Wt} {ch:List (Nat×List Int×Bool)} {i j:Int} (hi:0≤i) (hj:0≤j) (e:j≠i) (f:Nat×List Int×Bool→Nat×List Int×Bool):atR ⟨ch.modify i.toNat f,ws'⟩ j = atR ⟨ch,ws⟩ j:=by
  unfold atR
  rw [if_neg (by omega),if_neg (by omega),List.getD_eq_getElem?_getD,List.getD_eq_getElem?_getD,List.getElem?_modify]
  have hn:¬ i.toNat = j.toNat:=by omega
  cases h:ch[j.toNat]? <;> simp [h,hn]
theorem atR_mod {ws ws':List Wt} {ch:List (Nat×List Int×Bool)} {i:Int} (hi:0≤i∧i < (ch.length:Int)) (f:Nat×List Int×Bool→Nat×List Int×Bool):atR ⟨ch.modify i.toNat f,ws'⟩ i = f (atR ⟨ch,ws⟩ i):=by
  unfold atR
  rw [if_neg (by omega),if_neg (by omega),List.getD_eq_getElem?_getD,List.getD_eq_getElem?_getD,List.getElem?_modify]
  have hl:i.toNat < ch.length:=by omega
  simp [List.getElem?_eq_getElem hl]
theorem o1 (h:NR R) {ws':List Wt} (hs:ws'.Sublist R.ws) {i:Int} (hi:0≤i) (f:Nat×List Int×Bool→Nat×List Int×Bool) (hf:∀ w ∈ ws',∀ x ∈ w.2,x.1 = i→rdyR ⟨R.ch.modify i.toNat f,ws'⟩ x = false):NR ⟨R.ch.modify i.toNat f,ws'⟩:=fun w hw x hx=>by
  obtain ⟨h1,h2⟩:=h w (hs.subset hw) x hx
  refine ⟨by rw [List.length_modify]; exact h1,?_⟩
  by_cases e:x.1 = i
  · exact hf w hw x hx e
  · rw [cD] at h2 ⊢
    rw [atR_ne (ws:=R.ws) hi h1.1 e f]
    exact ⟨h2.1,oZ hs h2.2.1,h2.2.2⟩

theorem nr_carry (h:NR R) {x:Cs} (hx:0≤x.1∧x.1 < (R.ch.length:Int)):NR (ba R x).1:=by
  unfold ba
  split
  · split
    · exact h
    · split
      · exact nr_sub h (f0 _ _)
      · rename_i hq
        refine o1 h (List.Sublist.refl _) hx.1 _ fun w hw y hy e=>?_
        have hn:=has_ne hw hy
        obtain ⟨_,h2⟩:=h w hw y hy
        rw [cD] at h2 ⊢
        rw [e] at h2 hn ⊢
        rw [atR_mod (ws:=R.ws) hx]
        cases hd:y.2.1 with
        | false=>rw [hd] at hn; exact absurd hq hn
        | true =>
          rw [hd] at h2
          refine ⟨h2.1,h2.2.1,fun _=>?_,fun q=>by cases q⟩
          have:=h2.2.2.1 rfl
          simp only [List.length_append,List.length_singleton]
          exact Nat.le_succ_of_le this
  · split
    · rename_i p l hq
      refine o1 h (f0 _ _) hx.1 _ fun w hw y hy e=>?_
      have hw':=(f0 _ _).subset hw
      obtain ⟨_,h2⟩:=h w hw' y hy
      rw [cD] at h2 ⊢
      rw [e] at h2 ⊢
      rw [atR_mod (ws:=R.ws) hx]
      cases hd:y.2.1 with
      | false=>rw [hd] at h2; simp only [Bool.not_false] at h2; rw [hq] at h2; cases h2.2.1
      | true =>
        rw [hd] at h2
        refine ⟨h2.1,oZ (f0 _ _) h2.2.1,fun _=>?_,fun q=>by cases q⟩
        have:=h2.2.2.1 rfl
        simp only [List.length_tail,List.length_append,List.length_singleton,Nat.add_sub_cancel]
        exact this
    · rename_i hq
      split
      · exact h
      · rename_i v b hb
        refine o1 h (List.Sublist.refl _) hx.1 _ fun w hw y hy e=>?_
        have hn:=has_ne hw hy
        obtain ⟨_,h2⟩:=h w hw y hy
        rw [cD] at h2
        rw [e] at h2 hn
        cases hd:y.2.1 with
        | true=>rw [hd] at hn; exact absurd hq hn
        | false =>
          rw [hd] at h2
          have:=h2.2.2.2 rfl
          rw [hb] at this
          cases this

theorem nr_wait (h:NR R) {t:Int} {l:List Cs} (hv:a9 R.ch.length l = true) (hr:aE R 0 l = []):NR ⟨R.ch,R.ws++[(t,l)]⟩:=by
  have hl:=jU hr
  have hvf:=cq hv
  have happ:∀ i d,qD (R.ws++[(t,l)]) i d = qD R.ws i d++qD [(t,l)] i d:=fun i d=>by unfold qD; rw [List.filterMap_append]
  have hone:∀ (i:Int) d,(∀ y ∈ l,y.1 = i→y.2.1≠d)→qD [(t,l)] i d = []:=fun i d hh=>by
    unfold qD qW
    rw [List.filterMap_eq_nil_iff]
    intro w hw
    rw [List.mem_singleton] at hw
    subst hw
    rw [Option.map_eq_none_iff,List.find?_eq_none]
    intro y hy
    unfold onC
    simp only [Bool.and_eq_true,decide_eq_true_eq,beq_iff_eq,not_and]
    exact hh y hy
  intro w hw x hx
  rcases List.mem_append.1 hw with hw | hw
  · obtain ⟨h1,h2⟩:=h w hw x hx
    refine ⟨h1,?_⟩
    have hn:=has_ne hw hx
    rw [cD] at h2 ⊢
    refine ⟨h2.1,?_,h2.2.2⟩
    simp only
    rw [happ,h2.2.1,List.nil_append]
    refine hone _ _ fun y hy e1 e2=>?_
    have hy2:=cD.1 (hl y hy)
    rw [e1,e2,Bool.not_not] at hy2
    exact hn hy2.2.1
  · rw [List.mem_singleton] at hw
    subst hw
    simp only at hx
    refine ⟨hvf.2.1 x hx,?_⟩
    have h2:=cD.1 (hl x hx)
    rw [cD]
    refine ⟨h2.1,?_,h2.2.2⟩
    simp only
    rw [happ,h2.2.1,List.nil_append]
    refine hone _ _ fun y hy e1 e2=>?_
    have hxy:y = x:=by
      obtain ⟨a,ha,rfl⟩:=List.getElem_of_mem hy
      obtain ⟨b,hb,rfl⟩:=List.getElem_of_mem hx
      have:=(List.getElem_inj (i:=a) (j:=b) (h₀:=by rw [List.length_map]; exact ha) (h₁:=by rw [List.length_map]; exact hb) hvf.2.2.1).1 (by simpa using e1)
      subst this
      rfl
    subst hxy
    cases hd:y.2.1 <;> rw [hd] at e2 <;> cases e2

theorem nr_close (h:NR R) (i:Int):NR (cB R i).1:=by
  unfold cB
  split
  · exact h
  · rename_i hi
    split
    · exact h
    · refine o1 h (ej _ _) (by omega) _ fun w hw x hx e=>?_
      obtain ⟨h1,h2⟩:=wos_mem hw
      obtain ⟨p,hp,he⟩:=has_q h1 hx
      refine absurd ?_ h2
      rw [e] at hp
      rw [← he]
      unfold clsI
      rw [List.map_append,List.map_map,List.map_map,List.mem_append]
      cases hd:x.2.1 <;> rw [hd] at hp
      · exact .inl (List.mem_map.2 ⟨p,hp,rfl⟩)
      · exact .inr (List.mem_map.2 ⟨p,hp,rfl⟩)

theorem rAct_nr (h:NR R) (a:A7):NR (rAct R a).1:=by
  unfold rAct
  split
  · unfold bG
    split
    · exact h
    · rename_i hn
      have hv:a9 R.ch.length a.2.2.2.1 = true:=by
        cases hv:a9 R.ch.length a.2.2.2.1 with
        | true=>rfl
        | false=>exact absurd (.inr (.inr (.inl hv))) hn
      split
      · exact h
      · split
        · rename_i hr
          split
          · exact h
          · exact nr_wait h hv hr
        · rename_i hr
          refine nr_carry h ?_
          have hvf:=cq hv
          generalize hj:(aE R 0 a.2.2.2.1).getD (a.2.2.1.toNat % (aE R 0 a.2.2.2.1).length) 0 = j
          have hm:j ∈ aE R 0 a.2.2.2.1:=by
            rw [← hj,List.getD_eq_getElem?_getD,List.getElem?_eq_getElem (Nat.mod_lt _ (List.length_pos_iff.2 hr))]
            exact List.getElem_mem _
          obtain ⟨g1,g2,_⟩:=gW hm
          have hlt:j.toNat < a.2.2.2.1.length:=by omega
          rw [List.getD_eq_getElem?_getD,List.getElem?_eq_getElem hlt]
          exact hvf.2.1 _ (List.getElem_mem hlt)
  · split
    · unfold dL
      split
      · exact h
      · split
        · exact h
        · exact nr_sub h (f0 _ _)
    · exact nr_close h _
end
theorem nr_new (l:List Int):NR (newR l):=fun w hw=>by cases hw
end Go.Fx.YtbomoaajkinfpaaFx

