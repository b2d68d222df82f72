/- What the functions that the statement reaches compute: part 42. -/
import Derived.Test.YtbomoaajkinfpaaFxW41
namespace Go.Fx.YtbomoaajkinfpaaFx
open Go Go.Fx
attribute [local irreducible] aC runI aB aE

set_option maxRecDepth 100000
set_option maxHeartbeats 4000000

theorem iw {A B:Type} {f g:A→Option B} {l:List A} (h:∀ x ∈ l,f x = g x):l.filterMap f = l.filterMap g:=by
  induction l with
  | nil=>rfl
  | cons a l ih =>
    rw [List.filterMap_cons,List.filterMap_cons,h a List.mem_cons_self,ih fun x hx=>h x (List.mem_cons_of_mem _ hx)]

/-! Who waits at a channel that is closed. -/
def nJ (i:Int) (d:Bool) (e:Int) (w:Wt):Option It4:=(w.2.findIdx? (onC i d)).map fun k=>(w.1,(k:Int),0,e)
def bq (i:Int) (d:Bool) (e:Int) (ws:List Wt):List It4:=ws.filterMap (nJ i d e)
def dq (i:Int) (d:Bool) (ws:List Wt):List Wt:=ws.filter fun w=>!w.2.any (onC i d)
theorem gU {i:Int} {d:Bool} {e:Int} {w:Wt} (h:w.2.any (onC i d) = false):nJ i d e w = none:=by
  unfold nJ
  rw [List.findIdx?_eq_none_iff.2]
  · rfl
  · intro x hx
    simpa using List.any_eq_false.1 h x hx
theorem nK {i:Int} {d:Bool} {e:Int} {w:Wt} (h:w.2.any (onC i d) = true):nJ i d e w = some (w.1,(w.2.findIdx (onC i d):Int),0,e):=by
  unfold nJ
  have hl:w.2.findIdx (onC i d) < w.2.length:=List.findIdx_lt_length.2 (List.any_eq_true.1 h)
  rw [List.findIdx?_eq_some_of_exists (List.any_eq_true.1 h)]
  rfl
theorem first_step {ws:List Wt} {i:Int} {d:Bool} {a k:Nat} (e:Int) (h:bJ i d ws = some (a,k)):∃ (ha:a < ws.length),k < ws[a].2.length∧bq i d e ws = (ws[a].1,(k:Int),0,e)::bq i d e (ws.eraseIdx a)∧dq i d (ws.eraseIdx a) = dq i d ws:=by
  unfold bJ at h
  obtain ⟨a',h1,h2⟩:=Option.map_eq_some_iff.1 h
  obtain ⟨ha,hy,hbef⟩:=List.findIdx?_eq_some_iff_getElem.1 h1
  have ea:a' = a:=(Prod.mk.inj h2).1
  subst ea
  have hk2:ws[a'].2.findIdx (onC i d) = k:=by
    have:=(Prod.mk.inj h2).2
    rwa [show ws.getD a' (0,[]) = ws[a'] by simp [ha]] at this
  have hsp:ws = ws.take a'++ws[a']::ws.drop (a' + 1):=by rw [← List.drop_eq_getElem_cons ha,List.take_append_drop]
  have hA:∀ w ∈ ws.take a',w.2.any (onC i d) = false:=fun w hw=>by
    obtain ⟨q,hq,rfl⟩:=List.getElem_of_mem hw
    rw [List.length_take] at hq
    rw [List.getElem_take]
    simpa using hbef q (by omega)
  have hit:=nK (e:=e) (w:=ws[a']) hy
  rw [hk2] at hit
  refine ⟨ha,by rw [← hk2]; exact List.findIdx_lt_length.2 (List.any_eq_true.1 hy),?_,?_⟩
  · have key:∀ (A B:List Wt) (w:Wt),(∀ x ∈ A,x.2.any (onC i d) = false)→bq i d e (A++w::B) = (nJ i d e w).toList++bq i d e (A++B):=fun A B w hA=>by
      have:bq i d e A = []:=by
        unfold bq
        rw [List.filterMap_eq_nil_iff]
        exact fun x hx=>gU (hA x hx)
      have e1:∀ C,bq i d e (A++C) = bq i d e C:=fun C=>by
        have:bq i d e (A++C) = bq i d e A++bq i d e C:=List.filterMap_append
        rw [this,‹bq i d e A = []›]; rfl
      rw [e1,e1]
      unfold bq
      cases hw:nJ i d e w <;> simp [hw]
    have h3:=key (ws.take a') (ws.drop (a' + 1)) ws[a'] hA
    rw [← hsp] at h3
    rw [h3,hit,List.eraseIdx_eq_take_drop_succ]
    rfl
  · have key:∀ (A B:List Wt) (w:Wt),w.2.any (onC i d) = true→dq i d (A++w::B) = dq i d (A++B):=fun A B w hw=>by
      unfold dq
      simp only [List.filter_append,List.filter_cons,hw,Bool.not_true,Bool.false_eq_true,if_false]
    have h3:=key (ws.take a') (ws.drop (a' + 1)) ws[a'] hy
    rw [← hsp] at h3
    rw [h3,List.eraseIdx_eq_take_drop_succ]
theorem first_end {ws:List Wt} {i:Int} {d:Bool} (e:Int) (h:bJ i d ws = none):bq i d e ws = []∧dq i d ws = ws:=by
  unfold bJ at h
  rw [Option.map_eq_none_iff,List.findIdx?_eq_none_iff] at h
  constructor
  · unfold bq
    rw [List.filterMap_eq_nil_iff]
    exact fun w hw=>gU (h w hw)
  · unfold dq
    rw [List.filter_eq_self]
    intro w hw
    rw [h w hw]; rfl
theorem kZ (i:Int) (d:Bool) (ws:List Wt):(dq i d ws).Sublist ws:=List.filter_sublist

theorem pt {ws:List Wt} {i:Int} {d:Bool} {e:Int} (hnd:(ws.map (·.1)).Nodup) (hv:∀ w ∈ ws,(w.2.map (·.1)).Nodup):bq i d e ws = (qD ws i d).map fun p=>(p.1,kR ws p.1 i,0,e):=by
  unfold bq qD
  rw [List.map_filterMap]
  refine iw fun w hw=>?_
  cases ha:w.2.any (onC i d) with
  | false =>
    rw [gU ha]
    unfold qW
    rw [List.find?_eq_none.2]
    · rfl
    · intro x hx
      exact List.any_eq_false.1 ha x hx
  | true =>
    rw [nK ha]
    have hl:w.2.findIdx (onC i d) < w.2.length:=List.findIdx_lt_length.2 (List.any_eq_true.1 ha)
    have hon:onC i d w.2[w.2.findIdx (onC i d)] = true:=List.findIdx_getElem
    have hfind:w.2.find? (onC i d) = some w.2[w.2.findIdx (onC i d)]:=by
      rw [List.find?_eq_some_iff_getElem]
      refine ⟨hon,_,hl,rfl,fun j hj=>?_⟩
      have:=List.not_of_lt_findIdx hj
      simpa using this
    unfold qW
    rw [hfind]
    simp only [Option.map_some,Option.some.injEq,Prod.mk.injEq,true_and,and_true]
    unfold kR
    rw [cZ hnd hw]
    simp only [Option.getD_some]
    have:w.2.findIdx? (fun x=>decide (x.1 = i)) = some (w.2.findIdx (onC i d)):=by
      have hch:w.2[w.2.findIdx (onC i d)].1 = i:=by
        unfold onC at hon
        simp only [Bool.and_eq_true,decide_eq_true_eq] at hon
        exact hon.1
      rw [List.findIdx?_eq_some_iff_getElem]
      refine ⟨hl,by simpa using hch,fun j hj=>?_⟩
      have hn:=hv _ hw
      have hne:(w.2[j]'(by omega)).1≠i:=fun e=>by
        have h3:(w.2.map (·.1))[j]'(by simp; omega) = (w.2.map (·.1))[w.2.findIdx (onC i d)]'(by simpa using hl):=by simp [e,hch]
        have:=(List.getElem_inj hn).1 h3
        omega
      simpa using hne
    rw [this]; rfl
theorem any_two {w:Wt} {i:Int} (hn:(w.2.map (·.1)).Nodup) (h:w.2.any (onC i true) = true):w.2.any (onC i false) = false:=by
  rw [List.any_eq_false]
  intro x hx hc
  obtain ⟨y,hy,hcy⟩:=List.any_eq_true.1 h
  simp only [onC,Bool.and_eq_true,decide_eq_true_eq,beq_iff_eq] at hc hcy
  obtain ⟨a,ha,rfl⟩:=List.getElem_of_mem hx
  obtain ⟨b,hb,rfl⟩:=List.getElem_of_mem hy
  have h3:(w.2.map (·.1))[a]'(by simpa using ha) = (w.2.map (·.1))[b]'(by simpa using hb):=by simp [hc.1,hcy.1]
  have:=(List.getElem_inj hn).1 h3
  subst this
  rw [hc.2] at hcy
  exact absurd hcy.2 (by simp)
theorem items_two {ws:List Wt} {i:Int} {e:Int} (hv:∀ w ∈ ws,(w.2.map (·.1)).Nodup):bq i true e (dq i false ws) = bq i true e ws:=by
  unfold bq dq
  rw [List.filterMap_filter]
  refine iw fun w hw=>?_
  cases ha:w.2.any (onC i true) with
  | false=>rw [gU ha]; split <;> rfl
  | true =>
    rw [any_two (hv w hw) ha]; rfl
theorem nL:∀ (ts:List Int) (ws:List Wt),wos ts ws = ws.filter fun w=>!ts.contains w.1
  | [], ws => by
    show ws = _
    rw [List.filter_eq_self.2]; intro w _; rfl
  | t :: ts, ws => by
    rw [nv,nL ts]
    unfold wo
    rw [List.filter_filter]
    congr 1
    funext w
    simp only [List.contains_cons,Bool.not_or]
    rw [Bool.and_comm]
    rfl
theorem qD_task {ws:List Wt} {i:Int} {d:Bool} (hnd:(ws.map (·.1)).Nodup) {w:Wt} (hw:w ∈ ws):(∃ p ∈ qD ws i d,p.1 = w.1)↔w.2.any (onC i d) = true:=by
  constructor
  · rintro ⟨p,hp,he⟩
    unfold qD at hp
    obtain ⟨v,hv,hq⟩:=List.mem_filterMap.1 hp
    have h1:=kQ hq
    have hvw:v = w:=by
      have a1:=cZ hnd (show (v.1,v.2) ∈ ws from hv)
      have a2:=cZ hnd (show (w.1,w.2) ∈ ws from hw)
      rw [← h1,he,a2] at a1
      exact Prod.ext (h1.symm.trans he) (Option.some.inj a1).symm
    subst hvw
    unfold qW at hq
    obtain ⟨x,hx,_⟩:=Option.map_eq_some_iff.1 hq
    exact List.any_eq_true.2 ⟨x,List.mem_of_find?_eq_some hx,List.find?_some hx⟩
  · intro h
    cases hf:w.2.find? (onC i d) with
    | none =>
      obtain ⟨x,hx,hc⟩:=List.any_eq_true.1 h
      exact absurd hc (List.find?_eq_none.1 hf x hx)
    | some x =>
      refine ⟨(w.1,if d = true then x.2.2 else 0),?_,rfl⟩
      unfold qD
      refine List.mem_filterMap.2 ⟨w,hw,?_⟩
      unfold qW
      rw [hf]; rfl
theorem close_ws {ws:List Wt} {i:Int} (hnd:(ws.map (·.1)).Nodup):dq i true (dq i false ws) = wos ((clsI ws i).map (·.1)) ws:=by
  rw [nL]
  unfold dq
  rw [List.filter_filter]
  refine List.filter_congr fun w hw=>?_
  have h1:=qD_task (i:=i) (d:=false) hnd hw
  have h2:=qD_task (i:=i) (d:=true) hnd hw
  have hm:((clsI ws i).map (·.1)).contains w.1 = (w.2.any (onC i false) || w.2.any (onC i true)):=by
    rw [Bool.eq_iff_iff,List.contains_iff_mem,Bool.or_eq_true,← h1,← h2]
    unfold clsI
    simp only [List.map_append,List.map_map,List.mem_append,List.mem_map,Function.comp]
  rw [hm,Bool.not_or,Bool.and_comm]
theorem close_items {ws:List Wt} {i:Int} (hnd:(ws.map (·.1)).Nodup) (hv:∀ w ∈ ws,(w.2.map (·.1)).Nodup):bq i false 13 ws++bq i true 14 (dq i false ws) = (clsI ws i).map (cH ws i):=by
  rw [items_two hv,pt hnd hv,pt hnd hv]
  unfold clsI
  rw [List.map_append,List.map_map,List.map_map]
  rfl
theorem nM (i:Int) (d:Bool) (e:Int) (ws:List Wt):(bq i d e ws).length≤ws.length:=List.length_filterMap_le _ _
end Go.Fx.YtbomoaajkinfpaaFx

