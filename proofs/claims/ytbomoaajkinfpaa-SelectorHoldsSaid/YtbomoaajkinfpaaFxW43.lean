/- What the functions that the statement reaches compute: part 43. -/
import Derived.Test.YtbomoaajkinfpaaFxW42
namespace Go.Fx.YtbomoaajkinfpaaFx
open Go Go.Fx
attribute [local irreducible] aC runI aw aB

set_option maxRecDepth 100000
set_option maxHeartbeats 4000000

section
variable {st:St} {s wm:Nat} {R R':RS} {M0:List (Int×List Cs)} {acts:List A7} {cs:List Cs} {at' i:Int} {K:Exit→Sf→St→Prop}
/-- The loop over the waits that end: each is known, and goes. -/
theorem hold2 {z9:List AV} {E:List It4} (hm:MapIs st wm .i64 csSl M0) (hl0:∀ t,ag t M0 = ag t R.ws) (he:EndOk R R' E) (hE:E.length≤100000) {x0 x1 x2 x3 er:Int} {dn:Bool}
    (hK:∀ st' M',MapIs st' wm .i64 csSl M'→(∀ t,ag t M' = ag t R'.ws)→Oth st st' [wm]→K (.exit 2) ⟨[(1,cr acts),(2,.sl false 3 (cs.map csAV)),(3,.lit (.int .i64 at')),(9,.lptr 9 0),(11,.ptr s 0),(13,.map wm),(14,.lit (.int .i64 i))],[(9,z9)]⟩ st') :
    aC Go.Proofs.Try.prog id false f6_48 ⟨[(1,cr acts),(2,.sl false 3 (cs.map csAV)),(3,.lit (.int .i64 at')),(9,.lptr 9 0),(11,.ptr s 0),(13,.map wm),(14,.lit (.int .i64 i)),(15,.lptr 15 0),(16,.lit (.int .i64 0))],[(9,z9),(15,[.lit (.int .i64 x0),.lit (.int .i64 x1),.lit (.int .i64 x2),.lit (.int .i64 x3),.lit (.bool dn),it4s E,.lit (.int .i64 er)])]⟩ st K:=by
  unfold cr at hK ⊢
  rw [f6_48w]
  refine bj (A:=Nat×List (Int×List Cs)×St) (fun a=>E.length - a.1) (fun a=>⟨[(1,.sl false 5 (a7s acts)),(2,.sl false 3 (cs.map csAV)),(3,.lit (.int .i64 at')),(9,.lptr 9 0),(11,.ptr s 0),(13,.map wm),(14,.lit (.int .i64 i)),(15,.lptr 15 0),(16,.lit (.int .i64 (a.1:Nat)))],[(9,z9),(15,[.lit (.int .i64 x0),.lit (.int .i64 x1),.lit (.int .i64 x2),.lit (.int .i64 x3),.lit (.bool dn),it4s E,.lit (.int .i64 er)])]⟩) (fun a=>a.2.2)
    (fun a=>a.1≤E.length∧MapIs a.2.2 wm .i64 csSl a.2.1∧(∀ t,ag t a.2.1 = if t ∈ (E.take a.1).map (·.1) then none else ag t R.ws)∧Oth st a.2.2 [wm])
    (0,M0,st) ⟨Nat.zero_le _,hm,fun t=>by simp [hl0],Oth.refl _ _⟩ (Sf.le_refl _) rfl ?_
  rintro ⟨k,M,s0⟩ ⟨h1,h2,h3,h4⟩ K2 hK2 hKe hKr
  simp only at h1 h2 h3 h4
  try dsimp only
  obtain ⟨z1,z2,z3,z4,z5,z6,z7⟩:=bE E
  by_cases hk:k < E.length
  · have hsl:it4s E = .sl false 4 (E.map cu):=if_neg fun e=>by rw [e] at hk; cases hk
    have hgd:(E.map cu).getD k .any = cu E[k]:=by simp [hk]
    have hgl:(E.map cu).length = E.length:=List.length_map _
    obtain ⟨l,q1,q2,q3⟩:=he.inn _ (List.getElem_mem hk)
    have hnot:E[k].1 ∉ (E.take k).map (·.1):=fun e=>by
      have h2:=he.nd
      rw [← List.take_append_drop k E,List.drop_eq_getElem_cons hk,List.map_append,List.map_cons] at h2
      exact (List.nodup_append.1 h2).2.2 _ e _ List.mem_cons_self rfl
    have htk:(E.take (k + 1)).map (·.1) = (E.take k).map (·.1)++[E[k].1]:=by rw [List.take_succ_eq_append_getElem hk,List.map_append]; rfl
    have hlk:ag E[k].1 M = some l:=by rw [h3,if_neg hnot,q1]
    have hnx:=fun M' s' (sf:Sf) a1 a2 a3=>hK2 (k + 1,M',s') sf ⟨by simp only; omega,a1,a2,a3⟩ (by simp only; omega)
    simp only [htk] at hnx
    generalize E[k] = y at *
    obtain ⟨t,ci,v,e4⟩:=y
    simp only [cu] at q1 q2 q3 hgd hlk hnx hnot
    obtain ⟨c1,c2,c3,c4,c5,c6,c7⟩:=cg l
    have hcv:CV (csSl l) s0 l:=.inl (.inl rfl)
    obtain ⟨v1,v2,v3,v4,v5,v6,v7,v8⟩:=hcv.facts
    have hlu:∀ z,aZ (.int .i64) z false s0 (.map wm) (.lit (.int .i64 t)) = .ok (csSl l):=fun z=>by
      rw [aW h2,hlk]; simp [c1]
    have hlu2:∀ z,aZ (.int .i64) z true s0 (.map wm) (.lit (.int .i64 t)) = .ok (.tup [csSl l,.lit (.bool true)]):=fun z=>by
      rw [aW h2,hlk]; simp [c1]
    rw [hsl] at hnx ⊢
    simp (config:=KF) (disch:=omega) only [bZ,len_sl,AI.dst,bU,kg,ixSV,am,addA,aa,unA,e8,bg,b8,bN,bW,↓reduceIte,Nat.reduceEqDiff,Nat.reduceAdd,Nat.reduceLeDiff,aM,aY,cp,hgd,hgl,hlu,hlu2,c1,c3,v8]
    refine d7 h2 fun s1 hm1 ho1=>?_
    simp (config:=KF) (disch:=omega) only [bZ,↓reduceIte,Nat.reduceEqDiff]
    refine hnx _ _ _ hm1 (fun u=>?_) (h4.trans ho1) (Sf.le_refl _)
    rw [dJ _ _ h2.nd,h3]
    by_cases e:u = t
    · subst e
      rw [if_pos rfl,if_pos (by simp)]
    · rw [if_neg e]
      by_cases e2:u ∈ (E.take k).map (·.1)
      · rw [if_pos e2,if_pos (List.mem_append_left _ e2)]
      · rw [if_neg e2,if_neg (by simp only [List.mem_append,List.mem_singleton,not_or]; exact ⟨e2,e⟩)]
  · have hlen:∀ s',lenI .sl s' (it4s E) = .ok (.lit (.int .i64 (E.length:Nat))):=fun s'=>by
      unfold it4s
      split
      · rename_i e; subst e; rfl
      · simp [lenI]
    simp (config:=KF) (disch:=omega) only [bZ,aH,bf,addA,aa,↓reduceIte,Nat.reduceEqDiff,aY,z1,hlen]
    refine hKe _ _ _ (hK _ _ h2 (fun t=>?_) h4)
    have hkl:k = E.length:=by omega
    rw [h3,hkl,List.take_length,he.look]
end
end Go.Fx.YtbomoaajkinfpaaFx

