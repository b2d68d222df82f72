/- What the functions that the statement reaches compute: part 32. -/
import Derived.Test.YtbomoaajkinfpaaFxW31
namespace Go.Fx.YtbomoaajkinfpaaFx
open Go Go.Fx
attribute [local irreducible] aC runI aB aE

set_option maxRecDepth 100000
set_option maxHeartbeats 4000000

/-! The reference: those that wait. -/
def wtA2 (w:Wt):AV:=.agg [.lit (.int .i64 w.1),csSl w.2]
def wtS (ws:List Wt):AV:=if ws = [] then .lit (.slice none 0 0) else .sl false 2 (ws.map wtA2)
theorem aw (l:List Wt):(wtS l).dis = wtS l∧(wtS l).own1 = wtS l∧(wtS l).own2 = wtS l∧(wtS l).solid1 = true∧(wtS l).noL = true∧(wtS l).cells = [wtS l]∧(∀ s,kill s (wtS l) = wtS l)∧∀ st',lenI .sl st' (wtS l) = .ok (.lit (.int .i64 (l.length:Nat))):=by
  unfold wtS
  split
  · rename_i h; subst h; exact ⟨rfl,rfl,rfl,rfl,rfl,rfl,fun _=>rfl,fun _=>rfl⟩
  · exact ⟨rfl,rfl,rfl,rfl,rfl,rfl,fun _=>rfl,fun _=>by simp [lenI]⟩
theorem csSl_len (l:List Cs) (st:St):lenI .sl st (csSl l) = .ok (.lit (.int .i64 (l.length:Nat))):=by
  unfold csSl
  split
  · rename_i e; subst e; rfl
  · simp [lenI]
theorem jt {ws:List Wt} {a:Nat} (h:a < ws.length):wtS ws = .sl false 2 (ws.map wtA2)∧(ws.map wtA2).getD a .any = wtA2 ws[a] :=
  ⟨if_neg fun e=>by subst e; simp at h,by simp [h]⟩
theorem cs_get {l:List Cs} {k:Nat} (h:k < l.length):csSl l = .sl false 3 (l.map csAV)∧(l.map csAV).getD k .any = csAV l[k] :=
  ⟨if_neg fun e=>by subst e; simp at h,by simp [h]⟩

/-- The first that waits at a channel, and its case. -/
def bJ (i:Int) (d:Bool) (ws:List Wt):Option (Nat×Nat):=(ws.findIdx? fun w=>w.2.any (onC i d)).map fun a=>(a,(ws.getD a (0,[])).2.findIdx (onC i d))
def cd (o:Option (Nat×Nat)):Int×Int:=match o with | some p=>(p.1,p.2) | none=>(-1,0)
def AV.isCh (cv:AV):Prop:=cv.dis = cv∧cv.own1 = cv∧cv.own2 = cv∧cv.solid1 = true∧cv.noL = true∧cv.cells = [cv]∧∀ s,kill s cv = cv
def rfA (cv:AV) (ws:List Wt):AV:=.agg [cv,wtS ws]

theorem eK {cv:AV} (hc:AV.isCh cv) (ws:List Wt) (hwl:ws.length < 100000) (hll:∀ w ∈ ws,w.2.length < 100000) (i:Int) (d:Bool) (st:St):aD Go.Proofs.Try.prog n_f76 [rfA cv ws,.lit (.int .i64 i),.lit (.bool d)] st (.tup [.lit (.int .i64 (cd (bJ i d ws)).1),.lit (.int .i64 (cd (bJ i d ws)).2)]):=by
  obtain ⟨c1,c2,c3,c4,c5,c6,c7⟩:=hc
  obtain ⟨w1,w2,w3,w4,w5,w6,w7,w8⟩:=aw ws
  refine am hmix k_f76 rfl rfl fun Q hQ=>?_
  unfold aFun c_f76
  simp (config:=KF) (disch:=omega) only [bZ,cC,↓reduceIte,Nat.reduceEqDiff,Nat.reduceAdd,reduceCtorEq,rfA,c2,c4,w2,w4]
  rw [f76_7w]
  refine aX (A:=Nat) (fun a=>ws.length - a) (fun a=>⟨[(1,.lit (.int .i64 i)),(2,.lit (.bool d)),(3,.lptr 3 0),(8,.lit (.int .i64 (a:Nat)))],[(3,[cv,wtS ws])]⟩) (fun _=>st)
    (fun a=>a≤ws.length∧∀ j (h:j < ws.length),j < a→ws[j].2.any (onC i d) = false) 0 ⟨Nat.zero_le _,fun _ _ h=>by omega⟩ (Sf.le_refl _) rfl ?_
  rintro a ⟨h1,h2⟩ K hK hKe hKr
  try dsimp only
  simp (config:=KF) (disch:=omega) only [bZ,addA,aa,↓reduceIte,Nat.reduceEqDiff,w1,w8]
  by_cases ha:a < ws.length
  · rw [decide_eq_true (show (a:Int) < (ws.length:Int) by omega)]
    simp (config:=KF) (disch:=omega) only [bZ,↓reduceIte,Nat.reduceEqDiff]
    obtain ⟨hw,hwg⟩:=jt ha
    obtain ⟨v1,v2,v3,v4,v5,v6,v7⟩:=bk ws[a].2
    have v8:=csSl_len ws[a].2
    have hla:=hll ws[a] (List.getElem_mem ha)
    rw [f76_17w]
    refine aX (A:=Nat) (fun k=>ws[a].2.length - k) (fun k=>⟨[(1,.lit (.int .i64 i)),(2,.lit (.bool d)),(3,.lptr 3 0),(8,.lit (.int .i64 (a:Nat))),(9,.lit (.int .i64 (k:Nat)))],[(3,[cv,wtS ws])]⟩) (fun _=>st)
      (fun k=>k≤ws[a].2.length∧∀ j (h:j < ws[a].2.length),j < k→onC i d ws[a].2[j] = false) 0 ⟨Nat.zero_le _,fun _ _ h=>by omega⟩ (Sf.le_refl _) rfl ?_
    rintro k ⟨k1,k2⟩ K2 hK2 hKe2 hKr2
    try dsimp only
    rw [hw] at hK2 ⊢
    simp (config:=KF) (disch:=omega) only [bZ,ixSV,addA,aa,↓reduceIte,Nat.reduceEqDiff,hwg,wtA2,v1,v8]
    by_cases hk:k < ws[a].2.length
    · rw [decide_eq_true (show (k:Int) < (ws[a].2.length:Int) by omega)]
      obtain ⟨hcs,hcg⟩:=cs_get hk
      have hyes:onC i d ws[a].2[k] = true→K2 .ret ⟨[(6,.lit (.int .i64 (a:Nat))),(7,.lit (.int .i64 (k:Nat)))],[]⟩ st:=fun hy=>by
        refine hKr2 _ _ ?_
        simp (config:=KF) (disch:=omega) only [bZ]
        refine hKr _ _ ?_
        simp (config:=KF) (disch:=omega) only [bZ,retI,↓reduceIte,Nat.reduceEqDiff]
        have e1:ws.findIdx? (fun w=>w.2.any (onC i d)) = some a:=by
          rw [List.findIdx?_eq_some_iff_getElem]
          exact ⟨ha,List.any_eq_true.2 ⟨_,List.getElem_mem hk,hy⟩,fun j hj=>by simp [h2 j (by omega) hj]⟩
        have e2:ws[a].2.findIdx (onC i d) = k:=by
          rw [List.findIdx_eq hk]
          exact ⟨hy,fun j hj=>k2 j (by omega) hj⟩
        have e3:bJ i d ws = some (a,k):=by
          unfold bJ
          rw [e1]
          simp [ha,e2]
        rw [e3] at hQ
        exact hQ _
      have hnot:onC i d ws[a].2[k] = false→K2 .normal ⟨[(1,.lit (.int .i64 i)),(2,.lit (.bool d)),(3,.lptr 3 0),(8,.lit (.int .i64 (a:Nat))),(9,.lit (.int .i64 ((k + 1:Nat):Int)))],[(3,[cv,.sl false 2 (ws.map wtA2)])]⟩ st:=fun hn=>by
        refine hK2 (k + 1) _ ⟨by omega,fun j hj hjk=>?_⟩ (by omega) (Sf.le_refl _)
        by_cases e:j = k
        · subst e; exact hn
        · exact k2 j hj (by omega)
      have hcd:∀ z,(csSl ws[a].2) = z→z = .sl false 3 (ws[a].2.map csAV):=fun z e=>e ▸ hcs
      rw [hcs] at v1 v2 v6 v7
      simp (config:=KF) (disch:=omega) only [bZ,AI.dst,ixSV,ag,addA,aa,ci,bS,↓reduceIte,Nat.reduceEqDiff,Nat.reduceAdd,Nat.reduceLeDiff,hwg,wtA2,hcs,hcg,csAV]
      refine aK (fun h3=>?_) (fun h3=>?_)
      · by_cases h4:ws[a].2[k].2.1 = d
        · have hb:(ws[a].2[k].2.1 == d) = true:=by simpa using h4
          simp (config:=KF) (disch:=omega) only [bZ,AI.dst,b_eql,addA,aa,↓reduceIte,Nat.reduceEqDiff,hb]
          exact hyes (by unfold onC; simp [h3,h4])
        · have hb:(ws[a].2[k].2.1 == d) = false:=by simpa using h4
          simp (config:=KF) (disch:=omega) only [bZ,AI.dst,b_eql,addA,aa,↓reduceIte,Nat.reduceEqDiff,hb]
          exact hnot (by unfold onC; simp [h4])
      · simp (config:=KF) (disch:=omega) only [bZ,AI.dst,↓reduceIte,Nat.reduceEqDiff]
        exact hnot (by unfold onC; simp [h3])
    · rw [decide_eq_false (show ¬ (k:Int) < (ws[a].2.length:Int) by omega)]
      simp (config:=KF) (disch:=omega) only [bZ,↓reduceIte,Nat.reduceEqDiff]
      refine hKe2 _ _ _ ?_
      simp (config:=KF) (disch:=omega) only [bZ,↓reduceIte,Nat.reduceEqDiff]
      rw [← hw]
      refine hK (a + 1) _ ⟨by omega,fun j hj hja=>?_⟩ (by omega) (Sf.le_refl _)
      by_cases e:j = a
      · subst e
        rw [List.any_eq_false]
        intro x hx
        obtain ⟨q,hq,rfl⟩:=List.getElem_of_mem hx
        simp [k2 q hq (by omega)]
      · exact h2 j hj (by omega)
  · rw [decide_eq_false (show ¬ (a:Int) < (ws.length:Int) by omega)]
    simp (config:=KF) (disch:=omega) only [bZ,↓reduceIte,Nat.reduceEqDiff]
    refine hKe _ _ _ ?_
    simp (config:=KF) (disch:=omega) only [bZ,retI,↓reduceIte,Nat.reduceEqDiff,Int.reduceNeg]
    have e1:ws.findIdx? (fun w=>w.2.any (onC i d)) = none:=by
      rw [List.findIdx?_eq_none_iff]
      intro w hw
      obtain ⟨q,hq,rfl⟩:=List.getElem_of_mem hw
      exact h2 q hq (by omega)
    have e3:bJ i d ws = none:=by unfold bJ; rw [e1]; rfl
    rw [e3] at hQ
    exact hQ _

/-- Where a task stands. -/
def atW (t:Int) (ws:List Wt):Int:=ixI (ws.findIdx? fun w=>decide (w.1 = t))
theorem rat_pure {cv:AV} (hc:AV.isCh cv) (ws:List Wt) (hwl:ws.length < 100000) (t:Int) (st:St):aD Go.Proofs.Try.prog n_f77 [rfA cv ws,.lit (.int .i64 t)] st (.lit (.int .i64 (atW t ws))):=by
  obtain ⟨c1,c2,c3,c4,c5,c6,c7⟩:=hc
  obtain ⟨w1,w2,w3,w4,w5,w6,w7,w8⟩:=aw ws
  refine am hmix k_f77 rfl rfl fun Q hQ=>?_
  unfold aFun c_f77
  simp (config:=KF) (disch:=omega) only [bZ,cC,↓reduceIte,Nat.reduceEqDiff,Nat.reduceAdd,reduceCtorEq,rfA,c2,c4,w2,w4]
  rw [f77_7w]
  refine aX (A:=Nat) (fun a=>ws.length - a) (fun a=>⟨[(1,.lit (.int .i64 t)),(2,.lptr 2 0),(5,.lit (.int .i64 (a:Nat)))],[(2,[cv,wtS ws])]⟩) (fun _=>st)
    (fun a=>a≤ws.length∧∀ j (h:j < ws.length),j < a→ws[j].1≠t) 0 ⟨Nat.zero_le _,fun _ _ h=>by omega⟩ (Sf.le_refl _) rfl ?_
  rintro a ⟨h1,h2⟩ K hK hKe hKr
  try dsimp only
  simp (config:=KF) (disch:=omega) only [bZ,addA,aa,↓reduceIte,Nat.reduceEqDiff,w1,w8]
  by_cases ha:a < ws.length
  · rw [decide_eq_true (show (a:Int) < (ws.length:Int) by omega)]
    obtain ⟨hw,hwg⟩:=jt ha
    obtain ⟨v1,v2,v3,v4,v5,v6,v7⟩:=bk ws[a].2
    rw [hw] at hK ⊢
    simp (config:=KF) (disch:=omega) only [bZ,ixSV,addA,aa,↓reduceIte,Nat.reduceEqDiff,hwg,wtA2]
    refine aH (fun h3=>?_) (fun h3=>?_)
    · simp (config:=KF) (disch:=omega) only [bZ,↓reduceIte,Nat.reduceEqDiff]
      refine hKr _ _ ?_
      simp (config:=KF) (disch:=omega) only [bZ,retI,↓reduceIte]
      have e1:ws.findIdx? (fun w=>decide (w.1 = t)) = some a:=by
        rw [List.findIdx?_eq_some_iff_getElem]
        exact ⟨ha,by simpa using h3,fun j hj=>by simp [h2 j (by omega) hj]⟩
      unfold atW at hQ
      rw [e1] at hQ
      exact hQ _
    · simp (config:=KF) (disch:=omega) only [bZ,↓reduceIte,Nat.reduceEqDiff]
      refine hK (a + 1) _ ⟨by omega,fun j hj hja=>?_⟩ (by omega) (Sf.le_refl _)
      by_cases e:j = a
      · subst e; exact h3
      · exact h2 j hj (by omega)
  · rw [decide_eq_false (show ¬ (a:Int) < (ws.length:Int) by omega)]
    simp (config:=KF) (disch:=omega) only [bZ,↓reduceIte,Nat.reduceEqDiff]
    refine hKe _ _ _ ?_
    simp (config:=KF) (disch:=omega) only [bZ,retI,↓reduceIte,Int.reduceNeg]
    have e1:ws.findIdx? (fun w=>decide (w.1 = t)) = none:=by
      rw [List.findIdx?_eq_none_iff]
      intro w hw
      obtain ⟨q,hq,rfl⟩:=List.getElem_of_mem hw
      simp [h2 q hq (by omega)]
    unfold atW at hQ
    rw [e1] at hQ
    exact hQ _

theorem od {cv:AV} (hc:AV.isCh cv) (ws:List Wt) (hwl:ws.length < 100000) (st:St):aD Go.Proofs.Try.prog n_f48 [rfA cv ws] st (intS (ws.map (·.1))):=by
  obtain ⟨c1,c2,c3,c4,c5,c6,c7⟩:=hc
  obtain ⟨w1,w2,w3,w4,w5,w6,w7,w8⟩:=aw ws
  refine am hmix k_f48 rfl rfl fun Q hQ=>?_
  unfold aFun c_f48
  simp (config:=KF) (disch:=omega) only [bZ,cC,↓reduceIte,Nat.reduceEqDiff,Nat.reduceAdd,reduceCtorEq,rfA,c2,c4,w2,w4]
  rw [f48_9w]
  refine aX (A:=Nat) (fun a=>ws.length - a) (fun a=>⟨[(1,.lptr 1 0),(3,oint ((ws.take a).map (·.1))),(4,.lit (.int .i64 (a:Nat)))],[(1,[cv,wtS ws])]⟩) (fun _=>st)
    (fun a=>a≤ws.length) 0 (Nat.zero_le _) (Sf.le_refl _) rfl ?_
  rintro a h1 K hK hKe hKr
  try dsimp only
  by_cases ha:a < ws.length
  · obtain ⟨hw,hwg⟩:=jt ha
    obtain ⟨v1,v2,v3,v4,v5,v6,v7⟩:=bk ws[a].2
    have htk:(ws.take (a + 1)).map (·.1) = (ws.take a).map (·.1)++[ws[a].1]:=by rw [List.take_succ_eq_append_getElem ha,List.map_append]; rfl
    have hne:(ws.take (a + 1)).map (·.1)≠[]:=by rw [htk]; simp
    have hlt:((ws.take a).map (·.1)).length = a:=by rw [List.length_map,List.length_take]; omega
    have hnx:=fun sf=>hK (a + 1) sf (by omega) (by omega)
    simp only [oint,if_neg hne] at hnx
    rw [htk,ed] at hnx
    rw [hw] at hnx ⊢
    rcases cO ((ws.take a).map (·.1)) with ⟨e,e2⟩ | ⟨e,e2⟩
    all_goals
      rw [e]
      simp (config:=KF) (disch:=omega) only [bZ,dZ,ixSV,eO,List.reduceReplicate,lenI,addA,aa,bR,cK,srcA,cR,↓reduceIte,Nat.reduceEqDiff,Nat.reduceLT,ba,hwg,wtA2,ak,hlt]
      refine hnx _ ?_
      first | (rw [e2]; exact Sf.le_refl _) | exact Sf.le_refl _
  · have hal:a = ws.length:=by omega
    subst hal
    rcases cO ((ws.take ws.length).map (·.1)) with ⟨e,e2⟩ | ⟨e,e2⟩
    all_goals
      rw [e]
      simp (config:=KF) (disch:=omega) only [bZ,addA,aa,↓reduceIte,Nat.reduceEqDiff,List.take_length,w1,w8]
      refine hKe _ _ _ ?_
      simp (config:=KF) (disch:=omega) only [bZ,retI,eM,↓reduceIte,Nat.reduceEqDiff]
      rw [List.take_length] at e2
      unfold intS at hQ
      first | rw [if_pos e2] at hQ | rw [if_neg e2] at hQ
      try rw [List.take_length]
      exact hQ _
end Go.Fx.YtbomoaajkinfpaaFx

