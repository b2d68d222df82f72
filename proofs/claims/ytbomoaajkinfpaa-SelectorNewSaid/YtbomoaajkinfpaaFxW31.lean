/- What the functions that the statement reaches compute: part 31. -/
import Derived.Test.YtbomoaajkinfpaaFxW30
namespace Go.Fx.YtbomoaajkinfpaaFx
open Go Go.Fx
attribute [local irreducible] aC runI ap aO

set_option maxRecDepth 100000
set_option maxHeartbeats 4000000

/-! The reference: those that wait. -/
def wtA2 (w:Wt):AV:=.agg [.lit (.int .i64 w.1),csSl w.2]
def wtS (ws:List Wt):AV:=if ws = [] then .lit (.slice none 0 0) else .sl false 2 (ws.map wtA2)
theorem gY (l:List Wt):(wtS l).dis = wtS l∧(wtS l).own1 = wtS l∧(wtS l).own2 = wtS l∧(wtS l).solid1 = true∧(wtS l).noL = true∧(wtS l).cells = [wtS l]∧(∀ s,kill s (wtS l) = wtS l)∧∀ st',lenI .sl st' (wtS l) = .ok (.lit (.int .i64 (l.length:Nat))):=by
  unfold wtS
  split
  · rename_i h; subst h; exact ⟨rfl,rfl,rfl,rfl,rfl,rfl,fun _=>rfl,fun _=>rfl⟩
  · exact ⟨rfl,rfl,rfl,rfl,rfl,rfl,fun _=>rfl,fun _=>by simp [lenI]⟩
theorem wt_get {ws:List Wt} {a:Nat} (h:a < ws.length):wtS ws = .sl false 2 (ws.map wtA2)∧(ws.map wtA2).getD a .any = wtA2 ws[a] :=
  ⟨if_neg fun e=>by subst e; simp at h,by simp [h]⟩
def AV.isCh (cv:AV):Prop:=cv.dis = cv∧cv.own1 = cv∧cv.own2 = cv∧cv.solid1 = true∧cv.noL = true∧cv.cells = [cv]∧∀ s,kill s cv = cv
def rfA (cv:AV) (ws:List Wt):AV:=.agg [cv,wtS ws]

theorem mW {cv:AV} (hc:AV.isCh cv) (ws:List Wt) (hwl:ws.length < 100000) (st:St):aG Go.Proofs.Try.prog n_f48 [rfA cv ws] st (intS (ws.map (·.1))):=by
  obtain ⟨c1,c2,c3,c4,c5,c6,c7⟩:=hc
  obtain ⟨w1,w2,w3,w4,w5,w6,w7,w8⟩:=gY ws
  refine au hmix k_f48 rfl rfl fun Q hQ=>?_
  unfold aFun c_f48
  simp (config:=KF) (disch:=omega) only [bZ,jX,aP,↓reduceIte,Nat.reduceEqDiff,Nat.reduceAdd,reduceCtorEq,f48_1e,f48_2l,f48_3e,f48_4l,f48_5e,f48_6e,f48_7l,f48_8e,rfA,c2,c4,w2,w4]
  rw [f48_9w]
  refine cF (A:=Nat) (fun a=>ws.length - a) (fun a=>⟨[(1,.lptr 1 0),(3,oint ((ws.take a).map (·.1))),(4,.lit (.int .i64 (a:Nat)))],[(1,[cv,wtS ws])]⟩) (fun _=>st)
    (fun a=>a≤ws.length) 0 (Nat.zero_le _) (Sf.le_refl _) rfl ?_
  rintro a h1 K hK hKe hKr
  try dsimp only
  by_cases ha:a < ws.length
  · obtain ⟨hw,hwg⟩:=wt_get ha
    obtain ⟨v1,v2,v3,v4,v5,v6,v7⟩:=dD ws[a].2
    have htk:(ws.take (a + 1)).map (·.1) = (ws.take a).map (·.1)++[ws[a].1]:=by rw [List.take_succ_eq_append_getElem ha,List.map_append]; rfl
    have hne:(ws.take (a + 1)).map (·.1)≠[]:=by rw [htk]; simp
    have hlt:((ws.take a).map (·.1)).length = a:=by rw [List.length_map,List.length_take]; omega
    have hnx:=fun sf=>hK (a + 1) sf (by omega) (by omega)
    simp only [oint,if_neg hne] at hnx
    rw [htk,fR] at hnx
    rw [hw] at hnx ⊢
    rcases ea ((ws.take a).map (·.1)) with ⟨e,e2⟩ | ⟨e,e2⟩
    all_goals
      rw [e]
      simp (config:=KF) (disch:=omega) only [bZ,cY,cU,gF,ixSV,bslV,il,List.isEmpty_cons,List.reduceReplicate,lenI,addA,aa,ec,dy,srcA,bP,ei,↓reduceIte,Nat.reduceEqDiff,Nat.reduceLT,cE,bw,f48_10e,f48_11e,f48_12l,f48_13e,f48_14e,f48_15e,f48_16e,f48_16l,f48_17e,f48_17l,hwg,wtA2,aq,hlt]
      refine hnx _ ?_
      first | (rw [e2]; exact Sf.le_refl _) | exact Sf.le_refl _
  · have hal:a = ws.length:=by omega
    subst hal
    rcases ea ((ws.take ws.length).map (·.1)) with ⟨e,e2⟩ | ⟨e,e2⟩
    all_goals
      rw [e]
      simp (config:=KF) (disch:=omega) only [bZ,bC,cp,addA,aa,↓reduceIte,Nat.reduceEqDiff,List.take_length,bY,f48_10e,f48_11e,f48_12l,f48_13e,w1,w8]
      refine hKe _ _ _ ?_
      simp (config:=KF) (disch:=omega) only [bZ,aU,retI,f8,↓reduceIte,Nat.reduceEqDiff,f48_18e,f48_19l]
      rw [List.take_length] at e2
      unfold intS at hQ
      first | rw [if_pos e2] at hQ | rw [if_neg e2] at hQ
      try rw [List.take_length]
      exact hQ _
end Go.Fx.YtbomoaajkinfpaaFx

