/- What the functions that the statement reaches compute: part 35. -/
import Derived.Test.YtbomoaajkinfpaaFxW34
namespace Go.Fx.YtbomoaajkinfpaaFx
open Go Go.Fx
attribute [local irreducible] aC runI aB aE

set_option maxRecDepth 100000
set_option maxHeartbeats 4000000

theorem gS {cv:AV} (hc:AV.isCh cv) {ws:List Wt} (hwl:ws.length < 100000) {a:Nat} (ha:a < ws.length) (st:St):aD Go.Proofs.Try.prog n_f79 [rfA cv ws,.lit (.int .i64 (a:Nat))] st (rfA cv (ws.eraseIdx a)):=by
  obtain ⟨c1,c2,c3,c4,c5,c6,c7⟩:=hc
  obtain ⟨w1,w2,w3,w4,w5,w6,w7,w8⟩:=aw ws
  obtain ⟨hw,_⟩:=jt ha
  obtain ⟨e1,e2,e3,e4,e5,e6,e7,e8⟩:=aw (ws.eraseIdx a)
  have hdis:∀ l:List Wt,(l.map wtA2).map AV.dis = l.map wtA2:=fun l=>by
    rw [List.map_map]
    refine List.map_congr_left fun w _=>?_
    obtain ⟨v1,v2,v3,v4,v5,v6,v7⟩:=bk w.2
    show (wtA2 w).dis = wtA2 w
    unfold wtA2
    rw [eS,List.map_cons,List.map_cons,v2,List.map_nil]
    rfl
  have hT:List.take a (ws.map wtA2) = (ws.take a).map wtA2:=by rw [List.map_take]
  have hemp:∀ l:List Wt,(l.map wtA2).isEmpty = decide (l = []):=fun l=>by cases l <;> simp
  have hlt:(ws.take a).length = a:=by rw [List.length_take]; omega
  have hld:(ws.drop (a + 1)).length = ws.length - (a + 1):=List.length_drop
  have her:ws.eraseIdx a = ws.take a++ws.drop (a + 1):=List.eraseIdx_eq_take_drop_succ ws a
  refine am hmix k_f79 rfl rfl fun Q hQ=>?_
  unfold aFun c_f79
  rw [hw] at w1 w2 w3 w4 w5 w6 w7
  simp only [rfA] at hQ
  have hD:List.drop (a + 1) (ws.map wtA2) = (ws.drop (a + 1)).map wtA2:=by rw [List.map_drop]
  simp (config:=KF) (disch:=omega) only [bZ,iK,hh_app,cC,gY,ixTo,addA,aa,bR,srcA,↓reduceIte,Nat.reduceEqDiff,Nat.reduceAdd,reduceCtorEq,ba,rfA,hw,c2,c4,w2,hT,hemp,hdis,hlt]
  rw [her] at hQ
  generalize hd:ws.drop (a + 1) = D at *
  generalize hq:ws.take a = T at *
  by_cases h0:T = []
  · subst h0
    by_cases h1:D = []
    · subst h1
      simp (config:=KF) (disch:=omega) only [bZ,f8,iK,retI,dZ,gY,eO,ag,List.isEmpty_nil,ixTo,addA,aa,bR,srcA,↓reduceIte,Nat.reduceEqDiff,Nat.reduceAdd,Nat.reduceLeDiff,gL,c2,c4,hD]
      exact hQ _
    · have e:wtS ([]++D) = .sl false 2 (D.map wtA2):=by rw [List.nil_append]; exact if_neg h1
      rw [e] at hQ
      simp (config:=KF) (disch:=omega) only [bZ,f8,iK,retI,dZ,gY,eO,ag,ixTo,addA,aa,bR,srcA,fU,d8,↓reduceIte,Nat.reduceEqDiff,Nat.reduceAdd,Nat.reduceLeDiff,gL,ba,h1,c2,c4,hD,hemp,hdis]
      exact hQ _
  · have e:wtS (T++D) = .sl false 2 (T.map wtA2++D.map wtA2):=by rw [← List.map_append]; exact if_neg (by simp [h0])
    rw [e] at hQ
    simp (config:=KF) (disch:=omega) only [bZ,f8,iK,retI,dZ,gY,eO,ag,ixTo,addA,aa,cK,srcA,fU,d8,↓reduceIte,Nat.reduceEqDiff,Nat.reduceAdd,Nat.reduceLeDiff,gL,ba,iJ,h0,c2,c4,hD,hdis]
    exact hQ _
end Go.Fx.YtbomoaajkinfpaaFx

