/- What the functions that the statement reaches compute: part 23. -/
import Derived.Test.YtbdjfccgkdgbfaaFxW22
namespace Go.Fx.YtbdjfccgkdgbfaaFx
open Go Go.Fx
attribute [local irreducible] aC runI az ar

set_option maxRecDepth 100000
set_option maxHeartbeats 4000000

theorem mH (t:Int):∀ (ws:List WW) (k:Nat),(delT t ws = none∧fstI (fun w:WW=>decide ((w.1:Int) = t)) ws k = -1)∨∃ (i:Nat) (h:i < ws.length),delT t ws = some (ws[i],wo ws i)∧fstI (fun w:WW=>decide ((w.1:Int) = t)) ws k = ((k + i:Nat):Int)
 | [],_=>.inl ⟨rfl,rfl⟩
 | w :: r, k => by
   by_cases h:(w.1:Int) = t
   ·refine .inr ⟨0,Nat.zero_lt_succ _,?_,?_⟩
    ·simp [delT,h,wo]
    ·unfold fstI; rw [if_pos (decide_eq_true h)]; rfl
   ·rcases mH t r (k + 1) with ⟨h1,h2⟩ | ⟨i,hi,h1,h2⟩
    ·refine .inl ⟨by simp [delT,h,h1],?_⟩
     unfold fstI; rw [if_neg (by simpa using h)]
     rw [show (k:Int) + 1 = ((k + 1:Nat):Int) by omega]; exact h2
    ·refine .inr ⟨i + 1,Nat.succ_lt_succ hi,?_,?_⟩
     ·simp [delT,h,h1,wo]
     ·unfold fstI; rw [if_neg (by simpa using h)]
      rw [show (k:Int) + 1 = ((k + 1:Nat):Int) by omega,h2]; omega
theorem del_geq (t:Int) (ws:List WW):decide (fstI (fun w:WW=>decide ((w.1:Int) = t)) ws 0 ≥ 0) = (delT t ws).isSome:=by
 rcases mH t ws 0 with ⟨p1,p2⟩ | ⟨i,hi,p1,p2⟩
 ·rw [show ((0:Nat):Int) = 0 from rfl] at p2
  rw [p1,p2]; rfl
 ·rw [show ((0:Nat):Int) = 0 from rfl] at p2
  rw [p1,p2]
  exact decide_eq_true (by omega)
theorem SV.lt {v:AV} {st:St} {es:List AV} (h:SV v st es):∀ x ∈ au v,x < st.boxes.length:=by
 rcases h with ⟨rfl,_⟩ | rfl | ⟨id,cap,r,rfl,hg,_⟩
 ·simp [au]
 ·simp [au]
 ·intro x hx
  simp only [au,List.mem_singleton] at hx
  subst hx
  exact bw hg
theorem RH.kp {v:AV} {st st':St} {n:Nat} {R:HR} (h:RH v st n R) (hk:Kp st st' []):RH v st' n R:=by
 obtain ⟨es,e1,e2⟩:=h.ex
 exact ⟨⟨es,e1.at fun x hx=>hk.2 x (e1.lt x hx) (by simp),e2⟩,h.ok,h.wl,h.wd⟩
/-- Tasks wait once. -/
def TOk (R:HR):Prop:=(R.ws.map Prod.fst).Nodup∧∀ w ∈ R.ws,w.1 < 64
theorem HubR.tok {st:St} {h wid n:Nat} {R:HR} {F:List Nat} (hh:HubR st h wid n R F):TOk R:=by
 obtain ⟨L,Qs,M,W,j1,j2,j3,j4,j5⟩:=hh.ex
 have e:(W.map cz).map Prod.fst = W.map Prod.fst:=by rw [List.map_map]; rfl
 refine ⟨by rw [← j4,e]; exact j3.nd,fun w hw=>?_⟩
 rw [← j4] at hw
 obtain ⟨q,hq,rfl⟩:=List.mem_map.1 hw
 exact (j3.ok q hq).1
end Go.Fx.YtbdjfccgkdgbfaaFx

namespace Go.Fx.YtbdjfccgkdgbfaaFx
open Go Go.Fx
attribute [local irreducible] aC runI az ar

set_option maxRecDepth 100000
set_option maxHeartbeats 4000000

section
variable {st:St} {v:AV} {n:Nat} {R:HR}
theorem oG (h:RH v st n R) (hn:n < 700000) (t:Int) :
  am Go.Proofs.Try.prog n_f57 [.agg [v,wsV R.ws],.lit (.int .i64 t)] st (fun r st'=>∃ v',r = .tup [.agg [v',wsV (bI t R).1.ws],itsV (bI t R).2.1,.lit (.int .i64 (bI t R).2.2)]∧(∃ es,SV v' st' es∧Es es (bI t R).1.subs)∧SOk (bI t R).1.subs (n + 64)∧Kp st st' []):=by
 obtain ⟨v1,v2,v3,v4,v5,v6,v7⟩:=h.facts
 obtain ⟨w1,w2,w3,w4,w5,w6,w7,w8⟩:=aw R.ws
 obtain ⟨es,e1,e2⟩:=h.ex
 have hwl:=h.wl
 refine ap hmix k_f57 rfl rfl fun Q hQ=>?_
 unfold aFun c_f57
 have stay:∀ b,bI t R = (R,[],b)→Q (.tup [.agg [v,wsV R.ws],.lit (.slice none 0 0),.lit (.int .i64 b)]) st:=fun b hr=>by
  refine hQ _ _ ⟨v,?_⟩
  rw [hr]
  exact ⟨rfl,h.ex,h.ok.mono (by omega),Kp.refl _ _⟩
 by_cases c1:t < 0∨64≤t
 ·have hs:=stay 2 (by unfold bI; rw [if_pos c1])
  (repeat' (first | omega | (simp (config:=KF) (disch:=omega) only [bZ,retI,AI.dst,ah,ae,dt,↓reduceIte,Nat.reduceEqDiff,Nat.reduceAdd,Nat.reduceLeDiff,reduceCtorEq,af,aa,v2,v4,w2,w4]) | refine aS (fun h=>?_) (fun h=>?_) | refine b8 (fun h=>?_) (fun h=>?_) | refine dJ (fun h=>?_) (fun h=>?_) | exact hs))
 have hwv:=waits_v (ws:=R.ws) e1 e2 h.ok.len (by omega) t
 simp (config:=KF) (disch:=omega) only [bZ,AI.dst,ae,dt,id,↓reduceIte,Nat.reduceEqDiff,Nat.reduceAdd,Nat.reduceLeDiff,reduceCtorEq,cd,v2,v4,w2,w4]
 refine ak (vs:=[.agg [v,wsV R.ws],.lit (.int .i64 t)]) (by simp [v2,w2,aH,aL]) e_f70 hwv (by simp [v5,w5,aI,aD]) ?_
 rcases mH t R.ws 0 with ⟨p1,p2⟩ | ⟨i,hi,p1,p2⟩
 ·rw [show ((0:Nat):Int) = 0 from rfl] at p2
  rw [p2]
  have hs:=stay 9 (by unfold bI; rw [if_neg c1,p1])
  simp (config:=KF) (disch:=omega) only [bZ,retI,ah,ae,↓reduceIte,Nat.reduceEqDiff,Nat.reduceAdd,Nat.reduceLeDiff,Int.reduceLT,Int.reduceNeg,af,aa,v2,v4,w2,w4]
  exact hs
 ·rw [show ((0:Nat):Int) = 0 from rfl,Nat.zero_add] at p2
  rw [p2]
  have hg:=kL hi
  have hwl2:=qI hi
  have hdp:=pC (ws:=R.ws) (v:=v) ⟨v1,v2,v3,v4,v5,v6,v7⟩ (by omega) hi
  have hwd:∀ w ∈ wo R.ws i,w.2.2.length≤100000:=fun w hw=>by
   unfold wo at hw
   rcases List.mem_append.1 hw with hw | hw
   ·exact h.wd w (List.mem_of_mem_take hw)
   ·exact h.wd w (List.mem_of_mem_drop hw)
  have hrc:bI t R = ((onR R.ws[i].2.1 (wo R.ws i).length ⟨R.subs,wo R.ws i⟩).1,(onR R.ws[i].2.1 (wo R.ws i).length ⟨R.subs,wo R.ws i⟩).2,0):=by
   unfold bI; rw [if_neg c1,p1]
  have hon:=lB (ws:=wo R.ws i) e1 e2 h.ok (by omega) hwd (by omega) R.ws[i].2.1
  rw [hrc] at hQ
  obtain ⟨m1,m2,m3,m4,m5,m6,m7,m8⟩:=(MV.msg R.ws[i].2.2).facts
  obtain ⟨y1,y2,y3,y4,y5,y6,y7,y8⟩:=aw (wo R.ws i)
  have hwv2:wsV R.ws = .sl false 3 (R.ws.map wwV):=by unfold wsV; rw [if_neg (fun e=>by rw [e] at hi; simp at hi)]
  generalize R.ws[i] = w at hg hQ hon m1 m2 m3 m4 m5 m6 m7
  generalize msgV w.2.2 = mv at hg m1 m2 m3 m4 m5 m6 m7
  rw [hwv2] at hdp ⊢
  simp (config:=KF) (disch:=omega) only [bZ,ixSV,addA,ae,id,↓reduceIte,Nat.reduceEqDiff,Nat.reduceAdd,Nat.reduceLeDiff,v2,hg]
  refine ak (vs:=[.agg [v,.sl false 3 (R.ws.map wwV)],.lit (.int .i64 (i:Nat))]) (by simp [v2,aH,bN,aL]) e_f72 (hdp st) (by simp [v5,aI,aD,ci]) ?_
  simp (config:=KF) (disch:=omega) only [bZ,id,↓reduceIte,Nat.reduceEqDiff]
  refine aq (vs:=[.agg [v,wsV (wo R.ws i)],.lit (.int .i64 w.2.1)]) (by simp [v2,y2,aH,aL]) e_f71 hon (by simp [v5,y5,aI,aD]) fun r s1 hr=>?_
  obtain ⟨v',es',rfl,j1,j2,j3,j4⟩:=hr
  simp only at hQ
  generalize onR w.2.1 (wo R.ws i).length ⟨R.subs,wo R.ws i⟩ = O at hQ j2 j3
  obtain ⟨z1,z2,z3,z4,z5,z6,z7,z8⟩:=j1.facts
  obtain ⟨x1,x2,x3,x4,x5,x6,x7,x8⟩:=aw O.1.ws
  obtain ⟨t1,t2,t3,t4⟩:=aU O.2
  simp (config:=KF) (disch:=omega) only [bZ,retI,ah,ae,↓reduceIte,Nat.reduceEqDiff,Nat.reduceAdd,Nat.reduceLeDiff,af,aa,z2,z4,x2,x4,t1,t2,t4]
  exact hQ _ _ ⟨v',rfl,⟨es',j1,j2⟩,j3,j4⟩
end
end Go.Fx.YtbdjfccgkdgbfaaFx

