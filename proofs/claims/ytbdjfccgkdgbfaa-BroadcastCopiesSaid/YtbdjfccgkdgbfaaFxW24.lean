/- What the functions that the statement reaches compute: part 24. -/
import Derived.Test.YtbdjfccgkdgbfaaFxW23
namespace Go.Fx.YtbdjfccgkdgbfaaFx
open Go Go.Fx
attribute [local irreducible] aC runI az ar

set_option maxRecDepth 100000
set_option maxHeartbeats 4000000

section
variable {st:St} {v:AV} {n:Nat} {R:HR}
theorem rSend_calls (h:RH v st n R) (hn:n < 700000) (t p:Int) {dv:AV} {d:List UInt8} (hd:MV dv d) (hp:d.length≤100000) :
  am Go.Proofs.Try.prog n_f54 [.agg [v,wsV R.ws],.lit (.int .i64 t),.lit (.int .i64 p),dv] st (fun r st'=>∃ v',r = .tup [.agg [v',wsV (b9 t p d R).1.ws],.lit (.bool (b9 t p d R).2.1),.lit (.int .i64 (b9 t p d R).2.2)]∧(∃ es,SV v' st' es∧Es es (b9 t p d R).1.subs)∧SOk (b9 t p d R).1.subs (n + 1)∧Kp st st' []):=by
 obtain ⟨v1,v2,v3,v4,v5,v6,v7⟩:=h.facts
 obtain ⟨w1,w2,w3,w4,w5,w6,w7,w8⟩:=aw R.ws
 obtain ⟨d1,d2,d3,d4,d5,d6,d7,d8⟩:=hd.facts
 obtain ⟨es,e1,e2⟩:=h.ex
 have hwl:=h.wl
 refine ap hmix k_f54 rfl rfl fun Q hQ=>?_
 unfold aFun c_f54
 have stay:∀ b,b9 t p d R = (R,false,b)→Q (.tup [.agg [v,wsV R.ws],.lit (.bool false),.lit (.int .i64 b)]) st:=fun b hr=>by
  refine hQ _ _ ⟨v,?_⟩
  rw [hr]
  exact ⟨rfl,h.ex,h.ok.mono (by omega),Kp.refl _ _⟩
 by_cases c1:p < 0∨16≤p∨t < 0∨64≤t
 ·have hs:=stay 2 (by unfold b9; rw [if_pos c1])
  (repeat' (first | omega | (simp (config:=KF) (disch:=omega) only [bZ,retI,AI.dst,ah,ae,dt,↓reduceIte,Nat.reduceEqDiff,Nat.reduceAdd,Nat.reduceLeDiff,reduceCtorEq,af,aa,v2,v4,w2,w4,d1,d7]) | refine aS (fun h=>?_) (fun h=>?_) | refine b8 (fun h=>?_) (fun h=>?_) | refine dJ (fun h=>?_) (fun h=>?_) | exact hs))
 by_cases c2:1024 < d.length
 ·have hs:=stay 5 (by unfold b9; rw [if_neg c1,if_pos c2])
  simp (config:=KF) (disch:=omega) only [bZ,retI,AI.dst,ah,ae,dt,↓reduceIte,Nat.reduceEqDiff,Nat.reduceAdd,Nat.reduceLeDiff,reduceCtorEq,cd,af,aa,v2,v4,w2,w4,d1,d7,d8]
  exact hs
 have hwv:=waits_v (ws:=R.ws) e1 e2 h.ok.len (by omega) t
 have hdg:=del_geq t R.ws
 simp (config:=KF) (disch:=omega) only [bZ,AI.dst,ae,dt,id,↓reduceIte,Nat.reduceEqDiff,Nat.reduceAdd,Nat.reduceLeDiff,reduceCtorEq,cd,v2,v4,w2,w4,d1,d7,d8]
 refine ak (vs:=[.agg [v,wsV R.ws],.lit (.int .i64 t)]) (by simp [v2,w2,aH,aL]) e_f70 hwv (by simp [v5,w5,aI,aD]) ?_
 simp (config:=KF) (disch:=omega) only [bZ,dt,↓reduceIte,Nat.reduceEqDiff,hdg]
 cases c3:(delT t R.ws).isSome with
 | true =>
   have hs:=stay 11 (by unfold b9; rw [if_neg c1,if_neg c2,if_pos c3])
   simp (config:=KF) (disch:=omega) only [bZ,retI,ah,ae,↓reduceIte,Nat.reduceEqDiff,Nat.reduceAdd,Nat.reduceLeDiff,af,aa,v2,v4,w2,w4]
   exact hs
 | false =>
   simp (config:=KF) (disch:=omega) only [bZ,ae,id,↓reduceIte,Nat.reduceEqDiff,Nat.reduceAdd,Nat.reduceLeDiff,v2,w2,d1]
   refine aq (vs:=[.agg [v,wsV R.ws],.lit (.int .i64 p),dv]) (by simp [v2,w2,d1,aH,aL]) e_f53 (ma h (by omega) p hd hp) (by simp [v5,w5,d5,aI,aD]) fun r s1 hr=>?_
   obtain ⟨v',rfl,j1,j2⟩:=hr
   obtain ⟨z1,z2,z3,z4,z5,z6,z7⟩:=j1.facts
   by_cases c4:(rPub p d R).2 = 0
   ·have hrs:b9 t p d R = ((rPub p d R).1,true,0):=by
     unfold b9; rw [if_neg c1,if_neg c2,if_neg (by rw [c3]; simp),if_pos c4]
    rw [hrs] at hQ
    rw [c4]
    obtain ⟨x1,x2,x3,x4,x5,x6,x7,x8⟩:=aw (rPub p d R).1.ws
    simp (config:=KF) (disch:=omega) only [bZ,retI,ah,ae,cY,↓reduceIte,Nat.reduceEqDiff,Nat.reduceAdd,Nat.reduceLeDiff,af,aa,d7,z2,z4,x2,x4]
    exact hQ _ _ ⟨v',rfl,j1.ex,j1.ok,j2⟩
   ·obtain ⟨tk,rfl⟩:∃ tk:Nat,t = (tk:Int):=⟨t.toNat,by omega⟩
    have hrs:b9 (tk:Int) p d R = ((⟨R.subs,R.ws++[(tk,p,d)]⟩:HR),false,(0:Int)):=by
     unfold b9; rw [if_neg c1,if_neg c2,if_neg (by rw [c3]; simp),if_neg c4]; rfl
    rw [hrs] at hQ
    obtain ⟨x1,x2,x3,x4,x5,x6,x7,x8⟩:=aw (rPub p d R).1.ws
    generalize (rPub p d R).2 = e at c4
    generalize (rPub p d R).1.ws = ww at x1 x2 x3 x4 x5 x6 x7
    have hfin:=hQ (.tup [.agg [v,wsV (R.ws++[(tk,p,d)])],.lit (.bool false),.lit (.int .i64 0)]) s1 ⟨v,rfl,(h.kp j2).ex,h.ok.mono (by omega),j2⟩
    have hwa:wsV (R.ws++[(tk,p,d)]) = .sl false 3 (R.ws.map wwV++[.agg [.lit (.int .i64 (tk:Nat)),.lit (.int .i64 p),msgV d]]):=by
     unfold wsV; rw [if_neg (by simp),List.map_append]; rfl
    rw [hwa] at hfin
    have hwd:=jR R.ws
    simp (config:=KF) (disch:=omega) only [bZ,e9,ah,addA,ae,cY,↓reduceIte,Nat.reduceEqDiff,Nat.reduceAdd,Nat.reduceLeDiff,af,aa,w1,d7,z2,z4,x2,x4,c4]
    have hds:(dv = .sl false 1 []∧d = [])∨(dv = .lit (.slice none 0 0)∧d = [])∨∃ x q,d = x::q∧dv = .sl false 1 (.lit (.int .u8 x.toNat)::BB q):=by
     rcases hd with rfl | ⟨rfl,rfl⟩
     ·cases d with
      | nil=>exact .inl ⟨rfl,rfl⟩
      | cons x q=>exact .inr (.inr ⟨x,q,rfl,rfl⟩)
     ·exact .inr (.inl ⟨rfl,rfl⟩)
    have hm0:msgV [] = .lit (.slice none 0 0):=rfl
    have hmc:∀ (x:UInt8) q,msgV (x::q) = .sl false 1 (.lit (.int .u8 x.toNat)::BB q):=fun _ _=>rfl
    clear hwa hrs hQ stay
    cases hws:R.ws with
    | nil =>
      rw [hws] at hfin
      have hw0:wsV [] = .lit (.slice none 0 0):=rfl
      rw [hw0]
      rcases hds with ⟨e3,e4⟩ | ⟨e3,e4⟩ | ⟨x,q,e4,e3⟩
      ·subst e3; subst e4
       rw [hm0] at hfin
       simp (config:=KF) (disch:=omega) only [bZ,retI,ei,e9,bstV,bF,ah,List.reduceReplicate,addA,ae,aQ,srcA,aV,cb,↓reduceIte,Nat.reduceEqDiff,Nat.reduceAdd,Nat.reduceLT,Nat.reduceLeDiff,af,aa,v2,v4]
       exact hfin
      ·subst e3; subst e4
       rw [hm0] at hfin
       simp (config:=KF) (disch:=omega) only [bZ,retI,ei,e9,bstV,bF,ah,List.reduceReplicate,addA,ae,aQ,srcA,aV,cb,↓reduceIte,Nat.reduceEqDiff,Nat.reduceAdd,Nat.reduceLT,Nat.reduceLeDiff,af,aa,v2,v4]
       exact hfin
      ·subst e3; subst e4
       have hlq:q.length≤100000:=by rw [List.length_cons] at hp; omega
       rw [hmc] at hfin
       simp (config:=KF) (disch:=omega) only [bZ,retI,ei,e9,bstV,bF,ah,List.reduceReplicate,addA,ae,aQ,srcA,aV,cb,↓reduceIte,Nat.reduceEqDiff,Nat.reduceAdd,Nat.reduceLT,Nat.reduceLeDiff,aO,jO,af,aa,v2,v4]
       exact hfin
    | cons a A =>
      rw [hws] at hfin hwd hwl
      have hw1:wsV (a::A) = .sl false 3 (wwV a::A.map wwV):=rfl
      have f1:(wwV a).dis = wwV a:=by have:=congrArg List.head? hwd; simpa using this
      have f2:(A.map wwV).map AV.dis = A.map wwV:=jR A
      have hlA:A.length≤1000:=by rw [List.length_cons] at hwl; omega
      rw [hw1]
      rcases hds with ⟨e3,e4⟩ | ⟨e3,e4⟩ | ⟨x,q,e4,e3⟩
      ·subst e3; subst e4
       rw [hm0] at hfin
       simp (config:=KF) (disch:=omega) only [bZ,retI,ei,e9,bstV,bF,ah,List.reduceReplicate,addA,ae,aQ,br,srcA,aV,cb,List.cons_append,↓reduceIte,Nat.reduceEqDiff,Nat.reduceAdd,Nat.reduceLT,Nat.reduceLeDiff,bC,af,aa,v2,v4,f1,f2]
       exact hfin
      ·subst e3; subst e4
       rw [hm0] at hfin
       simp (config:=KF) (disch:=omega) only [bZ,retI,ei,e9,bstV,bF,ah,List.reduceReplicate,addA,ae,aQ,br,srcA,aV,cb,List.cons_append,↓reduceIte,Nat.reduceEqDiff,Nat.reduceAdd,Nat.reduceLT,Nat.reduceLeDiff,bC,af,aa,v2,v4,f1,f2]
       exact hfin
      ·subst e3; subst e4
       have hlq:q.length≤100000:=by rw [List.length_cons] at hp; omega
       rw [hmc] at hfin
       simp (config:=KF) (disch:=omega) only [bZ,retI,ei,e9,bstV,bF,ah,List.reduceReplicate,addA,ae,aQ,br,srcA,aV,cb,List.cons_append,↓reduceIte,Nat.reduceEqDiff,Nat.reduceAdd,Nat.reduceLT,Nat.reduceLeDiff,aO,jO,bC,af,aa,v2,v4,f1,f2]
       exact hfin
end
end Go.Fx.YtbdjfccgkdgbfaaFx

namespace Go.Fx.YtbdjfccgkdgbfaaFx
open Go Go.Fx
attribute [local irreducible] aC runI az ar

set_option maxRecDepth 100000
set_option maxHeartbeats 4000000

theorem ob (t:Int):∀ (l:List Sb) (k:Nat),(atR t l = none∧fstI (fun S:Sb=>decide ((S.num:Int) = t)) l k = -1)∨∃ (i:Nat) (h:i < l.length),atR t l = some l[i]∧fO t l = wo l i∧(∀ f,modR t f l = l.set i (f l[i]))∧fstI (fun S:Sb=>decide ((S.num:Int) = t)) l k = ((k + i:Nat):Int)
 | [],_=>.inl ⟨rfl,rfl⟩
 | w :: r, k => by
   by_cases h:(w.num:Int) = t
   ·refine .inr ⟨0,Nat.zero_lt_succ _,?_,?_,fun f=>?_,?_⟩
    ·simp [atR,h]
    ·simp [fO,h,wo]
    ·simp [modR,h]
    ·unfold fstI; rw [if_pos (decide_eq_true h)]; rfl
   ·rcases ob t r (k + 1) with ⟨h1,h2⟩ | ⟨i,hi,h1,h2,h3,h4⟩
    ·refine .inl ⟨by simp [atR,h,h1],?_⟩
     unfold fstI; rw [if_neg (by simpa using h)]
     rw [show (k:Int) + 1 = ((k + 1:Nat):Int) by omega]; exact h2
    ·refine .inr ⟨i + 1,Nat.succ_lt_succ hi,?_,?_,fun f=>?_,?_⟩
     ·simp [atR,h,h1]
     ·simp [fO,h,h2,wo]
     ·simp [modR,h,h3]
     ·unfold fstI; rw [if_neg (by simpa using h)]
      rw [show (k:Int) + 1 = ((k + 1:Nat):Int) by omega,h4]; omega
theorem Es.wo {es:List AV} {subs:List Sb} (h:Es es subs) {i:Nat} (hi:i < subs.length):Es (wo es i) (wo subs i):=by
 obtain ⟨h1,h2⟩:=h
 refine ⟨by unfold Go.Fx.YtbdjfccgkdgbfaaFx.wo; simp [h1],fun j e S he hS=>?_⟩
 unfold Go.Fx.YtbdjfccgkdgbfaaFx.wo at he hS
 by_cases hj:j < i
 ·rw [List.getElem?_append_left (by rw [List.length_take]; omega),List.getElem?_take,if_pos hj] at he hS
  exact h2 j e S he hS
 ·rw [List.getElem?_append_right (by rw [List.length_take]; omega),List.length_take,Nat.min_eq_left (by omega),List.getElem?_drop] at he hS
  exact h2 _ e S he hS
end Go.Fx.YtbdjfccgkdgbfaaFx

