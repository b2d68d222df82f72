/- What the functions that the statement reaches compute: part 33. -/
import Derived.Test.YtbdjfccgkdgbfaaFxW32
namespace Go.Fx.YtbdjfccgkdgbfaaFx
open Go Go.Fx
attribute [local irreducible] aC runI az aA

set_option maxRecDepth 100000
set_option maxHeartbeats 4000000

/-! The reference's calls. -/
structure RH (v:AV) (st:St) (n:Nat) (R:HR):Prop where
  ex:∃ es,SV v st es∧Es es R.subs
  ok:SOk R.subs n
  wl:R.ws.length≤64
  wd:∀ w ∈ R.ws,w.2.2.length≤100000
theorem SOk.mono {subs:List Sb} {n m:Nat} (h:SOk subs n) (hm:n≤m):SOk subs m:=⟨h.len,fun S hS=>by obtain ⟨a,b,c⟩:=h.ok S hS; exact ⟨a,b,by omega⟩⟩
theorem RH.facts {v:AV} {st:St} {n:Nat} {R:HR} (h:RH v st n R):v.dis = v∧v.own1 = v∧v.own2 = v∧v.solid1 = true∧v.noL = true∧v.cells = [v]∧∀ s,kill s v = v:=by
  obtain ⟨es,h1,h2⟩:=h.ex
  obtain ⟨a,b,c,d,e,f,g,_⟩:=h1.facts
  exact ⟨a,b,c,d,e,f,g⟩
theorem pop_geq (t:Int) (ws:List WW):decide (fstI (fun w:WW=>decide (w.2.1 = t)) ws 0 ≥ 0) = (popR t ws).isSome:=by
  rcases qk t ws 0 with ⟨p1,p2⟩ | ⟨i,hi,p1,p2⟩
  · rw [show ((0:Nat):Int) = 0 from rfl] at p2
    rw [p1,p2]; rfl
  · rw [show ((0:Nat):Int) = 0 from rfl] at p2
    rw [p1,p2]
    exact decide_eq_true (by omega)

section
variable {st:St} {v:AV} {n:Nat} {R:HR}
theorem lx (h:RH v st n R) (hn:n < 800000) (t:Int) {dv:AV} {p:List UInt8} (hd:MV dv p) (hp:p.length≤100000) :
    al Go.Proofs.Try.prog n_f53 [.agg [v,wsV R.ws],.lit (.int .i64 t),dv] st (fun r st'=>∃ v',r = .tup [.agg [v',wsV (rPub t p R).1.ws],.lit (.int .i64 (rPub t p R).2)]∧RH v' st' (n + 1) (rPub t p R).1∧Kp st st' []):=by
  obtain ⟨v1,v2,v3,v4,v5,v6,v7⟩:=h.facts
  obtain ⟨w1,w2,w3,w4,w5,w6,w7,w8⟩:=aw R.ws
  obtain ⟨d1,d2,d3,d4,d5,d6,d7,d8⟩:=hd.facts
  obtain ⟨es,e1,e2⟩:=h.ex
  have hwl:=h.wl
  refine aq hmix k_f53 rfl rfl fun Q hQ=>?_
  unfold aFun c_f53
  have stay:∀ b,rPub t p R = (R,b)→Q (.tup [.agg [v,wsV R.ws],.lit (.int .i64 b)]) st:=fun b hr=>by
    refine hQ _ _ ⟨v,?_⟩
    rw [hr]
    exact ⟨rfl,⟨h.ex,h.ok.mono (Nat.le_succ n),h.wl,h.wd⟩,Kp.refl _ _⟩
  by_cases c1:t < 0∨16≤t
  · have hs:=stay 2 (by unfold rPub; rw [if_pos c1])
    (repeat' (first | omega | (simp (config:=KF) (disch:=omega) only [bZ,retI,AI.dst,ah,aa,db,↓reduceIte,Nat.reduceEqDiff,Nat.reduceAdd,Nat.reduceLeDiff,reduceCtorEq,af,ae,v2,v4,w2,w4,d1,d7]) | refine aO (fun h=>?_) (fun h=>?_) | refine cc (fun h=>?_) (fun h=>?_) | refine ep (fun h=>?_) (fun h=>?_) | exact hs))
  by_cases c2:1024 < p.length
  · have hs:=stay 5 (by unfold rPub; rw [if_neg c1,if_pos c2])
    simp (config:=KF) (disch:=omega) only [bZ,retI,AI.dst,ah,aa,db,↓reduceIte,Nat.reduceEqDiff,Nat.reduceAdd,Nat.reduceLeDiff,reduceCtorEq,bW,af,ae,v2,v4,w2,w4,d1,d7,d8]
    exact hs
  have hpg:=pop_geq t R.ws
  simp (config:=KF) (disch:=omega) only [bZ,AI.dst,aa,db,id,↓reduceIte,Nat.reduceEqDiff,Nat.reduceAdd,Nat.reduceLeDiff,reduceCtorEq,bW,v2,v4,w2,w4,d1,d7,d8]
  refine ak (vs:=[.agg [v,wsV R.ws],.lit (.int .i64 t)]) (by simp [v2,w2,aL,aH]) e_f67 (qj e1 e2 h.ok.len (by omega) t) (by simp [v5,w5,aM,aD]) ?_
  simp (config:=KF) (disch:=omega) only [bZ,AI.dst,db,↓reduceIte,Nat.reduceEqDiff,hpg]
  cases c3:(popR t R.ws).isSome with
  | true =>
    have hs:=stay 16 (by unfold rPub; rw [if_neg c1,if_neg c2,if_pos (.inl c3)])
    simp (config:=KF) (disch:=omega) only [bZ,retI,AI.dst,ah,aa,↓reduceIte,Nat.reduceEqDiff,Nat.reduceAdd,Nat.reduceLeDiff,af,ae,v2,v4,w2,w4]
    exact hs
  | false =>
    simp (config:=KF) (disch:=omega) only [bZ,AI.dst,aa,id,↓reduceIte,Nat.reduceEqDiff,Nat.reduceAdd,Nat.reduceLeDiff,v2,w2,d1]
    refine ak (vs:=[.agg [v,wsV R.ws],.lit (.int .i64 t),dv]) (by simp [v2,w2,d1,aL,aH]) e_f68 (can_v e1 e2 h.ok t hd hp) (by simp [v5,w5,d5,aM,aD]) ?_
    cases c4:canR t p.length R.subs with
    | false =>
      have hs:=stay 16 (by unfold rPub; rw [if_neg c1,if_neg c2,if_pos (.inr c4)])
      simp (config:=KF) (disch:=omega) only [bZ,retI,AI.dst,ah,aa,unA,↓reduceIte,Nat.reduceEqDiff,Nat.reduceAdd,Nat.reduceLeDiff,af,ae,v2,v4,w2,w4]
      exact hs
    | true =>
      have hrp:rPub t p R = (⟨pubR t p R.subs,R.ws⟩,0):=by
        unfold rPub
        rw [if_neg c1,if_neg c2,if_neg]
        rw [c3,c4]; simp
      rw [hrp] at hQ
      simp (config:=KF) (disch:=omega) only [bZ,AI.dst,aa,unA,id,↓reduceIte,Nat.reduceEqDiff,Nat.reduceAdd,Nat.reduceLeDiff,v2,w2,d1]
      refine au (vs:=[.agg [v,wsV R.ws],.lit (.int .i64 t),dv]) (by simp [v2,w2,d1,aL,aH]) e_f69 (nM e1 e2 h.ok (by omega) t hd hp) (by simp [v5,w5,d5,aM,aD]) fun r s1 hr=>?_
      obtain ⟨v',es',rfl,j1,j2,j3⟩:=hr
      obtain ⟨z1,z2,z3,z4,z5,z6,z7,z8⟩:=j1.facts
      simp (config:=KF) (disch:=omega) only [bZ,retI,ah,aa,↓reduceIte,Nat.reduceEqDiff,Nat.reduceAdd,Nat.reduceLeDiff,af,ae,z2,z4,w2,w4]
      exact hQ _ _ ⟨v',rfl,⟨⟨es',j1,j2⟩,h.ok.pub t p,h.wl,h.wd⟩,j3⟩
end
end Go.Fx.YtbdjfccgkdgbfaaFx

