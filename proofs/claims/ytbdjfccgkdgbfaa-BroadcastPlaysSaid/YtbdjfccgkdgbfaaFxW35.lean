/- What the functions that the statement reaches compute: part 35. -/
import Derived.Test.YtbdjfccgkdgbfaaFxW34
namespace Go.Fx.YtbdjfccgkdgbfaaFx
open Go Go.Fx
attribute [local irreducible] aC runI az aA

set_option maxRecDepth 100000
set_option maxHeartbeats 4000000

section
variable {st:St} {v:AV} {n:Nat} {R:HR}
theorem rSend_calls (h:RH v st n R) (hn:n < 700000) (t p:Int) {dv:AV} {d:List UInt8} (hd:MV dv d) (hp:d.length≤100000) :
    al Go.Proofs.Try.prog n_f54 [.agg [v,wsV R.ws],.lit (.int .i64 t),.lit (.int .i64 p),dv] st (fun r st'=>∃ v',r = .tup [.agg [v',wsV (bQ t p d R).1.ws],.lit (.bool (bQ t p d R).2.1),.lit (.int .i64 (bQ t p d R).2.2)]∧(∃ es,SV v' st' es∧Es es (bQ t p d R).1.subs)∧SOk (bQ t p d R).1.subs (n + 1)∧Kp st st' []):=by
  obtain ⟨v1,v2,v3,v4,v5,v6,v7⟩:=h.facts
  obtain ⟨w1,w2,w3,w4,w5,w6,w7,w8⟩:=aw R.ws
  obtain ⟨d1,d2,d3,d4,d5,d6,d7,d8⟩:=hd.facts
  obtain ⟨es,e1,e2⟩:=h.ex
  have hwl:=h.wl
  refine aq hmix k_f54 rfl rfl fun Q hQ=>?_
  unfold aFun c_f54
  have stay:∀ b,bQ t p d R = (R,false,b)→Q (.tup [.agg [v,wsV R.ws],.lit (.bool false),.lit (.int .i64 b)]) st:=fun b hr=>by
    refine hQ _ _ ⟨v,?_⟩
    rw [hr]
    exact ⟨rfl,h.ex,h.ok.mono (by omega),Kp.refl _ _⟩
  by_cases c1:p < 0∨16≤p∨t < 0∨64≤t
  · have hs:=stay 2 (by unfold bQ; rw [if_pos c1])
    (repeat' (first | omega | (simp (config:=KF) (disch:=omega) only [bZ,retI,AI.dst,ah,aa,db,↓reduceIte,Nat.reduceEqDiff,Nat.reduceAdd,Nat.reduceLeDiff,reduceCtorEq,af,ae,v2,v4,w2,w4,d1,d7]) | refine aO (fun h=>?_) (fun h=>?_) | refine cc (fun h=>?_) (fun h=>?_) | refine ep (fun h=>?_) (fun h=>?_) | exact hs))
  by_cases c2:1024 < d.length
  · have hs:=stay 5 (by unfold bQ; rw [if_neg c1,if_pos c2])
    simp (config:=KF) (disch:=omega) only [bZ,retI,AI.dst,ah,aa,db,↓reduceIte,Nat.reduceEqDiff,Nat.reduceAdd,Nat.reduceLeDiff,reduceCtorEq,bW,af,ae,v2,v4,w2,w4,d1,d7,d8]
    exact hs
  have hwv:=waits_v (ws:=R.ws) e1 e2 h.ok.len (by omega) t
  have hdg:=del_geq t R.ws
  simp (config:=KF) (disch:=omega) only [bZ,AI.dst,aa,db,id,↓reduceIte,Nat.reduceEqDiff,Nat.reduceAdd,Nat.reduceLeDiff,reduceCtorEq,bW,v2,v4,w2,w4,d1,d7,d8]
  refine ak (vs:=[.agg [v,wsV R.ws],.lit (.int .i64 t)]) (by simp [v2,w2,aL,aH]) e_f70 hwv (by simp [v5,w5,aM,aD]) ?_
  simp (config:=KF) (disch:=omega) only [bZ,db,↓reduceIte,Nat.reduceEqDiff,hdg]
  cases c3:(delT t R.ws).isSome with
  | true =>
    have hs:=stay 11 (by unfold bQ; rw [if_neg c1,if_neg c2,if_pos c3])
    simp (config:=KF) (disch:=omega) only [bZ,retI,ah,aa,↓reduceIte,Nat.reduceEqDiff,Nat.reduceAdd,Nat.reduceLeDiff,af,ae,v2,v4,w2,w4]
    exact hs
  | false =>
    simp (config:=KF) (disch:=omega) only [bZ,aa,id,↓reduceIte,Nat.reduceEqDiff,Nat.reduceAdd,Nat.reduceLeDiff,v2,w2,d1]
    refine au (vs:=[.agg [v,wsV R.ws],.lit (.int .i64 p),dv]) (by simp [v2,w2,d1,aL,aH]) e_f53 (lx h (by omega) p hd hp) (by simp [v5,w5,d5,aM,aD]) fun r s1 hr=>?_
    obtain ⟨v',rfl,j1,j2⟩:=hr
    obtain ⟨z1,z2,z3,z4,z5,z6,z7⟩:=j1.facts
    by_cases c4:(rPub p d R).2 = 0
    · have hrs:bQ t p d R = ((rPub p d R).1,true,0):=by
        unfold bQ; rw [if_neg c1,if_neg c2,if_neg (by rw [c3]; simp),if_pos c4]
      rw [hrs] at hQ
      rw [c4]
      obtain ⟨x1,x2,x3,x4,x5,x6,x7,x8⟩:=aw (rPub p d R).1.ws
      simp (config:=KF) (disch:=omega) only [bZ,retI,ah,aa,en,↓reduceIte,Nat.reduceEqDiff,Nat.reduceAdd,Nat.reduceLeDiff,af,ae,d7,z2,z4,x2,x4]
      exact hQ _ _ ⟨v',rfl,j1.ex,j1.ok,j2⟩
    · obtain ⟨tk,rfl⟩:∃ tk:Nat,t = (tk:Int):=⟨t.toNat,by omega⟩
      have hrs:bQ (tk:Int) p d R = ((⟨R.subs,R.ws++[(tk,p,d)]⟩:HR),false,(0:Int)):=by
        unfold bQ; rw [if_neg c1,if_neg c2,if_neg (by rw [c3]; simp),if_neg c4]; rfl
      rw [hrs] at hQ
      obtain ⟨x1,x2,x3,x4,x5,x6,x7,x8⟩:=aw (rPub p d R).1.ws
      generalize (rPub p d R).2 = e at c4
      generalize (rPub p d R).1.ws = ww at x1 x2 x3 x4 x5 x6 x7
      have hfin:=hQ (.tup [.agg [v,wsV (R.ws++[(tk,p,d)])],.lit (.bool false),.lit (.int .i64 0)]) s1 ⟨v,rfl,(h.kp j2).ex,h.ok.mono (by omega),j2⟩
      have hwa:wsV (R.ws++[(tk,p,d)]) = .sl false 3 (R.ws.map wwV++[.agg [.lit (.int .i64 (tk:Nat)),.lit (.int .i64 p),msgV d]]):=by
        unfold wsV; rw [if_neg (by simp),List.map_append]; rfl
      rw [hwa] at hfin
      have hwd:=jp R.ws
      simp (config:=KF) (disch:=omega) only [bZ,eU,ah,addA,aa,en,↓reduceIte,Nat.reduceEqDiff,Nat.reduceAdd,Nat.reduceLeDiff,af,ae,w1,d7,z2,z4,x2,x4,c4]
      have hds:(dv = .sl false 1 []∧d = [])∨(dv = .lit (.slice none 0 0)∧d = [])∨∃ x q,d = x::q∧dv = .sl false 1 (.lit (.int .u8 x.toNat)::BB q):=by
        rcases hd with rfl | ⟨rfl,rfl⟩
        · cases d with
          | nil=>exact .inl ⟨rfl,rfl⟩
          | cons x q=>exact .inr (.inr ⟨x,q,rfl,rfl⟩)
        · exact .inr (.inl ⟨rfl,rfl⟩)
      have hm0:msgV [] = .lit (.slice none 0 0):=rfl
      have hmc:∀ (x:UInt8) q,msgV (x::q) = .sl false 1 (.lit (.int .u8 x.toNat)::BB q):=fun _ _=>rfl
      clear hwa hrs hQ stay
      cases hws:R.ws with
      | nil =>
        rw [hws] at hfin
        have hw0:wsV [] = .lit (.slice none 0 0):=rfl
        rw [hw0]
        rcases hds with ⟨e3,e4⟩ | ⟨e3,e4⟩ | ⟨x,q,e4,e3⟩
        · subst e3; subst e4
          rw [hm0] at hfin
          simp (config:=KF) (disch:=omega) only [bZ,retI,ek,eU,bstV,bt,ah,List.reduceReplicate,addA,aa,aI,srcA,aU,bV,↓reduceIte,Nat.reduceEqDiff,Nat.reduceAdd,Nat.reduceLT,Nat.reduceLeDiff,af,ae,v2,v4]
          exact hfin
        · subst e3; subst e4
          rw [hm0] at hfin
          simp (config:=KF) (disch:=omega) only [bZ,retI,ek,eU,bstV,bt,ah,List.reduceReplicate,addA,aa,aI,srcA,aU,bV,↓reduceIte,Nat.reduceEqDiff,Nat.reduceAdd,Nat.reduceLT,Nat.reduceLeDiff,af,ae,v2,v4]
          exact hfin
        · subst e3; subst e4
          have hlq:q.length≤100000:=by rw [List.length_cons] at hp; omega
          rw [hmc] at hfin
          simp (config:=KF) (disch:=omega) only [bZ,retI,ek,eU,bstV,bt,ah,List.reduceReplicate,addA,aa,aI,srcA,aU,bV,↓reduceIte,Nat.reduceEqDiff,Nat.reduceAdd,Nat.reduceLT,Nat.reduceLeDiff,aJ,jm,af,ae,v2,v4]
          exact hfin
      | cons a A =>
        rw [hws] at hfin hwd hwl
        have hw1:wsV (a::A) = .sl false 3 (wwV a::A.map wwV):=rfl
        have f1:(wwV a).dis = wwV a:=by have:=congrArg List.head? hwd; simpa using this
        have f2:(A.map wwV).map AV.dis = A.map wwV:=jp A
        have hlA:A.length≤1000:=by rw [List.length_cons] at hwl; omega
        rw [hw1]
        rcases hds with ⟨e3,e4⟩ | ⟨e3,e4⟩ | ⟨x,q,e4,e3⟩
        · subst e3; subst e4
          rw [hm0] at hfin
          simp (config:=KF) (disch:=omega) only [bZ,retI,ek,eU,bstV,bt,ah,List.reduceReplicate,addA,aa,aI,bg,srcA,aU,bV,List.cons_append,↓reduceIte,Nat.reduceEqDiff,Nat.reduceAdd,Nat.reduceLT,Nat.reduceLeDiff,bq,af,ae,v2,v4,f1,f2]
          exact hfin
        · subst e3; subst e4
          rw [hm0] at hfin
          simp (config:=KF) (disch:=omega) only [bZ,retI,ek,eU,bstV,bt,ah,List.reduceReplicate,addA,aa,aI,bg,srcA,aU,bV,List.cons_append,↓reduceIte,Nat.reduceEqDiff,Nat.reduceAdd,Nat.reduceLT,Nat.reduceLeDiff,bq,af,ae,v2,v4,f1,f2]
          exact hfin
        · subst e3; subst e4
          have hlq:q.length≤100000:=by rw [List.length_cons] at hp; omega
          rw [hmc] at hfin
          simp (config:=KF) (disch:=omega) only [bZ,retI,ek,eU,bstV,bt,ah,List.reduceReplicate,addA,aa,aI,bg,srcA,aU,bV,List.cons_append,↓reduceIte,Nat.reduceEqDiff,Nat.reduceAdd,Nat.reduceLT,Nat.reduceLeDiff,aJ,jm,bq,af,ae,v2,v4,f1,f2]
          exact hfin
end
end Go.Fx.YtbdjfccgkdgbfaaFx

