/- What the functions that the statement reaches compute: part 22. -/
import Derived.Test.YtbdjfccgkdgbfaaFxW21
namespace Go.Fx.YtbdjfccgkdgbfaaFx
open Go Go.Fx
attribute [local irreducible] aC runI az ar

set_option maxRecDepth 100000
set_option maxHeartbeats 4000000

/-! The reference goes on at a topic. -/
theorem qH (t:Int):∀ (ws:List WW) (k:Nat),(popR t ws = none∧fstI (fun w:WW=>decide (w.2.1 = t)) ws k = -1)∨∃ (i:Nat) (h:i < ws.length),popR t ws = some (ws[i],wo ws i)∧fstI (fun w:WW=>decide (w.2.1 = t)) ws k = ((k + i:Nat):Int)
 | [],_=>.inl ⟨rfl,rfl⟩
 | w :: r, k => by
   by_cases h:w.2.1 = t
   ·refine .inr ⟨0,Nat.zero_lt_succ _,?_,?_⟩
    ·simp [popR,h,wo]
    ·unfold fstI; rw [if_pos (decide_eq_true h)]; rfl
   ·rcases qH t r (k + 1) with ⟨h1,h2⟩ | ⟨i,hi,h1,h2⟩
    ·refine .inl ⟨by simp [popR,h,h1],?_⟩
     unfold fstI; rw [if_neg (by simpa using h)]
     rw [show (k:Int) + 1 = ((k + 1:Nat):Int) by omega]; exact h2
    ·refine .inr ⟨i + 1,Nat.succ_lt_succ hi,?_,?_⟩
     ·simp [popR,h,h1,wo]
     ·unfold fstI; rw [if_neg (by simpa using h)]
      rw [show (k:Int) + 1 = ((k + 1:Nat):Int) by omega,h2]; omega
theorem give_used {S:Sb} (p:List UInt8) (h:used S.msgs≤S.room):used (cf p S).msgs≤(cf p S).room:=by
 unfold cf
 split
 ·rename_i hc
  simp only [iM,used]; omega
 ·split
  ·rename_i hc
   have:=(eB hc.1 S.msgs S.lost).1
   simp only [iM,used]; omega
  ·exact h
theorem SOk.pub {subs:List Sb} {n:Nat} (h:SOk subs n) (t:Int) (p:List UInt8):SOk (pubR t p subs) (n + 1):=by
 refine ⟨by rw [pubR,List.length_map]; exact h.len,fun S hS=>?_⟩
 obtain ⟨T,hT,rfl⟩:=List.mem_map.1 hS
 obtain ⟨a,b,c⟩:=h.ok T hT
 split
 ·obtain ⟨g1,g2,g3,g4,g5⟩:=dM p T
  exact ⟨give_used p a,by rw [g3]; exact b,by omega⟩
 ·exact ⟨a,b,by omega⟩
theorem qI {A:Type} {l:List A} {i:Nat} (h:i < l.length):(wo l i).length + 1 = l.length:=by
 unfold wo; rw [List.length_append,List.length_take,List.length_drop]; omega

section
variable {es:List AV} {subs:List Sb} {ws:List WW} {st:St} {v:AV}
theorem lB {n:Nat} (hv:SV v st es) (h:Es es subs) (hs:SOk subs n) (hw:ws.length≤64) (hd:∀ w ∈ ws,w.2.2.length≤100000) (hn:n < 800000) (t:Int) :
  am Go.Proofs.Try.prog n_f71 [.agg [v,wsV ws],.lit (.int .i64 t)] st (fun r st'=>∃ v' es',r = .tup [.agg [v',wsV (onR t ws.length ⟨subs,ws⟩).1.ws],itsV (onR t ws.length ⟨subs,ws⟩).2]∧SV v' st' es'∧Es es' (onR t ws.length ⟨subs,ws⟩).1.subs∧SOk (onR t ws.length ⟨subs,ws⟩).1.subs (n + 64)∧Kp st st' []):=by
 obtain ⟨v1,v2,v3,v4,v5,v6,v7,v8⟩:=hv.facts
 obtain ⟨w1,w2,w3,w4,w5,w6,w7,w8⟩:=aw ws
 refine ap hmix k_f71 rfl rfl fun Q hQ=>?_
 unfold aFun c_f71
 simp (config:=KF) (disch:=omega) only [bZ,ae,id,↓reduceIte,Nat.reduceEqDiff,Nat.reduceAdd,Nat.reduceLeDiff,reduceCtorEq,v2,v4,w2,w4]
 refine ak (vs:=[.agg [v,wsV ws],.lit (.int .i64 t)]) (by simp [v2,w2,aH,bY,aL]) e_f67 (qG hv h hs.len (by omega) t) (by simp [v5,w5,aI,aD]) ?_
 simp (config:=KF) (disch:=omega) only [bZ,↓reduceIte,Nat.reduceEqDiff]
 rw [f71_9w]
 refine a8 (A:=HR×List Nat×AV×List AV×Nat×St) (fun a=>a.1.ws.length) (fun a=>⟨[(1,.lit (.int .i64 t)),(2,.lptr 2 0),(4,.lptr 4 0),(6,dO a.2.1),(7,.lit (.int .i64 (fstI (fun w:WW=>decide (w.2.1 = t)) a.1.ws 0)))],[(2,[a.2.2.1,wsV a.1.ws]),(4,[.lit (.slice none 0 0),.lit (.slice none 0 0)])]⟩) (fun a=>a.2.2.2.2.2)
  (fun a=>SV a.2.2.1 a.2.2.2.2.2 a.2.2.2.1∧Es a.2.2.2.1 a.1.subs∧SOk a.1.subs a.2.2.2.2.1∧a.2.2.2.2.1 + a.1.ws.length≤n + ws.length∧(∀ w ∈ a.1.ws,w.2.2.length≤100000)∧Kp st a.2.2.2.2.2 []∧a.2.1.length + a.1.ws.length≤64∧onR t ws.length ⟨subs,ws⟩ = ((onR t a.1.ws.length a.1).1,a.2.1++(onR t a.1.ws.length a.1).2))
  (⟨subs,ws⟩,[],v,es,n,st) ⟨hv,h,hs,Nat.le_refl _,hd,Kp.refl _ _,by simpa using hw,by simp⟩ (Sf.le_refl _) rfl ?_
 rintro ⟨⟨sb1,ws1⟩,out,u,es1,n1,s1⟩ ⟨i1,i2,i3,i4,i5,i6,i7,i8⟩ K hK hKe hKr
 simp only at i1 i2 i3 i4 i5 i6 i7 i8
 dsimp only
 obtain ⟨u1,u2,u3,u4,u5,u6,u7,u8⟩:=i1.facts
 obtain ⟨x1,x2,x3,x4,x5,x6,x7,x8⟩:=aw ws1
 rcases qH t ws1 0 with ⟨p1,p2⟩ | ⟨i,hi,p1,p2⟩
 ·rw [show ((0:Nat):Int) = 0 from rfl] at p2
  rw [p2]
  rw [onR_none (R:=⟨sb1,ws1⟩) p1] at i8
  simp (config:=KF) (disch:=omega) only [bZ,dz,dc,fp,AI.dst,dt,↓reduceIte,Nat.reduceEqDiff,Int.reduceNeg,eO]
  refine hKe _ _ _ ?_
  have hid:=mA out
  have hin:(itsV out).noL = true:=(aU out).2.2.2
  have hid2:(itsV out).dis = itsV out:=(aU out).1
  simp (config:=KF) (disch:=omega) only [bZ,retI,ah,ae,↓reduceIte,Nat.reduceEqDiff,Nat.reduceAdd,Nat.reduceLeDiff,af,aa,u2,u4,x2,x4,hid,hin,hid2]
  refine hQ _ _ ⟨u,es1,?_,i1,?_,?_,i6⟩
  ·rw [i8]; simp
  ·rw [i8]; exact i2
  ·rw [i8]
   exact ⟨i3.len,fun S hS=>by obtain ⟨a,b,c⟩:=i3.ok S hS; exact ⟨a,b,by omega⟩⟩
 ·rw [show ((0:Nat):Int) = 0 from rfl,Nat.zero_add] at p2
  rw [p2]
  have hg:=kL hi
  have hwl:=qI hi
  have hwd:∀ w ∈ wo ws1 i,w.2.2.length≤100000:=fun w hw=>by
   unfold wo at hw
   rcases List.mem_append.1 hw with hw | hw
   ·exact i5 w (List.mem_of_mem_take hw)
   ·exact i5 w (List.mem_of_mem_drop hw)
  have hdp:=pC (ws:=ws1) (v:=u) ⟨u1,u2,u3,u4,u5,u6,u7⟩ (by omega) hi
  have hwv:wsV ws1 = .sl false 3 (ws1.map wwV):=by unfold wsV; rw [if_neg (fun e=>by rw [e] at hi; simp at hi)]
  have hdata:=i5 ws1[i] (List.getElem_mem hi)
  have hcan:=can_v (ws:=ws1) i1 i2 i3 t (MV.msg ws1[i].2.2) hdata
  have hpub:=fun ws'=>oa (ws:=ws') i1 i2 i3 (by omega) t (MV.msg ws1[i].2.2) hdata
  obtain ⟨m1,m2,m3,m4,m5,m6,m7,m8⟩:=(MV.msg ws1[i].2.2).facts
  obtain ⟨y1,y2,y3,y4,y5,y6,y7,y8⟩:=aw (wo ws1 i)
  have hgo:=fun hc=>onR_go (R:=⟨sb1,ws1⟩) p1 hc
  have hstop:=fun hc=>onR_stop (k:=ws1.length) (R:=⟨sb1,ws1⟩) p1 hc
  simp only at hgo hstop
  generalize ws1[i] = w at hg hdata hcan hpub m1 m2 m3 m4 m5 m6 m7 m8 hgo hstop
  generalize hmv:msgV w.2.2 = mv at hg hcan hpub m1 m2 m3 m4 m5 m6 m7 m8
  rw [hwv] at x1 x2 x3 x4 x5 x6 x7 hdp hcan ⊢
  simp (config:=KF) (disch:=omega) only [bZ,dz,jP,co,AI.dst,ixSV,addA,ae,dt,id,↓reduceIte,Nat.reduceEqDiff,Nat.reduceAdd,Nat.reduceLeDiff,dA,u2,m1,hg]
  refine ak (vs:=[.agg [u,.sl false 3 (ws1.map wwV)],.lit (.int .i64 t),mv]) (by simp [u2,m1,aH,bN,aL]) e_f68 hcan (by simp [u5,m5,aI,aD,ci]) ?_
  cases hc:canR t w.2.2.length sb1 with
  | false =>
    rw [hstop hc] at i8
    simp (config:=KF) (disch:=omega) only [bZ,↓reduceIte,Nat.reduceEqDiff]
    refine hKe _ _ _ ?_
    have hid:=mA out
    have hin:(itsV out).noL = true:=(aU out).2.2.2
    have hid2:(itsV out).dis = itsV out:=(aU out).1
    simp (config:=KF) (disch:=omega) only [bZ,retI,ah,ae,↓reduceIte,Nat.reduceEqDiff,Nat.reduceAdd,Nat.reduceLeDiff,af,aa,u2,u4,hid,hin,hid2]
    rw [← hwv]
    refine hQ _ _ ⟨u,es1,?_,i1,?_,?_,i6⟩
    ·rw [i8]; simp
    ·rw [i8]; exact i2
    ·rw [i8]
     exact ⟨i3.len,fun S hS=>by obtain ⟨a,b,c⟩:=i3.ok S hS; exact ⟨a,b,by omega⟩⟩
  | true =>
    rw [hgo hc] at i8
    simp (config:=KF) (disch:=omega) only [bZ,dH,ixSV,ah,addA,ae,id,ej,dq,↓reduceIte,Nat.reduceEqDiff,Nat.reduceAdd,Nat.reduceLeDiff,af,aa,u2,m2,m4,hg]
    refine eN (vs:=[.agg [u,.sl false 3 (ws1.map wwV)],.lit (.int .i64 (i:Nat))]) (by simp [u2,aH,bN,aL]) e_f72 (hdp s1) (by simp [u5,aI,aD,ci]) ?_
    simp (config:=KF) (disch:=omega) only [bZ,cx,addA,ae,id,↓reduceIte,Nat.reduceEqDiff,m1]
    refine aq (vs:=[.agg [u,wsV (wo ws1 i)],.lit (.int .i64 t),mv]) (by simp [u2,y2,m1,aH,aL]) e_f69 (hpub (wo ws1 i)) (by simp [u5,y5,m5,aI,aD]) fun r s2 hr=>?_
    obtain ⟨u',es',rfl,j1,j2,j3⟩:=hr
    obtain ⟨z1,z2,z3,z4,z5,z6,z7,z8⟩:=j1.facts
    have hs3:=i3.pub t w.2.2
    have hfr:=qG (ws:=wo ws1 i) j1 j2 hs3.len (by omega) t
    have hpt:dO (out++[w.1]) = .sl true 4 (out.map itA++[itA w.1]):=its_snoc out w.1
    have hfin:∀ sf',Sf.le (sf'.mask [1,2,4,6,7] [2,4]) ⟨[(1,.lit (.int .i64 t)),(2,.lptr 2 0),(4,.lptr 4 0),(6,dO (out++[w.1])),(7,.lit (.int .i64 (fstI (fun w:WW=>decide (w.2.1 = t)) (wo ws1 i) 0)))],[(2,[u',wsV (wo ws1 i)]),(4,[.lit (.slice none 0 0),.lit (.slice none 0 0)])]⟩→K .normal sf' s2:=fun sf' hsf =>
     hK (⟨pubR t w.2.2 sb1,wo ws1 i⟩,out++[w.1],u',es',n1 + 1,s2) sf' ⟨j1,j2,hs3,by simp only; omega,hwd,i6.trans j3 fun _ q=>(by cases q),by simp only [List.length_append,List.length_cons,List.length_nil]; omega,by rw [i8]; simp⟩ (by simp only; omega) hsf
    rw [hpt] at hfin
    have hol:out.length < 65:=by omega
    have hid:=itA_dis out
    by_cases ho:out = []
    ·have hia:dO out = .lit (.slice none 0 0):=by unfold dO; rw [if_pos ho]
     rw [hia]
     rw [ho] at hfin
     simp (config:=KF) (disch:=omega) only [bZ,ei,bstV,bF,ah,List.reduceReplicate,addA,ae,aQ,srcA,aV,id,cb,↓reduceIte,Nat.reduceEqDiff,Nat.reduceAdd,Nat.reduceLT,Nat.reduceLeDiff,af,aa,z2,z4,y2,y4]
     refine ak (vs:=[.agg [u',wsV (wo ws1 i)],.lit (.int .i64 t)]) (by simp [z2,y2,aH,aL]) e_f67 hfr (by simp [z5,y5,aI,aD]) ?_
     simp (config:=KF) (disch:=omega) only [bZ,↓reduceIte,Nat.reduceEqDiff]
     exact hfin _ (Sf.le_refl _)
    ·have hia:dO out = .sl true 4 (out.map itA):=by unfold dO; rw [if_neg ho]
     rw [hia]
     simp (config:=KF) (disch:=omega) only [bZ,ei,bstV,bF,ah,List.reduceReplicate,addA,ae,br,srcA,aV,id,cb,dq,↓reduceIte,Nat.reduceEqDiff,Nat.reduceAdd,Nat.reduceLT,Nat.reduceLeDiff,af,aa,z2,z4,y2,y4]
     refine ak (vs:=[.agg [u',wsV (wo ws1 i)],.lit (.int .i64 t)]) (by simp [z2,y2,aH,aL]) e_f67 hfr (by simp [z5,y5,aI,aD]) ?_
     simp (config:=KF) (disch:=omega) only [bZ,↓reduceIte,Nat.reduceEqDiff]
     exact hfin _ (Sf.le_refl _)
end
end Go.Fx.YtbdjfccgkdgbfaaFx

namespace Go.Fx.YtbdjfccgkdgbfaaFx
open Go Go.Fx
attribute [local irreducible] aC runI az ar

set_option maxRecDepth 100000
set_option maxHeartbeats 4000000

/-! The reference's calls. -/
structure RH (v:AV) (st:St) (n:Nat) (R:HR):Prop where
 ex:∃ es,SV v st es∧Es es R.subs
 ok:SOk R.subs n
 wl:R.ws.length≤64
 wd:∀ w ∈ R.ws,w.2.2.length≤100000
theorem SOk.mono {subs:List Sb} {n m:Nat} (h:SOk subs n) (hm:n≤m):SOk subs m:=⟨h.len,fun S hS=>by obtain ⟨a,b,c⟩:=h.ok S hS; exact ⟨a,b,by omega⟩⟩
theorem RH.facts {v:AV} {st:St} {n:Nat} {R:HR} (h:RH v st n R):v.dis = v∧v.own1 = v∧v.own2 = v∧v.solid1 = true∧v.noL = true∧v.cells = [v]∧∀ s,kill s v = v:=by
 obtain ⟨es,h1,h2⟩:=h.ex
 obtain ⟨a,b,c,d,e,f,g,_⟩:=h1.facts
 exact ⟨a,b,c,d,e,f,g⟩
theorem pop_geq (t:Int) (ws:List WW):decide (fstI (fun w:WW=>decide (w.2.1 = t)) ws 0 ≥ 0) = (popR t ws).isSome:=by
 rcases qH t ws 0 with ⟨p1,p2⟩ | ⟨i,hi,p1,p2⟩
 ·rw [show ((0:Nat):Int) = 0 from rfl] at p2
  rw [p1,p2]; rfl
 ·rw [show ((0:Nat):Int) = 0 from rfl] at p2
  rw [p1,p2]
  exact decide_eq_true (by omega)

section
variable {st:St} {v:AV} {n:Nat} {R:HR}
theorem ma (h:RH v st n R) (hn:n < 800000) (t:Int) {dv:AV} {p:List UInt8} (hd:MV dv p) (hp:p.length≤100000) :
  am Go.Proofs.Try.prog n_f53 [.agg [v,wsV R.ws],.lit (.int .i64 t),dv] st (fun r st'=>∃ v',r = .tup [.agg [v',wsV (rPub t p R).1.ws],.lit (.int .i64 (rPub t p R).2)]∧RH v' st' (n + 1) (rPub t p R).1∧Kp st st' []):=by
 obtain ⟨v1,v2,v3,v4,v5,v6,v7⟩:=h.facts
 obtain ⟨w1,w2,w3,w4,w5,w6,w7,w8⟩:=aw R.ws
 obtain ⟨d1,d2,d3,d4,d5,d6,d7,d8⟩:=hd.facts
 obtain ⟨es,e1,e2⟩:=h.ex
 have hwl:=h.wl
 refine ap hmix k_f53 rfl rfl fun Q hQ=>?_
 unfold aFun c_f53
 have stay:∀ b,rPub t p R = (R,b)→Q (.tup [.agg [v,wsV R.ws],.lit (.int .i64 b)]) st:=fun b hr=>by
  refine hQ _ _ ⟨v,?_⟩
  rw [hr]
  exact ⟨rfl,⟨h.ex,h.ok.mono (Nat.le_succ n),h.wl,h.wd⟩,Kp.refl _ _⟩
 by_cases c1:t < 0∨16≤t
 ·have hs:=stay 2 (by unfold rPub; rw [if_pos c1])
  (repeat' (first | omega | (simp (config:=KF) (disch:=omega) only [bZ,retI,AI.dst,ah,ae,dt,↓reduceIte,Nat.reduceEqDiff,Nat.reduceAdd,Nat.reduceLeDiff,reduceCtorEq,af,aa,v2,v4,w2,w4,d1,d7]) | refine aS (fun h=>?_) (fun h=>?_) | refine b8 (fun h=>?_) (fun h=>?_) | refine dJ (fun h=>?_) (fun h=>?_) | exact hs))
 by_cases c2:1024 < p.length
 ·have hs:=stay 5 (by unfold rPub; rw [if_neg c1,if_pos c2])
  simp (config:=KF) (disch:=omega) only [bZ,retI,AI.dst,ah,ae,dt,↓reduceIte,Nat.reduceEqDiff,Nat.reduceAdd,Nat.reduceLeDiff,reduceCtorEq,cd,af,aa,v2,v4,w2,w4,d1,d7,d8]
  exact hs
 have hpg:=pop_geq t R.ws
 simp (config:=KF) (disch:=omega) only [bZ,AI.dst,ae,dt,id,↓reduceIte,Nat.reduceEqDiff,Nat.reduceAdd,Nat.reduceLeDiff,reduceCtorEq,cd,v2,v4,w2,w4,d1,d7,d8]
 refine ak (vs:=[.agg [v,wsV R.ws],.lit (.int .i64 t)]) (by simp [v2,w2,aH,aL]) e_f67 (qG e1 e2 h.ok.len (by omega) t) (by simp [v5,w5,aI,aD]) ?_
 simp (config:=KF) (disch:=omega) only [bZ,AI.dst,dt,↓reduceIte,Nat.reduceEqDiff,hpg]
 cases c3:(popR t R.ws).isSome with
 | true =>
   have hs:=stay 16 (by unfold rPub; rw [if_neg c1,if_neg c2,if_pos (.inl c3)])
   simp (config:=KF) (disch:=omega) only [bZ,retI,AI.dst,ah,ae,↓reduceIte,Nat.reduceEqDiff,Nat.reduceAdd,Nat.reduceLeDiff,af,aa,v2,v4,w2,w4]
   exact hs
 | false =>
   simp (config:=KF) (disch:=omega) only [bZ,AI.dst,ae,id,↓reduceIte,Nat.reduceEqDiff,Nat.reduceAdd,Nat.reduceLeDiff,v2,w2,d1]
   refine ak (vs:=[.agg [v,wsV R.ws],.lit (.int .i64 t),dv]) (by simp [v2,w2,d1,aH,aL]) e_f68 (can_v e1 e2 h.ok t hd hp) (by simp [v5,w5,d5,aI,aD]) ?_
   cases c4:canR t p.length R.subs with
   | false =>
     have hs:=stay 16 (by unfold rPub; rw [if_neg c1,if_neg c2,if_pos (.inr c4)])
     simp (config:=KF) (disch:=omega) only [bZ,retI,AI.dst,ah,ae,unA,↓reduceIte,Nat.reduceEqDiff,Nat.reduceAdd,Nat.reduceLeDiff,af,aa,v2,v4,w2,w4]
     exact hs
   | true =>
     have hrp:rPub t p R = (⟨pubR t p R.subs,R.ws⟩,0):=by
      unfold rPub
      rw [if_neg c1,if_neg c2,if_neg]
      rw [c3,c4]; simp
     rw [hrp] at hQ
     simp (config:=KF) (disch:=omega) only [bZ,AI.dst,ae,unA,id,↓reduceIte,Nat.reduceEqDiff,Nat.reduceAdd,Nat.reduceLeDiff,v2,w2,d1]
     refine aq (vs:=[.agg [v,wsV R.ws],.lit (.int .i64 t),dv]) (by simp [v2,w2,d1,aH,aL]) e_f69 (oa e1 e2 h.ok (by omega) t hd hp) (by simp [v5,w5,d5,aI,aD]) fun r s1 hr=>?_
     obtain ⟨v',es',rfl,j1,j2,j3⟩:=hr
     obtain ⟨z1,z2,z3,z4,z5,z6,z7,z8⟩:=j1.facts
     simp (config:=KF) (disch:=omega) only [bZ,retI,ah,ae,↓reduceIte,Nat.reduceEqDiff,Nat.reduceAdd,Nat.reduceLeDiff,af,aa,z2,z4,w2,w4]
     exact hQ _ _ ⟨v',rfl,⟨⟨es',j1,j2⟩,h.ok.pub t p,h.wl,h.wd⟩,j3⟩
end
end Go.Fx.YtbdjfccgkdgbfaaFx

