/- What the functions that the statement reaches compute: part 25. -/
import Derived.Test.YtbdjfccgkdgbfaaFxW24
namespace Go.Fx.YtbdjfccgkdgbfaaFx
open Go Go.Fx
attribute [local irreducible] aC runI az ar

set_option maxRecDepth 100000
set_option maxHeartbeats 4000000

section
variable {st:St} {es:List AV} {n:Nat} {R:HR}
theorem qJ (h:RH (.sl false 6 es) st n R) (he:Es es R.subs) (hn:n < 700000) (t:Int) :
  am Go.Proofs.Try.prog n_f56 [.agg [.sl false 6 es,wsV R.ws],.lit (.int .i64 t)] st (fun r st'=>∃ v',r = .tup [.agg [v',wsV (cC t R).1.ws],itsV (cC t R).2.1,.lit (.int .i64 (cC t R).2.2)]∧(∃ es,SV v' st' es∧Es es (cC t R).1.subs)∧SOk (cC t R).1.subs (n + 64)∧Kp st st' []):=by
 obtain ⟨w1,w2,w3,w4,w5,w6,w7,w8⟩:=aw R.ws
 have hwl:=h.wl
 have hel:=he.1
 have hsl:=h.ok.len
 refine ap hmix k_f56 rfl rfl fun Q hQ=>?_
 unfold aFun c_f56
 have hat:=mF (ws:=R.ws) he hsl t st
 simp (config:=KF) (disch:=omega) only [bZ,ae,id,↓reduceIte,Nat.reduceEqDiff,Nat.reduceAdd,Nat.reduceLeDiff,reduceCtorEq,w2,w4]
 refine ak (vs:=[.agg [.sl false 6 es,wsV R.ws],.lit (.int .i64 t)]) (by simp [w2,aH,bN,aL]) e_f35 hat (by simp [w5,aI,aD,ci]) ?_
 rcases ob t R.subs 0 with ⟨p1,p2⟩ | ⟨i,hi,p1,p3,_,p2⟩
 ·rw [show ((0:Nat):Int) = 0 from rfl] at p2
  rw [p2]
  have hs:Q (.tup [.agg [.sl false 6 es,wsV R.ws],.lit (.slice none 0 0),.lit (.int .i64 9)]) st:=by
   refine hQ _ _ ⟨.sl false 6 es,?_⟩
   have hr:cC t R = (R,[],9):=by unfold cC; rw [p1]
   rw [hr]
   exact ⟨rfl,h.ex,h.ok.mono (by omega),Kp.refl _ _⟩
  simp (config:=KF) (disch:=omega) only [bZ,retI,ah,ae,↓reduceIte,Nat.reduceEqDiff,Nat.reduceAdd,Nat.reduceLeDiff,Int.reduceLT,Int.reduceNeg,af,aa,w2,w4]
  exact hs
 ·rw [show ((0:Nat):Int) = 0 from rfl,Nat.zero_add] at p2
  rw [p2]
  obtain ⟨rv,hrv,hg⟩:=he.at hi
  have hwo:=he.wo hi
  have hsw:SOk (wo R.subs i) n:=⟨by have:=qI hi; omega,fun S hS=>by
   unfold wo at hS
   rcases List.mem_append.1 hS with hS | hS
   ·exact h.ok.ok S (List.mem_of_mem_take hS)
   ·exact h.ok.ok S (List.mem_of_mem_drop hS)⟩
  have hrl:cC t R = ((onR R.subs[i].topic R.ws.length ⟨wo R.subs i,R.ws⟩).1,(onR R.subs[i].topic R.ws.length ⟨wo R.subs i,R.ws⟩).2,0):=by
   unfold cC; rw [p1,p3]
  rw [hrl] at hQ
  unfold sbV at hg
  have hon:=fun v' (hv':SV v' st (wo es i))=>lB hv' hwo hsw h.wl h.wd (by omega) R.subs[i].topic
  obtain ⟨r1,r2,r3,r4,r5,r6,r7,r8⟩:=hrv.facts
  generalize R.subs[i] = S at hg hQ hon hrv r1 r2 r3 r4 r5 r6 r7 r8
  have ht:(es.take i).length = i:=by rw [List.length_take]; omega
  have hA:(es.take i).map AV.dis = es.take i:=jS fun e he'=>he.sc e (List.mem_of_mem_take he')
  have hB:(es.drop (i + 1)).map AV.dis = es.drop (i + 1):=jS fun e he'=>he.sc e (List.mem_of_mem_drop he')
  have hAl:(es.take i).length≤1000:=by omega
  have hBl:(es.drop (i + 1)).length≤1000:=by rw [List.length_drop]; omega
  have hsc:=he.sc
  have ht1:es.take i = es.take i:=rfl
  simp only at hQ
  generalize onR S.topic R.ws.length ⟨wo R.subs i,R.ws⟩ = O at hQ hon
  clear hat hwo hrl
  unfold wo at hon
  clear ht
  generalize hAe:es.take i = A at hon hA hAl
  generalize hBe:es.drop (i + 1) = B at hon hB hBl
  have ht1:=hAe
  have hd1:=hBe
  have htk:es.take R.subs.length = es:=List.take_of_length_le (by omega)
  cases A with
  | nil =>
   cases B with
   | nil =>
    have hsv:SV (.lit (.slice none 0 0)) st ([]++[]):=.inl ⟨rfl,rfl⟩
    simp (config:=KF) (disch:=omega) only [bZ,f0,iC,ixSV,dp,bF,ah,ixTo,addA,ae,aQ,srcA,id,↓reduceIte,Nat.reduceEqDiff,Nat.reduceAdd,Nat.reduceLeDiff,af,aa,w2,hg,hel,ht1,hd1,htk]
    refine aq (vs:=[.agg [.lit (.slice none 0 0),wsV R.ws],.lit (.int .i64 S.topic)]) (by simp [w2,aH,bN,bY,aL]) e_f71 (hon (.lit (.slice none 0 0)) hsv) (by simp [w5,aI,aD,ci]) fun r s1 hr=>?_
    obtain ⟨v',es',rfl,j1,j2,j3,j4⟩:=hr
    obtain ⟨z1,z2,z3,z4,z5,z6,z7,z8⟩:=j1.facts
    obtain ⟨x1,x2,x3,x4,x5,x6,x7,x8⟩:=aw O.1.ws
    obtain ⟨t1,t2,t3,t4⟩:=aU O.2
    simp (config:=KF) (disch:=omega) only [bZ,retI,ah,ae,↓reduceIte,Nat.reduceEqDiff,Nat.reduceAdd,Nat.reduceLeDiff,af,aa,z2,z4,x2,x4,t1,t2,t4]
    exact hQ _ _ ⟨v',rfl,⟨es',j1,j2⟩,j3,j4⟩
   | cons b B =>
    have hsv:SV (.sl false 6 (b::B)) st ([]++b::B):=.inr (.inl rfl)
    have e1:b.dis = b:=by have:=congrArg List.head? hB; simpa using this
    have e2:B.map AV.dis = B:=by have:=congrArg List.tail hB; simpa using this
    rw [List.length_cons] at hBl
    simp (config:=KF) (disch:=omega) only [bZ,f0,iC,ixSV,dp,bF,ah,ixTo,addA,ae,aQ,srcA,id,↓reduceIte,Nat.reduceEqDiff,Nat.reduceAdd,Nat.reduceLeDiff,af,aa,w2,hg,hel,ht1,hd1,htk,e1,e2]
    refine aq (vs:=[.agg [.sl false 6 (b::B),wsV R.ws],.lit (.int .i64 S.topic)]) (by simp [w2,aH,bN,bY,aL]) e_f71 (hon (.sl false 6 (b::B)) hsv) (by simp [w5,aI,aD,ci]) fun r s1 hr=>?_
    obtain ⟨v',es',rfl,j1,j2,j3,j4⟩:=hr
    obtain ⟨z1,z2,z3,z4,z5,z6,z7,z8⟩:=j1.facts
    obtain ⟨x1,x2,x3,x4,x5,x6,x7,x8⟩:=aw O.1.ws
    obtain ⟨t1,t2,t3,t4⟩:=aU O.2
    simp (config:=KF) (disch:=omega) only [bZ,retI,ah,ae,↓reduceIte,Nat.reduceEqDiff,Nat.reduceAdd,Nat.reduceLeDiff,af,aa,z2,z4,x2,x4,t1,t2,t4]
    exact hQ _ _ ⟨v',rfl,⟨es',j1,j2⟩,j3,j4⟩
  | cons a A =>
   have f1:a.dis = a:=by have:=congrArg List.head? hA; simpa using this
   have f2:A.map AV.dis = A:=by have:=congrArg List.tail hA; simpa using this
   rw [List.length_cons] at hAl
   cases B with
   | nil =>
    have hsv:SV (.sl false 6 (a::A)) st (a::A++[]):=.inr (.inl (by rw [List.append_nil]))
    simp (config:=KF) (disch:=omega) only [bZ,f0,iC,ixSV,dp,bF,ah,ixTo,addA,ae,aQ,br,srcA,id,List.cons_append,↓reduceIte,Nat.reduceEqDiff,Nat.reduceAdd,Nat.reduceLeDiff,bC,af,aa,w2,hg,hel,ht1,hd1,htk,f1,f2]
    refine aq (vs:=[.agg [.sl false 6 (a::A),wsV R.ws],.lit (.int .i64 S.topic)]) (by simp [w2,aH,bN,bY,aL]) e_f71 (hon (.sl false 6 (a::A)) hsv) (by simp [w5,aI,aD,ci]) fun r s1 hr=>?_
    obtain ⟨v',es',rfl,j1,j2,j3,j4⟩:=hr
    obtain ⟨z1,z2,z3,z4,z5,z6,z7,z8⟩:=j1.facts
    obtain ⟨x1,x2,x3,x4,x5,x6,x7,x8⟩:=aw O.1.ws
    obtain ⟨t1,t2,t3,t4⟩:=aU O.2
    simp (config:=KF) (disch:=omega) only [bZ,retI,ah,ae,↓reduceIte,Nat.reduceEqDiff,Nat.reduceAdd,Nat.reduceLeDiff,af,aa,z2,z4,x2,x4,t1,t2,t4]
    exact hQ _ _ ⟨v',rfl,⟨es',j1,j2⟩,j3,j4⟩
   | cons b B =>
    have hsv:SV (.sl false 6 (a::(A++b::B))) st (a::A++b::B):=.inr (.inl rfl)
    have e1:b.dis = b:=by have:=congrArg List.head? hB; simpa using this
    have e2:B.map AV.dis = B:=by have:=congrArg List.tail hB; simpa using this
    rw [List.length_cons] at hBl
    simp (config:=KF) (disch:=omega) only [bZ,f0,iC,ixSV,dp,bF,ah,ixTo,addA,ae,aQ,br,srcA,id,List.cons_append,↓reduceIte,Nat.reduceEqDiff,Nat.reduceAdd,Nat.reduceLeDiff,bC,af,aa,w2,hg,hel,ht1,hd1,htk,f1,f2,e1,e2]
    refine aq (vs:=[.agg [.sl false 6 (a::(A++b::B)),wsV R.ws],.lit (.int .i64 S.topic)]) (by simp [w2,aH,bN,bY,aL]) e_f71 (hon (.sl false 6 (a::(A++b::B))) hsv) (by simp [w5,aI,aD,ci]) fun r s1 hr=>?_
    obtain ⟨v',es',rfl,j1,j2,j3,j4⟩:=hr
    obtain ⟨z1,z2,z3,z4,z5,z6,z7,z8⟩:=j1.facts
    obtain ⟨x1,x2,x3,x4,x5,x6,x7,x8⟩:=aw O.1.ws
    obtain ⟨t1,t2,t3,t4⟩:=aU O.2
    simp (config:=KF) (disch:=omega) only [bZ,retI,ah,ae,↓reduceIte,Nat.reduceEqDiff,Nat.reduceAdd,Nat.reduceLeDiff,af,aa,z2,z4,x2,x4,t1,t2,t4]
    exact hQ _ _ ⟨v',rfl,⟨es',j1,j2⟩,j3,j4⟩
end
end Go.Fx.YtbdjfccgkdgbfaaFx

namespace Go.Fx.YtbdjfccgkdgbfaaFx
open Go Go.Fx
attribute [local irreducible] aC runI az ar

set_option maxRecDepth 100000
set_option maxHeartbeats 4000000

theorem wtR_app (t:Int):∀ a b:List WW,wtR t (a++b) = wtR t a + wtR t b
 | [],b=>by simp [wtR]
 | w::r,b=>by simp only [List.cons_append,wtR,wtR_app t r b]; omega
theorem wtR_le (t:Int):∀ a:List WW,wtR t a≤a.length
 | []=>Nat.le_refl _
 | w :: r => by
   have:=wtR_le t r
   simp only [wtR,List.length_cons]
   split <;> omega
section
variable {es:List AV} {ws:List WW}
theorem oH (h:es.length≤1000) (hl:ws.length≤1000) (n:Int) (st:St):aB Go.Proofs.Try.prog n_f36 [.agg [.sl false 6 es,wsV ws],.lit (.int .i64 n)] st (.lit (.int .i64 (wtR n ws:Nat))):=by
 obtain ⟨w1,w2,w3,w4,w5,w6,w7,w8⟩:=aw ws
 refine aF hmix k_f36 rfl rfl fun Q hQ=>?_
 unfold aFun c_f36
 simp (config:=KF) (disch:=omega) only [bZ,↓reduceIte,Nat.reduceEqDiff,Nat.reduceAdd,reduceCtorEq,w2,w4]
 rw [f36_9w]
 refine a8 (A:=Nat) (fun i=>ws.length - i) (fun i=>⟨[(1,.lit (.int .i64 n)),(2,.lptr 2 0),(5,.lit (.int .i64 (wtR n (ws.take i):Nat))),(6,.lit (.int .i64 (i:Nat)))],[(2,[.sl false 6 es,wsV ws])]⟩) (fun _=>st)
  (fun i=>i≤ws.length) 0 (Nat.zero_le _) (Sf.le_refl _) rfl ?_
 intro i i1 K hK hKe hKr
 by_cases h3:i < ws.length
 ·have hg:=kL h3
  have hwv:wsV ws = .sl false 3 (ws.map wwV):=by unfold wsV; rw [if_neg (fun e=>by rw [e] at h3; simp at h3)]
  have hst:wtR n (ws.take (i + 1)) = wtR n (ws.take i) + if ws[i].2.1 = n then 1 else 0:=by
   rw [List.take_succ_eq_append_getElem h3,wtR_app]; simp [wtR]
  have hle:=wtR_le n (ws.take i)
  rw [List.length_take] at hle
  have hK2:=hK (i + 1)
  simp only [hst] at hK2
  generalize ws[i] = w at hg hK2
  generalize wtR n (ws.take i) = u at hK2 hle
  rw [hwv] at hK2 w1 w2 w3 w4 w5 w6 w7 ⊢
  by_cases h4:w.2.1 = n
  ·rw [if_pos h4] at hK2
   simp (config:=KF) (disch:=omega) only [bZ,ixSV,lenI,addA,ae,↓reduceIte,Nat.reduceEqDiff,hg]
   exact hK2 _ h3 (by omega) (Sf.le_refl _)
  ·rw [if_neg h4] at hK2
   simp (config:=KF) (disch:=omega) only [bZ,ixSV,lenI,addA,ae,↓reduceIte,Nat.reduceEqDiff,hg]
   exact hK2 _ h3 (by omega) (Sf.le_refl _)
 ·obtain rfl:i = ws.length:=by omega
  simp (config:=KF) (disch:=omega) only [bZ,addA,ae,↓reduceIte,Nat.reduceEqDiff,List.take_length,w1,w8]
  refine hKe _ _ _ ?_
  simp (config:=KF) (disch:=omega) only [bZ,retI,↓reduceIte,Nat.reduceEqDiff]
  exact hQ _
end
end Go.Fx.YtbdjfccgkdgbfaaFx

