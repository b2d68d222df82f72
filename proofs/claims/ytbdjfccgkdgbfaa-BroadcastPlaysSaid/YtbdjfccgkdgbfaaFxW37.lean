/- What the functions that the statement reaches compute: part 37. -/
import Derived.Test.YtbdjfccgkdgbfaaFxW36
namespace Go.Fx.YtbdjfccgkdgbfaaFx
open Go Go.Fx
attribute [local irreducible] aC runI az aA

set_option maxRecDepth 100000
set_option maxHeartbeats 4000000

section
variable {st:St} {es:List AV} {n:Nat} {R:HR}
theorem qm (h:RH (.sl false 6 es) st n R) (he:Es es R.subs) (hn:n < 700000) (t:Int) :
    al Go.Proofs.Try.prog n_f56 [.agg [.sl false 6 es,wsV R.ws],.lit (.int .i64 t)] st (fun r st'=>∃ v',r = .tup [.agg [v',wsV (cm t R).1.ws],itsV (cm t R).2.1,.lit (.int .i64 (cm t R).2.2)]∧(∃ es,SV v' st' es∧Es es (cm t R).1.subs)∧SOk (cm t R).1.subs (n + 64)∧Kp st st' []):=by
  obtain ⟨w1,w2,w3,w4,w5,w6,w7,w8⟩:=aw R.ws
  have hwl:=h.wl
  have hel:=he.1
  have hsl:=h.ok.len
  refine aq hmix k_f56 rfl rfl fun Q hQ=>?_
  unfold aFun c_f56
  have hat:=lT (ws:=R.ws) he hsl t st
  simp (config:=KF) (disch:=omega) only [bZ,aa,id,↓reduceIte,Nat.reduceEqDiff,Nat.reduceAdd,Nat.reduceLeDiff,reduceCtorEq,w2,w4]
  refine ak (vs:=[.agg [.sl false 6 es,wsV R.ws],.lit (.int .i64 t)]) (by simp [w2,aL,cu,aH]) e_f35 hat (by simp [w5,aM,aD,cZ]) ?_
  rcases nN t R.subs 0 with ⟨p1,p2⟩ | ⟨i,hi,p1,p3,_,p2⟩
  · rw [show ((0:Nat):Int) = 0 from rfl] at p2
    rw [p2]
    have hs:Q (.tup [.agg [.sl false 6 es,wsV R.ws],.lit (.slice none 0 0),.lit (.int .i64 9)]) st:=by
      refine hQ _ _ ⟨.sl false 6 es,?_⟩
      have hr:cm t R = (R,[],9):=by unfold cm; rw [p1]
      rw [hr]
      exact ⟨rfl,h.ex,h.ok.mono (by omega),Kp.refl _ _⟩
    simp (config:=KF) (disch:=omega) only [bZ,retI,ah,aa,↓reduceIte,Nat.reduceEqDiff,Nat.reduceAdd,Nat.reduceLeDiff,Int.reduceLT,Int.reduceNeg,af,ae,w2,w4]
    exact hs
  · rw [show ((0:Nat):Int) = 0 from rfl,Nat.zero_add] at p2
    rw [p2]
    obtain ⟨rv,hrv,hg⟩:=he.at hi
    have hwo:=he.wo hi
    have hsw:SOk (wo R.subs i) n:=⟨by have:=ql hi; omega,fun S hS=>by
      unfold wo at hS
      rcases List.mem_append.1 hS with hS | hS
      · exact h.ok.ok S (List.mem_of_mem_take hS)
      · exact h.ok.ok S (List.mem_of_mem_drop hS)⟩
    have hrl:cm t R = ((onR R.subs[i].topic R.ws.length ⟨wo R.subs i,R.ws⟩).1,(onR R.subs[i].topic R.ws.length ⟨wo R.subs i,R.ws⟩).2,0):=by
      unfold cm; rw [p1,p3]
    rw [hrl] at hQ
    unfold sbV at hg
    have hon:=fun v' (hv':SV v' st (wo es i))=>kQ hv' hwo hsw h.wl h.wd (by omega) R.subs[i].topic
    obtain ⟨r1,r2,r3,r4,r5,r6,r7,r8⟩:=hrv.facts
    generalize R.subs[i] = S at hg hQ hon hrv r1 r2 r3 r4 r5 r6 r7 r8
    have ht:(es.take i).length = i:=by rw [List.length_take]; omega
    have hA:(es.take i).map AV.dis = es.take i:=jq fun e he'=>he.sc e (List.mem_of_mem_take he')
    have hB:(es.drop (i + 1)).map AV.dis = es.drop (i + 1):=jq fun e he'=>he.sc e (List.mem_of_mem_drop he')
    have hAl:(es.take i).length≤1000:=by omega
    have hBl:(es.drop (i + 1)).length≤1000:=by rw [List.length_drop]; omega
    have hsc:=he.sc
    have ht1:es.take i = es.take i:=rfl
    simp only at hQ
    generalize onR S.topic R.ws.length ⟨wo R.subs i,R.ws⟩ = O at hQ hon
    clear hat hwo hrl
    unfold wo at hon
    clear ht
    generalize hAe:es.take i = A at hon hA hAl
    generalize hBe:es.drop (i + 1) = B at hon hB hBl
    have ht1:=hAe
    have hd1:=hBe
    have htk:es.take R.subs.length = es:=List.take_of_length_le (by omega)
    cases A with
    | nil =>
     cases B with
     | nil =>
      have hsv:SV (.lit (.slice none 0 0)) st ([]++[]):=.inl ⟨rfl,rfl⟩
      simp (config:=KF) (disch:=omega) only [bZ,fU,ij,ixSV,da,bt,ah,ixTo,addA,aa,aI,srcA,id,↓reduceIte,Nat.reduceEqDiff,Nat.reduceAdd,Nat.reduceLeDiff,af,ae,w2,hg,hel,ht1,hd1,htk]
      refine au (vs:=[.agg [.lit (.slice none 0 0),wsV R.ws],.lit (.int .i64 S.topic)]) (by simp [w2,aL,cu,bP,aH]) e_f71 (hon (.lit (.slice none 0 0)) hsv) (by simp [w5,aM,aD,cZ]) fun r s1 hr=>?_
      obtain ⟨v',es',rfl,j1,j2,j3,j4⟩:=hr
      obtain ⟨z1,z2,z3,z4,z5,z6,z7,z8⟩:=j1.facts
      obtain ⟨x1,x2,x3,x4,x5,x6,x7,x8⟩:=aw O.1.ws
      obtain ⟨t1,t2,t3,t4⟩:=aR O.2
      simp (config:=KF) (disch:=omega) only [bZ,retI,ah,aa,↓reduceIte,Nat.reduceEqDiff,Nat.reduceAdd,Nat.reduceLeDiff,af,ae,z2,z4,x2,x4,t1,t2,t4]
      exact hQ _ _ ⟨v',rfl,⟨es',j1,j2⟩,j3,j4⟩
     | cons b B =>
      have hsv:SV (.sl false 6 (b::B)) st ([]++b::B):=.inr (.inl rfl)
      have e1:b.dis = b:=by have:=congrArg List.head? hB; simpa using this
      have e2:B.map AV.dis = B:=by have:=congrArg List.tail hB; simpa using this
      rw [List.length_cons] at hBl
      simp (config:=KF) (disch:=omega) only [bZ,fU,ij,ixSV,da,bt,ah,ixTo,addA,aa,aI,srcA,id,↓reduceIte,Nat.reduceEqDiff,Nat.reduceAdd,Nat.reduceLeDiff,af,ae,w2,hg,hel,ht1,hd1,htk,e1,e2]
      refine au (vs:=[.agg [.sl false 6 (b::B),wsV R.ws],.lit (.int .i64 S.topic)]) (by simp [w2,aL,cu,bP,aH]) e_f71 (hon (.sl false 6 (b::B)) hsv) (by simp [w5,aM,aD,cZ]) fun r s1 hr=>?_
      obtain ⟨v',es',rfl,j1,j2,j3,j4⟩:=hr
      obtain ⟨z1,z2,z3,z4,z5,z6,z7,z8⟩:=j1.facts
      obtain ⟨x1,x2,x3,x4,x5,x6,x7,x8⟩:=aw O.1.ws
      obtain ⟨t1,t2,t3,t4⟩:=aR O.2
      simp (config:=KF) (disch:=omega) only [bZ,retI,ah,aa,↓reduceIte,Nat.reduceEqDiff,Nat.reduceAdd,Nat.reduceLeDiff,af,ae,z2,z4,x2,x4,t1,t2,t4]
      exact hQ _ _ ⟨v',rfl,⟨es',j1,j2⟩,j3,j4⟩
    | cons a A =>
     have f1:a.dis = a:=by have:=congrArg List.head? hA; simpa using this
     have f2:A.map AV.dis = A:=by have:=congrArg List.tail hA; simpa using this
     rw [List.length_cons] at hAl
     cases B with
     | nil =>
      have hsv:SV (.sl false 6 (a::A)) st (a::A++[]):=.inr (.inl (by rw [List.append_nil]))
      simp (config:=KF) (disch:=omega) only [bZ,fU,ij,ixSV,da,bt,ah,ixTo,addA,aa,aI,bg,srcA,id,List.cons_append,↓reduceIte,Nat.reduceEqDiff,Nat.reduceAdd,Nat.reduceLeDiff,bq,af,ae,w2,hg,hel,ht1,hd1,htk,f1,f2]
      refine au (vs:=[.agg [.sl false 6 (a::A),wsV R.ws],.lit (.int .i64 S.topic)]) (by simp [w2,aL,cu,bP,aH]) e_f71 (hon (.sl false 6 (a::A)) hsv) (by simp [w5,aM,aD,cZ]) fun r s1 hr=>?_
      obtain ⟨v',es',rfl,j1,j2,j3,j4⟩:=hr
      obtain ⟨z1,z2,z3,z4,z5,z6,z7,z8⟩:=j1.facts
      obtain ⟨x1,x2,x3,x4,x5,x6,x7,x8⟩:=aw O.1.ws
      obtain ⟨t1,t2,t3,t4⟩:=aR O.2
      simp (config:=KF) (disch:=omega) only [bZ,retI,ah,aa,↓reduceIte,Nat.reduceEqDiff,Nat.reduceAdd,Nat.reduceLeDiff,af,ae,z2,z4,x2,x4,t1,t2,t4]
      exact hQ _ _ ⟨v',rfl,⟨es',j1,j2⟩,j3,j4⟩
     | cons b B =>
      have hsv:SV (.sl false 6 (a::(A++b::B))) st (a::A++b::B):=.inr (.inl rfl)
      have e1:b.dis = b:=by have:=congrArg List.head? hB; simpa using this
      have e2:B.map AV.dis = B:=by have:=congrArg List.tail hB; simpa using this
      rw [List.length_cons] at hBl
      simp (config:=KF) (disch:=omega) only [bZ,fU,ij,ixSV,da,bt,ah,ixTo,addA,aa,aI,bg,srcA,id,List.cons_append,↓reduceIte,Nat.reduceEqDiff,Nat.reduceAdd,Nat.reduceLeDiff,bq,af,ae,w2,hg,hel,ht1,hd1,htk,f1,f2,e1,e2]
      refine au (vs:=[.agg [.sl false 6 (a::(A++b::B)),wsV R.ws],.lit (.int .i64 S.topic)]) (by simp [w2,aL,cu,bP,aH]) e_f71 (hon (.sl false 6 (a::(A++b::B))) hsv) (by simp [w5,aM,aD,cZ]) fun r s1 hr=>?_
      obtain ⟨v',es',rfl,j1,j2,j3,j4⟩:=hr
      obtain ⟨z1,z2,z3,z4,z5,z6,z7,z8⟩:=j1.facts
      obtain ⟨x1,x2,x3,x4,x5,x6,x7,x8⟩:=aw O.1.ws
      obtain ⟨t1,t2,t3,t4⟩:=aR O.2
      simp (config:=KF) (disch:=omega) only [bZ,retI,ah,aa,↓reduceIte,Nat.reduceEqDiff,Nat.reduceAdd,Nat.reduceLeDiff,af,ae,z2,z4,x2,x4,t1,t2,t4]
      exact hQ _ _ ⟨v',rfl,⟨es',j1,j2⟩,j3,j4⟩
end
end Go.Fx.YtbdjfccgkdgbfaaFx

