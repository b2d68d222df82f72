/- What the functions that the statement reaches compute: part 29. -/
import Derived.Test.YtbdjfccgkdgbfaaFxW28
namespace Go.Fx.YtbdjfccgkdgbfaaFx
open Go Go.Fx
attribute [local irreducible] aC runI az ar

set_option maxRecDepth 100000
set_option maxHeartbeats 4000000

/-! The reference makes a call. -/
structure ROk (R:HR) (n:Nat):Prop where
 ok:SOk R.subs n
 wl:R.ws.length≤64
 wd:∀ w ∈ R.ws,w.2.2.length≤100000
 nm:∀ S ∈ R.subs,S.num < 64
theorem HubR.rok {st:St} {h wid n:Nat} {R:HR} {F:List Nat} (hh:HubR st h wid n R F):ROk R n:=by
 have ht:=hh.tok
 obtain ⟨L,Qs,M,W,j1,j2,j3,j4,j5⟩:=hh.ex
 have hmem:∀ S ∈ R.subs,∃ (i:Nat) (x:SL),L[i]? = some (some x)∧(L.map sbO)[i]? = some (some S)∧x.S = S:=fun S hS=>by
  rw [← j2.eq] at hS
  obtain ⟨i,hi⟩:=fQ.1 hS
  have hi':=hi
  rw [List.getElem?_map] at hi
  obtain ⟨o,ho,e⟩:=Option.map_eq_some_iff.1 hi
  cases o with
  | none=>cases e
  | some x=>exact ⟨i,x,ho,hi',by cases e; rfl⟩
 have hlt:∀ S ∈ R.subs,S.num < 64:=fun S hS=>by
  obtain ⟨i,x,h1,h2,h3⟩:=hmem S hS
  have:=(j2.ok i S h2).1
  have:=(List.getElem?_eq_some_iff.1 h1).1
  have:=j1.l64
  omega
 refine ⟨⟨?_,fun S hS=>?_⟩,?_,fun w hw=>?_,hlt⟩
 ·rw [← j2.eq]
  have:=(iH (L.map sbO)).1
  rw [List.length_map,j1.l64] at this
  exact this
 ·obtain ⟨i,x,h1,h2,h3⟩:=hmem S hS
  have hu:=(j1.sub i x h1).use
  rw [h3] at hu
  exact ⟨hu.1,hu.2,(j2.ok i S h2).2.1⟩
 ·have:=om 64 ht.1 fun x hx=>by
   obtain ⟨w,hw,rfl⟩:=List.mem_map.1 hx
   exact ht.2 w hw
  simpa using this
 ·rw [← j4] at hw
  obtain ⟨q,hq,rfl⟩:=List.mem_map.1 hw
  have:=(j3.ok q hq).2.2.2.1
  show q.2.data.length≤_
  omega

section
variable {R:HR} {n:Nat}
theorem rV_nb (R:HR):(rV R).NB:=by
 refine .agg _ fun x hx=>?_
 simp only [List.mem_cons,List.not_mem_nil,or_false] at hx
 rcases hx with rfl | rfl
 ·refine .sl _ _ _ fun c hc=>?_
  obtain ⟨S,_,rfl⟩:=List.mem_map.1 hc
  refine .agg _ fun x hx=>?_
  simp only [List.mem_cons,List.not_mem_nil,or_false] at hx
  rcases hx with rfl | rfl | rfl | rfl | rfl | rfl
  ·exact .lit _
  ·exact .lit _
  ·exact .lit _
  ·exact .lit _
  ·exact row_nb (.inl rfl)
  ·exact .lit _
 ·exact ws_nb _
theorem its_nb (l:List Nat):(itsV l).NB:=by
 unfold itsV
 split
 ·exact .lit _
 ·refine .sl _ _ _ fun c hc=>?_
  obtain ⟨w,_,rfl⟩:=List.mem_map.1 hc
  refine .agg _ fun x hx=>?_
  simp only [List.mem_cons,List.not_mem_nil,or_false] at hx
  rcases hx with rfl | rfl | rfl | rfl <;> exact .lit _
theorem makes_calls (h:ROk R n) (hn:n < 700000) (w t p k o:Int) {dv:AV} {d:List UInt8} (hd:MV dv d) (hp:d.length≤100000) (st:St) :
  am Go.Proofs.Try.prog n_f39 [rV R,actA w t p k o dv] st (fun r st'=>∃ v',r = .tup (.agg [v',wsV (rDo w t p k o d R).1.ws]::[resA (rDo w t p k o d R).2.n (rDo w t p k o d R).2.done (msgV (rDo w t p k o d R).2.data) (itsV (rDo w t p k o d R).2.items) (rDo w t p k o d R).2.err])∧∃ es,SV v' st' es∧Es es (rDo w t p k o d R).1.subs):=by
 obtain ⟨d1,d2,d3,d4,d5,d6,d7,d8⟩:=hd.facts
 obtain ⟨w1,w2,w3,w4,w5,w6,w7,w8⟩:=aw R.ws
 unfold actA rV resA
 have hrh:RH (.sl false 6 (R.subs.map sbC)) st n R:=⟨⟨_,.inr (.inl rfl),Es.canon _⟩,h.ok,h.wl,h.wd⟩
 have hes:=Es.canon R.subs
 generalize R.subs.map sbC = es at hrh hes
 have m0:msgV [] = .lit (.slice none 0 0):=rfl
 have i0:itsV [] = .lit (.slice none 0 0):=rfl
 have hdis:(AV.agg [.sl false 6 es,wsV R.ws]).dis = .agg [.sl false 6 es,wsV R.ws]:=by simp [w2,aH,bN]
 have hnl:(AV.agg [.sl false 6 es,wsV R.ws]).noL = true:=by simp [w5,aI,ci]
 refine ap hmix k_f39 rfl rfl fun Q hQ=>?_
 unfold aFun c_f39
 unfold rDo at hQ
 simp (config:=KF) (disch:=omega) only [bZ,addA,ae,↓reduceIte,Nat.reduceEqDiff,Nat.reduceAdd,reduceCtorEq,d2,d4,w2,w4]
 refine aS (fun c0=>?_) (fun c0=>?_)
 ·rw [if_pos c0] at hQ
  simp (config:=KF) (disch:=omega) only [bZ,addA,ae,id,↓reduceIte,Nat.reduceEqDiff,Nat.reduceAdd,Nat.reduceLeDiff,w2]
  refine aq (vs:=[.agg [.sl false 6 es,wsV R.ws],.lit (.int .i64 p),.lit (.int .i64 k),.lit (.int .i64 o)]) (by simp [hdis,aL]) e_f52 (lD hrh hes h.nm p k o) (by simp [hnl,aD]) fun r st1 hr=>?_
  obtain ⟨v',rfl,⟨es',j1,j2⟩,j3⟩:=hr
  generalize rSub p k o R = O at hQ j2
  obtain ⟨z1,z2,z3,z4,z5,z6,z7,z8⟩:=j1.facts
  obtain ⟨x1,x2,x3,x4,x5,x6,x7,x8⟩:=aw O.1.ws
  simp (config:=KF) (disch:=omega) only [bZ,Nat.reduceBEq,ksB,aJ,bg,bD,aK,cB,bS,nstB,bE,gx,ek,dI,eW,eM,retI,ah,addA,ae,List.nil_append,↓reduceIte,Nat.reduceEqDiff,Nat.reduceAdd,Nat.reduceLeDiff,or_false,af,aa,z2,z4,x2,x4]
  exact hQ _ _ ⟨v',rfl,es',j1,j2⟩
 rw [if_neg c0] at hQ
 simp (config:=KF) (disch:=omega) only [bZ,↓reduceIte,Nat.reduceEqDiff]
 refine aS (fun c1=>?_) (fun c1=>?_)
 ·rw [if_pos c1] at hQ
  simp (config:=KF) (disch:=omega) only [bZ,addA,ae,id,↓reduceIte,Nat.reduceEqDiff,Nat.reduceAdd,Nat.reduceLeDiff,d1,w2]
  refine aq (vs:=[.agg [.sl false 6 es,wsV R.ws],.lit (.int .i64 p),dv]) (by simp [hdis,aL,d1]) e_f53 (ma hrh (by omega) p hd hp) (by simp [hnl,aD,d5]) fun r st1 hr=>?_
  obtain ⟨v',rfl,⟨⟨es',j1,j2⟩,_,_,_⟩,j3⟩:=hr
  generalize rPub p d R = O at hQ j2
  obtain ⟨z1,z2,z3,z4,z5,z6,z7,z8⟩:=j1.facts
  obtain ⟨x1,x2,x3,x4,x5,x6,x7,x8⟩:=aw O.1.ws
  simp (config:=KF) (disch:=omega) only [bZ,Nat.reduceBEq,ksB,aJ,bg,bD,aK,cB,bS,nstB,bE,gx,ek,dI,eW,eM,retI,ah,addA,ae,List.nil_append,↓reduceIte,Nat.reduceEqDiff,Nat.reduceAdd,Nat.reduceLeDiff,or_false,af,aa,z2,z4,x2,x4]
  exact hQ _ _ ⟨v',rfl,es',j1,j2⟩
 rw [if_neg c1] at hQ
 simp (config:=KF) (disch:=omega) only [bZ,↓reduceIte,Nat.reduceEqDiff]
 refine aS (fun c2=>?_) (fun c2=>?_)
 ·rw [if_pos c2] at hQ
  simp (config:=KF) (disch:=omega) only [bZ,addA,ae,id,↓reduceIte,Nat.reduceEqDiff,Nat.reduceAdd,Nat.reduceLeDiff,d1,w2]
  refine aq (vs:=[.agg [.sl false 6 es,wsV R.ws],.lit (.int .i64 t),.lit (.int .i64 p),dv]) (by simp [hdis,aL,d1]) e_f54 (rSend_calls hrh (by omega) t p hd hp) (by simp [hnl,aD,d5]) fun r st1 hr=>?_
  obtain ⟨v',rfl,⟨es',j1,j2⟩,_,j3⟩:=hr
  generalize b9 t p d R = O at hQ j2
  obtain ⟨z1,z2,z3,z4,z5,z6,z7,z8⟩:=j1.facts
  obtain ⟨x1,x2,x3,x4,x5,x6,x7,x8⟩:=aw O.1.ws
  simp (config:=KF) (disch:=omega) only [bZ,Nat.reduceBEq,ksB,aJ,bg,bD,aK,cB,bS,nstB,bE,gx,ek,dI,eW,eM,retI,ah,addA,ae,List.nil_append,↓reduceIte,Nat.reduceEqDiff,Nat.reduceAdd,Nat.reduceLeDiff,or_false,af,aa,z2,z4,x2,x4]
  exact hQ _ _ ⟨v',rfl,es',j1,j2⟩
 rw [if_neg c2] at hQ
 simp (config:=KF) (disch:=omega) only [bZ,↓reduceIte,Nat.reduceEqDiff]
 refine aS (fun c3=>?_) (fun c3=>?_)
 ·rw [if_pos c3] at hQ
  simp (config:=KF) (disch:=omega) only [bZ,addA,ae,id,↓reduceIte,Nat.reduceEqDiff,Nat.reduceAdd,Nat.reduceLeDiff,w2]
  refine aq (vs:=[.agg [.sl false 6 es,wsV R.ws],.lit (.int .i64 k)]) (by simp [hdis,aL]) e_f55 (rRead_calls hrh hes hn k) (by simp [hnl,aD]) fun r st1 hr=>?_
  obtain ⟨v',rfl,⟨es',j1,j2⟩,_,j3⟩:=hr
  generalize bk k R = O at hQ j2
  obtain ⟨z1,z2,z3,z4,z5,z6,z7,z8⟩:=j1.facts
  obtain ⟨x1,x2,x3,x4,x5,x6,x7,x8⟩:=aw O.1.ws
  obtain ⟨m1,m2,m3,m4,m5,m6,m7,m8⟩:=(MV.msg O.2.1).facts
  obtain ⟨a1,a2,a3,a4⟩:=aU O.2.2.1
  obtain ⟨a5,a6,a7⟩:=dL O.2.2.1
  simp (config:=KF) (disch:=omega) only [bZ,Nat.reduceBEq,ksB,aJ,bg,bD,aK,cB,bS,nstB,bE,gx,ek,dI,eW,eM,retI,ah,addA,ae,List.nil_append,↓reduceIte,Nat.reduceEqDiff,Nat.reduceAdd,Nat.reduceLeDiff,or_false,af,aa,z2,z4,x2,x4,m1,m2,m3,m4,m6,a1,a2,a3,a5,a6]
  exact hQ _ _ ⟨v',rfl,es',j1,j2⟩
 rw [if_neg c3] at hQ
 simp (config:=KF) (disch:=omega) only [bZ,↓reduceIte,Nat.reduceEqDiff]
 refine aS (fun c4=>?_) (fun c4=>?_)
 ·rw [if_pos c4] at hQ
  simp (config:=KF) (disch:=omega) only [bZ,addA,ae,id,↓reduceIte,Nat.reduceEqDiff,Nat.reduceAdd,Nat.reduceLeDiff,w2]
  refine aq (vs:=[.agg [.sl false 6 es,wsV R.ws],.lit (.int .i64 k)]) (by simp [hdis,aL]) e_f56 (qJ hrh hes hn k) (by simp [hnl,aD]) fun r st1 hr=>?_
  obtain ⟨v',rfl,⟨es',j1,j2⟩,_,j3⟩:=hr
  generalize cC k R = O at hQ j2
  obtain ⟨z1,z2,z3,z4,z5,z6,z7,z8⟩:=j1.facts
  obtain ⟨x1,x2,x3,x4,x5,x6,x7,x8⟩:=aw O.1.ws
  obtain ⟨a1,a2,a3,a4⟩:=aU O.2.1
  obtain ⟨a5,a6,a7⟩:=dL O.2.1
  simp (config:=KF) (disch:=omega) only [bZ,Nat.reduceBEq,ksB,aJ,bg,bD,aK,cB,bS,nstB,bE,gx,ek,dI,eW,eM,retI,ah,addA,ae,List.nil_append,↓reduceIte,Nat.reduceEqDiff,Nat.reduceAdd,Nat.reduceLeDiff,or_false,af,aa,z2,z4,x2,x4,a1,a2,a3,a5,a6]
  exact hQ _ _ ⟨v',rfl,es',j1,j2⟩
 rw [if_neg c4] at hQ
 simp (config:=KF) (disch:=omega) only [bZ,addA,ae,id,↓reduceIte,Nat.reduceEqDiff,Nat.reduceAdd,Nat.reduceLeDiff,w2]
 refine aq (vs:=[.agg [.sl false 6 es,wsV R.ws],.lit (.int .i64 t)]) (by simp [hdis,aL]) e_f57 (oG hrh hn t) (by simp [hnl,aD]) fun r st1 hr=>?_
 obtain ⟨v',rfl,⟨es',j1,j2⟩,_,j3⟩:=hr
 generalize bI t R = O at hQ j2
 obtain ⟨z1,z2,z3,z4,z5,z6,z7,z8⟩:=j1.facts
 obtain ⟨x1,x2,x3,x4,x5,x6,x7,x8⟩:=aw O.1.ws
 obtain ⟨a1,a2,a3,a4⟩:=aU O.2.1
 obtain ⟨a5,a6,a7⟩:=dL O.2.1
 simp (config:=KF) (disch:=omega) only [bZ,Nat.reduceBEq,ksB,aJ,bg,bD,aK,cB,bS,nstB,bE,gx,ek,dI,eW,eM,retI,ah,addA,ae,List.nil_append,↓reduceIte,Nat.reduceEqDiff,Nat.reduceAdd,Nat.reduceLeDiff,or_false,af,aa,z2,z4,x2,x4,a1,a2,a3,a5,a6]
 exact hQ _ _ ⟨v',rfl,es',j1,j2⟩

theorem makes_pure (h:ROk R n) (hn:n < 700000) (w t p k o:Int) {dv:AV} {d:List UInt8} (hd:MV dv d) (hp:d.length≤100000) (st:St) :
  aB Go.Proofs.Try.prog n_f39 [rV R,actA w t p k o dv] st (.tup [rV (rDo w t p k o d R).1,resA (rDo w t p k o d R).2.n (rDo w t p k o d R).2.done (msgV (rDo w t p k o d R).2.data) (itsV (rDo w t p k o d R).2.items) (rDo w t p k o d R).2.err]):=by
 refine close_off (makes_calls h hn w t p k o hd hp ⟨[]⟩) ?_ ?_ st
 ·intro v hv
  simp only [List.mem_cons,List.not_mem_nil,or_false] at hv
  rcases hv with rfl | rfl
  ·exact rV_nb R
  ·refine .agg _ fun x hx=>?_
   simp only [List.mem_cons,List.not_mem_nil,or_false] at hx
   rcases hx with rfl | rfl | rfl | rfl | rfl | rfl
   ·exact .lit _
   ·exact .lit _
   ·exact .lit _
   ·exact .lit _
   ·exact .lit _
   ·rcases hd with rfl | ⟨rfl,_⟩
    ·exact qn _ _
    ·exact .lit _
 ·intro v hv
  simp only [List.mem_cons,List.not_mem_nil,or_false] at hv
  subst hv
  refine .agg _ fun x hx=>?_
  simp only [List.mem_cons,List.not_mem_nil,or_false] at hx
  rcases hx with rfl | rfl | rfl | rfl | rfl
  ·exact .lit _
  ·exact .lit _
  ·exact msg_nb _
  ·exact its_nb _
  ·exact .lit _
end
end Go.Fx.YtbdjfccgkdgbfaaFx

