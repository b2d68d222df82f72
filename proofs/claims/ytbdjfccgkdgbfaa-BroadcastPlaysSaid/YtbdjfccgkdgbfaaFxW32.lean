/- What the functions that the statement reaches compute: part 32. -/
import Derived.Test.YtbdjfccgkdgbfaaFxW31
namespace Go.Fx.YtbdjfccgkdgbfaaFx
open Go Go.Fx
attribute [local irreducible] aC runI az aA

set_option maxRecDepth 100000
set_option maxHeartbeats 4000000

/-! The reference goes on at a topic. -/
theorem qk (t:Int):∀ (ws:List WW) (k:Nat),(popR t ws = none∧fstI (fun w:WW=>decide (w.2.1 = t)) ws k = -1)∨∃ (i:Nat) (h:i < ws.length),popR t ws = some (ws[i],wo ws i)∧fstI (fun w:WW=>decide (w.2.1 = t)) ws k = ((k + i:Nat):Int)
  | [],_=>.inl ⟨rfl,rfl⟩
  | w :: r, k => by
    by_cases h:w.2.1 = t
    · refine .inr ⟨0,Nat.zero_lt_succ _,?_,?_⟩
      · simp [popR,h,wo]
      · unfold fstI; rw [if_pos (decide_eq_true h)]; rfl
    · rcases qk t r (k + 1) with ⟨h1,h2⟩ | ⟨i,hi,h1,h2⟩
      · refine .inl ⟨by simp [popR,h,h1],?_⟩
        unfold fstI; rw [if_neg (by simpa using h)]
        rw [show (k:Int) + 1 = ((k + 1:Nat):Int) by omega]; exact h2
      · refine .inr ⟨i + 1,Nat.succ_lt_succ hi,?_,?_⟩
        · simp [popR,h,h1,wo]
        · unfold fstI; rw [if_neg (by simpa using h)]
          rw [show (k:Int) + 1 = ((k + 1:Nat):Int) by omega,h2]; omega
theorem give_used {S:Sb} (p:List UInt8) (h:used S.msgs≤S.room):used (bX p S).msgs≤(bX p S).room:=by
  unfold bX
  split
  · rename_i hc
    simp only [iw,used]; omega
  · split
    · rename_i hc
      have:=(eu hc.1 S.msgs S.lost).1
      simp only [iw,used]; omega
    · exact h
theorem SOk.pub {subs:List Sb} {n:Nat} (h:SOk subs n) (t:Int) (p:List UInt8):SOk (pubR t p subs) (n + 1):=by
  refine ⟨by rw [pubR,List.length_map]; exact h.len,fun S hS=>?_⟩
  obtain ⟨T,hT,rfl⟩:=List.mem_map.1 hS
  obtain ⟨a,b,c⟩:=h.ok T hT
  split
  · obtain ⟨g1,g2,g3,g4,g5⟩:=dy p T
    exact ⟨give_used p a,by rw [g3]; exact b,by omega⟩
  · exact ⟨a,b,by omega⟩
theorem ql {A:Type} {l:List A} {i:Nat} (h:i < l.length):(wo l i).length + 1 = l.length:=by
  unfold wo; rw [List.length_append,List.length_take,List.length_drop]; omega

section
variable {es:List AV} {subs:List Sb} {ws:List WW} {st:St} {v:AV}
theorem kQ {n:Nat} (hv:SV v st es) (h:Es es subs) (hs:SOk subs n) (hw:ws.length≤64) (hd:∀ w ∈ ws,w.2.2.length≤100000) (hn:n < 800000) (t:Int) :
    al Go.Proofs.Try.prog n_f71 [.agg [v,wsV ws],.lit (.int .i64 t)] st (fun r st'=>∃ v' es',r = .tup [.agg [v',wsV (onR t ws.length ⟨subs,ws⟩).1.ws],itsV (onR t ws.length ⟨subs,ws⟩).2]∧SV v' st' es'∧Es es' (onR t ws.length ⟨subs,ws⟩).1.subs∧SOk (onR t ws.length ⟨subs,ws⟩).1.subs (n + 64)∧Kp st st' []):=by
  obtain ⟨v1,v2,v3,v4,v5,v6,v7,v8⟩:=hv.facts
  obtain ⟨w1,w2,w3,w4,w5,w6,w7,w8⟩:=aw ws
  refine aq hmix k_f71 rfl rfl fun Q hQ=>?_
  unfold aFun c_f71
  simp (config:=KF) (disch:=omega) only [bZ,aa,id,↓reduceIte,Nat.reduceEqDiff,Nat.reduceAdd,Nat.reduceLeDiff,reduceCtorEq,v2,v4,w2,w4]
  refine ak (vs:=[.agg [v,wsV ws],.lit (.int .i64 t)]) (by simp [v2,w2,aL,bP,aH]) e_f67 (qj hv h hs.len (by omega) t) (by simp [v5,w5,aM,aD]) ?_
  simp (config:=KF) (disch:=omega) only [bZ,↓reduceIte,Nat.reduceEqDiff]
  rw [f71_9w]
  refine bf (A:=HR×List Nat×AV×List AV×Nat×St) (fun a=>a.1.ws.length) (fun a=>⟨[(1,.lit (.int .i64 t)),(2,.lptr 2 0),(4,.lptr 4 0),(6,dA a.2.1),(7,.lit (.int .i64 (fstI (fun w:WW=>decide (w.2.1 = t)) a.1.ws 0)))],[(2,[a.2.2.1,wsV a.1.ws]),(4,[.lit (.slice none 0 0),.lit (.slice none 0 0)])]⟩) (fun a=>a.2.2.2.2.2)
    (fun a=>SV a.2.2.1 a.2.2.2.2.2 a.2.2.2.1∧Es a.2.2.2.1 a.1.subs∧SOk a.1.subs a.2.2.2.2.1∧a.2.2.2.2.1 + a.1.ws.length≤n + ws.length∧(∀ w ∈ a.1.ws,w.2.2.length≤100000)∧Kp st a.2.2.2.2.2 []∧a.2.1.length + a.1.ws.length≤64∧onR t ws.length ⟨subs,ws⟩ = ((onR t a.1.ws.length a.1).1,a.2.1++(onR t a.1.ws.length a.1).2))
    (⟨subs,ws⟩,[],v,es,n,st) ⟨hv,h,hs,Nat.le_refl _,hd,Kp.refl _ _,by simpa using hw,by simp⟩ (Sf.le_refl _) rfl ?_
  rintro ⟨⟨sb1,ws1⟩,out,u,es1,n1,s1⟩ ⟨i1,i2,i3,i4,i5,i6,i7,i8⟩ K hK hKe hKr
  simp only at i1 i2 i3 i4 i5 i6 i7 i8
  dsimp only
  obtain ⟨u1,u2,u3,u4,u5,u6,u7,u8⟩:=i1.facts
  obtain ⟨x1,x2,x3,x4,x5,x6,x7,x8⟩:=aw ws1
  rcases qk t ws1 0 with ⟨p1,p2⟩ | ⟨i,hi,p1,p2⟩
  · rw [show ((0:Nat):Int) = 0 from rfl] at p2
    rw [p2]
    rw [onR_none (R:=⟨sb1,ws1⟩) p1] at i8
    simp (config:=KF) (disch:=omega) only [bZ,de,cQ,fg,AI.dst,db,↓reduceIte,Nat.reduceEqDiff,Int.reduceNeg,eI]
    refine hKe _ _ _ ?_
    have hid:=lO out
    have hin:(itsV out).noL = true:=(aR out).2.2.2
    have hid2:(itsV out).dis = itsV out:=(aR out).1
    simp (config:=KF) (disch:=omega) only [bZ,retI,ah,aa,↓reduceIte,Nat.reduceEqDiff,Nat.reduceAdd,Nat.reduceLeDiff,af,ae,u2,u4,x2,x4,hid,hin,hid2]
    refine hQ _ _ ⟨u,es1,?_,i1,?_,?_,i6⟩
    · rw [i8]; simp
    · rw [i8]; exact i2
    · rw [i8]
      exact ⟨i3.len,fun S hS=>by obtain ⟨a,b,c⟩:=i3.ok S hS; exact ⟨a,b,by omega⟩⟩
  · rw [show ((0:Nat):Int) = 0 from rfl,Nat.zero_add] at p2
    rw [p2]
    have hg:=j7 hi
    have hwl:=ql hi
    have hwd:∀ w ∈ wo ws1 i,w.2.2.length≤100000:=fun w hw=>by
      unfold wo at hw
      rcases List.mem_append.1 hw with hw | hw
      · exact i5 w (List.mem_of_mem_take hw)
      · exact i5 w (List.mem_of_mem_drop hw)
    have hdp:=pg (ws:=ws1) (v:=u) ⟨u1,u2,u3,u4,u5,u6,u7⟩ (by omega) hi
    have hwv:wsV ws1 = .sl false 3 (ws1.map wwV):=by unfold wsV; rw [if_neg (fun e=>by rw [e] at hi; simp at hi)]
    have hdata:=i5 ws1[i] (List.getElem_mem hi)
    have hcan:=can_v (ws:=ws1) i1 i2 i3 t (MV.msg ws1[i].2.2) hdata
    have hpub:=fun ws'=>nM (ws:=ws') i1 i2 i3 (by omega) t (MV.msg ws1[i].2.2) hdata
    obtain ⟨m1,m2,m3,m4,m5,m6,m7,m8⟩:=(MV.msg ws1[i].2.2).facts
    obtain ⟨y1,y2,y3,y4,y5,y6,y7,y8⟩:=aw (wo ws1 i)
    have hgo:=fun hc=>onR_go (R:=⟨sb1,ws1⟩) p1 hc
    have hstop:=fun hc=>onR_stop (k:=ws1.length) (R:=⟨sb1,ws1⟩) p1 hc
    simp only at hgo hstop
    generalize ws1[i] = w at hg hdata hcan hpub m1 m2 m3 m4 m5 m6 m7 m8 hgo hstop
    generalize hmv:msgV w.2.2 = mv at hg hcan hpub m1 m2 m3 m4 m5 m6 m7 m8
    rw [hwv] at x1 x2 x3 x4 x5 x6 x7 hdp hcan ⊢
    simp (config:=KF) (disch:=omega) only [bZ,de,jn,ce,AI.dst,ixSV,addA,aa,db,id,↓reduceIte,Nat.reduceEqDiff,Nat.reduceAdd,Nat.reduceLeDiff,df,u2,m1,hg]
    refine ak (vs:=[.agg [u,.sl false 3 (ws1.map wwV)],.lit (.int .i64 t),mv]) (by simp [u2,m1,aL,cu,aH]) e_f68 hcan (by simp [u5,m5,aM,aD,cZ]) ?_
    cases hc:canR t w.2.2.length sb1 with
    | false =>
      rw [hstop hc] at i8
      simp (config:=KF) (disch:=omega) only [bZ,↓reduceIte,Nat.reduceEqDiff]
      refine hKe _ _ _ ?_
      have hid:=lO out
      have hin:(itsV out).noL = true:=(aR out).2.2.2
      have hid2:(itsV out).dis = itsV out:=(aR out).1
      simp (config:=KF) (disch:=omega) only [bZ,retI,ah,aa,↓reduceIte,Nat.reduceEqDiff,Nat.reduceAdd,Nat.reduceLeDiff,af,ae,u2,u4,hid,hin,hid2]
      rw [← hwv]
      refine hQ _ _ ⟨u,es1,?_,i1,?_,?_,i6⟩
      · rw [i8]; simp
      · rw [i8]; exact i2
      · rw [i8]
        exact ⟨i3.len,fun S hS=>by obtain ⟨a,b,c⟩:=i3.ok S hS; exact ⟨a,b,by omega⟩⟩
    | true =>
      rw [hgo hc] at i8
      simp (config:=KF) (disch:=omega) only [bZ,dN,ixSV,ah,addA,aa,id,dW,dM,↓reduceIte,Nat.reduceEqDiff,Nat.reduceAdd,Nat.reduceLeDiff,af,ae,u2,m2,m4,hg]
      refine eS (vs:=[.agg [u,.sl false 3 (ws1.map wwV)],.lit (.int .i64 (i:Nat))]) (by simp [u2,aL,cu,aH]) e_f72 (hdp s1) (by simp [u5,aM,aD,cZ]) ?_
      simp (config:=KF) (disch:=omega) only [bZ,cy,addA,aa,id,↓reduceIte,Nat.reduceEqDiff,m1]
      refine au (vs:=[.agg [u,wsV (wo ws1 i)],.lit (.int .i64 t),mv]) (by simp [u2,y2,m1,aL,aH]) e_f69 (hpub (wo ws1 i)) (by simp [u5,y5,m5,aM,aD]) fun r s2 hr=>?_
      obtain ⟨u',es',rfl,j1,j2,j3⟩:=hr
      obtain ⟨z1,z2,z3,z4,z5,z6,z7,z8⟩:=j1.facts
      have hs3:=i3.pub t w.2.2
      have hfr:=qj (ws:=wo ws1 i) j1 j2 hs3.len (by omega) t
      have hpt:dA (out++[w.1]) = .sl true 4 (out.map itA++[itA w.1]):=its_snoc out w.1
      have hfin:∀ sf',Sf.le (sf'.mask [1,2,4,6,7] [2,4]) ⟨[(1,.lit (.int .i64 t)),(2,.lptr 2 0),(4,.lptr 4 0),(6,dA (out++[w.1])),(7,.lit (.int .i64 (fstI (fun w:WW=>decide (w.2.1 = t)) (wo ws1 i) 0)))],[(2,[u',wsV (wo ws1 i)]),(4,[.lit (.slice none 0 0),.lit (.slice none 0 0)])]⟩→K .normal sf' s2:=fun sf' hsf =>
        hK (⟨pubR t w.2.2 sb1,wo ws1 i⟩,out++[w.1],u',es',n1 + 1,s2) sf' ⟨j1,j2,hs3,by simp only; omega,hwd,i6.trans j3 fun _ q=>(by cases q),by simp only [List.length_append,List.length_cons,List.length_nil]; omega,by rw [i8]; simp⟩ (by simp only; omega) hsf
      rw [hpt] at hfin
      have hol:out.length < 65:=by omega
      have hid:=itA_dis out
      by_cases ho:out = []
      · have hia:dA out = .lit (.slice none 0 0):=by unfold dA; rw [if_pos ho]
        rw [hia]
        rw [ho] at hfin
        simp (config:=KF) (disch:=omega) only [bZ,ek,bstV,bt,ah,List.reduceReplicate,addA,aa,aI,srcA,aU,id,bV,↓reduceIte,Nat.reduceEqDiff,Nat.reduceAdd,Nat.reduceLT,Nat.reduceLeDiff,af,ae,z2,z4,y2,y4]
        refine ak (vs:=[.agg [u',wsV (wo ws1 i)],.lit (.int .i64 t)]) (by simp [z2,y2,aL,aH]) e_f67 hfr (by simp [z5,y5,aM,aD]) ?_
        simp (config:=KF) (disch:=omega) only [bZ,↓reduceIte,Nat.reduceEqDiff]
        exact hfin _ (Sf.le_refl _)
      · have hia:dA out = .sl true 4 (out.map itA):=by unfold dA; rw [if_neg ho]
        rw [hia]
        simp (config:=KF) (disch:=omega) only [bZ,ek,bstV,bt,ah,List.reduceReplicate,addA,aa,bg,srcA,aU,id,bV,dM,↓reduceIte,Nat.reduceEqDiff,Nat.reduceAdd,Nat.reduceLT,Nat.reduceLeDiff,af,ae,z2,z4,y2,y4]
        refine ak (vs:=[.agg [u',wsV (wo ws1 i)],.lit (.int .i64 t)]) (by simp [z2,y2,aL,aH]) e_f67 hfr (by simp [z5,y5,aM,aD]) ?_
        simp (config:=KF) (disch:=omega) only [bZ,↓reduceIte,Nat.reduceEqDiff]
        exact hfin _ (Sf.le_refl _)
end
end Go.Fx.YtbdjfccgkdgbfaaFx

