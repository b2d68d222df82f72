/- What the functions that the statement reaches compute: part 20. -/
import Derived.Test.YtohlpjfhkejjgaaFxW19
namespace Go.Fx.YtohlpjfhkejjgaaFx
open Go Go.Fx
attribute [local irreducible] aC runI aY cF

set_option maxRecDepth 100000
set_option maxHeartbeats 4000000

theorem iu (l:List It):Aggs 4 (l.map itAV):=fun x hx=>by
  simp only [List.mem_map] at hx
  obtain ⟨y,_,rfl⟩:=hx
  exact ⟨_,rfl,rfl,Lits.nil.cons.cons.cons.cons⟩

theorem jY (e:Int) (l k:List W3):endI e (l++k) = endI e l++endI e k:=by simp [endI]
/-- The cells in that function. -/
def f9 (P:ChP) (v:AV):List (Nat×List AV) :=
  [(1,[.lit (.int .i64 (P.cap:Nat)),.sl false 1 (ints P.buf),.sl false 2 (P.S.map wAV),.sl false 2 (P.V.map wAV),.lit (.bool false)]),
   (2,[.lit (.int .i64 0),.lit (.slice none 0 0),.lit (.slice none 0 0),.lit (.slice none 0 0),.lit (.bool false)]),
   (3,[.lit (.int .i64 0),.lit (.bool false),.lit (.slice none 0 0),.lit (.int .i64 0)]),
   (4,[.lit (.int .i64 0),.lit (.bool false),v,.lit (.int .i64 0)])]

/-- The 1th loop. -/
theorem mH (P:ChP) (hcl:P.closed = false) (hl:Sm P) (v0:AV) (st0:St) (o0:List It) (ho:o0.length≤10000) (h0:MK 4 v0 st0 (o0.map itAV)) (hn0:o0 = []→v0 = .lit (.slice none 0 0)) (hb:NBs st0) (Q:Exit→Sf→St→Prop)
    (hQ:∀ v st,MK 4 v st ((o0++endI 13 P.V).map itAV)→(o0++endI 13 P.V = []→v = .lit (.slice none 0 0))→NBs st→Q (.exit 0) ⟨[(1,.lptr 1 0),(2,.lptr 2 0),(3,.lptr 3 0),(4,.lptr 4 0)],f9 P v⟩ st) :
    aC Go.Proofs.Try.prog id false f45_15 ⟨[(1,.lptr 1 0),(2,.lptr 2 0),(3,.lptr 3 0),(4,.lptr 4 0),(5,.lit (.int .i64 0))],f9 P v0⟩ st0 Q:=by
  unfold Sm at hl
  rw [f45_15w]
  refine gM (A:=Nat×AV×St) (fun a=>P.V.length - a.1) (fun a=>⟨[(1,.lptr 1 0),(2,.lptr 2 0),(3,.lptr 3 0),(4,.lptr 4 0),(5,.lit (.int .i64 (a.1:Nat)))],f9 P a.2.1⟩) (fun a=>a.2.2)
    (fun a=>a.1≤P.V.length∧MK 4 a.2.1 a.2.2 ((o0++endI 13 (P.V.take a.1)).map itAV)∧(o0++endI 13 (P.V.take a.1) = []→a.2.1 = .lit (.slice none 0 0))∧NBs a.2.2) (0,v0,st0) ⟨by simp,by simpa [endI] using h0,by simpa [endI] using hn0,hb⟩ (Sf.le_refl _) rfl ?_
  rintro ⟨i,v,st⟩ ⟨h1,h2,hnl,h3⟩ K hK hKe hKr
  simp only at h1 h2 h3 hnl
  obtain ⟨v1,v2,v3,v4,v5,v6,v7,v8⟩:=h2.facts
  by_cases h:i < P.V.length
  · have e1:(P.V.map wAV).getD i .any = wAV P.V[i]:=by simp [List.getD,h]
    have hlen:((o0++endI 13 (P.V.take i)).map itAV).length = o0.length + i:=by simp [endI]; omega
    have hnx:∀ v' st',MK 4 v' st' ((o0++endI 13 (P.V.take i)).map itAV++[itAV (P.V[i].2.1,0,13)])→NBs st'→K .normal ⟨[(1,.lptr 1 0),(2,.lptr 2 0),(3,.lptr 3 0),(4,.lptr 4 0),(5,.lit (.int .i64 ((i + 1:Nat))))],f9 P v'⟩ st':=by
      intro v' st' h4 h5
      have hne:∀ (a:List It) (x:It),a++[x]≠[]:=by simp
      refine hK (i + 1,v',st') _ ⟨by simp only; omega,?_,fun e=>?_,h5⟩ (by simp only; omega) (Sf.le_refl _)
      rotate_left
      · simp only at e
        rw [List.take_succ_eq_append_getElem h,jY,← List.append_assoc] at e
        exact absurd e (hne _ _)
      simp only
      rw [List.take_succ_eq_append_getElem h,jY]
      simpa only [List.map_append,List.append_assoc,List.map_cons,List.map_nil,endI] using h4
    unfold f9 at *
    have hroom:eG (((o0++endI 13 (P.V.take i)).map itAV).length + 1) 32 = true:=c9 (by rw [hlen]; omega)
    have hfin:∀ v' st',MK 4 v' st' ((o0++endI 13 (P.V.take i)).map itAV++[itAV (P.V[i].2.1,0,13)])→NBs st'→v'.solid1 = true∧v'.cells = [v']:=fun v' st' h4 _=>⟨h4.facts.2.2.2.1,h4.facts.2.2.2.2.2.1⟩
    have h2':=h2
    rcases h2 with ⟨hv,_⟩ | ⟨bi,bcap,br,hv,_⟩
    all_goals
      subst hv
      simp (config:=KF) (disch:=omega) only [bZ,List.contains_nil,da,cd,cX,cJ,oG,cc,mq,mr,bp,tail_nil,and_self,aD,aq,cM,o_x,ixSV,au,bslV,bstV,cf,List.reduceReplicate,ixA,lenI,addA,ak,srcA,dg,aQ,cI,am,putS,Sf.set,Sf.reg,getR,setR,ae,look,bk,c5,aW,ao,kA,aj,ar,ag,aa,ai,List.length_cons,List.length_nil,List.getElem?_cons_zero,List.getElem?_cons_succ,List.all_cons,List.all_nil,List.drop_zero,List.drop_succ_cons,List.set_cons_zero,List.set_cons_succ,Int.toNat_natCast,↓reduceIte,Nat.reduceEqDiff,Nat.reduceAdd,Nat.reduceLT,Nat.reduceLeDiff,Bool.and_true,and_true,Nat.zero_add,Bool.false_eq_true,List.length_map,du,cN,eA,List.length_append,ah,af,f45_16e,f45_17e,f45_18e,f45_18l,f45_19e,f45_20e,f45_21e,f45_22e,f45_22h,f45_22l,e1,wAV,v1]
      refine MK.app (l:=(o0++endI 13 (P.V.take i)).map itAV) (new:=[itAV (P.V[i].2.1,0,13)]) (by simpa only [List.length_map,List.length_append] using h2') (iu _) (iu [(P.V[i].2.1,0,13)]) hroom fun v' st' h4 _ h5=>?_
      obtain ⟨w1,w2,w3,w4,w5,w6,w7,w8⟩:=h4.facts
      simp (config:=KF) (disch:=omega) only [bZ,aV,d9,aD,aA,aF,boxX,aM,addA,eI,ap,aE,putS,Sf.set,Sf.reg,getR,setR,ae,Sf.disAt,Sf.setLoc,look,aR,ai,List.length_cons,List.length_nil,List.all_cons,List.all_nil,List.set_cons_zero,List.set_cons_succ,↓reduceIte,Nat.reduceEqDiff,Nat.reduceAdd,Nat.reduceLeDiff,Bool.true_and,Bool.and_true,and_true,true_and,Nat.zero_add,IntWalk.i64_in,dV,ah,af,f45_23e,f45_23l,w1,w4,w6]
      exact hnx v' st' h4 (h5 h3)
  · have e:i = P.V.length:=by omega
    rw [e,List.take_length] at h2 hnl
    unfold f9 at *
    simp (config:=KF) (disch:=omega) only [bZ,el,fY,aD,aq,cM,au,lenI,addA,ak,cI,putS,Sf.set,Sf.reg,getR,setR,ae,look,aW,List.drop_zero,List.drop_succ_cons,↓reduceIte,Nat.reduceEqDiff,Nat.zero_add,List.length_map,cB,f45_16e,f45_17e,f45_18e,f45_18l,f45_19e]
    exact hKe _ _ _ (hQ _ _ h2 hnl h3)

/-- The 2th loop. -/
theorem mI (P:ChP) (hcl:P.closed = false) (hl:Sm P) (v0:AV) (st0:St) (o0:List It) (ho:o0.length≤10000) (h0:MK 4 v0 st0 (o0.map itAV)) (hn0:o0 = []→v0 = .lit (.slice none 0 0)) (hb:NBs st0) (Q:Exit→Sf→St→Prop)
    (hQ:∀ v st,MK 4 v st ((o0++endI 14 P.S).map itAV)→(o0++endI 14 P.S = []→v = .lit (.slice none 0 0))→NBs st→Q (.exit 2) ⟨[(1,.lptr 1 0),(2,.lptr 2 0),(3,.lptr 3 0),(4,.lptr 4 0)],f9 P v⟩ st) :
    aC Go.Proofs.Try.prog id false f45_28 ⟨[(1,.lptr 1 0),(2,.lptr 2 0),(3,.lptr 3 0),(4,.lptr 4 0),(6,.lit (.int .i64 0))],f9 P v0⟩ st0 Q:=by
  unfold Sm at hl
  rw [f45_28w]
  refine gM (A:=Nat×AV×St) (fun a=>P.S.length - a.1) (fun a=>⟨[(1,.lptr 1 0),(2,.lptr 2 0),(3,.lptr 3 0),(4,.lptr 4 0),(6,.lit (.int .i64 (a.1:Nat)))],f9 P a.2.1⟩) (fun a=>a.2.2)
    (fun a=>a.1≤P.S.length∧MK 4 a.2.1 a.2.2 ((o0++endI 14 (P.S.take a.1)).map itAV)∧(o0++endI 14 (P.S.take a.1) = []→a.2.1 = .lit (.slice none 0 0))∧NBs a.2.2) (0,v0,st0) ⟨by simp,by simpa [endI] using h0,by simpa [endI] using hn0,hb⟩ (Sf.le_refl _) rfl ?_
  rintro ⟨i,v,st⟩ ⟨h1,h2,hnl,h3⟩ K hK hKe hKr
  simp only at h1 h2 h3 hnl
  obtain ⟨v1,v2,v3,v4,v5,v6,v7,v8⟩:=h2.facts
  by_cases h:i < P.S.length
  · have e1:(P.S.map wAV).getD i .any = wAV P.S[i]:=by simp [List.getD,h]
    have hlen:((o0++endI 14 (P.S.take i)).map itAV).length = o0.length + i:=by simp [endI]; omega
    have hnx:∀ v' st',MK 4 v' st' ((o0++endI 14 (P.S.take i)).map itAV++[itAV (P.S[i].2.1,0,14)])→NBs st'→K .normal ⟨[(1,.lptr 1 0),(2,.lptr 2 0),(3,.lptr 3 0),(4,.lptr 4 0),(6,.lit (.int .i64 ((i + 1:Nat))))],f9 P v'⟩ st':=by
      intro v' st' h4 h5
      have hne:∀ (a:List It) (x:It),a++[x]≠[]:=by simp
      refine hK (i + 1,v',st') _ ⟨by simp only; omega,?_,fun e=>?_,h5⟩ (by simp only; omega) (Sf.le_refl _)
      rotate_left
      · simp only at e
        rw [List.take_succ_eq_append_getElem h,jY,← List.append_assoc] at e
        exact absurd e (hne _ _)
      simp only
      rw [List.take_succ_eq_append_getElem h,jY]
      simpa only [List.map_append,List.append_assoc,List.map_cons,List.map_nil,endI] using h4
    unfold f9 at *
    have hroom:eG (((o0++endI 14 (P.S.take i)).map itAV).length + 1) 32 = true:=c9 (by rw [hlen]; omega)
    have hfin:∀ v' st',MK 4 v' st' ((o0++endI 14 (P.S.take i)).map itAV++[itAV (P.S[i].2.1,0,14)])→NBs st'→v'.solid1 = true∧v'.cells = [v']:=fun v' st' h4 _=>⟨h4.facts.2.2.2.1,h4.facts.2.2.2.2.2.1⟩
    have h2':=h2
    rcases h2 with ⟨hv,_⟩ | ⟨bi,bcap,br,hv,_⟩
    all_goals
      subst hv
      simp (config:=KF) (disch:=omega) only [bZ,List.contains_nil,da,cd,cX,cJ,oG,cc,mq,mr,bp,tail_nil,and_self,aD,aq,cM,o_x,ixSV,au,bslV,bstV,cf,List.reduceReplicate,ixA,lenI,addA,ak,srcA,dg,aQ,cI,am,putS,Sf.set,Sf.reg,getR,setR,ae,look,bk,c5,aW,ao,kA,aj,ar,ag,aa,ai,List.length_cons,List.length_nil,List.getElem?_cons_zero,List.getElem?_cons_succ,List.all_cons,List.all_nil,List.drop_zero,List.drop_succ_cons,List.set_cons_zero,List.set_cons_succ,Int.toNat_natCast,↓reduceIte,Nat.reduceEqDiff,Nat.reduceAdd,Nat.reduceLT,Nat.reduceLeDiff,Bool.and_true,and_true,Nat.zero_add,Bool.false_eq_true,List.length_map,du,cN,eA,List.length_append,ah,af,f45_29e,f45_30e,f45_31e,f45_31l,f45_32e,f45_33e,f45_34e,f45_35e,f45_35h,f45_35l,e1,wAV,v1]
      refine MK.app (l:=(o0++endI 14 (P.S.take i)).map itAV) (new:=[itAV (P.S[i].2.1,0,14)]) (by simpa only [List.length_map,List.length_append] using h2') (iu _) (iu [(P.S[i].2.1,0,14)]) hroom fun v' st' h4 _ h5=>?_
      obtain ⟨w1,w2,w3,w4,w5,w6,w7,w8⟩:=h4.facts
      simp (config:=KF) (disch:=omega) only [bZ,aV,d9,aD,aA,aF,boxX,aM,addA,eI,ap,aE,putS,Sf.set,Sf.reg,getR,setR,ae,Sf.disAt,Sf.setLoc,look,aR,ai,List.length_cons,List.length_nil,List.all_cons,List.all_nil,List.set_cons_zero,List.set_cons_succ,↓reduceIte,Nat.reduceEqDiff,Nat.reduceAdd,Nat.reduceLeDiff,Bool.true_and,Bool.and_true,and_true,true_and,Nat.zero_add,IntWalk.i64_in,dV,ah,af,f45_36e,f45_36l,w1,w4,w6]
      exact hnx v' st' h4 (h5 h3)
  · have e:i = P.S.length:=by omega
    rw [e,List.take_length] at h2 hnl
    unfold f9 at *
    simp (config:=KF) (disch:=omega) only [bZ,el,fY,aD,aq,cM,au,lenI,addA,ak,cI,putS,Sf.set,Sf.reg,getR,setR,ae,look,aW,List.drop_zero,List.drop_succ_cons,↓reduceIte,Nat.reduceEqDiff,Nat.zero_add,List.length_map,cB,f45_29e,f45_30e,f45_31e,f45_31l,f45_32e]
    exact hKe _ _ _ (hQ _ _ h2 hnl h3)

theorem mX (P:ChP) (hl:Sm P) (st:St):bF Go.Proofs.Try.prog n_f45 [bu P] st (rrAV ((dm P).1,0,false,(dm P).2.1,(dm P).2.2)):=by
  have hl':=hl
  unfold Sm at hl
  refine oC (bf hmix k_f45 rfl rfl fun Q hQ=>?_) (by simp [ir]) st
  unfold aFun c_f45
  unfold dm at hQ
  cases hcl:P.closed with
  | true =>
    rw [hcl] at hQ
    simp only [if_true] at hQ
    simp (config:=KF) (disch:=omega) only [bZ,and_self,retI,resI,resL,aD,aq,bT,cm,dO,aF,au,bstV,boxX,aM,addA,ak,al,aQ,am,aG,ap,aE,putS,Sf.set,Sf.reg,getR,setR,ae,Sf.disAt,Sf.newLoc,Sf.setLoc,look,bW,aR,bt,ao,aj,aL,ar,ag,aa,aB,ai,bq,aJ,bO,aX,List.length_cons,List.length_nil,List.getElem?_cons_zero,List.getElem?_cons_succ,List.all_cons,List.all_nil,List.drop_zero,List.drop_succ_cons,List.take_succ_cons,List.take_zero,List.set_cons_zero,List.set_cons_succ,↓reduceIte,Nat.reduceEqDiff,Nat.reduceAdd,Nat.reduceLeDiff,Bool.true_and,Bool.and_true,and_true,true_and,reduceCtorEq,Nat.zero_add,decide_true,ah,af,f45_1e,f45_2e,f45_2l,f45_3e,f45_4e,f45_5e,f45_5l,f45_6e,f45_7e,f45_8e,f45_8l,bu,wlAV,hcl]
    refine hQ _ _ (.le _ _ ?_ (rr_nb _))
    simp only [rrAV,bu,hcl]
    exact .refl _
  | false =>
    rw [hcl] at hQ
    simp only [Bool.false_eq_true,if_false] at hQ
    simp (config:=KF) (disch:=omega) only [bZ,aD,aq,cm,dO,au,boxX,addA,ak,ap,putS,Sf.set,Sf.reg,getR,setR,ae,Sf.newLoc,look,bW,aR,bt,ao,aj,aL,ag,aa,aB,ai,bD,bO,aX,List.length_cons,List.length_nil,List.all_cons,List.all_nil,List.drop_zero,List.drop_succ_cons,↓reduceIte,Nat.reduceEqDiff,Nat.reduceAdd,Bool.true_and,Bool.and_true,and_true,true_and,reduceCtorEq,Nat.zero_add,f45_1e,f45_2e,f45_2l,f45_3e,f45_4e,f45_5e,f45_5l,f45_6e,f45_9e,f45_10e,f45_10l,f45_11e,f45_12e,f45_13e,f45_13l,f45_14e,bu,wlAV,hcl]
    refine mH P hcl hl' _ _ [] (by simp) (.inl ⟨rfl,rfl⟩) (fun _=>rfl) NBs.nil _ fun v1 st1 h1 n1 b1=>?_
    unfold f9
    obtain ⟨w1,w2,w3,w4,w5,w6,w7,w8⟩:=h1.facts
    simp (config:=KF) (disch:=omega) only [bZ,dp,putS,Sf.set,getR,setR,ae,look,↓reduceIte,Nat.reduceEqDiff,f45_24e,f45_25e,f45_26e,f45_26l,f45_27e]
    refine mI P hcl hl' v1 st1 ([]++endI 13 P.V) (by simp [endI]; omega) h1 n1 b1 _ fun v2 st2 h2 n2 b2=>?_
    unfold f9
    obtain ⟨w1,w2,w3,w4,w5,w6,w7,w8⟩:=h2.facts
    simp (config:=KF) (disch:=omega) only [bZ,List.contains_nil,List.contains_cons,Nat.reduceBEq,Bool.or_false,ksB,bz,bY,ci,bG,cO,cu,nstB,ck,da,cd,cc,gz,eZ,eB,bp,eX,fM,dp,retI,resI,resL,aD,aF,au,boxX,aM,addA,ak,al,am,aG,ap,evOwn_c,aE,disOp_c,putS,Sf.set,Sf.reg,getR,setR,ae,Sf.disAt,Sf.setLoc,look,aR,bk,ao,aj,aL,ar,ag,aa,aB,ai,bq,aJ,List.length_cons,List.length_nil,List.all_cons,List.all_nil,List.nil_append,List.drop_zero,List.take_succ_cons,List.take_zero,List.set_cons_zero,List.set_cons_succ,↓reduceIte,Nat.reduceEqDiff,Nat.reduceAdd,Nat.reduceLeDiff,Bool.true_and,Bool.and_true,and_true,true_and,Nat.zero_add,or_false,decide_true,Bool.not_false,Bool.false_eq_true,ah,af,f45_37e,f45_38e,f45_38l,f45_39e,f45_40e,f45_40h,f45_40l,w2,w4]
    refine hQ _ _ ?_
    have hf:=h2.frz (by decide) (iu _) b2
    have hi:Frz st2 v2 (cD (endI 13 P.V++endI 14 P.S)):=by
      unfold cD
      split
      · rename_i e
        rw [n2 (by rw [List.nil_append]; exact e)]
        exact .le _ _ (.refl _) (.lit _)
      · exact hf
    have hno:∀ l,(cD l).noOwn:=fun l=>by unfold cD; split <;> trivial
    have f1:frzL st2 [.lit (.int .i64 (P.cap:Nat)),.sl false 1 (ints P.buf),.lit (.slice none 0 0),.lit (.slice none 0 0),.lit (.bool true)] [.lit (.int .i64 (P.cap:Nat)),.sl false 1 (ints P.buf),wlAV [],wlAV [],.lit (.bool true)] :=
      ⟨.le _ _ (.refl _) (.lit _),.le _ _ (.refl _) (ints_nb _),.le _ _ (.nil _ _) (mC []),.le _ _ (.nil _ _) (mC []),.le _ _ (.refl _) (.lit _),trivial⟩
    have f2:frzL st2 [.lit (.int .i64 0),.lit (.bool false),v2,.lit (.int .i64 0)] [.lit (.int .i64 0),.lit (.bool false),cD (endI 13 P.V++endI 14 P.S),.lit (.int .i64 0)] :=
      ⟨.le _ _ (.refl _) (.lit _),.le _ _ (.refl _) (.lit _),hi,.le _ _ (.refl _) (.lit _),trivial⟩
    have f3:frzL st2 [.agg [.lit (.int .i64 (P.cap:Nat)),.sl false 1 (ints P.buf),.lit (.slice none 0 0),.lit (.slice none 0 0),.lit (.bool true)],.agg [.lit (.int .i64 0),.lit (.bool false),v2,.lit (.int .i64 0)]]
        [.agg [.lit (.int .i64 (P.cap:Nat)),.sl false 1 (ints P.buf),wlAV [],wlAV [],.lit (.bool true)],.agg [.lit (.int .i64 0),.lit (.bool false),cD (endI 13 P.V++endI 14 P.S),.lit (.int .i64 0)]] :=
      ⟨.agg _ _ (ed f1).1 (ed f1).2 (by simp [wlAV,AV.noOwn]),.agg _ _ (ed f2).1 (ed f2).2 (by
        simp only [List.mem_cons,List.not_mem_nil,or_false]
        rintro d (rfl | rfl | rfl | rfl)
        · trivial
        · trivial
        · exact hno _
        · trivial),trivial⟩
    exact .tup _ _ (ed f3).1 (ed f3).2
end Go.Fx.YtohlpjfhkejjgaaFx

