/- What the functions that the statement reaches compute: part 16. -/
import Derived.Test.YtohlpjfhkejjgaaFxW15
namespace Go.Fx.YtohlpjfhkejjgaaFx
open Go Go.Fx
attribute [local irreducible] aC runI aY cF

set_option maxRecDepth 100000
set_option maxHeartbeats 4000000

theorem pDo_0 (P:ChP) (t v:Int):pDo P (0,t,v) = ((eJ P t v).1,0,(eJ P t v).2.1,(eJ P t v).2.2.1,(eJ P t v).2.2.2):=rfl
theorem pDo_1 (P:ChP) (t v:Int):pDo P (1,t,v) = ((co P t).1,(co P t).2.1,(co P t).2.2.1,(co P t).2.2.2.1,(co P t).2.2.2.2):=rfl
theorem pDo_2 (P:ChP) (t v:Int):pDo P (2,t,v) = ((bI P v).1,0,decide ((bI P v).2.2 = 0),(bI P v).2.1,(bI P v).2.2):=rfl
theorem pDo_3 (P:ChP) (t v:Int):pDo P (3,t,v) = ((aO P).1,(aO P).2.1,decide ((aO P).2.2.2 = 0),(aO P).2.2.1,(aO P).2.2.2):=rfl

def fa (l:List Ca):AV:=.sl false 3 (l.map caAV)
theorem oS (l:List (Int×Int×Int×Unit)):AV.sl false 3 (l.map fun x=>.agg [.lit (.int .i64 x.1),.lit (.int .i64 x.2.1),.lit (.int .i64 x.2.2.1)]) = fa (l.map fun x=>(x.1,x.2.1,x.2.2.1)):=by
  simp only [fa,List.map_map]; rfl
section
variable {st:St} {c q0 m0 q1 m1 wid:Nat} {bv:AV} {P:ChP}

theorem iI (h:ChIs st c P q0 m0 q1 m1 wid bv):bF Go.Proofs.Try.prog n_f15 [.ptr c 0,bu P] st (.lit (.bool true)):=by
  refine cC hmix k_f15 rfl rfl fun Q hQ=>?_
  unfold aFun c_f15
  simp (config:=KF) (disch:=omega) only [bZ,dO,az,boxX,ev_f,ap,putS,Sf.set,Sf.reg,getR,setR,ae,Sf.newLoc,look,bW,aR,bt,id,ao,aj,aL,ag,aa,aB,ai,cn,aX,List.length_cons,List.length_nil,List.all_cons,List.all_nil,↓reduceIte,Nat.reduceEqDiff,Nat.reduceAdd,Bool.true_and,Bool.and_true,and_true,true_and,reduceCtorEq,Nat.zero_add,f15_1e,f15_2e,f15_2l,f15_3e,f15_4e,f15_4l,bu,wlAV]
  refine bA rfl e_f12 (mW h) rfl ?_
  simp (config:=KF) (disch:=omega) only [bZ,List.contains_nil,cd,cX,gL,bp,bP,aA,extV,ev_f,putS,Sf.set,Sf.reg,getR,setR,ae,Sf.disAt,look,bk,id,bg,aU,List.getElem?_cons_zero,List.getElem?_cons_succ,↓reduceIte,Nat.reduceEqDiff,reduceCtorEq,Bool.false_eq_true,f15_5e,f15_6e,f15_6h,f15_6l]
  refine jh rfl e_f13 (nW h) rfl ?_
  simp (config:=KF) (disch:=omega) only [bZ,cd,h_some,cX,mo,cJ,cc,hh_len,gL,kE,e6,bp,AI.dst,au,lenI,addA,ak,bR,ev_f,putS,Sf.set,Sf.reg,getR,setR,look,id,aW,List.drop_zero,List.drop_succ_cons,↓reduceIte,Nat.reduceEqDiff,reduceCtorEq,Nat.zero_add,decide_true,cg]
  refine jh rfl e_f17 (ccap_pure h) rfl ?_
  simp (config:=KF) (disch:=omega) only [bZ,cd,h_some,cX,hh_pick,mo,cJ,cc,hh_len,gL,kE,e6,bp,AI.dst,bQ,au,lenI,addA,ak,bR,ev_f,putS,Sf.set,Sf.reg,getR,setR,look,id,aW,List.drop_zero,List.drop_succ_cons,↓reduceIte,Nat.reduceEqDiff,reduceCtorEq,Nat.zero_add,Nat.add_zero,decide_true,List.length_map]
  refine jh rfl e_f18 (oQ h) rfl ?_
  simp (config:=KF) (disch:=omega) only [bZ,da,h_some,cJ,cc,kE,e6,bp,tail_nil,retI,aw,AI.dst,bX,a7,aA,bQ,au,b_eql,addA,ak,putS,Sf.set,Sf.reg,getR,setR,ae,Sf.disAt,look,List.drop_zero,List.drop_succ_cons,↓reduceIte,Nat.reduceEqDiff,Bool.true_and,true_and,reduceCtorEq,Nat.zero_add,beq_self_eq_true]
  exact hQ _

theorem ce (h:ChIs st c P q0 m0 q1 m1 wid bv) (a:Ca) (y:Rs) (he:(pDo P a).2 = y) {n:Nat} (hb:Bd P n) (hn:n < 3000) (hy:y.2.2.1.length≤1000) :
    bj Go.Proofs.Try.prog n_f25 [.ptr c 0,caAV a,rsAV y] st (fun r st'=>r = .lit (.bool true)∧cV st c (pDo P a).1 q0 m0 q1 m1 wid bv st') :=
  (mB h a y ⟨hb,hn⟩ hy).mono fun r st' ⟨h1,h2⟩=>⟨by rw [h1,he]; simp,h2⟩
end

theorem refnew_pure (n:Nat) (hn:n≤4096) (st:St):bF Go.Proofs.Try.prog n_f14 [.lit (.int .i64 (n:Nat))] st (.tup [bu (newP n),.lit (.int .i64 0)]):=by
  refine f8 hmix k_f14 rfl rfl (.tup _ (by simp [ir,eQ])) (by simp [eQ]) (fun Q hQ=>?_) st
  unfold aFun c_f14
  simp (config:=KF) (disch:=omega) only [bZ,and_self,retI,resI,resL,aw,AI.dst,a9,a7,bT,cm,aF,bN,bstV,boxX,aM,ak,al,aQ,cI,ez,am,aG,ap,aE,putS,Sf.set,Sf.reg,getR,setR,ae,Sf.disAt,Sf.newLoc,Sf.setLoc,look,bW,aR,bt,ao,aj,ar,ag,aa,ai,bq,aJ,bD,List.length_cons,List.length_nil,List.getElem?_cons_zero,List.all_cons,List.all_nil,List.drop_zero,List.take_succ_cons,List.take_zero,List.set_cons_zero,List.set_cons_succ,↓reduceIte,Nat.reduceEqDiff,Nat.reduceAdd,Nat.reduceLeDiff,Bool.true_and,Bool.and_true,and_true,true_and,reduceCtorEq,Nat.zero_add,decide_true,Bool.false_eq_true,cB,dP,ah,af,f14_1e,f14_2e,f14_2l,f14_3e,f14_4e,f14_5e,f14_5l,f14_6e,f14_9e,f14_10e,f14_10l]
  refine hQ _ _ (.tupL ⟨?_,.refl _,trivial⟩)
  refine .aggL ⟨.refl _,.nil _ _,.nil _ _,.nil _ _,.refl _,trivial⟩
theorem refnew_err (n:Int) (hn:n < 0∨4096 < n) (st:St):bF Go.Proofs.Try.prog n_f14 [.lit (.int .i64 n)] st (.tup [bu (newP 0),.lit (.int .i64 2)]):=by
  refine f8 hmix k_f14 rfl rfl (.tup _ (by simp [ir,eQ])) (by simp [eQ]) (fun Q hQ=>?_) st
  unfold aFun c_f14
  simp (config:=KF) (disch:=omega) only [bZ,aw,AI.dst,cm,cI,putS,Sf.set,Sf.reg,getR,setR,ae,Sf.newLoc,look,bW,aR,bt,bD,↓reduceIte,Nat.reduceEqDiff,reduceCtorEq,f14_1e,f14_2e,f14_2l,f14_3e,f14_4e,f14_5e,f14_5l]
  refine c8 (fun h1=>?_) (fun h1=>?_)
  · simp (config:=KF) (disch:=omega) only [bZ,retI,resI,resL,aw,cQ,AI.dst,bX,a7,bT,aF,bQ,bstV,boxX,aM,ak,al,aQ,am,aG,ap,aE,putS,Sf.set,Sf.reg,getR,setR,ae,Sf.disAt,Sf.setLoc,look,aR,ao,aj,ag,aa,ai,bq,aJ,List.length_cons,List.length_nil,List.all_cons,List.all_nil,List.drop_zero,List.take_succ_cons,List.take_zero,List.set_cons_zero,List.set_cons_succ,↓reduceIte,Nat.reduceEqDiff,Nat.reduceAdd,Nat.reduceLeDiff,Bool.true_and,Bool.and_true,and_true,true_and,reduceCtorEq,Nat.zero_add,decide_true,Bool.false_eq_true,ah,af,f14_6e,f14_7e,f14_8e,f14_8l]
    refine hQ _ _ (.tupL ⟨?_,.refl _,trivial⟩)
    refine .aggL ⟨.refl _,.nil _ _,.nil _ _,.nil _ _,.refl _,trivial⟩
  · simp (config:=KF) (disch:=omega) only [bZ,retI,resI,resL,aw,AI.dst,a9,a7,bT,aF,bN,bstV,boxX,aM,ak,al,aQ,ez,am,aG,ap,aE,putS,Sf.set,Sf.reg,getR,setR,ae,Sf.disAt,Sf.setLoc,look,aR,ao,aj,ag,aa,ai,bq,aJ,List.length_cons,List.length_nil,List.all_cons,List.all_nil,List.drop_zero,List.take_succ_cons,List.take_zero,List.set_cons_zero,List.set_cons_succ,↓reduceIte,Nat.reduceEqDiff,Nat.reduceAdd,Nat.reduceLeDiff,Bool.true_and,Bool.and_true,and_true,true_and,reduceCtorEq,Nat.zero_add,decide_true,Bool.false_eq_true,cN,ah,af,f14_6e,f14_7e,f14_8e,f14_8l]
    refine hQ _ _ (.tupL ⟨?_,.refl _,trivial⟩)
    refine .aggL ⟨.refl _,.nil _ _,.nil _ _,.nil _ _,.refl _,trivial⟩

theorem bd_new {n m:Nat} (hn:n≤4096):Bd (newP n) m:=⟨by simp [newP],by simp [newP],by simp [newP],by simp [newP],by simp [newP],hn⟩

theorem cnew_ex {n:Nat} (hn:n≤4096) (st:St):bj Go.Proofs.Try.prog n_f9 [.lit (.int .i64 (n:Nat))] st (fun r st' =>
    ∃ c q0 m0 q1 m1 wid bv,r = .tup [.ptr c 0,.lit (.int .i64 0)]∧ChIs st' c (newP n) q0 m0 q1 m1 wid bv) :=
  (cnew_calls hn st).mono fun r st' ⟨h1,h2,_⟩=>⟨_,_,_,_,_,_,_,h1,h2⟩

theorem known36 (st:St):bj Go.Proofs.Try.prog n_f10 [] st (fun r _=>r = .lit (.bool true)):=by
  refine bf hmix k_f10 rfl rfl fun Q hQ=>?_
  unfold aFun c_f10
  simp (config:=KF) (disch:=omega) only [bZ,az,ev_f,putS,Sf.set,setR,ae,bt,id,f10_1e,f10_2e,f10_2l,f10_3e,f10_4e,f10_4l]
  refine ba rfl e_f9 (cnew_ex (n:=1) (by decide) st) rfl fun r st0 hr=>?_
  obtain ⟨c,q0,m0,q1,m1,wid,bv,rfl,h0⟩:=hr
  have b0:Bd (newP 1) 1:=bd_new (by decide)
  simp (config:=KF) (disch:=omega) only [bZ,and_self,aw,AI.dst,a9,a7,bP,bT,aA,az,bN,extV,bstV,fZ,ec,cZ,aQ,gw,ev_f,putS,Sf.set,Sf.reg,getR,setR,ae,Sf.disAt,id,bg,aU,own2_ptr,ar,ag,aa,ai,List.length_cons,List.length_nil,List.getElem?_cons_zero,List.getElem?_cons_succ,List.all_cons,List.all_nil,List.set_cons_zero,List.set_cons_succ,↓reduceIte,Nat.reduceEqDiff,Nat.reduceAdd,Nat.reduceLeDiff,Bool.and_true,and_true,Nat.zero_add,not_true_eq_false,decide_false,Bool.false_eq_true,ah,af,f10_5e,f10_6e,f10_7e,f10_7l,f10_8e,f10_11e,f10_12e,f10_13e,f10_13l]
  refine ba rfl e_f25 (ce h0 (0,0,5) (0,true,[],0) (by decide) b0 (by omega) (by decide)) rfl fun r st1 hr=>?_
  obtain ⟨rfl,bv1,h1,_,_⟩:=hr
  have b1:=(fR b0 (0,0,5)).1
  simp (config:=KF) (disch:=omega) only [bZ,and_self,aw,AI.dst,a9,o_un,bT,az,bstV,aQ,unA,ev_f,putS,Sf.set,Sf.reg,getR,setR,id,ar,ag,aa,ai,List.length_cons,List.length_nil,List.getElem?_cons_zero,List.getElem?_cons_succ,List.all_cons,List.all_nil,List.set_cons_zero,List.set_cons_succ,↓reduceIte,Nat.reduceEqDiff,Nat.reduceAdd,Nat.reduceLeDiff,Bool.and_true,and_true,Nat.zero_add,Bool.not_true,Bool.false_eq_true,ah,af]
  refine ba rfl e_f25 (ce h1 (0,1,6) (0,false,[],0) (by decide) b1 (by omega) (by decide)) rfl fun r st2 hr=>?_
  obtain ⟨rfl,bv2,h2,_,_⟩:=hr
  have b2:=(fR b1 (0,1,6)).1
  simp (config:=KF) (disch:=omega) only [bZ,and_self,aw,AI.dst,a9,a7,o_un,bT,az,bN,bstV,aQ,unA,ev_f,putS,Sf.set,Sf.reg,getR,setR,id,ar,ag,aa,ai,List.length_cons,List.length_nil,List.getElem?_cons_zero,List.getElem?_cons_succ,List.all_cons,List.all_nil,List.set_cons_zero,List.set_cons_succ,↓reduceIte,Nat.reduceEqDiff,Nat.reduceAdd,Nat.reduceLeDiff,Bool.and_true,and_true,Nat.zero_add,Bool.not_true,Bool.false_eq_true,ah,af]
  refine ba rfl e_f25 (ce h2 (0,1,7) (0,false,[],11) (by decide) b2 (by omega) (by decide)) rfl fun r st3 hr=>?_
  obtain ⟨rfl,bv3,h3,_,_⟩:=hr
  have b3:=(fR b2 (0,1,7)).1
  simp (config:=KF) (disch:=omega) only [bZ,and_self,aw,AI.dst,a9,a7,o_un,bT,az,bN,bstV,aQ,unA,ev_f,putS,Sf.set,Sf.reg,getR,setR,id,ar,ag,aa,ai,List.length_cons,List.length_nil,List.getElem?_cons_zero,List.getElem?_cons_succ,List.all_cons,List.all_nil,List.set_cons_zero,List.set_cons_succ,↓reduceIte,Nat.reduceEqDiff,Nat.reduceAdd,Nat.reduceLeDiff,Bool.and_true,and_true,Nat.zero_add,Bool.not_true,Bool.false_eq_true,ah,af]
  refine ba rfl e_f25 (ce h3 (2,0,8) (0,false,[],16) (by decide) b3 (by omega) (by decide)) rfl fun r st4 hr=>?_
  obtain ⟨rfl,bv4,h4,_,_⟩:=hr
  have b4:=(fR b3 (2,0,8)).1
  simp (config:=KF) (disch:=omega) only [bZ,and_self,aw,AI.dst,a9,a7,o_un,gp,bT,az,bN,bslV,bstV,List.reduceReplicate,dg,aQ,unA,ev_f,putS,Sf.set,Sf.reg,getR,setR,ae,id,c5,aW,ao,aj,ar,dy,ag,aa,aB,ai,List.length_cons,List.length_nil,List.getElem?_cons_zero,List.getElem?_cons_succ,List.all_cons,List.all_nil,List.set_cons_zero,List.set_cons_succ,↓reduceIte,Nat.reduceEqDiff,Nat.reduceAdd,Nat.reduceLT,Nat.reduceLeDiff,Bool.and_true,and_true,Nat.zero_add,Bool.not_true,Bool.false_eq_true,ah,af,f10_14e,f10_17e,f10_18e,f10_19e,f10_19l]
  refine ba rfl e_f25 (ce h4 (1,2,0) (5,true,[(1,0,0)],0) (by decide) b4 (by omega) (by decide)) rfl fun r st5 hr=>?_
  obtain ⟨rfl,bv5,h5,_,_⟩:=hr
  have b5:=(fR b4 (1,2,0)).1
  simp (config:=KF) (disch:=omega) only [bZ,aw,AI.dst,a9,o_un,az,unA,ev_f,putS,Sf.set,Sf.reg,getR,setR,id,↓reduceIte,Nat.reduceEqDiff,Bool.not_true,Bool.false_eq_true]
  refine bA rfl e_f13 (nW h5) rfl ?_
  rw [show ((pDo ((pDo ((pDo ((pDo ((pDo (newP 1) (0,0,5)).1) (0,1,6)).1) (0,1,7)).1) (2,0,8)).1) (1,2,0)).1).buf.length = 1 by decide]
  simp (config:=KF) (disch:=omega) only [bZ,and_self,aw,AI.dst,a9,a7,bT,az,bN,bstV,aQ,gw,ev_f,putS,Sf.set,Sf.reg,getR,setR,id,ar,ag,aa,ai,List.length_cons,List.length_nil,List.getElem?_cons_zero,List.getElem?_cons_succ,List.all_cons,List.all_nil,List.set_cons_zero,List.set_cons_succ,Int.cast_ofNat_Int,↓reduceIte,Nat.reduceEqDiff,Nat.reduceAdd,Nat.reduceLeDiff,Bool.and_true,and_true,Nat.zero_add,not_true_eq_false,decide_false,Bool.false_eq_true,ah,af]
  refine ba rfl e_f25 (ce h5 (3,0,0) (6,true,[],0) (by decide) b5 (by omega) (by decide)) rfl fun r st6 hr=>?_
  obtain ⟨rfl,bv6,h6,_,_⟩:=hr
  have b6:=(fR b5 (3,0,0)).1
  simp (config:=KF) (disch:=omega) only [bZ,and_self,aw,AI.dst,a9,a7,o_un,bT,az,bN,bstV,aQ,unA,ev_f,putS,Sf.set,Sf.reg,getR,setR,id,ar,ag,aa,ai,List.length_cons,List.length_nil,List.getElem?_cons_zero,List.getElem?_cons_succ,List.all_cons,List.all_nil,List.set_cons_zero,List.set_cons_succ,↓reduceIte,Nat.reduceEqDiff,Nat.reduceAdd,Nat.reduceLeDiff,Bool.and_true,and_true,Nat.zero_add,Bool.not_true,Bool.false_eq_true,ah,af]
  refine ba rfl e_f25 (ce h6 (1,2,0) (0,false,[],0) (by decide) b6 (by omega) (by decide)) rfl fun r st7 hr=>?_
  obtain ⟨rfl,bv7,h7,_,_⟩:=hr
  have b7:=(fR b6 (1,2,0)).1
  simp (config:=KF) (disch:=omega) only [bZ,and_self,aw,AI.dst,a9,a7,o_un,bT,az,bN,bstV,aQ,unA,ev_f,putS,Sf.set,Sf.reg,getR,setR,id,ar,ag,aa,ai,List.length_cons,List.length_nil,List.getElem?_cons_zero,List.getElem?_cons_succ,List.all_cons,List.all_nil,List.set_cons_zero,List.set_cons_succ,↓reduceIte,Nat.reduceEqDiff,Nat.reduceAdd,Nat.reduceLeDiff,Bool.and_true,and_true,Nat.zero_add,Bool.not_true,Bool.false_eq_true,ah,af]
  refine ba rfl e_f25 (ce h7 (1,3,0) (0,false,[],0) (by decide) b7 (by omega) (by decide)) rfl fun r st8 hr=>?_
  obtain ⟨rfl,bv8,h8,_,_⟩:=hr
  have b8:=(fR b7 (1,3,0)).1
  simp (config:=KF) (disch:=omega) only [bZ,and_self,aw,AI.dst,a9,a7,o_un,gp,bT,az,bN,bslV,bstV,List.reduceReplicate,dg,aQ,unA,ev_f,putS,Sf.set,Sf.reg,getR,setR,ae,id,c5,aW,ao,aj,ar,dy,ag,aa,aB,ai,List.length_cons,List.length_nil,List.getElem?_cons_zero,List.getElem?_cons_succ,List.all_cons,List.all_nil,List.set_cons_zero,List.set_cons_succ,↓reduceIte,Nat.reduceEqDiff,Nat.reduceAdd,Nat.reduceLT,Nat.reduceLeDiff,Bool.and_true,and_true,Nat.zero_add,Bool.not_true,Bool.false_eq_true,ah,af,f10_20e,f10_23e,f10_24e,f10_25e,f10_25l]
  refine ba rfl e_f25 (ce h8 (0,0,9) (0,true,[(2,9,0)],0) (by decide) b8 (by omega) (by decide)) rfl fun r st9 hr=>?_
  obtain ⟨rfl,bv9,h9,_,_⟩:=hr
  have b9:=(fR b8 (0,0,9)).1
  simp (config:=KF) (disch:=omega) only [bZ,and_self,o_un,gp,bT,az,bslV,bstV,List.reduceReplicate,dg,aQ,unA,ev_f,putS,Sf.set,Sf.reg,getR,setR,ae,id,c5,aW,ao,aj,ar,dy,ag,aa,aB,ai,List.length_cons,List.length_nil,List.getElem?_cons_zero,List.getElem?_cons_succ,List.all_cons,List.all_nil,List.set_cons_zero,List.set_cons_succ,↓reduceIte,Nat.reduceEqDiff,Nat.reduceAdd,Nat.reduceLT,Nat.reduceLeDiff,Bool.and_true,and_true,Nat.zero_add,Bool.not_true,ah,af,f10_26e,f10_29e,f10_30e,f10_30l]
  refine ba rfl e_f25 (ce h9 (5,0,0) (0,false,[(3,0,13)],0) (by decide) b9 (by omega) (by decide)) rfl fun r st10 hr=>?_
  obtain ⟨rfl,bv10,h10,_,_⟩:=hr
  have b10:=(fR b9 (5,0,0)).1
  simp (config:=KF) (disch:=omega) only [bZ,and_self,aw,AI.dst,bX,bT,az,bstV,aQ,ev_f,putS,Sf.set,Sf.reg,getR,setR,id,ar,ag,aa,ai,List.length_cons,List.length_nil,List.getElem?_cons_zero,List.getElem?_cons_succ,List.all_cons,List.all_nil,List.set_cons_zero,List.set_cons_succ,↓reduceIte,Nat.reduceEqDiff,Nat.reduceAdd,Nat.reduceLeDiff,Bool.and_true,and_true,Nat.zero_add,ah,af]
  refine ba rfl e_f25 (ce h10 (1,0,0) (0,false,[],13) (by decide) b10 (by omega) (by decide)) rfl fun r st11 hr=>?_
  obtain ⟨rfl,bv11,h11,_,_⟩:=hr
  have b11:=(fR b10 (1,0,0)).1
  simp (config:=KF) (disch:=omega) only [bZ,and_self,aw,AI.dst,bX,a7,bT,az,bQ,bstV,aQ,ev_f,putS,Sf.set,Sf.reg,getR,setR,id,ar,ag,aa,ai,List.length_cons,List.length_nil,List.getElem?_cons_zero,List.getElem?_cons_succ,List.all_cons,List.all_nil,List.set_cons_zero,List.set_cons_succ,↓reduceIte,Nat.reduceEqDiff,Nat.reduceAdd,Nat.reduceLeDiff,Bool.and_true,and_true,Nat.zero_add,ah,af]
  refine ba rfl e_f25 (ce h11 (0,0,1) (0,false,[],14) (by decide) b11 (by omega) (by decide)) rfl fun r st12 hr=>?_
  obtain ⟨rfl,bv12,h12,_,_⟩:=hr
  have b12:=(fR b11 (0,0,1)).1
  simp (config:=KF) (disch:=omega) only [bZ,retI,a7,aA,bQ,putS,Sf.set,Sf.reg,getR,setR,ae,Sf.disAt,↓reduceIte,Nat.reduceEqDiff,Bool.true_and,true_and,reduceCtorEq]
  exact hQ _ _ rfl
end Go.Fx.YtohlpjfhkejjgaaFx

