/- What the functions that the statement reaches compute: part 13. -/
import Derived.Test.YtphaaebhgggbaaaFxW12
namespace Go.Fx.YtphaaebhgggbaaaFx
open Go Go.Fx
attribute [local irreducible] aC runI bD cO

set_option maxRecDepth 100000
set_option maxHeartbeats 8000000

theorem ig {A B:List Nat} {n:Nat} (h:∀ i ∈ A,i < n) (k:∀ i ∈ B,n≤i):∀ i ∈ B,i ∉ A:=fun i hi hj=>by
  have:=h i hj
  have:=k i hi
  omega
theorem oO {A:List Nat} {m n:Nat} (h:∀ i ∈ A,m≤i) (k:n≤m):∀ i ∈ A,n≤i:=fun i hi=>Nat.le_trans k (h i hi)

theorem known39 (st:St):aZ Go.Proofs.Try.prog n_f10 [] st (fun r _=>r = .lit (.bool true)):=by
  refine aX hmix k_f10 rfl rfl fun Q hQ=>?_
  unfold aFun c_f10
  simp (config:=KF) (disch:=omega) only [bZ,ao,ev_f,putS,Sf.set,setR,aa,aO,id,f10_1e,f10_2e,f10_2l,f10_3e,f10_4e,f10_4l]
  refine ba rfl e_f35 (newla_calls (n:=2) (by decide) st) rfl fun r st1 hr=>?_
  obtain ⟨b1,x1,rfl,h1,f1,g1⟩:=hr
  simp (config:=KF) (disch:=omega) only [bZ,bJ,az,ao,extV,ev_f,putS,Sf.set,Sf.reg,getR,setR,aa,Sf.disAt,id,bp,bk,own2_ptr,List.getElem?_cons_zero,List.getElem?_cons_succ,↓reduceIte,Nat.reduceEqDiff,f10_5e,f10_6e,f10_6l]
  refine ba rfl e_f9 (newba_calls (n:=3) (by decide) st1) rfl fun r st2 hr=>?_
  obtain ⟨b2,x2,rfl,h2,f2,g2⟩:=hr
  simp (config:=KF) (disch:=omega) only [bZ,bJ,az,ao,extV,ev_f,putS,Sf.set,Sf.reg,getR,setR,aa,Sf.disAt,id,bp,bk,own2_ptr,List.getElem?_cons_zero,List.getElem?_cons_succ,↓reduceIte,Nat.reduceEqDiff,f10_7e,f10_8e,f10_8l]
  refine ba rfl e_f11 (newon_calls st2) rfl fun r st3 hr=>?_
  obtain ⟨b3,x3,rfl,h3,f3,g3⟩:=hr
  simp (config:=KF) (disch:=omega) only [bZ,ao,ev_f,putS,Sf.set,setR,id,↓reduceIte,Nat.reduceEqDiff]
  refine ba rfl e_f12 (lF st3) rfl fun r st4 hr=>?_
  obtain ⟨b4,x4,y4,rfl,h4,f4,g4⟩:=hr
  simp (config:=KF) (disch:=omega) only [bZ,aL,AI.dst,bh,bu,az,bA,fB,d7,cV,cH,putS,Sf.set,Sf.reg,getR,setR,aa,Sf.disAt,↓reduceIte,Nat.reduceEqDiff,not_true_eq_false,decide_false,Bool.false_eq_true,f10_9e,f10_10e,f10_11e,f10_11l,f10_12e,f10_15e]
  have l1:=h1.lts
  have l2:=h2.lts
  have l3:=h3.lts
  have e2:=f2.1
  have e3:=f3.1
  have e4:=f4.1
  have h1':=h1.fr ((f2.trans f3).trans f4) (by simp)
  have h2':=h2.fr (f3.trans f4) (by simp)
  have h3':=h3.fr f4 (by simp)
  simp (config:=KF) (disch:=omega) only [bZ,and_self,dq,cv,az,bslV,bstV,List.reduceReplicate,cE,bf,putS,Sf.set,Sf.reg,getR,setR,aa,Sf.disAt,e9,aI,al,ah,aA,ai,ae,af,List.length_cons,List.length_nil,List.getElem?_cons_zero,List.getElem?_cons_succ,List.all_cons,List.all_nil,List.set_cons_zero,List.set_cons_succ,↓reduceIte,Nat.reduceEqDiff,Nat.reduceAdd,Nat.reduceLT,Nat.reduceLeDiff,Bool.and_true,and_true,Nat.zero_add,am,aj,f10_16e,f10_16l,f10_17e]
  simp (config:=KF) (disch:=omega) only [bZ,cv,ao,bstV,bf,ev_f,putS,Sf.set,setR,id,ai,↓reduceIte,Nat.reduceEqDiff,f10_18e,f10_18l]
  refine aF rfl e_f50 (oN 3 _) rfl ?_
  simp (config:=KF) (disch:=omega) only [bZ,and_self,dq,ao,bslV,List.reduceReplicate,cE,ev_f,putS,Sf.set,Sf.reg,getR,setR,id,cW,aA,ae,af,List.length_cons,List.length_nil,List.all_cons,List.all_nil,List.set_cons_zero,↓reduceIte,Nat.reduceEqDiff,Nat.reduceLT,Bool.and_true,and_true,Nat.zero_add,rsAV]
  refine aF rfl e_f52 (iL [5] _) rfl ?_
  simp (config:=KF) (disch:=omega) only [bZ,and_self,dq,cv,az,bslV,bstV,List.reduceReplicate,cE,bf,putS,Sf.set,Sf.reg,getR,setR,aa,Sf.disAt,e9,aI,al,ah,aK,aA,ai,ae,aJ,af,List.length_cons,List.length_nil,List.getElem?_cons_zero,List.getElem?_cons_succ,List.all_cons,List.all_nil,List.set_cons_zero,List.set_cons_succ,↓reduceIte,Nat.reduceEqDiff,Nat.reduceAdd,Nat.reduceLT,Nat.reduceLeDiff,Bool.and_true,and_true,reduceCtorEq,Nat.zero_add,am,aj,f10_19e,f10_20e,f10_21e,f10_21l,rsAV,lAV]
  refine known_la (s:=(2,[])) (on:=[(0,5,0,false),(1,0,1,false),(1,0,2,false),(1,0,1,false),(0,5,0,false)]) (want:=[(false,false,[],0),(false,false,[],0),(false,false,[],3),(false,false,[5],0),(false,true,[],0)]) h1' rfl (by decide) (by decide) (by decide) _ fun st5 ga hla ho5=>?_
  have h2a:=h2'.fr (Fr.of ho5 fun _ h=>h) (ig l1 g2)
  have h3a:=h3'.fr (Fr.of ho5 fun _ h=>h) (ig l1 (oO g3 e2))
  have h4a:=h4.fr (Fr.of ho5 fun _ h=>h) (ig l1 (oO g4 (Nat.le_trans e2 e3)))
  simp (config:=KF) (disch:=omega) only [bZ,and_self,dq,cv,az,ao,bslV,bstV,List.reduceReplicate,cE,bf,ev_f,putS,Sf.set,Sf.reg,getR,setR,aa,Sf.disAt,id,e9,aI,al,ah,aA,ai,ae,af,List.length_cons,List.length_nil,List.getElem?_cons_zero,List.getElem?_cons_succ,List.all_cons,List.all_nil,List.set_cons_zero,List.set_cons_succ,↓reduceIte,Nat.reduceEqDiff,Nat.reduceAdd,Nat.reduceLT,Nat.reduceLeDiff,Bool.and_true,and_true,Nat.zero_add,am,aj,f10_36e,f10_37e,f10_37l,f10_38e,f10_39e,f10_39l]
  refine aF rfl e_f50 (oN 11 _) rfl ?_
  simp (config:=KF) (disch:=omega) only [bZ,and_self,dq,cv,az,bslV,bstV,List.reduceReplicate,cE,bf,putS,Sf.set,Sf.reg,getR,setR,aa,Sf.disAt,cW,e9,aI,al,ah,aK,aA,c7,ai,ae,aJ,af,List.length_cons,List.length_nil,List.getElem?_cons_zero,List.getElem?_cons_succ,List.all_cons,List.all_nil,List.set_cons_zero,List.set_cons_succ,↓reduceIte,Nat.reduceEqDiff,Nat.reduceAdd,Nat.reduceLT,Nat.reduceLeDiff,Bool.and_true,and_true,Nat.zero_add,am,aj,f10_40e,f10_41e,f10_42e,f10_42l,rsAV,lAV]
  refine known_ba (s:=(0,[])) (by decide) (on:=[(0,1,0,false),(0,2,0,false),(0,1,0,false),(0,0,0,false)]) (want:=[(false,false,[],0),(false,false,[],0),(false,false,[],11),(false,true,[1,2],0)]) h2a rfl (by decide) (by decide) (by decide) _ fun st6 gb hba ho6=>?_
  have h3b:=h3a.fr (Fr.of ho6 fun _ h=>h) (ig l2 g3)
  have h4b:=h4a.fr (Fr.of ho6 fun _ h=>h) (ig l2 (oO g4 e3))
  simp (config:=KF) (disch:=omega) only [bZ,and_self,dq,cv,az,ao,bslV,bstV,List.reduceReplicate,cE,bf,ev_f,putS,Sf.set,Sf.reg,getR,setR,aa,Sf.disAt,id,cW,e9,aI,al,ah,aA,ai,ae,af,List.length_cons,List.length_nil,List.getElem?_cons_zero,List.getElem?_cons_succ,List.all_cons,List.all_nil,List.set_cons_zero,List.set_cons_succ,↓reduceIte,Nat.reduceEqDiff,Nat.reduceAdd,Nat.reduceLT,Nat.reduceLeDiff,Bool.and_true,and_true,Nat.zero_add,am,aj,f10_57e,f10_58e,f10_58l,f10_59e,f10_60e,f10_60l]
  refine aF rfl e_f52 (iL [2] _) rfl ?_
  simp (config:=KF) (disch:=omega) only [bZ,and_self,dq,ao,bslV,List.reduceReplicate,cE,ev_f,putS,Sf.set,Sf.reg,getR,setR,id,cW,aA,ae,af,List.length_cons,List.length_nil,List.all_cons,List.all_nil,List.set_cons_zero,↓reduceIte,Nat.reduceEqDiff,Nat.reduceLT,Bool.and_true,and_true,reduceCtorEq,Nat.zero_add,rsAV,lAV]
  refine aF rfl e_f52 (iL [3] _) rfl ?_
  simp (config:=KF) (disch:=omega) only [bZ,and_self,dq,cv,az,bslV,bstV,List.reduceReplicate,cE,bf,putS,Sf.set,Sf.reg,getR,setR,aa,Sf.disAt,e9,aI,al,ah,aK,aA,ai,ae,aJ,af,List.length_cons,List.length_nil,List.getElem?_cons_zero,List.getElem?_cons_succ,List.all_cons,List.all_nil,List.set_cons_zero,List.set_cons_succ,↓reduceIte,Nat.reduceEqDiff,Nat.reduceAdd,Nat.reduceLT,Nat.reduceLeDiff,Bool.and_true,and_true,reduceCtorEq,Nat.zero_add,am,aj,f10_61e,f10_62e,f10_63e,f10_63l,rsAV,lAV]
  refine known_on (s:=(-1,[],false)) (on:=[(0,1,0,false),(0,2,0,false),(0,3,0,false),(1,1,0,false),(1,2,0,true),(0,1,0,false)]) (want:=[(true,false,[],0),(false,false,[],0),(false,false,[],0),(false,false,[2],0),(false,false,[3],0),(false,true,[],0)]) h3b rfl (by decide) (by decide) (by decide) _ fun st7 gc hon ho7=>?_
  have h2c:=hba.fr (Fr.of ho7 fun _ h=>h) fun i hi hj=>ig l2 g3 i hj hi
  have h4c:=h4b.fr (Fr.of ho7 fun _ h=>h) (ig l3 g4)
  simp (config:=KF) (disch:=omega) only [bZ,and_self,dq,cv,az,ao,bslV,bstV,List.reduceReplicate,cE,bf,ev_f,putS,Sf.set,Sf.reg,getR,setR,aa,Sf.disAt,id,cW,e9,aI,al,ah,aA,ai,ae,af,List.length_cons,List.length_nil,List.getElem?_cons_zero,List.getElem?_cons_succ,List.all_cons,List.all_nil,List.set_cons_zero,List.set_cons_succ,↓reduceIte,Nat.reduceEqDiff,Nat.reduceAdd,Nat.reduceLT,Nat.reduceLeDiff,Bool.and_true,and_true,Nat.zero_add,am,aj,f10_78e,f10_79e,f10_79l,f10_80e,f10_81e,f10_81l]
  refine aF rfl e_f52 (iL [2] _) rfl ?_
  simp (config:=KF) (disch:=omega) only [bZ,and_self,dq,cv,ao,bslV,bstV,List.reduceReplicate,cE,bf,ev_f,putS,Sf.set,Sf.reg,getR,setR,id,cW,aA,ai,ae,af,List.length_cons,List.length_nil,List.all_cons,List.all_nil,List.set_cons_zero,↓reduceIte,Nat.reduceEqDiff,Nat.reduceLT,Bool.and_true,and_true,reduceCtorEq,Nat.zero_add,rsAV,lAV]
  refine aF rfl e_f52 (iL [1] _) rfl ?_
  simp (config:=KF) (disch:=omega) only [bZ,ao,ev_f,putS,Sf.set,setR,id,↓reduceIte,Nat.reduceEqDiff,reduceCtorEq,rsAV,lAV]
  refine aF rfl e_f50 (oN 8 _) rfl ?_
  simp (config:=KF) (disch:=omega) only [bZ,and_self,dq,az,bslV,List.reduceReplicate,cE,putS,Sf.set,Sf.reg,getR,setR,aa,Sf.disAt,e9,aI,al,ah,aK,ai,ae,aJ,af,List.length_cons,List.length_nil,List.all_cons,List.all_nil,List.set_cons_zero,List.set_cons_succ,↓reduceIte,Nat.reduceEqDiff,Nat.reduceAdd,Nat.reduceLT,Bool.and_true,and_true,Nat.zero_add,f10_82e,f10_83e,f10_84e,f10_84l,rsAV,lAV]
  refine known_co (s:=(-1,[],[])) (on:=[(0,1,0,false),(0,2,0,false),(2,1,0,false),(3,0,0,false),(1,2,0,false),(1,2,0,false)]) (want:=[(false,true,[],0),(false,false,[],0),(false,false,[2],0),(false,false,[],0),(false,false,[1],0),(false,false,[],8)]) h4c rfl (by decide) (by decide) (by decide) _ fun st8 gd kd hco ho8=>?_
  have h2d:=h2c.fr (Fr.of ho8 fun _ h=>h) fun i hi hj=>ig l2 (oO g4 e3) i hj hi
  have hu:(mRun (baF 3) (0,[]) [(0,1,0,false),(0,2,0,false),(0,1,0,false),(0,0,0,false)]).1 = 1:=by decide
  have ht:=baturn_pure h2d
  rw [hu] at ht
  simp (config:=KF) (disch:=omega) only [bZ,ao,ev_f,putS,Sf.set,Sf.reg,getR,setR,id,↓reduceIte,Nat.reduceEqDiff,f10_99e,f10_100e,f10_100l]
  refine aF rfl e_f15 ht rfl ?_
  simp (config:=KF) (disch:=omega) only [bZ,retI,az,bW,putS,Sf.set,Sf.reg,getR,setR,aa,Sf.disAt,↓reduceIte,Nat.reduceEqDiff,Bool.true_and,true_and,reduceCtorEq,decide_true]
  exact hQ _ _ rfl
end Go.Fx.YtphaaebhgggbaaaFx

