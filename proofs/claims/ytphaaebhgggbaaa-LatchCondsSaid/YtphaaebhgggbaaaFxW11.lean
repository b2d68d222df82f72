/- What the functions that the statement reaches compute: part 11. -/
import Derived.Test.YtphaaebhgggbaaaFxW10
namespace Go.Fx.YtphaaebhgggbaaaFx
open Go Go.Fx
attribute [local irreducible] aC runI bD cO

set_option maxRecDepth 100000
set_option maxHeartbeats 4000000

/-! Calls by their numbers. -/
abbrev Ac := Int × Int × Int × Bool  -- what, task, n, success
def acAV (a:Ac):AV:=.agg [.lit (.int .i64 a.1),.lit (.int .i64 a.2.1),.lit (.int .i64 a.2.2.1),.lit (.bool a.2.2.2)]

def laDo (c:Int) (T:List Int) (a:Ac):(Int×List Int)×Rs :=
  if a.1 = 0 then ((c,(gD c T a.2.1).1),(false,(gD c T a.2.1).2.1,[],(gD c T a.2.1).2.2))
  else if a.1 = 1 then ((fk c T a.2.2.1).1,(false,false,(fk c T a.2.2.1).2.1,(fk c T a.2.2.1).2.2))
  else ((c,(lCan T a.2.1).1),(false,false,[],(lCan T a.2.1).2))
theorem laon_calls {st:St} {b:Nat} {x:Ln} {c:Int} {T:List Int} {g:Nat} (h:LaIs st b x c T g) (hg0:g < 1000000) (a:Ac):aZ Go.Proofs.Try.prog n_f41 [.ptr b 0,acAV a] st (fun r st' =>
    ∃ g',r = rsAV (laDo c T a).2∧LaIs st' b x (laDo c T a).1.1 (laDo c T a).1.2 g'∧g'≤g + 1∧Oth st st' (b::x.ids)):=by
  obtain ⟨w,t,n,s⟩:=a
  refine aX hmix k_f41 rfl rfl fun Q hQ=>?_
  unfold aFun c_f41
  unfold laDo rsAV at hQ
  simp only at hQ
  by_cases h0:w = 0
  · subst h0
    simp only [if_true,lAV] at hQ
    have hl:=oT h hg0 t
    generalize (gD c T t).1 = T' at *
    generalize (gD c T t).2.1 = d at *
    generalize (gD c T t).2.2 = e at *
    simp (config:=KF) (disch:=omega) only [bZ,aw,aq,az,bT,b9,ao,ar,boxX,addA,ag,bW,ev_f,au,putS,Sf.set,Sf.reg,getR,setR,aa,Sf.disAt,Sf.newLoc,look,bK,aU,aO,id,al,ah,ai,ae,af,bM,aW,aY,List.length_cons,List.length_nil,List.all_cons,List.all_nil,List.drop_zero,List.drop_succ_cons,↓reduceIte,Nat.reduceEqDiff,Nat.reduceAdd,Bool.true_and,Bool.and_true,and_true,true_and,reduceCtorEq,Nat.zero_add,Nat.add_zero,decide_true,f41_1e,f41_2e,f41_2l,f41_3e,f41_4e,f41_5e,f41_5l,f41_6e,f41_7e,f41_8e,f41_8l,f41_9e,f41_10e,f41_11e,f41_11l,acAV]
    refine ba rfl e_f76 hl rfl fun r st1 hr=>?_
    obtain ⟨g',rfl,h1,h2,h3⟩:=hr
    simp (config:=KF) (disch:=omega) only [bZ,and_self,cx,retI,resI,bJ,cv,az,aG,extV,bstV,boxX,aR,ag,ak,bf,ap,aH,au,aE,putS,Sf.set,Sf.reg,getR,setR,aa,Sf.disAt,Sf.setLoc,look,aU,al,bp,ah,bk,aA,ai,ae,af,bz,List.length_cons,List.length_nil,List.getElem?_cons_zero,List.getElem?_cons_succ,List.all_cons,List.all_nil,List.drop_zero,List.take_succ_cons,List.take_zero,List.set_cons_zero,List.set_cons_succ,↓reduceIte,Nat.reduceEqDiff,Nat.reduceAdd,Nat.reduceLeDiff,Bool.true_and,Bool.and_true,and_true,true_and,reduceCtorEq,Nat.zero_add,decide_true,am,aj,f41_12e,f41_13e,f41_13l]
    exact hQ _ _ ⟨g',rfl,h1,h2,h3.mono fun i hi=>List.mem_cons_of_mem _ hi⟩
  rw [if_neg h0] at hQ
  by_cases h1:w = 1
  · subst h1
    simp only [if_true] at hQ
    have hl:=oU h hg0 n
    generalize (fk c T n).1.1 = c' at *
    generalize (fk c T n).1.2 = T' at *
    generalize (fk c T n).2.1 = l at *
    generalize (fk c T n).2.2 = e at *
    obtain ⟨w1,w2,w3,w4,w5,w6,w7⟩:=cg l
    simp (config:=KF) (disch:=omega) only [bZ,aw,aq,az,bT,b9,ao,ar,boxX,addA,ag,bW,ev_f,au,putS,Sf.set,Sf.reg,getR,setR,aa,Sf.disAt,Sf.newLoc,look,bK,aU,aO,id,al,ah,ai,ae,af,bM,aW,aY,List.length_cons,List.length_nil,List.all_cons,List.all_nil,List.drop_zero,List.drop_succ_cons,↓reduceIte,Nat.reduceEqDiff,Nat.reduceAdd,Int.reduceEq,Bool.true_and,Bool.and_true,and_true,true_and,reduceCtorEq,Nat.zero_add,Nat.add_zero,decide_true,decide_false,f41_1e,f41_2e,f41_2l,f41_3e,f41_4e,f41_5e,f41_5l,f41_6e,f41_7e,f41_8e,f41_8l,f41_9e,f41_14e,f41_15e,f41_15l,f41_16e,f41_17e,f41_18e,f41_18l,acAV]
    refine ba rfl e_f37 hl rfl fun r st1 hr=>?_
    obtain ⟨rfl,h1,h2⟩:=hr
    simp (config:=KF) (disch:=omega) only [bZ,and_self,cx,retI,resI,bJ,cv,az,aG,extV,bstV,boxX,aR,ag,ak,bf,ap,aH,au,aE,putS,Sf.set,Sf.reg,getR,setR,aa,Sf.disAt,Sf.setLoc,look,aU,al,bp,ah,bk,aA,ai,ae,af,bz,List.length_cons,List.length_nil,List.getElem?_cons_zero,List.getElem?_cons_succ,List.all_cons,List.all_nil,List.drop_zero,List.take_succ_cons,List.take_zero,List.set_cons_zero,List.set_cons_succ,↓reduceIte,Nat.reduceEqDiff,Nat.reduceAdd,Nat.reduceLeDiff,Bool.true_and,Bool.and_true,and_true,true_and,reduceCtorEq,Nat.zero_add,decide_true,am,aj,f41_19e,f41_20e,f41_20l,w1,w2,w3,w4,w6]
    exact hQ _ _ ⟨g,rfl,h1,by omega,h2⟩
  rw [if_neg h1] at hQ
  simp only [lAV,if_true] at hQ
  simp (config:=KF) (disch:=omega) only [bZ,aD,aw,aq,az,bT,b9,ao,ar,boxX,addA,ag,bW,ev_f,au,putS,Sf.set,Sf.reg,getR,setR,aa,Sf.disAt,Sf.newLoc,look,bK,aU,aO,id,al,ah,ai,ae,af,bM,aW,aY,List.length_cons,List.length_nil,List.all_cons,List.all_nil,List.drop_zero,List.drop_succ_cons,↓reduceIte,Nat.reduceEqDiff,Nat.reduceAdd,Bool.true_and,Bool.and_true,and_true,true_and,reduceCtorEq,Nat.zero_add,Nat.add_zero,decide_false,f41_1e,f41_2e,f41_2l,f41_3e,f41_4e,f41_5e,f41_5l,f41_6e,f41_7e,f41_8e,f41_8l,f41_9e,f41_14e,f41_15e,f41_15l,f41_16e,f41_21e,f41_22e,f41_22l,acAV,h0,h1]
  refine ba rfl e_f38 (lacan_calls h hg0 t) rfl fun r st1 hr=>?_
  obtain ⟨rfl,h1,h2⟩:=hr
  simp (config:=KF) (disch:=omega) only [bZ,and_self,retI,resI,cv,aG,bstV,boxX,aR,ag,ak,bf,ap,aH,au,aE,putS,Sf.set,Sf.reg,getR,setR,aa,Sf.disAt,Sf.setLoc,look,aU,al,ah,aA,ai,ae,af,bz,List.length_cons,List.length_nil,List.getElem?_cons_zero,List.getElem?_cons_succ,List.all_cons,List.all_nil,List.drop_zero,List.take_succ_cons,List.take_zero,List.set_cons_zero,List.set_cons_succ,↓reduceIte,Nat.reduceEqDiff,Nat.reduceAdd,Nat.reduceLeDiff,Bool.true_and,Bool.and_true,and_true,true_and,reduceCtorEq,Nat.zero_add,decide_true,am,aj]
  exact hQ _ _ ⟨g,rfl,h1,by omega,h2.mono fun i hi=>List.mem_cons_of_mem _ hi⟩

def baDo (p u:Int) (T:List Int) (a:Ac):(Int×List Int)×Rs :=
  if a.1 = 0 then ((fo p u T a.2.1).1,(false,(fo p u T a.2.1).2.1,(fo p u T a.2.1).2.2.1,(fo p u T a.2.1).2.2.2))
  else ((u,(lCan T a.2.1).1),(false,false,[],(lCan T a.2.1).2))
theorem baon_calls {st:St} {b:Nat} {x:Ln} {p u:Int} {T:List Int} {g:Nat} (h:BaIs st b x p u T g) (hg0:g < 1000000) (hu:u < 1000000) (a:Ac):aZ Go.Proofs.Try.prog n_f13 [.ptr b 0,acAV a] st (fun r st' =>
    ∃ g',r = rsAV (baDo p u T a).2∧BaIs st' b x p (baDo p u T a).1.1 (baDo p u T a).1.2 g'∧g'≤g + 1∧Oth st st' (b::x.ids)):=by
  obtain ⟨w,t,n,s⟩:=a
  refine aX hmix k_f13 rfl rfl fun Q hQ=>?_
  unfold aFun c_f13
  unfold baDo rsAV at hQ
  simp only at hQ
  by_cases h0:w = 0
  · subst h0
    simp only [if_true] at hQ
    have hl:=baarr_calls h hg0 hu t
    generalize (fo p u T t).1.1 = u' at *
    generalize (fo p u T t).1.2 = T' at *
    generalize (fo p u T t).2.1 = d at *
    generalize (fo p u T t).2.2.1 = l at *
    generalize (fo p u T t).2.2.2 = e at *
    obtain ⟨w1,w2,w3,w4,w5,w6,w7⟩:=cg l
    simp (config:=KF) (disch:=omega) only [bZ,aw,aq,bT,b9,ao,ar,boxX,addA,ag,bW,ev_f,au,putS,Sf.set,Sf.reg,getR,setR,aa,Sf.newLoc,look,bK,aU,aO,id,al,ah,ai,ae,af,bM,aW,aY,List.length_cons,List.length_nil,List.all_cons,List.all_nil,List.drop_zero,List.drop_succ_cons,↓reduceIte,Nat.reduceEqDiff,Nat.reduceAdd,Bool.true_and,Bool.and_true,and_true,true_and,reduceCtorEq,Nat.zero_add,Nat.add_zero,decide_true,f13_1e,f13_2e,f13_2l,f13_3e,f13_4e,f13_5e,f13_5l,f13_6e,f13_7e,f13_8e,f13_8l,acAV]
    refine ba rfl e_f25 hl rfl fun r st1 hr=>?_
    obtain ⟨g',rfl,h1,h2,h3⟩:=hr
    simp (config:=KF) (disch:=omega) only [bZ,and_self,retI,resI,bJ,cv,az,aG,extV,bstV,boxX,aR,ag,ak,bf,ap,aH,au,aE,putS,Sf.set,Sf.reg,getR,setR,aa,Sf.disAt,Sf.setLoc,look,aU,al,bp,ah,bk,aA,ai,ae,af,bz,List.length_cons,List.length_nil,List.getElem?_cons_zero,List.getElem?_cons_succ,List.all_cons,List.all_nil,List.drop_zero,List.take_succ_cons,List.take_zero,List.set_cons_zero,List.set_cons_succ,↓reduceIte,Nat.reduceEqDiff,Nat.reduceAdd,Nat.reduceLeDiff,Bool.true_and,Bool.and_true,and_true,true_and,reduceCtorEq,Nat.zero_add,decide_true,am,aj,f13_9e,f13_10e,f13_10l,w1,w2,w3,w4,w6]
    exact hQ _ _ ⟨g',rfl,h1,h2,h3⟩
  rw [if_neg h0] at hQ
  simp only [lAV,if_true] at hQ
  simp (config:=KF) (disch:=omega) only [bZ,aw,aq,bT,b9,ao,ar,boxX,addA,ag,bW,ev_f,au,putS,Sf.set,Sf.reg,getR,setR,aa,Sf.newLoc,look,bK,aU,aO,id,al,ah,ai,ae,af,bM,aW,aY,List.length_cons,List.length_nil,List.all_cons,List.all_nil,List.drop_zero,List.drop_succ_cons,↓reduceIte,Nat.reduceEqDiff,Nat.reduceAdd,Bool.true_and,Bool.and_true,and_true,true_and,reduceCtorEq,Nat.zero_add,Nat.add_zero,decide_false,f13_1e,f13_2e,f13_2l,f13_3e,f13_4e,f13_5e,f13_5l,f13_6e,f13_11e,f13_12e,f13_12l,acAV,h0]
  refine ba rfl e_f53 (bacan_calls h hg0 t) rfl fun r st1 hr=>?_
  obtain ⟨rfl,h1,h2⟩:=hr
  simp (config:=KF) (disch:=omega) only [bZ,and_self,retI,resI,cv,aG,bstV,boxX,aR,ag,ak,bf,ap,aH,au,aE,putS,Sf.set,Sf.reg,getR,setR,aa,Sf.disAt,Sf.setLoc,look,aU,al,ah,aA,ai,ae,af,bz,List.length_cons,List.length_nil,List.getElem?_cons_zero,List.getElem?_cons_succ,List.all_cons,List.all_nil,List.drop_zero,List.take_succ_cons,List.take_zero,List.set_cons_zero,List.set_cons_succ,↓reduceIte,Nat.reduceEqDiff,Nat.reduceAdd,Nat.reduceLeDiff,Bool.true_and,Bool.and_true,and_true,true_and,reduceCtorEq,Nat.zero_add,decide_true,am,aj]
  exact hQ _ _ ⟨g,rfl,h1,by omega,h2.mono fun i hi=>List.mem_cons_of_mem _ hi⟩

def onDo (o:Int) (T:List Int) (d:Bool) (a:Ac):(Int×List Int×Bool)×Rs :=
  if a.1 = 0 then (((di o T d a.2.1).1.1,(di o T d a.2.1).1.2,d),((di o T d a.2.1).2.1,(di o T d a.2.1).2.2.1,[],(di o T d a.2.1).2.2.2))
  else if a.1 = 1 then ((dK o T d a.2.1 a.2.2.2).1,(false,false,(dK o T d a.2.1 a.2.2.2).2.1,(dK o T d a.2.1 a.2.2.2).2.2))
  else ((o,(lCan T a.2.1).1,d),(false,false,[],(lCan T a.2.1).2))
theorem onon_calls {st:St} {b:Nat} {x:Ln} {o:Int} {T:List Int} {d:Bool} {g:Nat} (h:OwIs st b x (.lit (.bool d)) o T g) (hg0:g < 1000000) (a:Ac):aZ Go.Proofs.Try.prog n_f16 [.ptr b 0,acAV a] st (fun r st' =>
    ∃ g',r = rsAV (onDo o T d a).2∧OwIs st' b x (.lit (.bool (onDo o T d a).1.2.2)) (onDo o T d a).1.1 (onDo o T d a).1.2.1 g'∧g'≤g + 1∧Oth st st' (b::x.ids)):=by
  obtain ⟨w,t,n,s⟩:=a
  refine aX hmix k_f16 rfl rfl fun Q hQ=>?_
  unfold aFun c_f16
  unfold onDo rsAV at hQ
  simp only at hQ
  by_cases h0:w = 0
  · subst h0
    simp only [if_true,lAV] at hQ
    have hl:=nc h hg0 t
    generalize (di o T d t).1.1 = o' at *
    generalize (di o T d t).1.2 = T' at *
    generalize (di o T d t).2.1 = r1 at *
    generalize (di o T d t).2.2.1 = r2 at *
    generalize (di o T d t).2.2.2 = e at *
    simp (config:=KF) (disch:=omega) only [bZ,aw,aq,az,bT,b9,ao,ar,boxX,addA,ag,bW,ev_f,au,putS,Sf.set,Sf.reg,getR,setR,aa,Sf.disAt,Sf.newLoc,look,bK,aU,aO,id,al,ah,ai,ae,af,bM,aW,aY,List.length_cons,List.length_nil,List.all_cons,List.all_nil,List.drop_zero,List.drop_succ_cons,↓reduceIte,Nat.reduceEqDiff,Nat.reduceAdd,Bool.true_and,Bool.and_true,and_true,true_and,reduceCtorEq,Nat.zero_add,Nat.add_zero,decide_true,f16_1e,f16_2e,f16_2l,f16_3e,f16_4e,f16_5e,f16_5l,f16_6e,f16_7e,f16_8e,f16_8l,f16_9e,f16_10e,f16_11e,f16_11l,acAV]
    refine ba rfl e_f30 hl rfl fun r st1 hr=>?_
    obtain ⟨g',rfl,h1,h2,h3⟩:=hr
    simp (config:=KF) (disch:=omega) only [bZ,and_self,cx,retI,resI,bJ,cv,az,aG,extV,bstV,boxX,aR,ag,ak,bf,ap,aH,au,aE,putS,Sf.set,Sf.reg,getR,setR,aa,Sf.disAt,Sf.setLoc,look,aU,al,bp,ah,bk,aA,ai,ae,af,bz,List.length_cons,List.length_nil,List.getElem?_cons_zero,List.getElem?_cons_succ,List.all_cons,List.all_nil,List.drop_zero,List.take_succ_cons,List.take_zero,List.set_cons_zero,List.set_cons_succ,↓reduceIte,Nat.reduceEqDiff,Nat.reduceAdd,Nat.reduceLeDiff,Bool.true_and,Bool.and_true,and_true,true_and,reduceCtorEq,Nat.zero_add,decide_true,am,aj,f16_12e,f16_13e,f16_13l]
    exact hQ _ _ ⟨g',rfl,h1,h2,h3⟩
  rw [if_neg h0] at hQ
  by_cases h1:w = 1
  · subst h1
    simp only [if_true] at hQ
    have hl:=nf h hg0 t s
    generalize (dK o T d t s).1.1 = o' at *
    generalize (dK o T d t s).1.2.1 = T' at *
    generalize (dK o T d t s).1.2.2 = d' at *
    generalize (dK o T d t s).2.1 = l at *
    generalize (dK o T d t s).2.2 = e at *
    obtain ⟨w1,w2,w3,w4,w5,w6,w7⟩:=cg l
    simp (config:=KF) (disch:=omega) only [bZ,aw,aq,az,bT,b9,ao,ar,boxX,addA,ag,bW,ev_f,au,putS,Sf.set,Sf.reg,getR,setR,aa,Sf.disAt,Sf.newLoc,look,bK,aU,aO,id,al,ah,ai,ae,af,bM,aW,aY,List.length_cons,List.length_nil,List.all_cons,List.all_nil,List.drop_zero,List.drop_succ_cons,↓reduceIte,Nat.reduceEqDiff,Nat.reduceAdd,Int.reduceEq,Bool.true_and,Bool.and_true,and_true,true_and,reduceCtorEq,Nat.zero_add,Nat.add_zero,decide_true,decide_false,f16_1e,f16_2e,f16_2l,f16_3e,f16_4e,f16_5e,f16_5l,f16_6e,f16_7e,f16_8e,f16_8l,f16_9e,f16_14e,f16_15e,f16_15l,f16_16e,f16_17e,f16_18e,f16_18l,acAV]
    refine ba rfl e_f31 hl rfl fun r st1 hr=>?_
    obtain ⟨rfl,h1,h2⟩:=hr
    simp (config:=KF) (disch:=omega) only [bZ,and_self,cx,retI,resI,bJ,cv,az,aG,extV,bstV,boxX,aR,ag,ak,bf,ap,aH,au,aE,putS,Sf.set,Sf.reg,getR,setR,aa,Sf.disAt,Sf.setLoc,look,aU,al,bp,ah,bk,aA,ai,ae,af,bz,List.length_cons,List.length_nil,List.getElem?_cons_zero,List.getElem?_cons_succ,List.all_cons,List.all_nil,List.drop_zero,List.take_succ_cons,List.take_zero,List.set_cons_zero,List.set_cons_succ,↓reduceIte,Nat.reduceEqDiff,Nat.reduceAdd,Nat.reduceLeDiff,Bool.true_and,Bool.and_true,and_true,true_and,reduceCtorEq,Nat.zero_add,decide_true,am,aj,f16_19e,f16_20e,f16_20l,w1,w2,w3,w4,w6]
    exact hQ _ _ ⟨g,rfl,h1,by omega,h2⟩
  rw [if_neg h1] at hQ
  simp only [lAV,if_true] at hQ
  simp (config:=KF) (disch:=omega) only [bZ,aD,aw,aq,az,bT,b9,ao,ar,boxX,addA,ag,bW,ev_f,au,putS,Sf.set,Sf.reg,getR,setR,aa,Sf.disAt,Sf.newLoc,look,bK,aU,aO,id,al,ah,ai,ae,af,bM,aW,aY,List.length_cons,List.length_nil,List.all_cons,List.all_nil,List.drop_zero,List.drop_succ_cons,↓reduceIte,Nat.reduceEqDiff,Nat.reduceAdd,Bool.true_and,Bool.and_true,and_true,true_and,reduceCtorEq,Nat.zero_add,Nat.add_zero,decide_false,f16_1e,f16_2e,f16_2l,f16_3e,f16_4e,f16_5e,f16_5l,f16_6e,f16_7e,f16_8e,f16_8l,f16_9e,f16_14e,f16_15e,f16_15l,f16_16e,f16_21e,f16_22e,f16_22l,acAV,h0,h1]
  refine ba rfl e_f56 (oncan_calls h hg0 t) rfl fun r st1 hr=>?_
  obtain ⟨rfl,h1,h2⟩:=hr
  simp (config:=KF) (disch:=omega) only [bZ,and_self,retI,resI,cv,aG,bstV,boxX,aR,ag,ak,bf,ap,aH,au,aE,putS,Sf.set,Sf.reg,getR,setR,aa,Sf.disAt,Sf.setLoc,look,aU,al,ah,aA,ai,ae,af,bz,List.length_cons,List.length_nil,List.getElem?_cons_zero,List.getElem?_cons_succ,List.all_cons,List.all_nil,List.drop_zero,List.take_succ_cons,List.take_zero,List.set_cons_zero,List.set_cons_succ,↓reduceIte,Nat.reduceEqDiff,Nat.reduceAdd,Nat.reduceLeDiff,Bool.true_and,Bool.and_true,and_true,true_and,reduceCtorEq,Nat.zero_add,decide_true,am,aj]
  exact hQ _ _ ⟨g,rfl,h1,by omega,h2.mono fun i hi=>List.mem_cons_of_mem _ hi⟩

def coDo (o:Int) (T U:List Int) (a:Ac):(Int×List Int×List Int)×Rs :=
  if a.1 = 0 then (((cn o T U a.2.1).1.1,(cn o T U a.2.1).1.2,U),(false,(cn o T U a.2.1).2.1,[],(cn o T U a.2.1).2.2))
  else if a.1 = 1 then (((bX o T a.2.1).1.1,(bX o T a.2.1).1.2,U),(false,false,(bX o T a.2.1).2.1,(bX o T a.2.1).2.2))
  else if a.1 = 2 then (((bX o T a.2.1).1.1,(bX o T a.2.1).1.2,n5 o T U a.2.1),(false,false,(bX o T a.2.1).2.1,(bX o T a.2.1).2.2))
  else if a.1 = 3 then (((a8 o (T++U.take 1)).1.1,(a8 o (T++U.take 1)).1.2,U.drop 1),(false,false,(a8 o (T++U.take 1)).2,0))
  else if a.1 = 4 then (((a8 o (T++U)).1.1,(a8 o (T++U)).1.2,[]),(false,false,(a8 o (T++U)).2,0))
  else ((o,(io T U a.2.1).1.1,(io T U a.2.1).1.2),(false,false,[],(io T U a.2.1).2))
theorem ei {st:St} {b:Nat} {x y:Ln} {o:Int} {T U:List Int} {g k:Nat} (h:CoIs st b x y o T U g k) (hg0:g + 100 < 1000000) (hk0:k < 1000000) (a:Ac):aZ Go.Proofs.Try.prog n_f18 [.ptr b 0,acAV a] st (fun r st' =>
    ∃ g' k',r = rsAV (coDo o T U a).2∧CoIs st' b x y (coDo o T U a).1.1 (coDo o T U a).1.2.1 (coDo o T U a).1.2.2 g' k'∧g'≤g + 64∧k'≤k + 1∧Oth st st' (b::(x.ids++y.ids))):=by
  obtain ⟨w,t,n,s⟩:=a
  refine aX hmix k_f18 rfl rfl fun Q hQ=>?_
  unfold aFun c_f18
  unfold coDo rsAV at hQ
  simp only at hQ
  by_cases h0:w = 0
  · subst h0
    simp only [if_true,lAV] at hQ
    have hl:=kh h (by omega) t
    generalize (cn o T U t).1.1 = o' at *
    generalize (cn o T U t).1.2 = T' at *
    generalize (cn o T U t).2.1 = d at *
    generalize (cn o T U t).2.2 = e at *
    simp (config:=KF) (disch:=omega) only [bZ,aw,aq,az,bT,b9,ao,ar,boxX,addA,ag,bW,ev_f,au,putS,Sf.set,Sf.reg,getR,setR,aa,Sf.disAt,Sf.newLoc,look,bK,aU,aO,id,al,ah,ai,ae,af,bM,aW,aY,List.length_cons,List.length_nil,List.all_cons,List.all_nil,List.drop_zero,List.drop_succ_cons,↓reduceIte,Nat.reduceEqDiff,Nat.reduceAdd,Bool.true_and,Bool.and_true,and_true,true_and,reduceCtorEq,Nat.zero_add,Nat.add_zero,decide_true,f18_1e,f18_2e,f18_2l,f18_3e,f18_4e,f18_4l,f18_5e,f18_6e,f18_6l,f18_7e,f18_8e,f18_9e,f18_9l,f18_10e,f18_11e,f18_12e,f18_12l,f18_13e,f18_14e,f18_14l,acAV]
    refine ba rfl e_f45 hl rfl fun r st1 hr=>?_
    obtain ⟨g',rfl,h1,h2,h3⟩:=hr
    simp (config:=KF) (disch:=omega) only [bZ,aD,retI,resI,bJ,aw,aq,az,aG,extV,ar,boxX,aR,addA,ag,ak,ap,aH,au,aE,putS,Sf.set,Sf.reg,getR,setR,aa,Sf.disAt,Sf.setLoc,look,aU,al,bp,ah,bk,aA,ai,ae,af,bz,List.length_cons,List.length_nil,List.getElem?_cons_zero,List.getElem?_cons_succ,List.all_cons,List.all_nil,List.drop_zero,List.take_succ_cons,List.take_zero,List.set_cons_zero,List.set_cons_succ,↓reduceIte,Nat.reduceEqDiff,Nat.reduceAdd,Nat.reduceLeDiff,Bool.true_and,Bool.and_true,and_true,true_and,reduceCtorEq,Nat.zero_add,decide_true,am,aj,f18_32e,f18_33e,f18_33l,f18_34e,f18_35e,f18_35l]
    exact hQ _ _ ⟨g',k,rfl,h1,by omega,by omega,h3.mono (by simp +contextual)⟩
  rw [if_neg h0] at hQ
  by_cases h1:w = 1
  · subst h1
    simp only [if_true] at hQ
    have hl:=lz h (by omega) t
    generalize (bX o T t).1.1 = o' at *
    generalize (bX o T t).1.2 = T' at *
    generalize (bX o T t).2.1 = l at *
    generalize (bX o T t).2.2 = e at *
    obtain ⟨w1,w2,w3,w4,w5,w6,w7⟩:=cg l
    simp (config:=KF) (disch:=omega) only [bZ,aw,aq,az,bT,b9,ao,ar,boxX,addA,ag,bW,ev_f,au,putS,Sf.set,Sf.reg,getR,setR,aa,Sf.disAt,Sf.newLoc,look,bK,aU,aO,id,al,ah,ai,ae,af,bM,aW,aY,List.length_cons,List.length_nil,List.all_cons,List.all_nil,List.drop_zero,List.drop_succ_cons,↓reduceIte,Nat.reduceEqDiff,Nat.reduceAdd,Int.reduceEq,Bool.true_and,Bool.and_true,and_true,true_and,reduceCtorEq,Nat.zero_add,Nat.add_zero,decide_true,decide_false,f18_1e,f18_2e,f18_2l,f18_3e,f18_4e,f18_4l,f18_5e,f18_6e,f18_6l,f18_7e,f18_8e,f18_9e,f18_9l,f18_10e,f18_11e,f18_12e,f18_12l,f18_13e,f18_15e,f18_16e,f18_16l,f18_17e,f18_18e,f18_18l,acAV]
    refine ba rfl e_f58 hl rfl fun r st1 hr=>?_
    obtain ⟨rfl,h1,h2⟩:=hr
    simp (config:=KF) (disch:=omega) only [bZ,aD,retI,resI,bJ,aw,aq,az,aG,extV,ar,boxX,aR,addA,ag,ak,ap,aH,au,aE,putS,Sf.set,Sf.reg,getR,setR,aa,Sf.disAt,Sf.setLoc,look,aU,al,bp,ah,bk,aA,ai,ae,af,bz,List.length_cons,List.length_nil,List.getElem?_cons_zero,List.getElem?_cons_succ,List.all_cons,List.all_nil,List.drop_zero,List.take_succ_cons,List.take_zero,List.set_cons_zero,List.set_cons_succ,↓reduceIte,Nat.reduceEqDiff,Nat.reduceAdd,Nat.reduceLeDiff,Bool.true_and,Bool.and_true,and_true,true_and,reduceCtorEq,Nat.zero_add,decide_true,am,aj,f18_32e,f18_33e,f18_33l,f18_34e,f18_35e,f18_35l,w1,w2,w3,w4,w6]
    exact hQ _ _ ⟨g,k,rfl,h1,by omega,by omega,h2.mono (by simp +contextual)⟩
  rw [if_neg h1] at hQ
  by_cases h2:w = 2
  · subst h2
    simp only [if_true] at hQ
    have hl:=cowt_calls h (by omega) hk0 t
    generalize (bX o T t).1.1 = o' at *
    generalize (bX o T t).1.2 = T' at *
    generalize (bX o T t).2.1 = l at *
    generalize (bX o T t).2.2 = e at *
    obtain ⟨w1,w2,w3,w4,w5,w6,w7⟩:=cg l
    simp (config:=KF) (disch:=omega) only [bZ,aw,aq,az,bT,b9,ao,ar,boxX,addA,ag,bW,ev_f,au,putS,Sf.set,Sf.reg,getR,setR,aa,Sf.disAt,Sf.newLoc,look,bK,aU,aO,id,al,ah,ai,ae,af,bM,aW,aY,List.length_cons,List.length_nil,List.all_cons,List.all_nil,List.drop_zero,List.drop_succ_cons,↓reduceIte,Nat.reduceEqDiff,Nat.reduceAdd,Int.reduceEq,Bool.true_and,Bool.and_true,and_true,true_and,reduceCtorEq,Nat.zero_add,Nat.add_zero,decide_true,decide_false,f18_1e,f18_2e,f18_2l,f18_3e,f18_4e,f18_4l,f18_5e,f18_6e,f18_6l,f18_7e,f18_8e,f18_9e,f18_9l,f18_10e,f18_11e,f18_12e,f18_12l,f18_13e,f18_15e,f18_16e,f18_16l,f18_17e,f18_19e,f18_20e,f18_20l,f18_21e,f18_22e,f18_22l,acAV]
    refine ba rfl e_f59 hl rfl fun r st1 hr=>?_
    obtain ⟨k',rfl,h1,h2,h3⟩:=hr
    simp (config:=KF) (disch:=omega) only [bZ,aD,retI,resI,bJ,aw,aq,az,aG,extV,ar,boxX,aR,addA,ag,ak,ap,aH,au,aE,putS,Sf.set,Sf.reg,getR,setR,aa,Sf.disAt,Sf.setLoc,look,aU,al,bp,ah,bk,aA,ai,ae,af,bz,List.length_cons,List.length_nil,List.getElem?_cons_zero,List.getElem?_cons_succ,List.all_cons,List.all_nil,List.drop_zero,List.take_succ_cons,List.take_zero,List.set_cons_zero,List.set_cons_succ,↓reduceIte,Nat.reduceEqDiff,Nat.reduceAdd,Nat.reduceLeDiff,Bool.true_and,Bool.and_true,and_true,true_and,reduceCtorEq,Nat.zero_add,decide_true,am,aj,f18_32e,f18_33e,f18_33l,f18_34e,f18_35e,f18_35l,w1,w2,w3,w4,w6]
    exact hQ _ _ ⟨g,k',rfl,h1,by omega,h2,h3⟩
  rw [if_neg h2] at hQ
  by_cases h3:w = 3
  · subst h3
    simp only [if_true] at hQ
    have hl:=cosig_calls h hg0 hk0
    generalize (a8 o (T++U.take 1)).1.1 = o' at *
    generalize (a8 o (T++U.take 1)).1.2 = T' at *
    generalize (a8 o (T++U.take 1)).2 = l at *
    obtain ⟨w1,w2,w3,w4,w5,w6,w7⟩:=cg l
    simp (config:=KF) (disch:=omega) only [bZ,aw,aq,az,bT,b9,ao,ar,boxX,addA,ag,bW,ev_f,au,putS,Sf.set,Sf.reg,getR,setR,aa,Sf.disAt,Sf.newLoc,look,bK,aU,aO,id,al,ah,ai,ae,af,bM,aW,aY,List.length_cons,List.length_nil,List.all_cons,List.all_nil,List.drop_zero,↓reduceIte,Nat.reduceEqDiff,Nat.reduceAdd,Int.reduceEq,Bool.true_and,Bool.and_true,and_true,true_and,reduceCtorEq,Nat.zero_add,Nat.add_zero,decide_true,decide_false,f18_1e,f18_2e,f18_2l,f18_3e,f18_4e,f18_4l,f18_5e,f18_6e,f18_6l,f18_7e,f18_8e,f18_9e,f18_9l,f18_10e,f18_11e,f18_12e,f18_12l,f18_13e,f18_15e,f18_16e,f18_16l,f18_17e,f18_19e,f18_20e,f18_20l,f18_21e,f18_23e,f18_24e,f18_24l,f18_25e,f18_26e,f18_26l,acAV]
    refine ba rfl e_f60 hl rfl fun r st1 hr=>?_
    obtain ⟨g',rfl,h1,h2,h3⟩:=hr
    simp (config:=KF) (disch:=omega) only [bZ,aD,retI,resI,bJ,aw,aq,az,aG,extV,ar,boxX,aR,addA,ag,ak,ap,aH,au,aE,putS,Sf.set,Sf.reg,getR,setR,aa,Sf.disAt,Sf.setLoc,look,aU,al,bp,ah,bk,aA,ai,ae,af,bz,List.length_cons,List.length_nil,List.getElem?_cons_zero,List.getElem?_cons_succ,List.all_cons,List.all_nil,List.drop_zero,List.take_succ_cons,List.take_zero,List.set_cons_zero,List.set_cons_succ,↓reduceIte,Nat.reduceEqDiff,Nat.reduceAdd,Nat.reduceLeDiff,Bool.true_and,Bool.and_true,and_true,true_and,reduceCtorEq,Nat.zero_add,decide_true,am,aj,f18_32e,f18_33e,f18_33l,f18_34e,f18_35e,f18_35l,w1,w2,w3,w4,w6]
    exact hQ _ _ ⟨g',k,rfl,h1,h2,by omega,h3⟩
  rw [if_neg h3] at hQ
  by_cases h4:w = 4
  · subst h4
    simp only [if_true] at hQ
    have hl:=lE h hg0 hk0
    generalize (a8 o (T++U)).1.1 = o' at *
    generalize (a8 o (T++U)).1.2 = T' at *
    generalize (a8 o (T++U)).2 = l at *
    obtain ⟨w1,w2,w3,w4,w5,w6,w7⟩:=cg l
    simp (config:=KF) (disch:=omega) only [bZ,aw,aq,az,bT,b9,ao,ar,boxX,addA,ag,bW,ev_f,au,putS,Sf.set,Sf.reg,getR,setR,aa,Sf.disAt,Sf.newLoc,look,bK,aU,aO,id,al,ah,ai,ae,af,bM,aW,aY,List.length_cons,List.length_nil,List.all_cons,List.all_nil,List.drop_zero,↓reduceIte,Nat.reduceEqDiff,Nat.reduceAdd,Int.reduceEq,Bool.true_and,Bool.and_true,and_true,true_and,reduceCtorEq,Nat.zero_add,Nat.add_zero,decide_true,decide_false,f18_1e,f18_2e,f18_2l,f18_3e,f18_4e,f18_4l,f18_5e,f18_6e,f18_6l,f18_7e,f18_8e,f18_9e,f18_9l,f18_10e,f18_11e,f18_12e,f18_12l,f18_13e,f18_15e,f18_16e,f18_16l,f18_17e,f18_19e,f18_20e,f18_20l,f18_21e,f18_23e,f18_24e,f18_24l,f18_25e,f18_27e,f18_28e,f18_28l,f18_29e,f18_30e,f18_30l,acAV]
    refine ba rfl e_f46 hl rfl fun r st1 hr=>?_
    obtain ⟨g',rfl,h1,h2,h3⟩:=hr
    simp (config:=KF) (disch:=omega) only [bZ,aD,retI,resI,bJ,aw,aq,az,aG,extV,ar,boxX,aR,addA,ag,ak,ap,aH,au,aE,putS,Sf.set,Sf.reg,getR,setR,aa,Sf.disAt,Sf.setLoc,look,aU,al,bp,ah,bk,aA,ai,ae,af,bz,List.length_cons,List.length_nil,List.getElem?_cons_zero,List.getElem?_cons_succ,List.all_cons,List.all_nil,List.drop_zero,List.take_succ_cons,List.take_zero,List.set_cons_zero,List.set_cons_succ,↓reduceIte,Nat.reduceEqDiff,Nat.reduceAdd,Nat.reduceLeDiff,Bool.true_and,Bool.and_true,and_true,true_and,reduceCtorEq,Nat.zero_add,decide_true,am,aj,f18_32e,f18_33e,f18_33l,f18_34e,f18_35e,f18_35l,w1,w2,w3,w4,w6]
    exact hQ _ _ ⟨g',k,rfl,h1,h2,by omega,h3⟩
  rw [if_neg h4] at hQ
  simp only [lAV,if_true] at hQ
  simp (config:=KF) (disch:=omega) only [bZ,aw,aq,az,bT,b9,ao,ar,boxX,addA,ag,bW,ev_f,au,putS,Sf.set,Sf.reg,getR,setR,aa,Sf.disAt,Sf.newLoc,look,bK,aU,aO,id,al,ah,ai,ae,af,bM,aW,aY,List.length_cons,List.length_nil,List.all_cons,List.all_nil,List.drop_zero,List.drop_succ_cons,↓reduceIte,Nat.reduceEqDiff,Nat.reduceAdd,Bool.true_and,Bool.and_true,and_true,true_and,reduceCtorEq,Nat.zero_add,Nat.add_zero,decide_false,f18_1e,f18_2e,f18_2l,f18_3e,f18_4e,f18_4l,f18_5e,f18_6e,f18_6l,f18_7e,f18_8e,f18_9e,f18_9l,f18_10e,f18_11e,f18_12e,f18_12l,f18_13e,f18_15e,f18_16e,f18_16l,f18_17e,f18_19e,f18_20e,f18_20l,f18_21e,f18_23e,f18_24e,f18_24l,f18_25e,f18_27e,f18_28e,f18_28l,f18_29e,f18_31e,f18_31l,acAV,h0,h1,h2,h3,h4]
  refine ba rfl e_f61 (cocan_calls h (by omega) hk0 t) rfl fun r st1 hr=>?_
  obtain ⟨rfl,h1,h2⟩:=hr
  simp (config:=KF) (disch:=omega) only [bZ,aD,retI,resI,aw,aq,az,aG,ar,boxX,aR,addA,ag,ak,ap,aH,au,aE,putS,Sf.set,Sf.reg,getR,setR,aa,Sf.disAt,Sf.setLoc,look,aU,al,ah,aA,ai,ae,af,bz,List.length_cons,List.length_nil,List.all_cons,List.all_nil,List.drop_zero,List.take_succ_cons,List.take_zero,List.set_cons_zero,List.set_cons_succ,↓reduceIte,Nat.reduceEqDiff,Nat.reduceAdd,Nat.reduceLeDiff,Bool.true_and,Bool.and_true,and_true,true_and,reduceCtorEq,Nat.zero_add,decide_true,am,aj,f18_32e,f18_33e,f18_33l,f18_34e,f18_35e,f18_35l]
  exact hQ _ _ ⟨g,k,rfl,h1,by omega,by omega,h2⟩
end Go.Fx.YtphaaebhgggbaaaFx

