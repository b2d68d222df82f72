/- What the functions that the statement reaches compute: part 16. -/
import Derived.Test.YtphaaebhgggbaaaFxW15
namespace Go.Fx.YtphaaebhgggbaaaFx
open Go Go.Fx
attribute [local irreducible] aC runI bA cS

set_option maxRecDepth 100000
set_option maxHeartbeats 8000000

/-! The reference's states: printed by wip/dev/gen_lt19.py. -/
def stAV (c p u o:Int) (d:Bool) (T U:List Int):AV:=.agg [.lit (.int .i64 c),.lit (.int .i64 p),.lit (.int .i64 u),.lit (.int .i64 o),.lit (.bool d),.sl false 1 (ints T),.sl false 1 (ints U)]
def rsw (x:Rs):AV:=.agg [.lit (.bool x.1),.lit (.bool x.2.1),.sl false 1 (ints x.2.2.1),.lit (.int .i64 x.2.2.2)]
theorem nw (c p u o:Int) (d:Bool) (T U:List Int):(stAV c p u o d T U).NB:=.agg _ (by simp [iJ,jd])
theorem rsw_nb (x:Rs):(rsw x).NB:=.agg _ (by simp [iJ,jd])
theorem rsw_le (x:Rs):(rsAV x).le (rsw x):=.aggL ⟨.refl _,.refl _,oc _,.refl _,trivial⟩
/-- A result with no tasks. -/
theorem fZ (a b:Bool) (e:Int):AV.le (.agg [.lit (.bool a),.lit (.bool b),.lit (.slice none 0 0),.lit (.int .i64 e)]) (rsw (a,b,[],e)):=.aggL ⟨.refl _,.refl _,.nil _ _,.refl _,trivial⟩
theorem me (t:Int) (st:St):aY Go.Proofs.Try.prog n_f68 [.lit (.int .i64 t)] st (.lit (.bool (decide (0≤t∧t < 64)))):=by
  refine bN hmix k_f68 rfl rfl fun Q hQ=>?_
  unfold aFun c_f68
  by_cases h0:0≤t
  · have e:decide (0≤t∧t < 64) = decide (t < 64):=by simp [h0]
    rw [e] at hQ
    simp (config:=KF) (disch:=omega) only [bZ,retI,aE,AI.dst,bW,bf,al,cg,bC,gU,putS,Sf.set,Sf.reg,getR,setR,aa,Sf.disAt,aI,↓reduceIte,Nat.reduceEqDiff,Bool.true_and,true_and,reduceCtorEq,dx,f68_1e,f68_2e,f68_2l,f68_3e,f68_4e,f68_4l]
    exact hQ _
  · rw [decide_eq_false (fun h=>h0 h.1)] at hQ
    simp (config:=KF) (disch:=omega) only [bZ,retI,aE,cD,AI.dst,a7,bf,al,bu,gU,putS,Sf.set,Sf.reg,getR,setR,aa,Sf.disAt,aI,↓reduceIte,Nat.reduceEqDiff,Bool.true_and,true_and,reduceCtorEq,cP,f68_1e,f68_2e,f68_2l,f68_3e,f68_4e,f68_4l]
    exact hQ _

def rchk (o:Int) (T U:List Int) (t:Int):Int:=if t < 0∨64≤t then 2 else if t ∈ T∨t ∈ U∨o = t then 11 else 0
theorem rcheck_pure (c p u o:Int) (d:Bool) (T U:List Int) (t:Int) (hT:T.length≤1000) (hU:U.length≤1000) (st:St):aY Go.Proofs.Try.prog n_f67 [stAV c p u o d T U,.lit (.int .i64 t)] st (.lit (.int .i64 (rchk o T U t))):=by
  have ht:=fun st=>me t st
  have h1:=fun st=>kX T t (by omega) st
  have h2:=fun st=>kX U t (by omega) st
  refine bN hmix k_f67 rfl rfl fun Q hQ=>?_
  unfold aFun c_f67
  unfold rchk at hQ
  by_cases h0:0≤t∧t < 64
  case neg =>
    rw [if_pos (by omega)] at hQ
    rw [decide_eq_false h0] at ht
    simp (config:=KF) (disch:=omega) only [bZ,cn,aj,boxX,ev_f,aA,putS,Sf.set,Sf.reg,getR,setR,aa,Sf.newLoc,look,bO,aZ,aI,id,ao,ai,bz,ag,ae,br,ah,bT,aX,List.length_cons,List.length_nil,List.all_cons,List.all_nil,↓reduceIte,Nat.reduceEqDiff,Nat.reduceAdd,Bool.true_and,Bool.and_true,and_true,true_and,reduceCtorEq,Nat.zero_add,f67_1e,f67_2e,f67_2l,f67_3e,f67_4e,f67_5e,f67_5l,stAV]
    refine aM rfl e_f68 (ht _) rfl ?_
    simp (config:=KF) (disch:=omega) only [bZ,retI,o_un,unA,putS,Sf.set,Sf.reg,getR,setR,aa,look,↓reduceIte,Nat.reduceEqDiff,Bool.true_and,true_and,Bool.not_false,f67_6e,f67_7e,f67_8e,f67_8l]
    exact hQ _
  rw [if_neg (by omega)] at hQ
  rw [decide_eq_true h0] at ht
  simp (config:=KF) (disch:=omega) only [bZ,cn,aj,boxX,ev_f,aA,putS,Sf.set,Sf.reg,getR,setR,aa,Sf.newLoc,look,bO,aZ,aI,id,ao,ai,bz,ag,ae,br,ah,bT,aX,List.length_cons,List.length_nil,List.all_cons,List.all_nil,↓reduceIte,Nat.reduceEqDiff,Nat.reduceAdd,Bool.true_and,Bool.and_true,and_true,true_and,reduceCtorEq,Nat.zero_add,f67_1e,f67_2e,f67_2l,f67_3e,f67_4e,f67_5e,f67_5l,stAV]
  refine aM rfl e_f68 (ht _) rfl ?_
  simp (config:=KF) (disch:=omega) only [bZ,o_un,ar,am,aj,ap,addA,af,unA,ev_f,putS,Sf.set,Sf.reg,getR,setR,aa,look,id,aF,List.drop_zero,List.drop_succ_cons,↓reduceIte,Nat.reduceEqDiff,Nat.zero_add,Bool.not_true,f67_6e,f67_9e,f67_10e,f67_11e,f67_11l]
  refine aM rfl e_f22 (h1 _) rfl ?_
  by_cases c1:t ∈ T
  · rw [if_pos (.inl c1)] at hQ
    rw [decide_eq_true c1]
    simp (config:=KF) (disch:=omega) only [bZ,retI,aE,cD,AI.dst,bW,bf,cg,putS,Sf.set,Sf.reg,getR,setR,aa,↓reduceIte,Nat.reduceEqDiff,Bool.true_and,true_and,Bool.false_eq_true,f67_12e,f67_13e,f67_14e,f67_14l]
    exact hQ _
  rw [decide_eq_false c1]
  simp (config:=KF) (disch:=omega) only [bZ,aE,AI.dst,a7,ar,am,aj,ap,addA,af,ev_f,putS,Sf.set,Sf.reg,getR,setR,look,id,aF,List.drop_zero,List.drop_succ_cons,↓reduceIte,Nat.reduceEqDiff,Nat.zero_add,Bool.false_eq_true]
  refine aM rfl e_f22 (h2 _) rfl ?_
  by_cases c2:t ∈ U
  · rw [if_pos (.inr (.inl c2))] at hQ
    rw [decide_eq_true c2]
    simp (config:=KF) (disch:=omega) only [bZ,retI,aE,cD,AI.dst,bW,bf,cg,bu,putS,Sf.set,Sf.reg,getR,setR,aa,↓reduceIte,Nat.reduceEqDiff,Bool.true_and,true_and,Bool.false_eq_true,f67_12e,f67_13e,f67_14e,f67_14l]
    exact hQ _
  rw [decide_eq_false c2]
  by_cases c3:o = t
  · rw [if_pos (.inr (.inr c3))] at hQ
    simp (config:=KF) (disch:=omega) only [bZ,retI,aE,AI.dst,a7,bf,ar,am,bu,ap,addA,af,bJ,putS,Sf.set,Sf.reg,getR,setR,aa,look,List.drop_zero,List.drop_succ_cons,↓reduceIte,Nat.reduceEqDiff,Bool.true_and,true_and,Nat.zero_add,decide_true,Bool.false_eq_true,f67_12e,f67_13e,f67_14e,f67_14l,c3]
    exact hQ _
  · rw [if_neg (by simp [c1,c2,c3])] at hQ
    simp (config:=KF) (disch:=omega) only [bZ,retI,aE,AI.dst,a7,bf,ar,am,bu,ap,addA,af,bJ,putS,Sf.set,Sf.reg,getR,setR,aa,look,List.drop_zero,List.drop_succ_cons,↓reduceIte,Nat.reduceEqDiff,Bool.true_and,true_and,Nat.zero_add,decide_false,Bool.false_eq_true,f67_12e,f67_15e,f67_16e,f67_16l,c3]
    exact hQ _
theorem rchk_low {T:List Int} (t:Int):rchk (-1) T [] t = chk T t:=by
  unfold rchk chk
  by_cases h:t < 0∨64≤t
  · rw [if_pos h,if_pos h]
  · rw [if_neg h,if_neg h]
    by_cases h1:t ∈ T
    · rw [if_pos (.inl h1),if_pos h1]
    · rw [if_neg h1,if_neg]
      simp [h1]; omega

section
variable {T:List Int}
theorem rlwait (c:Int) (T:List Int) (t:Int) (hc:0≤c) (hl:T.length≤1000) (st:St):aY Go.Proofs.Try.prog n_f39 [stAV c 0 0 (-1) false T [],.lit (.int .i64 t)] st (.tup [stAV c 0 0 (-1) false (dL c T t).1 [],rsw (false,(dL c T t).2.1,[],(dL c T t).2.2)]):=by
  refine ir hmix k_f39 rfl rfl (.tup _ (by simp [nw,rsw_nb])) (by simp [nw,jd]) (fun Q hQ=>?_) st
  unfold aFun c_f39
  have hck:=fun st=>rcheck_pure c 0 0 (-1) false T [] t hl (by simp) st
  rw [rchk_low] at hck
  have ll:=dv T
  unfold dL at hQ
  by_cases h0:chk T t = 0
  case neg =>
    rw [if_pos h0] at hQ
    simp (config:=KF) (disch:=omega) only [bZ,am,ca,cn,aj,ap,boxX,af,aw,aB,aS,ev_f,aA,putS,Sf.set,Sf.reg,getR,setR,aa,Sf.newLoc,look,bO,aZ,aI,id,ao,ai,bz,ag,ae,br,ah,bT,aW,aX,List.length_cons,List.length_nil,List.all_cons,List.all_nil,List.drop_zero,List.take_succ_cons,List.take_zero,↓reduceIte,Nat.reduceEqDiff,Nat.reduceAdd,Nat.reduceLeDiff,Int.reduceNeg,Bool.true_and,Bool.and_true,and_true,true_and,reduceCtorEq,Nat.zero_add,decide_true,f39_1e,f39_2e,f39_2l,f39_3e,f39_4e,f39_5e,f39_5l,stAV]
    refine aM rfl e_f67 (hck _) rfl ?_
    simp (config:=KF) (disch:=omega) only [bZ,and_self,retI,resI,resL,am,co,al,aV,ap,bstV,boxX,ba,af,aw,a8,cc,aB,aS,aA,aP,putS,Sf.set,Sf.reg,getR,setR,aa,Sf.disAt,Sf.setLoc,look,aZ,ao,ai,bz,az,ag,ae,br,ah,bV,aR,List.length_cons,List.length_nil,List.getElem?_cons_zero,List.getElem?_cons_succ,List.all_cons,List.all_nil,List.drop_zero,List.take_succ_cons,List.take_zero,List.set_cons_zero,List.set_cons_succ,↓reduceIte,Nat.reduceEqDiff,Nat.reduceAdd,Nat.reduceLeDiff,Int.reduceNeg,Bool.true_and,Bool.and_true,and_true,true_and,Nat.zero_add,not_false_eq_true,decide_true,au,ak,f39_6e,f39_7e,f39_7l,f39_8e,f39_9e,f39_10e,f39_10l,h0]
    exact hQ _ _ (.tupL ⟨.refl _,fZ _ _ _,trivial⟩)
  rw [if_neg (by simpa using h0)] at hQ
  rw [h0] at hck
  by_cases h1:0 < c
  · rw [if_pos h1] at hQ
    have hc0:¬ c = 0:=by omega
    simp (config:=KF) (disch:=omega) only [bZ,am,ca,cn,aj,ap,boxX,af,aw,aB,aS,ev_f,aA,putS,Sf.set,Sf.reg,getR,setR,aa,Sf.newLoc,look,bO,aZ,aI,id,ao,ai,bz,ag,ae,br,ah,bT,aW,aX,List.length_cons,List.length_nil,List.all_cons,List.all_nil,List.drop_zero,List.take_succ_cons,List.take_zero,↓reduceIte,Nat.reduceEqDiff,Nat.reduceAdd,Nat.reduceLeDiff,Int.reduceNeg,Bool.true_and,Bool.and_true,and_true,true_and,reduceCtorEq,Nat.zero_add,decide_true,f39_1e,f39_2e,f39_2l,f39_3e,f39_4e,f39_5e,f39_5l,stAV]
    refine aM rfl e_f67 (hck _) rfl ?_
    simp (config:=KF) (disch:=omega) only [bZ,ar,am,al,aj,ap,addA,af,bJ,cc,ev_f,putS,Sf.set,Sf.reg,getR,setR,aa,Sf.disAt,look,id,aF,List.drop_zero,List.drop_succ_cons,↓reduceIte,Nat.reduceEqDiff,Int.reduceNeg,Nat.zero_add,Nat.add_zero,not_true_eq_false,decide_false,f39_6e,f39_7e,f39_7l,f39_8e,f39_11e,f39_12e,f39_13e,f39_13l,f39_14e,f39_17e,f39_18e,f39_18l,hc0]
    refine aM rfl e_f21 (rwith_sl T t (by omega) _) rfl ?_
    simp (config:=KF) (disch:=omega) only [bZ,retI,resI,resL,ar,am,co,aV,ap,bstV,boxX,ba,addA,af,aw,a8,aB,aS,aA,aP,putS,Sf.set,Sf.reg,getR,setR,aa,Sf.disAt,Sf.setLoc,look,aZ,aF,ao,ai,bz,il,ag,ae,br,ah,bV,aR,List.length_cons,List.length_nil,List.all_cons,List.all_nil,List.drop_zero,List.take_succ_cons,List.take_zero,List.set_cons_zero,List.set_cons_succ,↓reduceIte,Nat.reduceEqDiff,Nat.reduceAdd,Nat.reduceLeDiff,Int.reduceNeg,Bool.true_and,Bool.and_true,and_true,true_and,Nat.zero_add,decide_true,au,ak,f39_19e,f39_20e,f39_20l]
    exact hQ _ _ (.tupL ⟨.refl _,fZ _ _ _,trivial⟩)
  · rw [if_neg h1] at hQ
    have hc0:c = 0:=by omega
    subst hc0
    simp (config:=KF) (disch:=omega) only [bZ,am,ca,cn,aj,ap,boxX,af,aw,aB,aS,ev_f,aA,putS,Sf.set,Sf.reg,getR,setR,aa,Sf.newLoc,look,bO,aZ,aI,id,ao,ai,bz,ag,ae,br,ah,bT,aW,aX,List.length_cons,List.length_nil,List.all_cons,List.all_nil,List.drop_zero,List.take_succ_cons,List.take_zero,↓reduceIte,Nat.reduceEqDiff,Nat.reduceAdd,Nat.reduceLeDiff,Int.reduceNeg,Bool.true_and,Bool.and_true,and_true,true_and,reduceCtorEq,Nat.zero_add,decide_true,f39_1e,f39_2e,f39_2l,f39_3e,f39_4e,f39_5e,f39_5l,stAV]
    refine aM rfl e_f67 (hck _) rfl ?_
    simp (config:=KF) (disch:=omega) only [bZ,and_self,retI,resI,resL,ar,am,co,al,aV,ap,bstV,boxX,ba,addA,af,aw,a8,bJ,cc,aB,aS,aA,aP,putS,Sf.set,Sf.reg,getR,setR,aa,Sf.disAt,Sf.setLoc,look,aZ,ao,ai,bz,az,ag,ae,br,ah,bV,aR,List.length_cons,List.length_nil,List.getElem?_cons_zero,List.getElem?_cons_succ,List.all_cons,List.all_nil,List.drop_zero,List.take_succ_cons,List.take_zero,List.set_cons_zero,List.set_cons_succ,↓reduceIte,Nat.reduceEqDiff,Nat.reduceAdd,Nat.reduceLeDiff,Int.reduceNeg,Bool.true_and,Bool.and_true,and_true,true_and,Nat.zero_add,Nat.add_zero,not_true_eq_false,decide_true,decide_false,au,ak,f39_6e,f39_7e,f39_7l,f39_8e,f39_11e,f39_12e,f39_13e,f39_13l,f39_14e,f39_15e,f39_16e,f39_16l]
    exact hQ _ _ (.tupL ⟨.refl _,fZ _ _ _,trivial⟩)
theorem rldown (c:Int) (T:List Int) (n:Int) (hc:0≤c∧c≤1048576) (st:St):aY Go.Proofs.Try.prog n_f40 [stAV c 0 0 (-1) false T [],.lit (.int .i64 n)] st (.tup [stAV (cG c T n).1.1 0 0 (-1) false (cG c T n).1.2 [],rsw (false,false,(cG c T n).2.1,(cG c T n).2.2)]):=by
  refine ir hmix k_f40 rfl rfl (.tup _ (by simp [nw,rsw_nb])) (by simp [nw,jd]) (fun Q hQ=>?_) st
  unfold aFun c_f40
  unfold cG at hQ
  have ll:=dv T
  by_cases h1:n < 1
  · rw [if_pos h1] at hQ
    simp (config:=KF) (disch:=omega) only [bZ,and_self,retI,resI,resL,am,co,ca,cn,aV,ap,bstV,boxX,ba,af,aw,a8,bC,aB,aS,aA,aP,putS,Sf.set,Sf.reg,getR,setR,aa,Sf.disAt,Sf.newLoc,Sf.setLoc,look,bO,aZ,aI,ao,ai,bz,az,ag,ae,br,ah,bV,aR,bT,aW,aX,List.length_cons,List.length_nil,List.getElem?_cons_zero,List.getElem?_cons_succ,List.all_cons,List.all_nil,List.drop_zero,List.take_succ_cons,List.take_zero,List.set_cons_zero,List.set_cons_succ,↓reduceIte,Nat.reduceEqDiff,Nat.reduceAdd,Nat.reduceLeDiff,Int.reduceNeg,Bool.true_and,Bool.and_true,and_true,true_and,reduceCtorEq,Nat.zero_add,decide_true,bp,au,ak,f40_1e,f40_2e,f40_2l,f40_3e,f40_4e,f40_5e,f40_5l,f40_6e,f40_7e,f40_8e,f40_8l,stAV]
    exact hQ _ _ (.tupL ⟨.refl _,fZ _ _ _,trivial⟩)
  rw [if_neg h1] at hQ
  by_cases h2:c < n
  · rw [if_pos h2] at hQ
    simp (config:=KF) (disch:=omega) only [bZ,and_self,retI,resI,resL,ar,am,co,ca,cn,aV,ap,bstV,boxX,ba,addA,af,aw,a8,bC,d6,aB,aS,aA,aP,putS,Sf.set,Sf.reg,getR,setR,aa,Sf.disAt,Sf.newLoc,Sf.setLoc,look,bO,aZ,aI,ao,ai,bz,az,ag,ae,br,ah,bV,aR,bT,aW,aX,List.length_cons,List.length_nil,List.getElem?_cons_zero,List.getElem?_cons_succ,List.all_cons,List.all_nil,List.drop_zero,List.take_succ_cons,List.take_zero,List.set_cons_zero,List.set_cons_succ,↓reduceIte,Nat.reduceEqDiff,Nat.reduceAdd,Nat.reduceLeDiff,Int.reduceNeg,Bool.true_and,Bool.and_true,and_true,true_and,reduceCtorEq,Nat.zero_add,Nat.add_zero,decide_true,bp,bG,au,ak,f40_1e,f40_2e,f40_2l,f40_3e,f40_4e,f40_5e,f40_5l,f40_6e,f40_9e,f40_10e,f40_11e,f40_11l,f40_12e,f40_13e,f40_14e,f40_14l,stAV]
    exact hQ _ _ (.tupL ⟨.refl _,fZ _ _ _,trivial⟩)
  rw [if_neg h2] at hQ
  by_cases h4:0 < c - n
  · rw [if_pos h4] at hQ
    simp (config:=KF) (disch:=omega) only [bZ,retI,resI,resL,ar,am,co,ca,cn,aV,ap,bstV,boxX,ba,addA,af,aw,a8,n_sub,bC,d6,aB,aS,aA,aP,putS,Sf.set,Sf.reg,getR,setR,aa,Sf.disAt,Sf.newLoc,Sf.setLoc,look,bO,aZ,aI,ao,ai,bz,az,ag,ae,br,ah,bV,aR,bT,aW,aX,List.length_cons,List.length_nil,List.all_cons,List.all_nil,List.drop_zero,List.take_succ_cons,List.take_zero,List.set_cons_zero,List.set_cons_succ,↓reduceIte,Nat.reduceEqDiff,Nat.reduceAdd,Nat.reduceLeDiff,Int.reduceNeg,Bool.true_and,Bool.and_true,and_true,true_and,reduceCtorEq,Nat.zero_add,Nat.add_zero,decide_true,bp,bG,IntWalk.i64_in,au,ak,f40_1e,f40_2e,f40_2l,f40_3e,f40_4e,f40_5e,f40_5l,f40_6e,f40_9e,f40_10e,f40_11e,f40_11l,f40_12e,f40_15e,f40_16e,f40_16l,f40_17e,f40_18e,f40_19e,f40_19l,f40_20e,f40_21e,f40_22e,f40_22l,stAV]
    exact hQ _ _ (.tupL ⟨.refl _,fZ _ _ _,trivial⟩)
  · rw [if_neg h4] at hQ
    simp (config:=KF) (disch:=omega) only [bZ,and_self,retI,resI,resL,ar,am,co,al,ca,cn,aV,ap,bstV,boxX,ba,addA,af,aw,a8,n_sub,bC,d6,aB,aS,aA,nV,aP,nW,putS,Sf.set,Sf.reg,getR,setR,aa,Sf.disAt,Sf.newLoc,Sf.setLoc,look,bO,aZ,aI,aF,ao,ai,bz,az,il,ag,ae,br,ah,bV,aR,bT,aW,aX,List.length_cons,List.length_nil,List.getElem?_cons_zero,List.getElem?_cons_succ,List.all_cons,List.all_nil,List.drop_zero,List.drop_succ_cons,List.take_succ_cons,List.take_zero,List.set_cons_zero,List.set_cons_succ,↓reduceIte,Nat.reduceEqDiff,Nat.reduceAdd,Nat.reduceLeDiff,Int.reduceNeg,Bool.true_and,Bool.and_true,and_true,true_and,reduceCtorEq,Nat.zero_add,Nat.add_zero,decide_true,bG,IntWalk.i64_in,au,ak,f40_1e,f40_2e,f40_2l,f40_3e,f40_4e,f40_5e,f40_5l,f40_6e,f40_9e,f40_10e,f40_11e,f40_11l,f40_12e,f40_15e,f40_16e,f40_16l,f40_17e,f40_18e,f40_19e,f40_19l,f40_20e,f40_23e,f40_24e,f40_24l,f40_25e,f40_26e,f40_26l,f40_27e,f40_28e,f40_28l,stAV]
    exact hQ _ _ (.tupL ⟨.aggL ⟨.refl _,.refl _,.refl _,.refl _,.refl _,.nil _ _,.refl _,trivial⟩,.refl _,trivial⟩)
def rCan (T U:List Int) (t:Int):(List Int×List Int)×Int:=if t < 0∨64≤t then ((T,U),2) else if t ∉ T∧t ∉ U then ((T,U),9) else ((T.filter (·≠t),U.filter (·≠t)),0)
theorem rCan_low (T:List Int) (t:Int):rCan T [] t = (((lCan T t).1,[]),(lCan T t).2):=by
  unfold rCan lCan
  by_cases h:t < 0∨64≤t
  · rw [if_pos h,if_pos h]
  · rw [if_neg h,if_neg h]
    by_cases h1:t ∉ T
    · rw [if_pos ⟨h1,by simp⟩,if_pos h1]
    · rw [if_neg (fun h=>h1 h.1),if_neg h1]; rfl
theorem rcancel (c p u o:Int) (d:Bool) (T U:List Int) (t:Int) (hT:T.length≤1000) (hU:U.length≤1000) (st:St):aY Go.Proofs.Try.prog n_f27 [stAV c p u o d T U,.lit (.int .i64 t)] st (.tup [stAV c p u o d (rCan T U t).1.1 (rCan T U t).1.2,rsw (false,false,[],(rCan T U t).2)]):=by
  refine ir hmix k_f27 rfl rfl (.tup _ (by simp [nw,rsw_nb])) (by simp [nw,jd]) (fun Q hQ=>?_) st
  unfold aFun c_f27
  have ht:=fun st=>me t st
  have h1:=fun st=>kX T t (by omega) st
  have h2:=fun st=>kX U t (by omega) st
  have h3:=fun st=>kM T t (by omega) st
  have h4:=fun st=>kM U t (by omega) st
  unfold rCan at hQ
  by_cases h0:0≤t∧t < 64
  case neg =>
    rw [if_pos (by omega)] at hQ
    rw [decide_eq_false h0] at ht
    simp (config:=KF) (disch:=omega) only [bZ,ca,cn,aj,boxX,ev_f,aA,putS,Sf.set,Sf.reg,getR,setR,aa,Sf.newLoc,look,bO,aZ,aI,id,ao,ai,bz,ag,ae,br,ah,bT,aW,aX,List.length_cons,List.length_nil,List.all_cons,List.all_nil,↓reduceIte,Nat.reduceEqDiff,Nat.reduceAdd,Bool.true_and,Bool.and_true,and_true,true_and,reduceCtorEq,Nat.zero_add,f27_1e,f27_2e,f27_2l,f27_3e,f27_4e,f27_5e,f27_5l,stAV]
    refine aM rfl e_f68 (ht _) rfl ?_
    simp (config:=KF) (disch:=omega) only [bZ,and_self,retI,resI,resL,o_un,am,co,aV,ap,bstV,boxX,ba,af,aw,a8,unA,aB,aS,aA,aP,putS,Sf.set,Sf.reg,getR,setR,aa,Sf.disAt,Sf.setLoc,look,aZ,ao,ai,bz,az,ag,ae,br,ah,bV,aR,List.length_cons,List.length_nil,List.getElem?_cons_zero,List.getElem?_cons_succ,List.all_cons,List.all_nil,List.drop_zero,List.take_succ_cons,List.take_zero,List.set_cons_zero,List.set_cons_succ,↓reduceIte,Nat.reduceEqDiff,Nat.reduceAdd,Nat.reduceLeDiff,Bool.true_and,Bool.and_true,and_true,true_and,Nat.zero_add,decide_true,Bool.not_false,au,ak,f27_6e,f27_7e,f27_8e,f27_8l]
    exact hQ _ _ (.tupL ⟨.refl _,fZ _ _ _,trivial⟩)
  rw [if_neg (by omega)] at hQ
  rw [decide_eq_true h0] at ht
  simp (config:=KF) (disch:=omega) only [bZ,ca,cn,aj,boxX,ev_f,aA,putS,Sf.set,Sf.reg,getR,setR,aa,Sf.newLoc,look,bO,aZ,aI,id,ao,ai,bz,ag,ae,br,ah,bT,aW,aX,List.length_cons,List.length_nil,List.all_cons,List.all_nil,↓reduceIte,Nat.reduceEqDiff,Nat.reduceAdd,Bool.true_and,Bool.and_true,and_true,true_and,reduceCtorEq,Nat.zero_add,f27_1e,f27_2e,f27_2l,f27_3e,f27_4e,f27_5e,f27_5l,stAV]
  refine aM rfl e_f68 (ht _) rfl ?_
  simp (config:=KF) (disch:=omega) only [bZ,o_un,ar,am,aj,ap,addA,af,unA,ev_f,putS,Sf.set,Sf.reg,getR,setR,aa,look,id,aF,List.drop_zero,List.drop_succ_cons,↓reduceIte,Nat.reduceEqDiff,Nat.zero_add,Bool.not_true,f27_6e,f27_9e,f27_10e,f27_11e,f27_11l]
  refine aM rfl e_f22 (h1 _) rfl ?_
  by_cases c1:t ∈ T
  · rw [if_neg (fun h=>h.1 c1)] at hQ
    rw [decide_eq_true c1]
    simp (config:=KF) (disch:=omega) only [bZ,List.contains_nil,cF,dq,b8,ci,dH,bw,aE,cD,AI.dst,a7,bf,o_un,bu,ap,addA,af,unA,ev_f,putS,Sf.set,Sf.reg,getR,setR,aa,look,bE,id,aF,List.drop_zero,List.drop_succ_cons,↓reduceIte,Nat.reduceEqDiff,Nat.zero_add,Bool.not_true,Bool.false_eq_true,f27_12e,f27_15e,f27_16e,f27_16h,f27_16l]
    refine ey rfl e_f23 (h3 _) rfl ?_
    simp (config:=KF) (disch:=omega) only [bZ,cF,dq,b8,ci,dH,cW,bw,ap,addA,af,ev_f,putS,Sf.set,Sf.reg,getR,setR,look,id,aF,List.drop_zero,List.drop_succ_cons,↓reduceIte,Nat.reduceEqDiff,Nat.zero_add]
    refine ey rfl e_f23 (h4 _) rfl ?_
    simp (config:=KF) (disch:=omega) only [bZ,eS,cF,b8,cW,bw,cK,retI,resI,resL,ar,am,co,aV,ap,bstV,boxX,ba,addA,af,aw,a8,aB,aS,aA,aP,putS,Sf.set,Sf.reg,getR,setR,aa,Sf.disAt,Sf.setLoc,look,aZ,aF,ao,ai,bz,il,ag,ae,br,ah,bV,aR,List.length_cons,List.length_nil,List.all_cons,List.all_nil,List.drop_zero,List.take_succ_cons,List.take_zero,List.set_cons_zero,List.set_cons_succ,↓reduceIte,Nat.reduceEqDiff,Nat.reduceAdd,Nat.reduceLeDiff,Bool.true_and,Bool.and_true,and_true,true_and,Nat.zero_add,decide_true,au,ak,f27_17e,f27_18e,f27_18l]
    exact hQ _ _ (.tupL ⟨.refl _,fZ _ _ _,trivial⟩)
  rw [decide_eq_false c1]
  simp (config:=KF) (disch:=omega) only [bZ,aE,AI.dst,bW,o_un,ar,am,aj,ap,addA,af,unA,ev_f,putS,Sf.set,Sf.reg,getR,setR,look,id,aF,List.drop_zero,List.drop_succ_cons,↓reduceIte,Nat.reduceEqDiff,Nat.zero_add,Bool.not_false]
  refine aM rfl e_f22 (h2 _) rfl ?_
  by_cases c2:t ∈ U
  · rw [if_neg (fun h=>h.2 c2)] at hQ
    rw [decide_eq_true c2]
    simp (config:=KF) (disch:=omega) only [bZ,List.contains_nil,cF,dq,b8,ci,dH,bw,aE,AI.dst,bW,bf,o_un,cg,ap,addA,af,unA,ev_f,putS,Sf.set,Sf.reg,getR,setR,aa,look,bE,id,aF,List.drop_zero,List.drop_succ_cons,↓reduceIte,Nat.reduceEqDiff,Nat.zero_add,Bool.not_true,Bool.false_eq_true,f27_12e,f27_15e,f27_16e,f27_16h,f27_16l]
    refine ey rfl e_f23 (h3 _) rfl ?_
    simp (config:=KF) (disch:=omega) only [bZ,cF,dq,b8,ci,dH,cW,bw,ap,addA,af,ev_f,putS,Sf.set,Sf.reg,getR,setR,look,id,aF,List.drop_zero,List.drop_succ_cons,↓reduceIte,Nat.reduceEqDiff,Nat.zero_add]
    refine ey rfl e_f23 (h4 _) rfl ?_
    simp (config:=KF) (disch:=omega) only [bZ,eS,cF,b8,cW,bw,cK,retI,resI,resL,ar,am,co,aV,ap,bstV,boxX,ba,addA,af,aw,a8,aB,aS,aA,aP,putS,Sf.set,Sf.reg,getR,setR,aa,Sf.disAt,Sf.setLoc,look,aZ,aF,ao,ai,bz,il,ag,ae,br,ah,bV,aR,List.length_cons,List.length_nil,List.all_cons,List.all_nil,List.drop_zero,List.take_succ_cons,List.take_zero,List.set_cons_zero,List.set_cons_succ,↓reduceIte,Nat.reduceEqDiff,Nat.reduceAdd,Nat.reduceLeDiff,Bool.true_and,Bool.and_true,and_true,true_and,Nat.zero_add,decide_true,au,ak,f27_17e,f27_18e,f27_18l]
    exact hQ _ _ (.tupL ⟨.refl _,fZ _ _ _,trivial⟩)
  · rw [if_pos ⟨c1,c2⟩] at hQ
    rw [decide_eq_false c2]
    simp (config:=KF) (disch:=omega) only [bZ,and_self,retI,resI,resL,aE,AI.dst,bW,bf,o_un,am,co,aV,cg,ap,bstV,boxX,ba,af,aw,a8,unA,aB,aS,aA,aP,putS,Sf.set,Sf.reg,getR,setR,aa,Sf.disAt,Sf.setLoc,look,aZ,ao,ai,bz,az,ag,ae,br,ah,bV,aR,List.length_cons,List.length_nil,List.getElem?_cons_zero,List.getElem?_cons_succ,List.all_cons,List.all_nil,List.drop_zero,List.take_succ_cons,List.take_zero,List.set_cons_zero,List.set_cons_succ,↓reduceIte,Nat.reduceEqDiff,Nat.reduceAdd,Nat.reduceLeDiff,Bool.true_and,Bool.and_true,and_true,true_and,Nat.zero_add,decide_true,Bool.not_false,au,ak,f27_12e,f27_13e,f27_14e,f27_14l]
    exact hQ _ _ (.tupL ⟨.refl _,fZ _ _ _,trivial⟩)
end

theorem requal_w (x y:Rs) (hf:x.2.2.1.length≤1000000) (hg:y.2.2.1.length≤1000000) (st:St):aY Go.Proofs.Try.prog n_f28 [rsw x,rsw y] st (.lit (.bool (decide (x = y)))):=by
  obtain ⟨a,b,c,d⟩:=x
  obtain ⟨a',b',c',d'⟩:=y
  have hs:∀ st,aY Go.Proofs.Try.prog n_f69 [.sl false 1 (ints c),.sl false 1 (ints c')] st (.lit (.bool (decide (c = c')))):=fun st=>rsame_sl c c' hf hg st
  refine bN hmix k_f28 rfl rfl fun Q hQ=>?_
  unfold aFun c_f28
  by_cases h1:a = a'
  case neg =>
    have hh:(a == a') = false:=by simpa using h1
    have:decide ((a,b,c,d) = (a',b',c',d')) = false:=by simp [h1]
    rw [this] at hQ
    simp (config:=KF) (disch:=omega) only [bZ,retI,aE,cD,AI.dst,a7,bf,ar,am,al,cn,bu,ap,boxX,io,addA,af,aA,putS,Sf.set,Sf.reg,getR,setR,aa,Sf.disAt,Sf.newLoc,look,bO,aZ,aI,ao,ai,bz,ag,ae,br,ah,aW,aX,List.length_cons,List.length_nil,List.all_cons,List.all_nil,List.drop_zero,↓reduceIte,Nat.reduceEqDiff,Nat.reduceAdd,Bool.true_and,Bool.and_true,and_true,true_and,reduceCtorEq,Nat.zero_add,Nat.add_zero,f28_1e,f28_2e,f28_2l,f28_3e,f28_4e,f28_4l,rsw,hh]
    exact hQ _
  subst h1
  by_cases h2:b = b'
  case neg =>
    have hh:(b == b') = false:=by simpa using h2
    have:decide ((a,b,c,d) = (a,b',c',d')) = false:=by simp [h2]
    rw [this] at hQ
    simp (config:=KF) (disch:=omega) only [bZ,retI,aE,cD,AI.dst,bW,a7,bf,ar,am,al,cn,cg,bu,ap,boxX,io,addA,af,aA,putS,Sf.set,Sf.reg,getR,setR,aa,Sf.disAt,Sf.newLoc,look,bO,aZ,aI,ao,ai,bz,ag,ae,br,ah,aW,aX,List.length_cons,List.length_nil,List.all_cons,List.all_nil,List.drop_zero,List.drop_succ_cons,↓reduceIte,Nat.reduceEqDiff,Nat.reduceAdd,Bool.true_and,Bool.and_true,and_true,true_and,reduceCtorEq,Nat.zero_add,Nat.add_zero,f28_1e,f28_2e,f28_2l,f28_3e,f28_4e,f28_4l,rsw,beq_self_eq_true,hh]
    exact hQ _
  subst h2
  simp (config:=KF) (disch:=omega) only [bZ,aE,AI.dst,bW,bf,ar,am,cn,cg,ap,boxX,io,addA,af,bJ,aA,putS,Sf.set,Sf.reg,getR,setR,aa,Sf.newLoc,look,bO,aZ,aI,ao,ai,bz,ag,ae,br,ah,aW,aX,List.length_cons,List.length_nil,List.all_cons,List.all_nil,List.drop_zero,List.drop_succ_cons,↓reduceIte,Nat.reduceEqDiff,Nat.reduceAdd,Bool.true_and,Bool.and_true,and_true,true_and,reduceCtorEq,Nat.zero_add,Nat.add_zero,f28_1e,f28_2e,f28_2l,f28_3e,f28_4e,f28_4l,rsw,beq_self_eq_true]
  refine kK (fun h3=>?_) (fun h3=>?_)
  · simp (config:=KF) (disch:=omega) only [bZ,aE,AI.dst,bW,ar,am,aj,ap,addA,af,ev_f,putS,Sf.set,Sf.reg,getR,setR,look,id,aF,List.drop_zero,List.drop_succ_cons,↓reduceIte,Nat.reduceEqDiff,Nat.zero_add]
    refine aM rfl e_f69 (hs _) rfl ?_
    simp (config:=KF) (disch:=omega) only [bZ,retI,bf,al,cg,putS,Sf.set,Sf.reg,getR,setR,aa,Sf.disAt,↓reduceIte,Nat.reduceEqDiff,Bool.true_and,true_and]
    have:decide ((a,b,c,d) = (a,b,c',d')) = decide (c = c'):=by simp [h3]
    rw [this] at hQ
    exact hQ _
  · simp (config:=KF) (disch:=omega) only [bZ,retI,aE,cD,AI.dst,a7,bf,al,bu,putS,Sf.set,Sf.reg,getR,setR,aa,Sf.disAt,↓reduceIte,Nat.reduceEqDiff,Bool.true_and,true_and]
    have:decide ((a,b,c,d) = (a,b,c',d')) = false:=by simp [h3]
    rw [this] at hQ
    exact hQ _
theorem kr (x:Rs) (hf:x.2.2.1.length≤1000000) (st:St):aY Go.Proofs.Try.prog n_f28 [rsAV x,rsw x] st (.lit (.bool true)):=by
  have h:=requal_w x x hf hf st
  rw [decide_eq_true rfl] at h
  exact h.weak ⟨rsw_le x,.refl _,trivial⟩ (.refl _)
theorem ac_lit2 (l:List (Int×Int×Int×Bool×Unit)):AV.sl false 4 (l.map fun x=>.agg [.lit (.int .i64 x.1),.lit (.int .i64 x.2.1),.lit (.int .i64 x.2.2.1),.lit (.bool x.2.2.2.1)]) = .sl false 4 ((l.map fun x=>(x.1,x.2.1,x.2.2.1,x.2.2.2.1)).map acAV):=by
  simp only [List.map_map]; rfl
end Go.Fx.YtphaaebhgggbaaaFx

