/- What the functions that the statement reaches compute: part 16. -/
import Derived.Test.YtphaaebhgggbaaaFxW15
namespace Go.Fx.YtphaaebhgggbaaaFx
open Go Go.Fx
attribute [local irreducible] aC runI br cR

set_option maxRecDepth 100000
set_option maxHeartbeats 8000000

/-! The reference's states: printed by wip/dev/gen_lt19.py. -/
def stAV (c p u o:Int) (d:Bool) (T U:List Int):AV:=.agg [.lit (.int .i64 c),.lit (.int .i64 p),.lit (.int .i64 u),.lit (.int .i64 o),.lit (.bool d),.sl false 1 (ints T),.sl false 1 (ints U)]
def rsw (x:Rs):AV:=.agg [.lit (.bool x.1),.lit (.bool x.2.1),.sl false 1 (ints x.2.2.1),.lit (.int .i64 x.2.2.2)]
theorem st_nb (c p u o:Int) (d:Bool) (T U:List Int):(stAV c p u o d T U).NB:=.agg _ (by simp [iD,kg])
theorem rsw_nb (x:Rs):(rsw x).NB:=.agg _ (by simp [iD,kg])
theorem rsw_le (x:Rs):(rsAV x).le (rsw x):=.aggL ⟨.refl _,.refl _,oa _,.refl _,trivial⟩
/-- A result with no tasks. -/
theorem kq (a b:Bool) (e:Int):AV.le (.agg [.lit (.bool a),.lit (.bool b),.lit (.slice none 0 0),.lit (.int .i64 e)]) (rsw (a,b,[],e)):=.aggL ⟨.refl _,.refl _,.nil _ _,.refl _,trivial⟩
theorem mg (t:Int) (st:St):aW Go.Proofs.Try.prog n_f68 [.lit (.int .i64 t)] st (.lit (.bool (decide (0≤t∧t < 64)))):=by
  refine bM hmix k_f68 rfl rfl fun Q hQ=>?_
  unfold aFun c_f68
  by_cases h0:0≤t
  · have e:decide (0≤t∧t < 64) = decide (t < 64):=by simp [h0]
    rw [e] at hQ
    simp (config:=KF) (disch:=omega) only [bZ,retI,aG,AI.dst,bT,bd,ak,b8,bB,gJ,putS,Sf.set,Sf.reg,getR,setR,aa,Sf.disAt,aK,↓reduceIte,Nat.reduceEqDiff,Bool.true_and,true_and,reduceCtorEq,dv,f68_1e,f68_2e,f68_2l,f68_3e,f68_4e,f68_4l]
    exact hQ _
  · rw [decide_eq_false (fun h=>h0 h.1)] at hQ
    simp (config:=KF) (disch:=omega) only [bZ,retI,aG,cy,AI.dst,aX,bd,ak,bw,gJ,putS,Sf.set,Sf.reg,getR,setR,aa,Sf.disAt,aK,↓reduceIte,Nat.reduceEqDiff,Bool.true_and,true_and,reduceCtorEq,cM,f68_1e,f68_2e,f68_2l,f68_3e,f68_4e,f68_4l]
    exact hQ _

def rchk (o:Int) (T U:List Int) (t:Int):Int:=if t < 0∨64≤t then 2 else if t ∈ T∨t ∈ U∨o = t then 11 else 0
theorem rcheck_pure (c p u o:Int) (d:Bool) (T U:List Int) (t:Int) (hT:T.length≤1000) (hU:U.length≤1000) (st:St):aW Go.Proofs.Try.prog n_f67 [stAV c p u o d T U,.lit (.int .i64 t)] st (.lit (.int .i64 (rchk o T U t))):=by
  have ht:=fun st=>mg t st
  have h1:=fun st=>kV T t (by omega) st
  have h2:=fun st=>kV U t (by omega) st
  refine bM hmix k_f67 rfl rfl fun Q hQ=>?_
  unfold aFun c_f67
  unfold rchk at hQ
  by_cases h0:0≤t∧t < 64
  case neg =>
    rw [if_pos (by omega)] at hQ
    rw [decide_eq_false h0] at ht
    simp (config:=KF) (disch:=omega) only [bZ,cH,ai,boxX,ev_f,aA,putS,Sf.set,Sf.reg,getR,setR,aa,Sf.newLoc,look,bU,bf,aK,id,aq,aj,bO,ag,ae,bF,ah,cI,a9,List.length_cons,List.length_nil,List.all_cons,List.all_nil,↓reduceIte,Nat.reduceEqDiff,Nat.reduceAdd,Bool.true_and,Bool.and_true,and_true,true_and,reduceCtorEq,Nat.zero_add,f67_1e,f67_2e,f67_2l,f67_3e,f67_4e,f67_5e,f67_5l,stAV]
    refine aO rfl e_f68 (ht _) rfl ?_
    simp (config:=KF) (disch:=omega) only [bZ,retI,o_un,unA,putS,Sf.set,Sf.reg,getR,setR,aa,look,↓reduceIte,Nat.reduceEqDiff,Bool.true_and,true_and,Bool.not_false,f67_6e,f67_7e,f67_8e,f67_8l]
    exact hQ _
  rw [if_neg (by omega)] at hQ
  rw [decide_eq_true h0] at ht
  simp (config:=KF) (disch:=omega) only [bZ,cH,ai,boxX,ev_f,aA,putS,Sf.set,Sf.reg,getR,setR,aa,Sf.newLoc,look,bU,bf,aK,id,aq,aj,bO,ag,ae,bF,ah,cI,a9,List.length_cons,List.length_nil,List.all_cons,List.all_nil,↓reduceIte,Nat.reduceEqDiff,Nat.reduceAdd,Bool.true_and,Bool.and_true,and_true,true_and,reduceCtorEq,Nat.zero_add,f67_1e,f67_2e,f67_2l,f67_3e,f67_4e,f67_5e,f67_5l,stAV]
  refine aO rfl e_f68 (ht _) rfl ?_
  simp (config:=KF) (disch:=omega) only [bZ,o_un,ar,am,ai,ap,addA,af,unA,ev_f,putS,Sf.set,Sf.reg,getR,setR,aa,look,id,aE,List.drop_zero,List.drop_succ_cons,↓reduceIte,Nat.reduceEqDiff,Nat.zero_add,Bool.not_true,f67_6e,f67_9e,f67_10e,f67_11e,f67_11l]
  refine aO rfl e_f22 (h1 _) rfl ?_
  by_cases c1:t ∈ T
  · rw [if_pos (.inl c1)] at hQ
    rw [decide_eq_true c1]
    simp (config:=KF) (disch:=omega) only [bZ,retI,aG,cy,AI.dst,bT,bd,b8,putS,Sf.set,Sf.reg,getR,setR,aa,↓reduceIte,Nat.reduceEqDiff,Bool.true_and,true_and,Bool.false_eq_true,f67_12e,f67_13e,f67_14e,f67_14l]
    exact hQ _
  rw [decide_eq_false c1]
  simp (config:=KF) (disch:=omega) only [bZ,aG,AI.dst,aX,ar,am,ai,ap,addA,af,ev_f,putS,Sf.set,Sf.reg,getR,setR,look,id,aE,List.drop_zero,List.drop_succ_cons,↓reduceIte,Nat.reduceEqDiff,Nat.zero_add,Bool.false_eq_true]
  refine aO rfl e_f22 (h2 _) rfl ?_
  by_cases c2:t ∈ U
  · rw [if_pos (.inr (.inl c2))] at hQ
    rw [decide_eq_true c2]
    simp (config:=KF) (disch:=omega) only [bZ,retI,aG,cy,AI.dst,bT,bd,b8,bw,putS,Sf.set,Sf.reg,getR,setR,aa,↓reduceIte,Nat.reduceEqDiff,Bool.true_and,true_and,Bool.false_eq_true,f67_12e,f67_13e,f67_14e,f67_14l]
    exact hQ _
  rw [decide_eq_false c2]
  by_cases c3:o = t
  · rw [if_pos (.inr (.inr c3))] at hQ
    simp (config:=KF) (disch:=omega) only [bZ,retI,aG,AI.dst,aX,bd,ar,am,bw,ap,addA,af,bL,putS,Sf.set,Sf.reg,getR,setR,aa,look,List.drop_zero,List.drop_succ_cons,↓reduceIte,Nat.reduceEqDiff,Bool.true_and,true_and,Nat.zero_add,decide_true,Bool.false_eq_true,f67_12e,f67_13e,f67_14e,f67_14l,c3]
    exact hQ _
  · rw [if_neg (by simp [c1,c2,c3])] at hQ
    simp (config:=KF) (disch:=omega) only [bZ,retI,aG,AI.dst,aX,bd,ar,am,bw,ap,addA,af,bL,putS,Sf.set,Sf.reg,getR,setR,aa,look,List.drop_zero,List.drop_succ_cons,↓reduceIte,Nat.reduceEqDiff,Bool.true_and,true_and,Nat.zero_add,decide_false,Bool.false_eq_true,f67_12e,f67_15e,f67_16e,f67_16l,c3]
    exact hQ _
theorem rchk_low {T:List Int} (t:Int):rchk (-1) T [] t = chk T t:=by
  unfold rchk chk
  by_cases h:t < 0∨64≤t
  · rw [if_pos h,if_pos h]
  · rw [if_neg h,if_neg h]
    by_cases h1:t ∈ T
    · rw [if_pos (.inl h1),if_pos h1]
    · rw [if_neg h1,if_neg]
      simp [h1]; omega

section
variable {T:List Int}
def rCan (T U:List Int) (t:Int):(List Int×List Int)×Int:=if t < 0∨64≤t then ((T,U),2) else if t ∉ T∧t ∉ U then ((T,U),9) else ((T.filter (·≠t),U.filter (·≠t)),0)
theorem rCan_low (T:List Int) (t:Int):rCan T [] t = (((lCan T t).1,[]),(lCan T t).2):=by
  unfold rCan lCan
  by_cases h:t < 0∨64≤t
  · rw [if_pos h,if_pos h]
  · rw [if_neg h,if_neg h]
    by_cases h1:t ∉ T
    · rw [if_pos ⟨h1,by simp⟩,if_pos h1]
    · rw [if_neg (fun h=>h1 h.1),if_neg h1]; rfl
theorem rcancel (c p u o:Int) (d:Bool) (T U:List Int) (t:Int) (hT:T.length≤1000) (hU:U.length≤1000) (st:St):aW Go.Proofs.Try.prog n_f27 [stAV c p u o d T U,.lit (.int .i64 t)] st (.tup [stAV c p u o d (rCan T U t).1.1 (rCan T U t).1.2,rsw (false,false,[],(rCan T U t).2)]):=by
  refine jK hmix k_f27 rfl rfl (.tup _ (by simp [st_nb,rsw_nb])) (by simp [st_nb,kg]) (fun Q hQ=>?_) st
  unfold aFun c_f27
  have ht:=fun st=>mg t st
  have h1:=fun st=>kV T t (by omega) st
  have h2:=fun st=>kV U t (by omega) st
  have h3:=fun st=>kL T t (by omega) st
  have h4:=fun st=>kL U t (by omega) st
  unfold rCan at hQ
  by_cases h0:0≤t∧t < 64
  case neg =>
    rw [if_pos (by omega)] at hQ
    rw [decide_eq_false h0] at ht
    simp (config:=KF) (disch:=omega) only [bZ,cG,cH,ai,boxX,ev_f,aA,putS,Sf.set,Sf.reg,getR,setR,aa,Sf.newLoc,look,bU,bf,aK,id,aq,aj,bO,ag,ae,bF,ah,cI,aY,a9,List.length_cons,List.length_nil,List.all_cons,List.all_nil,↓reduceIte,Nat.reduceEqDiff,Nat.reduceAdd,Bool.true_and,Bool.and_true,and_true,true_and,reduceCtorEq,Nat.zero_add,f27_1e,f27_2e,f27_2l,f27_3e,f27_4e,f27_5e,f27_5l,stAV]
    refine aO rfl e_f68 (ht _) rfl ?_
    simp (config:=KF) (disch:=omega) only [bZ,and_self,retI,resI,resL,o_un,am,cz,aU,ap,bstV,boxX,bj,af,az,ba,unA,aF,aV,aA,aQ,putS,Sf.set,Sf.reg,getR,setR,aa,Sf.disAt,Sf.setLoc,look,bf,aq,aj,bO,aw,ag,ae,bF,ah,co,aT,List.length_cons,List.length_nil,List.getElem?_cons_zero,List.getElem?_cons_succ,List.all_cons,List.all_nil,List.drop_zero,List.take_succ_cons,List.take_zero,List.set_cons_zero,List.set_cons_succ,↓reduceIte,Nat.reduceEqDiff,Nat.reduceAdd,Nat.reduceLeDiff,Bool.true_and,Bool.and_true,and_true,true_and,Nat.zero_add,decide_true,Bool.not_false,au,al,f27_6e,f27_7e,f27_8e,f27_8l]
    exact hQ _ _ (.tupL ⟨.refl _,kq _ _ _,trivial⟩)
  rw [if_neg (by omega)] at hQ
  rw [decide_eq_true h0] at ht
  simp (config:=KF) (disch:=omega) only [bZ,cG,cH,ai,boxX,ev_f,aA,putS,Sf.set,Sf.reg,getR,setR,aa,Sf.newLoc,look,bU,bf,aK,id,aq,aj,bO,ag,ae,bF,ah,cI,aY,a9,List.length_cons,List.length_nil,List.all_cons,List.all_nil,↓reduceIte,Nat.reduceEqDiff,Nat.reduceAdd,Bool.true_and,Bool.and_true,and_true,true_and,reduceCtorEq,Nat.zero_add,f27_1e,f27_2e,f27_2l,f27_3e,f27_4e,f27_5e,f27_5l,stAV]
  refine aO rfl e_f68 (ht _) rfl ?_
  simp (config:=KF) (disch:=omega) only [bZ,o_un,ar,am,ai,ap,addA,af,unA,ev_f,putS,Sf.set,Sf.reg,getR,setR,aa,look,id,aE,List.drop_zero,List.drop_succ_cons,↓reduceIte,Nat.reduceEqDiff,Nat.zero_add,Bool.not_true,f27_6e,f27_9e,f27_10e,f27_11e,f27_11l]
  refine aO rfl e_f22 (h1 _) rfl ?_
  by_cases c1:t ∈ T
  · rw [if_neg (fun h=>h.1 c1)] at hQ
    rw [decide_eq_true c1]
    simp (config:=KF) (disch:=omega) only [bZ,List.contains_nil,cL,dH,cf,cr,d4,bA,aG,cy,AI.dst,aX,bd,o_un,bw,ap,addA,af,unA,ev_f,putS,Sf.set,Sf.reg,getR,setR,aa,look,bE,id,aE,List.drop_zero,List.drop_succ_cons,↓reduceIte,Nat.reduceEqDiff,Nat.zero_add,Bool.not_true,Bool.false_eq_true,f27_12e,f27_15e,f27_16e,f27_16h,f27_16l]
    refine eR rfl e_f23 (h3 _) rfl ?_
    simp (config:=KF) (disch:=omega) only [bZ,cL,dH,cf,cr,d4,dg,bA,ap,addA,af,ev_f,putS,Sf.set,Sf.reg,getR,setR,look,id,aE,List.drop_zero,List.drop_succ_cons,↓reduceIte,Nat.reduceEqDiff,Nat.zero_add]
    refine eR rfl e_f23 (h4 _) rfl ?_
    simp (config:=KF) (disch:=omega) only [bZ,eU,cL,cf,dg,bA,cN,retI,resI,resL,ar,am,cz,aU,ap,bstV,boxX,bj,addA,af,az,ba,aF,aV,aA,aQ,putS,Sf.set,Sf.reg,getR,setR,aa,Sf.disAt,Sf.setLoc,look,bf,aE,aq,aj,bO,g8,ag,ae,bF,ah,co,aT,List.length_cons,List.length_nil,List.all_cons,List.all_nil,List.drop_zero,List.take_succ_cons,List.take_zero,List.set_cons_zero,List.set_cons_succ,↓reduceIte,Nat.reduceEqDiff,Nat.reduceAdd,Nat.reduceLeDiff,Bool.true_and,Bool.and_true,and_true,true_and,Nat.zero_add,decide_true,au,al,f27_17e,f27_18e,f27_18l]
    exact hQ _ _ (.tupL ⟨.refl _,kq _ _ _,trivial⟩)
  rw [decide_eq_false c1]
  simp (config:=KF) (disch:=omega) only [bZ,aG,AI.dst,bT,o_un,ar,am,ai,ap,addA,af,unA,ev_f,putS,Sf.set,Sf.reg,getR,setR,look,id,aE,List.drop_zero,List.drop_succ_cons,↓reduceIte,Nat.reduceEqDiff,Nat.zero_add,Bool.not_false]
  refine aO rfl e_f22 (h2 _) rfl ?_
  by_cases c2:t ∈ U
  · rw [if_neg (fun h=>h.2 c2)] at hQ
    rw [decide_eq_true c2]
    simp (config:=KF) (disch:=omega) only [bZ,List.contains_nil,cL,dH,cf,cr,d4,bA,aG,AI.dst,bT,bd,o_un,b8,ap,addA,af,unA,ev_f,putS,Sf.set,Sf.reg,getR,setR,aa,look,bE,id,aE,List.drop_zero,List.drop_succ_cons,↓reduceIte,Nat.reduceEqDiff,Nat.zero_add,Bool.not_true,Bool.false_eq_true,f27_12e,f27_15e,f27_16e,f27_16h,f27_16l]
    refine eR rfl e_f23 (h3 _) rfl ?_
    simp (config:=KF) (disch:=omega) only [bZ,cL,dH,cf,cr,d4,dg,bA,ap,addA,af,ev_f,putS,Sf.set,Sf.reg,getR,setR,look,id,aE,List.drop_zero,List.drop_succ_cons,↓reduceIte,Nat.reduceEqDiff,Nat.zero_add]
    refine eR rfl e_f23 (h4 _) rfl ?_
    simp (config:=KF) (disch:=omega) only [bZ,eU,cL,cf,dg,bA,cN,retI,resI,resL,ar,am,cz,aU,ap,bstV,boxX,bj,addA,af,az,ba,aF,aV,aA,aQ,putS,Sf.set,Sf.reg,getR,setR,aa,Sf.disAt,Sf.setLoc,look,bf,aE,aq,aj,bO,g8,ag,ae,bF,ah,co,aT,List.length_cons,List.length_nil,List.all_cons,List.all_nil,List.drop_zero,List.take_succ_cons,List.take_zero,List.set_cons_zero,List.set_cons_succ,↓reduceIte,Nat.reduceEqDiff,Nat.reduceAdd,Nat.reduceLeDiff,Bool.true_and,Bool.and_true,and_true,true_and,Nat.zero_add,decide_true,au,al,f27_17e,f27_18e,f27_18l]
    exact hQ _ _ (.tupL ⟨.refl _,kq _ _ _,trivial⟩)
  · rw [if_pos ⟨c1,c2⟩] at hQ
    rw [decide_eq_false c2]
    simp (config:=KF) (disch:=omega) only [bZ,and_self,retI,resI,resL,aG,AI.dst,bT,bd,o_un,am,cz,aU,b8,ap,bstV,boxX,bj,af,az,ba,unA,aF,aV,aA,aQ,putS,Sf.set,Sf.reg,getR,setR,aa,Sf.disAt,Sf.setLoc,look,bf,aq,aj,bO,aw,ag,ae,bF,ah,co,aT,List.length_cons,List.length_nil,List.getElem?_cons_zero,List.getElem?_cons_succ,List.all_cons,List.all_nil,List.drop_zero,List.take_succ_cons,List.take_zero,List.set_cons_zero,List.set_cons_succ,↓reduceIte,Nat.reduceEqDiff,Nat.reduceAdd,Nat.reduceLeDiff,Bool.true_and,Bool.and_true,and_true,true_and,Nat.zero_add,decide_true,Bool.not_false,au,al,f27_12e,f27_13e,f27_14e,f27_14l]
    exact hQ _ _ (.tupL ⟨.refl _,kq _ _ _,trivial⟩)
theorem rarrive (p u:Int) (T:List Int) (t:Int) (hu:0≤u∧u < 1000000) (hp:p≤64) (hl:T.length≤1000) (st:St):aW Go.Proofs.Try.prog n_f26 [stAV 0 p u (-1) false T [],.lit (.int .i64 t)] st (.tup [stAV 0 p (cV p u T t).1.1 (-1) false (cV p u T t).1.2 [],rsw (false,(cV p u T t).2.1,(cV p u T t).2.2.1,(cV p u T t).2.2.2)]):=by
  refine jK hmix k_f26 rfl rfl (.tup _ (by simp [st_nb,rsw_nb])) (by simp [st_nb,kg]) (fun Q hQ=>?_) st
  unfold aFun c_f26
  have hck:=fun st=>rcheck_pure 0 p u (-1) false T [] t hl (by simp) st
  rw [rchk_low] at hck
  have ll:=d2 T
  unfold cV at hQ
  by_cases h0:chk T t = 0
  case neg =>
    rw [if_pos h0] at hQ
    simp (config:=KF) (disch:=omega) only [bZ,am,cG,cH,ai,ap,boxX,af,az,aF,aV,ev_f,aA,putS,Sf.set,Sf.reg,getR,setR,aa,Sf.newLoc,look,bU,bf,aK,id,aq,aj,bO,ag,ae,bF,ah,cI,aY,a9,List.length_cons,List.length_nil,List.all_cons,List.all_nil,List.drop_zero,List.take_succ_cons,List.take_zero,↓reduceIte,Nat.reduceEqDiff,Nat.reduceAdd,Nat.reduceLeDiff,Int.reduceNeg,Bool.true_and,Bool.and_true,and_true,true_and,reduceCtorEq,Nat.zero_add,decide_true,f26_1e,f26_2e,f26_2l,f26_3e,f26_4e,f26_5e,f26_5l,stAV]
    refine aO rfl e_f67 (hck _) rfl ?_
    simp (config:=KF) (disch:=omega) only [bZ,and_self,retI,resI,resL,am,cz,ak,aU,ap,bstV,boxX,bj,af,az,ba,cc,aF,aV,aA,aQ,putS,Sf.set,Sf.reg,getR,setR,aa,Sf.disAt,Sf.setLoc,look,bf,aq,aj,bO,aw,ag,ae,bF,ah,co,aT,List.length_cons,List.length_nil,List.getElem?_cons_zero,List.getElem?_cons_succ,List.all_cons,List.all_nil,List.drop_zero,List.take_succ_cons,List.take_zero,List.set_cons_zero,List.set_cons_succ,↓reduceIte,Nat.reduceEqDiff,Nat.reduceAdd,Nat.reduceLeDiff,Int.reduceNeg,Bool.true_and,Bool.and_true,and_true,true_and,Nat.zero_add,not_false_eq_true,decide_true,au,al,f26_6e,f26_7e,f26_7l,f26_8e,f26_9e,f26_10e,f26_10l,h0]
    exact hQ _ _ (.tupL ⟨.refl _,kq _ _ _,trivial⟩)
  rw [if_neg (by simpa using h0)] at hQ
  rw [h0] at hck
  simp (config:=KF) (disch:=omega) only [bZ,am,cG,cH,ai,ap,boxX,af,az,aF,aV,ev_f,aA,putS,Sf.set,Sf.reg,getR,setR,aa,Sf.newLoc,look,bU,bf,aK,id,aq,aj,bO,ag,ae,bF,ah,cI,aY,a9,List.length_cons,List.length_nil,List.all_cons,List.all_nil,List.drop_zero,List.take_succ_cons,List.take_zero,↓reduceIte,Nat.reduceEqDiff,Nat.reduceAdd,Nat.reduceLeDiff,Int.reduceNeg,Bool.true_and,Bool.and_true,and_true,true_and,reduceCtorEq,Nat.zero_add,decide_true,f26_1e,f26_2e,f26_2l,f26_3e,f26_4e,f26_5e,f26_5l,stAV]
  refine aO rfl e_f67 (hck _) rfl ?_
  by_cases h1:(T.length:Int) + 1 < p
  · rw [if_pos h1] at hQ
    simp (config:=KF) (disch:=omega) only [bZ,ar,am,cF,ak,ai,ap,lenI,addA,af,ee,cc,bB,ev_f,putS,Sf.set,Sf.reg,getR,setR,aa,Sf.disAt,look,id,aE,List.drop_zero,List.drop_succ_cons,↓reduceIte,Nat.reduceEqDiff,Int.reduceNeg,Nat.zero_add,not_true_eq_false,decide_false,bu,IntWalk.i64_in,cp,f26_6e,f26_7e,f26_7l,f26_8e,f26_11e,f26_12e,f26_13e,f26_13l,f26_14e,f26_15e,f26_16e,f26_16l,ll]
    refine aO rfl e_f21 (rwith_sl T t (by omega) _) rfl ?_
    simp (config:=KF) (disch:=omega) only [bZ,retI,resI,resL,ar,am,cz,aU,ap,bstV,boxX,bj,addA,af,az,ba,aF,aV,aA,aQ,putS,Sf.set,Sf.reg,getR,setR,aa,Sf.disAt,Sf.setLoc,look,bf,aE,aq,aj,bO,g8,ag,ae,bF,ah,co,aT,List.length_cons,List.length_nil,List.all_cons,List.all_nil,List.drop_zero,List.take_succ_cons,List.take_zero,List.set_cons_zero,List.set_cons_succ,↓reduceIte,Nat.reduceEqDiff,Nat.reduceAdd,Nat.reduceLeDiff,Int.reduceNeg,Bool.true_and,Bool.and_true,and_true,true_and,Nat.zero_add,decide_true,au,al,f26_17e,f26_18e,f26_18l]
    exact hQ _ _ (.tupL ⟨.refl _,kq _ _ _,trivial⟩)
  · rw [if_neg h1] at hQ
    simp (config:=KF) (disch:=omega) only [bZ,and_self,retI,resI,resL,ar,am,cz,cF,ak,aU,ap,bstV,boxX,bj,lenI,addA,af,az,ba,ee,cc,bB,aF,aV,aA,nV,aQ,nW,putS,Sf.set,Sf.reg,getR,setR,aa,Sf.disAt,Sf.setLoc,look,bf,aE,aq,aj,bO,aw,g8,ag,ae,bF,ah,co,aT,List.length_cons,List.length_nil,List.getElem?_cons_zero,List.getElem?_cons_succ,List.all_cons,List.all_nil,List.drop_zero,List.drop_succ_cons,List.take_succ_cons,List.take_zero,List.set_cons_zero,List.set_cons_succ,↓reduceIte,Nat.reduceEqDiff,Nat.reduceAdd,Nat.reduceLeDiff,Int.reduceNeg,Bool.true_and,Bool.and_true,and_true,true_and,Nat.zero_add,not_true_eq_false,decide_true,decide_false,bI,IntWalk.i64_in,cp,au,al,f26_6e,f26_7e,f26_7l,f26_8e,f26_11e,f26_12e,f26_13e,f26_13l,f26_14e,f26_19e,f26_20e,f26_20l,f26_21e,f26_22e,f26_22l,f26_23e,f26_24e,f26_24l,f26_25e,f26_26e,f26_26l,ll]
    exact hQ _ _ (.tupL ⟨.aggL ⟨.refl _,.refl _,.refl _,.refl _,.refl _,.nil _ _,.refl _,trivial⟩,.refl _,trivial⟩)
end

theorem requal_w (x y:Rs) (hf:x.2.2.1.length≤1000000) (hg:y.2.2.1.length≤1000000) (st:St):aW Go.Proofs.Try.prog n_f28 [rsw x,rsw y] st (.lit (.bool (decide (x = y)))):=by
  obtain ⟨a,b,c,d⟩:=x
  obtain ⟨a',b',c',d'⟩:=y
  have hs:∀ st,aW Go.Proofs.Try.prog n_f69 [.sl false 1 (ints c),.sl false 1 (ints c')] st (.lit (.bool (decide (c = c')))):=fun st=>rsame_sl c c' hf hg st
  refine bM hmix k_f28 rfl rfl fun Q hQ=>?_
  unfold aFun c_f28
  by_cases h1:a = a'
  case neg =>
    have hh:(a == a') = false:=by simpa using h1
    have:decide ((a,b,c,d) = (a',b',c',d')) = false:=by simp [h1]
    rw [this] at hQ
    simp (config:=KF) (disch:=omega) only [bZ,retI,aG,cy,AI.dst,aX,bd,ar,am,ak,cH,bw,ap,boxX,hH,addA,af,aA,putS,Sf.set,Sf.reg,getR,setR,aa,Sf.disAt,Sf.newLoc,look,bU,bf,aK,aq,aj,bO,ag,ae,bF,ah,aY,a9,List.length_cons,List.length_nil,List.all_cons,List.all_nil,List.drop_zero,↓reduceIte,Nat.reduceEqDiff,Nat.reduceAdd,Bool.true_and,Bool.and_true,and_true,true_and,reduceCtorEq,Nat.zero_add,Nat.add_zero,f28_1e,f28_2e,f28_2l,f28_3e,f28_4e,f28_4l,rsw,hh]
    exact hQ _
  subst h1
  by_cases h2:b = b'
  case neg =>
    have hh:(b == b') = false:=by simpa using h2
    have:decide ((a,b,c,d) = (a,b',c',d')) = false:=by simp [h2]
    rw [this] at hQ
    simp (config:=KF) (disch:=omega) only [bZ,retI,aG,cy,AI.dst,bT,aX,bd,ar,am,ak,cH,b8,bw,ap,boxX,hH,addA,af,aA,putS,Sf.set,Sf.reg,getR,setR,aa,Sf.disAt,Sf.newLoc,look,bU,bf,aK,aq,aj,bO,ag,ae,bF,ah,aY,a9,List.length_cons,List.length_nil,List.all_cons,List.all_nil,List.drop_zero,List.drop_succ_cons,↓reduceIte,Nat.reduceEqDiff,Nat.reduceAdd,Bool.true_and,Bool.and_true,and_true,true_and,reduceCtorEq,Nat.zero_add,Nat.add_zero,f28_1e,f28_2e,f28_2l,f28_3e,f28_4e,f28_4l,rsw,beq_self_eq_true,hh]
    exact hQ _
  subst h2
  simp (config:=KF) (disch:=omega) only [bZ,aG,AI.dst,bT,bd,ar,am,cH,b8,ap,boxX,hH,addA,af,bL,aA,putS,Sf.set,Sf.reg,getR,setR,aa,Sf.newLoc,look,bU,bf,aK,aq,aj,bO,ag,ae,bF,ah,aY,a9,List.length_cons,List.length_nil,List.all_cons,List.all_nil,List.drop_zero,List.drop_succ_cons,↓reduceIte,Nat.reduceEqDiff,Nat.reduceAdd,Bool.true_and,Bool.and_true,and_true,true_and,reduceCtorEq,Nat.zero_add,Nat.add_zero,f28_1e,f28_2e,f28_2l,f28_3e,f28_4e,f28_4l,rsw,beq_self_eq_true]
  refine kJ (fun h3=>?_) (fun h3=>?_)
  · simp (config:=KF) (disch:=omega) only [bZ,aG,AI.dst,bT,ar,am,ai,ap,addA,af,ev_f,putS,Sf.set,Sf.reg,getR,setR,look,id,aE,List.drop_zero,List.drop_succ_cons,↓reduceIte,Nat.reduceEqDiff,Nat.zero_add]
    refine aO rfl e_f69 (hs _) rfl ?_
    simp (config:=KF) (disch:=omega) only [bZ,retI,bd,ak,b8,putS,Sf.set,Sf.reg,getR,setR,aa,Sf.disAt,↓reduceIte,Nat.reduceEqDiff,Bool.true_and,true_and]
    have:decide ((a,b,c,d) = (a,b,c',d')) = decide (c = c'):=by simp [h3]
    rw [this] at hQ
    exact hQ _
  · simp (config:=KF) (disch:=omega) only [bZ,retI,aG,cy,AI.dst,aX,bd,ak,bw,putS,Sf.set,Sf.reg,getR,setR,aa,Sf.disAt,↓reduceIte,Nat.reduceEqDiff,Bool.true_and,true_and]
    have:decide ((a,b,c,d) = (a,b,c',d')) = false:=by simp [h3]
    rw [this] at hQ
    exact hQ _
theorem nw (x:Rs) (hf:x.2.2.1.length≤1000000) (st:St):aW Go.Proofs.Try.prog n_f28 [rsAV x,rsw x] st (.lit (.bool true)):=by
  have h:=requal_w x x hf hf st
  rw [decide_eq_true rfl] at h
  exact h.weak ⟨rsw_le x,.refl _,trivial⟩ (.refl _)
theorem ac_lit2 (l:List (Int×Int×Int×Bool×Unit)):AV.sl false 4 (l.map fun x=>.agg [.lit (.int .i64 x.1),.lit (.int .i64 x.2.1),.lit (.int .i64 x.2.2.1),.lit (.bool x.2.2.2.1)]) = .sl false 4 ((l.map fun x=>(x.1,x.2.1,x.2.2.1,x.2.2.2.1)).map acAV):=by
  simp only [List.map_map]; rfl
end Go.Fx.YtphaaebhgggbaaaFx

