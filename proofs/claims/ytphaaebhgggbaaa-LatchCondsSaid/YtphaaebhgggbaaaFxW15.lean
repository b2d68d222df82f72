/- What the functions that the statement reaches compute: part 15. -/
import Derived.Test.YtphaaebhgggbaaaFxW14
namespace Go.Fx.YtphaaebhgggbaaaFx
open Go Go.Fx
attribute [local irreducible] aC runI bD cO

set_option maxRecDepth 100000
set_option maxHeartbeats 8000000

/-! The reference's states: printed by wip/dev/gen_lt19.py. -/
def stAV (c p u o:Int) (d:Bool) (T U:List Int):AV:=.agg [.lit (.int .i64 c),.lit (.int .i64 p),.lit (.int .i64 u),.lit (.int .i64 o),.lit (.bool d),.sl false 1 (ints T),.sl false 1 (ints U)]
def rsw (x:Rs):AV:=.agg [.lit (.bool x.1),.lit (.bool x.2.1),.sl false 1 (ints x.2.2.1),.lit (.int .i64 x.2.2.2)]
theorem jl (c p u o:Int) (d:Bool) (T U:List Int):(stAV c p u o d T U).NB:=.agg _ (by simp [i6,g8])
theorem mQ (x:Rs):(rsw x).NB:=.agg _ (by simp [i6,g8])
theorem rsw_le (x:Rs):(rsAV x).le (rsw x):=.aggL ⟨.refl _,.refl _,oS _,.refl _,trivial⟩
/-- A result with no tasks. -/
theorem fj (a b:Bool) (e:Int):AV.le (.agg [.lit (.bool a),.lit (.bool b),.lit (.slice none 0 0),.lit (.int .i64 e)]) (rsw (a,b,[],e)):=.aggL ⟨.refl _,.refl _,.nil _ _,.refl _,trivial⟩
theorem ke (o:Bool) (l:List Int):AV.le (.sl o 1 (ints l)) (.sl false 1 (ints l)):=by
  cases o
  · exact .refl _
  · exact .own _ _

theorem jy (t:Int) (st:St):bg Go.Proofs.Try.prog n_f68 [.lit (.int .i64 t)] st (.lit (.bool (decide (0≤t∧t < 64)))):=by
  refine cc hmix k_f68 rfl rfl fun Q hQ=>?_
  unfold aFun c_f68
  by_cases h0:0≤t
  · have e:decide (0≤t∧t < 64) = decide (t < 64):=by simp [h0]
    rw [e] at hQ
    simp (config:=KF) (disch:=omega) only [bZ,retI,aL,AI.dst,cL,bu,az,dv,bS,ep,putS,Sf.set,Sf.reg,getR,setR,aa,Sf.disAt,aO,↓reduceIte,Nat.reduceEqDiff,Bool.true_and,true_and,reduceCtorEq,fI,f68_1e,f68_2e,f68_2l,f68_3e,f68_4e,f68_4l]
    exact hQ _
  · rw [decide_eq_false (fun h=>h0 h.1)] at hQ
    simp (config:=KF) (disch:=omega) only [bZ,retI,aL,c5,AI.dst,bh,bu,az,bA,ep,putS,Sf.set,Sf.reg,getR,setR,aa,Sf.disAt,aO,↓reduceIte,Nat.reduceEqDiff,Bool.true_and,true_and,reduceCtorEq,dl,f68_1e,f68_2e,f68_2l,f68_3e,f68_4e,f68_4l]
    exact hQ _

def rchk (o:Int) (T U:List Int) (t:Int):Int:=if t < 0∨64≤t then 2 else if t ∈ T∨t ∈ U∨o = t then 11 else 0
theorem rcheck_pure (c p u o:Int) (d:Bool) (T U:List Int) (t:Int) (hT:T.length≤1000) (hU:U.length≤1000) (st:St):bg Go.Proofs.Try.prog n_f67 [stAV c p u o d T U,.lit (.int .i64 t)] st (.lit (.int .i64 (rchk o T U t))):=by
  have ht:=fun st=>jy t st
  have h1:=fun st=>lN T t (by omega) st
  have h2:=fun st=>lN U t (by omega) st
  refine cc hmix k_f67 rfl rfl fun Q hQ=>?_
  unfold aFun c_f67
  unfold rchk at hQ
  by_cases h0:0≤t∧t < 64
  case neg =>
    rw [if_pos (by omega)] at hQ
    rw [decide_eq_false h0] at ht
    simp (config:=KF) (disch:=omega) only [bZ,b9,ao,boxX,ev_f,au,putS,Sf.set,Sf.reg,getR,setR,aa,Sf.newLoc,look,bK,aU,aO,id,al,ah,aK,ai,ae,aJ,af,bR,aY,List.length_cons,List.length_nil,List.all_cons,List.all_nil,↓reduceIte,Nat.reduceEqDiff,Nat.reduceAdd,Bool.true_and,Bool.and_true,and_true,true_and,reduceCtorEq,Nat.zero_add,f67_1e,f67_2e,f67_2l,f67_3e,f67_4e,f67_5e,f67_5l,stAV]
    refine aF rfl e_f68 (ht _) rfl ?_
    simp (config:=KF) (disch:=omega) only [bZ,retI,o_un,unA,putS,Sf.set,Sf.reg,getR,setR,aa,look,↓reduceIte,Nat.reduceEqDiff,Bool.true_and,true_and,Bool.not_false,f67_6e,f67_7e,f67_8e,f67_8l]
    exact hQ _
  rw [if_neg (by omega)] at hQ
  rw [decide_eq_true h0] at ht
  simp (config:=KF) (disch:=omega) only [bZ,b9,ao,boxX,ev_f,au,putS,Sf.set,Sf.reg,getR,setR,aa,Sf.newLoc,look,bK,aU,aO,id,al,ah,aK,ai,ae,aJ,af,bR,aY,List.length_cons,List.length_nil,List.all_cons,List.all_nil,↓reduceIte,Nat.reduceEqDiff,Nat.reduceAdd,Bool.true_and,Bool.and_true,and_true,true_and,reduceCtorEq,Nat.zero_add,f67_1e,f67_2e,f67_2l,f67_3e,f67_4e,f67_5e,f67_5l,stAV]
  refine aF rfl e_f68 (ht _) rfl ?_
  simp (config:=KF) (disch:=omega) only [bZ,o_un,aw,aq,ao,ar,addA,ag,unA,ev_f,putS,Sf.set,Sf.reg,getR,setR,aa,look,id,aI,List.drop_zero,List.drop_succ_cons,↓reduceIte,Nat.reduceEqDiff,Nat.zero_add,Bool.not_true,f67_6e,f67_9e,f67_10e,f67_11e,f67_11l]
  refine aF rfl e_f22 (h1 _) rfl ?_
  by_cases c1:t ∈ T
  · rw [if_pos (.inl c1)] at hQ
    rw [decide_eq_true c1]
    simp (config:=KF) (disch:=omega) only [bZ,retI,aL,c5,AI.dst,cL,bu,dv,putS,Sf.set,Sf.reg,getR,setR,aa,↓reduceIte,Nat.reduceEqDiff,Bool.true_and,true_and,Bool.false_eq_true,f67_12e,f67_13e,f67_14e,f67_14l]
    exact hQ _
  rw [decide_eq_false c1]
  simp (config:=KF) (disch:=omega) only [bZ,aL,AI.dst,bh,aw,aq,ao,ar,addA,ag,ev_f,putS,Sf.set,Sf.reg,getR,setR,look,id,aI,List.drop_zero,List.drop_succ_cons,↓reduceIte,Nat.reduceEqDiff,Nat.zero_add,Bool.false_eq_true]
  refine aF rfl e_f22 (h2 _) rfl ?_
  by_cases c2:t ∈ U
  · rw [if_pos (.inr (.inl c2))] at hQ
    rw [decide_eq_true c2]
    simp (config:=KF) (disch:=omega) only [bZ,retI,aL,c5,AI.dst,cL,bu,dv,bA,putS,Sf.set,Sf.reg,getR,setR,aa,↓reduceIte,Nat.reduceEqDiff,Bool.true_and,true_and,Bool.false_eq_true,f67_12e,f67_13e,f67_14e,f67_14l]
    exact hQ _
  rw [decide_eq_false c2]
  by_cases c3:o = t
  · rw [if_pos (.inr (.inr c3))] at hQ
    simp (config:=KF) (disch:=omega) only [bZ,retI,aL,AI.dst,bh,bu,aw,aq,bA,ar,addA,ag,bW,putS,Sf.set,Sf.reg,getR,setR,aa,look,List.drop_zero,List.drop_succ_cons,↓reduceIte,Nat.reduceEqDiff,Bool.true_and,true_and,Nat.zero_add,decide_true,Bool.false_eq_true,f67_12e,f67_13e,f67_14e,f67_14l,c3]
    exact hQ _
  · rw [if_neg (by simp [c1,c2,c3])] at hQ
    simp (config:=KF) (disch:=omega) only [bZ,retI,aL,AI.dst,bh,bu,aw,aq,bA,ar,addA,ag,bW,putS,Sf.set,Sf.reg,getR,setR,aa,look,List.drop_zero,List.drop_succ_cons,↓reduceIte,Nat.reduceEqDiff,Bool.true_and,true_and,Nat.zero_add,decide_false,Bool.false_eq_true,f67_12e,f67_15e,f67_16e,f67_16l,c3]
    exact hQ _
section
variable {T:List Int}
def rCan (T U:List Int) (t:Int):(List Int×List Int)×Int:=if t < 0∨64≤t then ((T,U),2) else if t ∉ T∧t ∉ U then ((T,U),9) else ((T.filter (·≠t),U.filter (·≠t)),0)
theorem rcancel (c p u o:Int) (d:Bool) (T U:List Int) (t:Int) (hT:T.length≤1000) (hU:U.length≤1000) (st:St):bg Go.Proofs.Try.prog n_f27 [stAV c p u o d T U,.lit (.int .i64 t)] st (.tup [stAV c p u o d (rCan T U t).1.1 (rCan T U t).1.2,rsw (false,false,[],(rCan T U t).2)]):=by
  refine gh hmix k_f27 rfl rfl (.tup _ (by simp [jl,mQ])) (by simp [jl,g8]) (fun Q hQ=>?_) st
  unfold aFun c_f27
  have ht:=fun st=>jy t st
  have h1:=fun st=>lN T t (by omega) st
  have h2:=fun st=>lN U t (by omega) st
  have h3:=fun st=>lx T t (by omega) st
  have h4:=fun st=>lx U t (by omega) st
  unfold rCan at hQ
  by_cases h0:0≤t∧t < 64
  case neg =>
    rw [if_pos (by omega)] at hQ
    rw [decide_eq_false h0] at ht
    simp (config:=KF) (disch:=omega) only [bZ,bT,b9,ao,boxX,ev_f,au,putS,Sf.set,Sf.reg,getR,setR,aa,Sf.newLoc,look,bK,aU,aO,id,al,ah,aK,ai,ae,aJ,af,bR,aW,aY,List.length_cons,List.length_nil,List.all_cons,List.all_nil,↓reduceIte,Nat.reduceEqDiff,Nat.reduceAdd,Bool.true_and,Bool.and_true,and_true,true_and,reduceCtorEq,Nat.zero_add,f27_1e,f27_2e,f27_2l,f27_3e,f27_4e,f27_5e,f27_5l,stAV]
    refine aF rfl e_f68 (ht _) rfl ?_
    simp (config:=KF) (disch:=omega) only [bZ,and_self,retI,resI,resL,o_un,aq,cv,aG,ar,bstV,boxX,aR,ag,ak,bf,unA,ap,aH,au,aE,putS,Sf.set,Sf.reg,getR,setR,aa,Sf.disAt,Sf.setLoc,look,aU,al,ah,aK,aA,ai,ae,aJ,af,bz,aT,List.length_cons,List.length_nil,List.getElem?_cons_zero,List.getElem?_cons_succ,List.all_cons,List.all_nil,List.drop_zero,List.take_succ_cons,List.take_zero,List.set_cons_zero,List.set_cons_succ,↓reduceIte,Nat.reduceEqDiff,Nat.reduceAdd,Nat.reduceLeDiff,Bool.true_and,Bool.and_true,and_true,true_and,Nat.zero_add,decide_true,Bool.not_false,am,aj,f27_6e,f27_7e,f27_8e,f27_8l]
    exact hQ _ _ (.tupL ⟨.refl _,fj _ _ _,trivial⟩)
  rw [if_neg (by omega)] at hQ
  rw [decide_eq_true h0] at ht
  simp (config:=KF) (disch:=omega) only [bZ,bT,b9,ao,boxX,ev_f,au,putS,Sf.set,Sf.reg,getR,setR,aa,Sf.newLoc,look,bK,aU,aO,id,al,ah,aK,ai,ae,aJ,af,bR,aW,aY,List.length_cons,List.length_nil,List.all_cons,List.all_nil,↓reduceIte,Nat.reduceEqDiff,Nat.reduceAdd,Bool.true_and,Bool.and_true,and_true,true_and,reduceCtorEq,Nat.zero_add,f27_1e,f27_2e,f27_2l,f27_3e,f27_4e,f27_5e,f27_5l,stAV]
  refine aF rfl e_f68 (ht _) rfl ?_
  simp (config:=KF) (disch:=omega) only [bZ,o_un,aw,aq,ao,ar,addA,ag,unA,ev_f,putS,Sf.set,Sf.reg,getR,setR,aa,look,id,aI,List.drop_zero,List.drop_succ_cons,↓reduceIte,Nat.reduceEqDiff,Nat.zero_add,Bool.not_true,f27_6e,f27_9e,f27_10e,f27_11e,f27_11l]
  refine aF rfl e_f22 (h1 _) rfl ?_
  by_cases c1:t ∈ T
  · rw [if_neg (fun h=>h.1 c1)] at hQ
    rw [decide_eq_true c1]
    simp (config:=KF) (disch:=omega) only [bZ,List.contains_nil,cp,dc,bV,bY,ia,bC,aL,c5,AI.dst,bh,bu,o_un,bA,ar,addA,ag,unA,ev_f,putS,Sf.set,Sf.reg,getR,setR,aa,look,br,id,aI,List.drop_zero,List.drop_succ_cons,↓reduceIte,Nat.reduceEqDiff,Nat.zero_add,Bool.not_true,Bool.false_eq_true,f27_12e,f27_15e,f27_16e,f27_16h,f27_16l]
    refine jx rfl e_f23 (h3 _) rfl ?_
    simp (config:=KF) (disch:=omega) only [bZ,cp,dc,bV,bY,ia,fa,bC,ar,addA,ag,ev_f,putS,Sf.set,Sf.reg,getR,setR,look,id,aI,List.drop_zero,List.drop_succ_cons,↓reduceIte,Nat.reduceEqDiff,Nat.zero_add]
    refine jx rfl e_f23 (h4 _) rfl ?_
    simp (config:=KF) (disch:=omega) only [bZ,dy,cp,bV,fa,bC,cf,retI,resI,resL,aw,aq,cv,aG,ar,bstV,boxX,aR,addA,ag,ak,bf,ap,aH,au,aE,putS,Sf.set,Sf.reg,getR,setR,aa,Sf.disAt,Sf.setLoc,look,aU,aI,al,ah,aK,c7,ai,ae,aJ,af,bz,aT,List.length_cons,List.length_nil,List.all_cons,List.all_nil,List.drop_zero,List.take_succ_cons,List.take_zero,List.set_cons_zero,List.set_cons_succ,↓reduceIte,Nat.reduceEqDiff,Nat.reduceAdd,Nat.reduceLeDiff,Bool.true_and,Bool.and_true,and_true,true_and,Nat.zero_add,decide_true,am,aj,f27_17e,f27_18e,f27_18l]
    exact hQ _ _ (.tupL ⟨.refl _,fj _ _ _,trivial⟩)
  rw [decide_eq_false c1]
  simp (config:=KF) (disch:=omega) only [bZ,aL,AI.dst,cL,o_un,aw,aq,ao,ar,addA,ag,unA,ev_f,putS,Sf.set,Sf.reg,getR,setR,look,id,aI,List.drop_zero,List.drop_succ_cons,↓reduceIte,Nat.reduceEqDiff,Nat.zero_add,Bool.not_false]
  refine aF rfl e_f22 (h2 _) rfl ?_
  by_cases c2:t ∈ U
  · rw [if_neg (fun h=>h.2 c2)] at hQ
    rw [decide_eq_true c2]
    simp (config:=KF) (disch:=omega) only [bZ,List.contains_nil,cp,dc,bV,bY,ia,bC,aL,AI.dst,cL,bu,o_un,dv,ar,addA,ag,unA,ev_f,putS,Sf.set,Sf.reg,getR,setR,aa,look,br,id,aI,List.drop_zero,List.drop_succ_cons,↓reduceIte,Nat.reduceEqDiff,Nat.zero_add,Bool.not_true,Bool.false_eq_true,f27_12e,f27_15e,f27_16e,f27_16h,f27_16l]
    refine jx rfl e_f23 (h3 _) rfl ?_
    simp (config:=KF) (disch:=omega) only [bZ,cp,dc,bV,bY,ia,fa,bC,ar,addA,ag,ev_f,putS,Sf.set,Sf.reg,getR,setR,look,id,aI,List.drop_zero,List.drop_succ_cons,↓reduceIte,Nat.reduceEqDiff,Nat.zero_add]
    refine jx rfl e_f23 (h4 _) rfl ?_
    simp (config:=KF) (disch:=omega) only [bZ,dy,cp,bV,fa,bC,cf,retI,resI,resL,aw,aq,cv,aG,ar,bstV,boxX,aR,addA,ag,ak,bf,ap,aH,au,aE,putS,Sf.set,Sf.reg,getR,setR,aa,Sf.disAt,Sf.setLoc,look,aU,aI,al,ah,aK,c7,ai,ae,aJ,af,bz,aT,List.length_cons,List.length_nil,List.all_cons,List.all_nil,List.drop_zero,List.take_succ_cons,List.take_zero,List.set_cons_zero,List.set_cons_succ,↓reduceIte,Nat.reduceEqDiff,Nat.reduceAdd,Nat.reduceLeDiff,Bool.true_and,Bool.and_true,and_true,true_and,Nat.zero_add,decide_true,am,aj,f27_17e,f27_18e,f27_18l]
    exact hQ _ _ (.tupL ⟨.refl _,fj _ _ _,trivial⟩)
  · rw [if_pos ⟨c1,c2⟩] at hQ
    rw [decide_eq_false c2]
    simp (config:=KF) (disch:=omega) only [bZ,and_self,retI,resI,resL,aL,AI.dst,cL,bu,o_un,aq,cv,aG,dv,ar,bstV,boxX,aR,ag,ak,bf,unA,ap,aH,au,aE,putS,Sf.set,Sf.reg,getR,setR,aa,Sf.disAt,Sf.setLoc,look,aU,al,ah,aK,aA,ai,ae,aJ,af,bz,aT,List.length_cons,List.length_nil,List.getElem?_cons_zero,List.getElem?_cons_succ,List.all_cons,List.all_nil,List.drop_zero,List.take_succ_cons,List.take_zero,List.set_cons_zero,List.set_cons_succ,↓reduceIte,Nat.reduceEqDiff,Nat.reduceAdd,Nat.reduceLeDiff,Bool.true_and,Bool.and_true,and_true,true_and,Nat.zero_add,decide_true,Bool.not_false,am,aj,f27_12e,f27_13e,f27_14e,f27_14l]
    exact hQ _ _ (.tupL ⟨.refl _,fj _ _ _,trivial⟩)
end

theorem requal_w (x y:Rs) (hf:x.2.2.1.length≤1000000) (hg:y.2.2.1.length≤1000000) (st:St):bg Go.Proofs.Try.prog n_f28 [rsw x,rsw y] st (.lit (.bool (decide (x = y)))):=by
  obtain ⟨a,b,c,d⟩:=x
  obtain ⟨a',b',c',d'⟩:=y
  have hs:∀ st,bg Go.Proofs.Try.prog n_f69 [.sl false 1 (ints c),.sl false 1 (ints c')] st (.lit (.bool (decide (c = c')))):=fun st=>rsame_sl c c' hf hg st
  refine cc hmix k_f28 rfl rfl fun Q hQ=>?_
  unfold aFun c_f28
  by_cases h1:a = a'
  case neg =>
    have hh:(a == a') = false:=by simpa using h1
    have:decide ((a,b,c,d) = (a',b',c',d')) = false:=by simp [h1]
    rw [this] at hQ
    simp (config:=KF) (disch:=omega) only [bZ,retI,aL,c5,AI.dst,bh,bu,aw,aq,az,b9,bA,ar,boxX,nS,addA,ag,au,putS,Sf.set,Sf.reg,getR,setR,aa,Sf.disAt,Sf.newLoc,look,bK,aU,aO,al,ah,aK,ai,ae,aJ,af,aW,aY,List.length_cons,List.length_nil,List.all_cons,List.all_nil,List.drop_zero,↓reduceIte,Nat.reduceEqDiff,Nat.reduceAdd,Bool.true_and,Bool.and_true,and_true,true_and,reduceCtorEq,Nat.zero_add,Nat.add_zero,f28_1e,f28_2e,f28_2l,f28_3e,f28_4e,f28_4l,rsw,hh]
    exact hQ _
  subst h1
  by_cases h2:b = b'
  case neg =>
    have hh:(b == b') = false:=by simpa using h2
    have:decide ((a,b,c,d) = (a,b',c',d')) = false:=by simp [h2]
    rw [this] at hQ
    simp (config:=KF) (disch:=omega) only [bZ,retI,aL,c5,AI.dst,cL,bh,bu,aw,aq,az,b9,dv,bA,ar,boxX,nS,addA,ag,au,putS,Sf.set,Sf.reg,getR,setR,aa,Sf.disAt,Sf.newLoc,look,bK,aU,aO,al,ah,aK,ai,ae,aJ,af,aW,aY,List.length_cons,List.length_nil,List.all_cons,List.all_nil,List.drop_zero,List.drop_succ_cons,↓reduceIte,Nat.reduceEqDiff,Nat.reduceAdd,Bool.true_and,Bool.and_true,and_true,true_and,reduceCtorEq,Nat.zero_add,Nat.add_zero,f28_1e,f28_2e,f28_2l,f28_3e,f28_4e,f28_4l,rsw,beq_self_eq_true,hh]
    exact hQ _
  subst h2
  simp (config:=KF) (disch:=omega) only [bZ,aL,AI.dst,cL,bu,aw,aq,b9,dv,ar,boxX,nS,addA,ag,bW,au,putS,Sf.set,Sf.reg,getR,setR,aa,Sf.newLoc,look,bK,aU,aO,al,ah,aK,ai,ae,aJ,af,aW,aY,List.length_cons,List.length_nil,List.all_cons,List.all_nil,List.drop_zero,List.drop_succ_cons,↓reduceIte,Nat.reduceEqDiff,Nat.reduceAdd,Bool.true_and,Bool.and_true,and_true,true_and,reduceCtorEq,Nat.zero_add,Nat.add_zero,f28_1e,f28_2e,f28_2l,f28_3e,f28_4e,f28_4l,rsw,beq_self_eq_true]
  refine lq (fun h3=>?_) (fun h3=>?_)
  · simp (config:=KF) (disch:=omega) only [bZ,aL,AI.dst,cL,aw,aq,ao,ar,addA,ag,ev_f,putS,Sf.set,Sf.reg,getR,setR,look,id,aI,List.drop_zero,List.drop_succ_cons,↓reduceIte,Nat.reduceEqDiff,Nat.zero_add]
    refine aF rfl e_f69 (hs _) rfl ?_
    simp (config:=KF) (disch:=omega) only [bZ,retI,bu,az,dv,putS,Sf.set,Sf.reg,getR,setR,aa,Sf.disAt,↓reduceIte,Nat.reduceEqDiff,Bool.true_and,true_and]
    have:decide ((a,b,c,d) = (a,b,c',d')) = decide (c = c'):=by simp [h3]
    rw [this] at hQ
    exact hQ _
  · simp (config:=KF) (disch:=omega) only [bZ,retI,aL,c5,AI.dst,bh,bu,az,bA,putS,Sf.set,Sf.reg,getR,setR,aa,Sf.disAt,↓reduceIte,Nat.reduceEqDiff,Bool.true_and,true_and]
    have:decide ((a,b,c,d) = (a,b,c',d')) = false:=by simp [h3]
    rw [this] at hQ
    exact hQ _
theorem fL (x:Rs) (hf:x.2.2.1.length≤1000000) (st:St):bg Go.Proofs.Try.prog n_f28 [rsAV x,rsw x] st (.lit (.bool true)):=by
  have h:=requal_w x x hf hf st
  rw [decide_eq_true rfl] at h
  exact h.weak ⟨rsw_le x,.refl _,trivial⟩ (.refl _)
theorem ac_lit2 (l:List (Int×Int×Int×Bool×Unit)):AV.sl false 4 (l.map fun x=>.agg [.lit (.int .i64 x.1),.lit (.int .i64 x.2.1),.lit (.int .i64 x.2.2.1),.lit (.bool x.2.2.2.1)]) = .sl false 4 ((l.map fun x=>(x.1,x.2.1,x.2.2.1,x.2.2.2.1)).map acAV):=by
  simp only [List.map_map]; rfl
end Go.Fx.YtphaaebhgggbaaaFx

