/- What the functions that the statement reaches compute: part 16. -/
import Derived.Test.YtphaaebhgggbaaaFxW15
namespace Go.Fx.YtphaaebhgggbaaaFx
open Go Go.Fx
attribute [local irreducible] aC runI bu cN

set_option maxRecDepth 100000
set_option maxHeartbeats 8000000

/-! The reference's states: printed by wip/dev/gen_lt19.py. -/
def stAV (c p u o:Int) (d:Bool) (T U:List Int):AV:=.agg [.lit (.int .i64 c),.lit (.int .i64 p),.lit (.int .i64 u),.lit (.int .i64 o),.lit (.bool d),.sl false 1 (ints T),.sl false 1 (ints U)]
def rsw (x:Rs):AV:=.agg [.lit (.bool x.1),.lit (.bool x.2.1),.sl false 1 (ints x.2.2.1),.lit (.int .i64 x.2.2.2)]
theorem kW (c p u o:Int) (d:Bool) (T U:List Int):(stAV c p u o d T U).NB:=.agg _ (by simp [iN,il])
theorem om (x:Rs):(rsw x).NB:=.agg _ (by simp [iN,il])
theorem rsw_le (x:Rs):(rsAV x).le (rsw x):=.aggL ⟨.refl _,.refl _,oq _,.refl _,trivial⟩
/-- A result with no tasks. -/
theorem ez (a b:Bool) (e:Int):AV.le (.agg [.lit (.bool a),.lit (.bool b),.lit (.slice none 0 0),.lit (.int .i64 e)]) (rsw (a,b,[],e)):=.aggL ⟨.refl _,.refl _,.nil _ _,.refl _,trivial⟩
theorem jk (t:Int) (st:St):bd Go.Proofs.Try.prog n_f68 [.lit (.int .i64 t)] st (.lit (.bool (decide (0≤t∧t < 64)))):=by
  refine bX hmix k_f68 rfl rfl fun Q hQ=>?_
  unfold aFun c_f68
  by_cases h0:0≤t
  · have e:decide (0≤t∧t < 64) = decide (t < 64):=by simp [h0]
    rw [e] at hQ
    simp (config:=KF) (disch:=omega) only [bZ,retI,aI,AI.dst,cE,bt,au,c9,bT,eW,putS,Sf.set,Sf.reg,getR,setR,aa,Sf.disAt,aG,↓reduceIte,Nat.reduceEqDiff,Bool.true_and,true_and,reduceCtorEq,fk,f68_1e,f68_2e,f68_2l,f68_3e,f68_4e,f68_4l]
    exact hQ _
  · rw [decide_eq_false (fun h=>h0 h.1)] at hQ
    simp (config:=KF) (disch:=omega) only [bZ,retI,aI,c4,AI.dst,bh,bt,au,bC,eW,putS,Sf.set,Sf.reg,getR,setR,aa,Sf.disAt,aG,↓reduceIte,Nat.reduceEqDiff,Bool.true_and,true_and,reduceCtorEq,dc,f68_1e,f68_2e,f68_2l,f68_3e,f68_4e,f68_4l]
    exact hQ _

def rchk (o:Int) (T U:List Int) (t:Int):Int:=if t < 0∨64≤t then 2 else if t ∈ T∨t ∈ U∨o = t then 11 else 0
theorem rcheck_pure (c p u o:Int) (d:Bool) (T U:List Int) (t:Int) (hT:T.length≤1000) (hU:U.length≤1000) (st:St):bd Go.Proofs.Try.prog n_f67 [stAV c p u o d T U,.lit (.int .i64 t)] st (.lit (.int .i64 (rchk o T U t))):=by
  have ht:=fun st=>jk t st
  have h1:=fun st=>lm T t (by omega) st
  have h2:=fun st=>lm U t (by omega) st
  refine bX hmix k_f67 rfl rfl fun Q hQ=>?_
  unfold aFun c_f67
  unfold rchk at hQ
  by_cases h0:0≤t∧t < 64
  case neg =>
    rw [if_pos (by omega)] at hQ
    rw [decide_eq_false h0] at ht
    simp (config:=KF) (disch:=omega) only [bZ,bV,ak,boxX,ev_f,aA,putS,Sf.set,Sf.reg,getR,setR,aa,Sf.newLoc,look,bJ,aX,aG,id,al,ai,a9,ag,ae,aV,ah,bS,aU,List.length_cons,List.length_nil,List.all_cons,List.all_nil,↓reduceIte,Nat.reduceEqDiff,Nat.reduceAdd,Bool.true_and,Bool.and_true,and_true,true_and,reduceCtorEq,Nat.zero_add,f67_1e,f67_2e,f67_2l,f67_3e,f67_4e,f67_5e,f67_5l,stAV]
    refine aK rfl e_f68 (ht _) rfl ?_
    simp (config:=KF) (disch:=omega) only [bZ,retI,o_un,unA,putS,Sf.set,Sf.reg,getR,setR,aa,look,↓reduceIte,Nat.reduceEqDiff,Bool.true_and,true_and,Bool.not_false,f67_6e,f67_7e,f67_8e,f67_8l]
    exact hQ _
  rw [if_neg (by omega)] at hQ
  rw [decide_eq_true h0] at ht
  simp (config:=KF) (disch:=omega) only [bZ,bV,ak,boxX,ev_f,aA,putS,Sf.set,Sf.reg,getR,setR,aa,Sf.newLoc,look,bJ,aX,aG,id,al,ai,a9,ag,ae,aV,ah,bS,aU,List.length_cons,List.length_nil,List.all_cons,List.all_nil,↓reduceIte,Nat.reduceEqDiff,Nat.reduceAdd,Bool.true_and,Bool.and_true,and_true,true_and,reduceCtorEq,Nat.zero_add,f67_1e,f67_2e,f67_2l,f67_3e,f67_4e,f67_5e,f67_5l,stAV]
  refine aK rfl e_f68 (ht _) rfl ?_
  simp (config:=KF) (disch:=omega) only [bZ,o_un,aw,am,ak,ap,addA,af,unA,ev_f,putS,Sf.set,Sf.reg,getR,setR,aa,look,id,aH,List.drop_zero,List.drop_succ_cons,↓reduceIte,Nat.reduceEqDiff,Nat.zero_add,Bool.not_true,f67_6e,f67_9e,f67_10e,f67_11e,f67_11l]
  refine aK rfl e_f22 (h1 _) rfl ?_
  by_cases c1:t ∈ T
  · rw [if_pos (.inl c1)] at hQ
    rw [decide_eq_true c1]
    simp (config:=KF) (disch:=omega) only [bZ,retI,aI,c4,AI.dst,cE,bt,c9,putS,Sf.set,Sf.reg,getR,setR,aa,↓reduceIte,Nat.reduceEqDiff,Bool.true_and,true_and,Bool.false_eq_true,f67_12e,f67_13e,f67_14e,f67_14l]
    exact hQ _
  rw [decide_eq_false c1]
  simp (config:=KF) (disch:=omega) only [bZ,aI,AI.dst,bh,aw,am,ak,ap,addA,af,ev_f,putS,Sf.set,Sf.reg,getR,setR,look,id,aH,List.drop_zero,List.drop_succ_cons,↓reduceIte,Nat.reduceEqDiff,Nat.zero_add,Bool.false_eq_true]
  refine aK rfl e_f22 (h2 _) rfl ?_
  by_cases c2:t ∈ U
  · rw [if_pos (.inr (.inl c2))] at hQ
    rw [decide_eq_true c2]
    simp (config:=KF) (disch:=omega) only [bZ,retI,aI,c4,AI.dst,cE,bt,c9,bC,putS,Sf.set,Sf.reg,getR,setR,aa,↓reduceIte,Nat.reduceEqDiff,Bool.true_and,true_and,Bool.false_eq_true,f67_12e,f67_13e,f67_14e,f67_14l]
    exact hQ _
  rw [decide_eq_false c2]
  by_cases c3:o = t
  · rw [if_pos (.inr (.inr c3))] at hQ
    simp (config:=KF) (disch:=omega) only [bZ,retI,aI,AI.dst,bh,bt,aw,am,bC,ap,addA,af,bW,putS,Sf.set,Sf.reg,getR,setR,aa,look,List.drop_zero,List.drop_succ_cons,↓reduceIte,Nat.reduceEqDiff,Bool.true_and,true_and,Nat.zero_add,decide_true,Bool.false_eq_true,f67_12e,f67_13e,f67_14e,f67_14l,c3]
    exact hQ _
  · rw [if_neg (by simp [c1,c2,c3])] at hQ
    simp (config:=KF) (disch:=omega) only [bZ,retI,aI,AI.dst,bh,bt,aw,am,bC,ap,addA,af,bW,putS,Sf.set,Sf.reg,getR,setR,aa,look,List.drop_zero,List.drop_succ_cons,↓reduceIte,Nat.reduceEqDiff,Bool.true_and,true_and,Nat.zero_add,decide_false,Bool.false_eq_true,f67_12e,f67_15e,f67_16e,f67_16l,c3]
    exact hQ _
section
variable {T:List Int}
def rCan (T U:List Int) (t:Int):(List Int×List Int)×Int:=if t < 0∨64≤t then ((T,U),2) else if t ∉ T∧t ∉ U then ((T,U),9) else ((T.filter (·≠t),U.filter (·≠t)),0)
theorem rCan_low (T:List Int) (t:Int):rCan T [] t = (((lCan T t).1,[]),(lCan T t).2):=by
  unfold rCan lCan
  by_cases h:t < 0∨64≤t
  · rw [if_pos h,if_pos h]
  · rw [if_neg h,if_neg h]
    by_cases h1:t ∉ T
    · rw [if_pos ⟨h1,by simp⟩,if_pos h1]
    · rw [if_neg (fun h=>h1 h.1),if_neg h1]; rfl
theorem rcancel (c p u o:Int) (d:Bool) (T U:List Int) (t:Int) (hT:T.length≤1000) (hU:U.length≤1000) (st:St):bd Go.Proofs.Try.prog n_f27 [stAV c p u o d T U,.lit (.int .i64 t)] st (.tup [stAV c p u o d (rCan T U t).1.1 (rCan T U t).1.2,rsw (false,false,[],(rCan T U t).2)]):=by
  refine gw hmix k_f27 rfl rfl (.tup _ (by simp [kW,om])) (by simp [kW,il]) (fun Q hQ=>?_) st
  unfold aFun c_f27
  have ht:=fun st=>jk t st
  have h1:=fun st=>lm T t (by omega) st
  have h2:=fun st=>lm U t (by omega) st
  have h3:=fun st=>kV T t (by omega) st
  have h4:=fun st=>kV U t (by omega) st
  unfold rCan at hQ
  by_cases h0:0≤t∧t < 64
  case neg =>
    rw [if_pos (by omega)] at hQ
    rw [decide_eq_false h0] at ht
    simp (config:=KF) (disch:=omega) only [bZ,bR,bV,ak,boxX,ev_f,aA,putS,Sf.set,Sf.reg,getR,setR,aa,Sf.newLoc,look,bJ,aX,aG,id,al,ai,a9,ag,ae,aV,ah,bS,aT,aU,List.length_cons,List.length_nil,List.all_cons,List.all_nil,↓reduceIte,Nat.reduceEqDiff,Nat.reduceAdd,Bool.true_and,Bool.and_true,and_true,true_and,reduceCtorEq,Nat.zero_add,f27_1e,f27_2e,f27_2l,f27_3e,f27_4e,f27_5e,f27_5l,stAV]
    refine aK rfl e_f68 (ht _) rfl ?_
    simp (config:=KF) (disch:=omega) only [bZ,and_self,retI,resI,resL,o_un,am,cd,aR,ap,bstV,boxX,aZ,af,ao,a8,unA,aB,aP,aA,aO,putS,Sf.set,Sf.reg,getR,setR,aa,Sf.disAt,Sf.setLoc,look,aX,al,ai,a9,az,ag,ae,aV,ah,bD,aS,List.length_cons,List.length_nil,List.getElem?_cons_zero,List.getElem?_cons_succ,List.all_cons,List.all_nil,List.drop_zero,List.take_succ_cons,List.take_zero,List.set_cons_zero,List.set_cons_succ,↓reduceIte,Nat.reduceEqDiff,Nat.reduceAdd,Nat.reduceLeDiff,Bool.true_and,Bool.and_true,and_true,true_and,Nat.zero_add,decide_true,Bool.not_false,aq,aj,f27_6e,f27_7e,f27_8e,f27_8l]
    exact hQ _ _ (.tupL ⟨.refl _,ez _ _ _,trivial⟩)
  rw [if_neg (by omega)] at hQ
  rw [decide_eq_true h0] at ht
  simp (config:=KF) (disch:=omega) only [bZ,bR,bV,ak,boxX,ev_f,aA,putS,Sf.set,Sf.reg,getR,setR,aa,Sf.newLoc,look,bJ,aX,aG,id,al,ai,a9,ag,ae,aV,ah,bS,aT,aU,List.length_cons,List.length_nil,List.all_cons,List.all_nil,↓reduceIte,Nat.reduceEqDiff,Nat.reduceAdd,Bool.true_and,Bool.and_true,and_true,true_and,reduceCtorEq,Nat.zero_add,f27_1e,f27_2e,f27_2l,f27_3e,f27_4e,f27_5e,f27_5l,stAV]
  refine aK rfl e_f68 (ht _) rfl ?_
  simp (config:=KF) (disch:=omega) only [bZ,o_un,aw,am,ak,ap,addA,af,unA,ev_f,putS,Sf.set,Sf.reg,getR,setR,aa,look,id,aH,List.drop_zero,List.drop_succ_cons,↓reduceIte,Nat.reduceEqDiff,Nat.zero_add,Bool.not_true,f27_6e,f27_9e,f27_10e,f27_11e,f27_11l]
  refine aK rfl e_f22 (h1 _) rfl ?_
  by_cases c1:t ∈ T
  · rw [if_neg (fun h=>h.1 c1)] at hQ
    rw [decide_eq_true c1]
    simp (config:=KF) (disch:=omega) only [bZ,List.contains_nil,cz,dt,b8,cc,dG,bp,aI,c4,AI.dst,bh,bt,o_un,bC,ap,addA,af,unA,ev_f,putS,Sf.set,Sf.reg,getR,setR,aa,look,bB,id,aH,List.drop_zero,List.drop_succ_cons,↓reduceIte,Nat.reduceEqDiff,Nat.zero_add,Bool.not_true,Bool.false_eq_true,f27_12e,f27_15e,f27_16e,f27_16h,f27_16l]
    refine ep rfl e_f23 (h3 _) rfl ?_
    simp (config:=KF) (disch:=omega) only [bZ,cz,dt,b8,cc,dG,cX,bp,ap,addA,af,ev_f,putS,Sf.set,Sf.reg,getR,setR,look,id,aH,List.drop_zero,List.drop_succ_cons,↓reduceIte,Nat.reduceEqDiff,Nat.zero_add]
    refine ep rfl e_f23 (h4 _) rfl ?_
    simp (config:=KF) (disch:=omega) only [bZ,eo,cz,b8,cX,bp,cJ,retI,resI,resL,aw,am,cd,aR,ap,bstV,boxX,aZ,addA,af,ao,a8,aB,aP,aA,aO,putS,Sf.set,Sf.reg,getR,setR,aa,Sf.disAt,Sf.setLoc,look,aX,aH,al,ai,a9,fG,ag,ae,aV,ah,bD,aS,List.length_cons,List.length_nil,List.all_cons,List.all_nil,List.drop_zero,List.take_succ_cons,List.take_zero,List.set_cons_zero,List.set_cons_succ,↓reduceIte,Nat.reduceEqDiff,Nat.reduceAdd,Nat.reduceLeDiff,Bool.true_and,Bool.and_true,and_true,true_and,Nat.zero_add,decide_true,aq,aj,f27_17e,f27_18e,f27_18l]
    exact hQ _ _ (.tupL ⟨.refl _,ez _ _ _,trivial⟩)
  rw [decide_eq_false c1]
  simp (config:=KF) (disch:=omega) only [bZ,aI,AI.dst,cE,o_un,aw,am,ak,ap,addA,af,unA,ev_f,putS,Sf.set,Sf.reg,getR,setR,look,id,aH,List.drop_zero,List.drop_succ_cons,↓reduceIte,Nat.reduceEqDiff,Nat.zero_add,Bool.not_false]
  refine aK rfl e_f22 (h2 _) rfl ?_
  by_cases c2:t ∈ U
  · rw [if_neg (fun h=>h.2 c2)] at hQ
    rw [decide_eq_true c2]
    simp (config:=KF) (disch:=omega) only [bZ,List.contains_nil,cz,dt,b8,cc,dG,bp,aI,AI.dst,cE,bt,o_un,c9,ap,addA,af,unA,ev_f,putS,Sf.set,Sf.reg,getR,setR,aa,look,bB,id,aH,List.drop_zero,List.drop_succ_cons,↓reduceIte,Nat.reduceEqDiff,Nat.zero_add,Bool.not_true,Bool.false_eq_true,f27_12e,f27_15e,f27_16e,f27_16h,f27_16l]
    refine ep rfl e_f23 (h3 _) rfl ?_
    simp (config:=KF) (disch:=omega) only [bZ,cz,dt,b8,cc,dG,cX,bp,ap,addA,af,ev_f,putS,Sf.set,Sf.reg,getR,setR,look,id,aH,List.drop_zero,List.drop_succ_cons,↓reduceIte,Nat.reduceEqDiff,Nat.zero_add]
    refine ep rfl e_f23 (h4 _) rfl ?_
    simp (config:=KF) (disch:=omega) only [bZ,eo,cz,b8,cX,bp,cJ,retI,resI,resL,aw,am,cd,aR,ap,bstV,boxX,aZ,addA,af,ao,a8,aB,aP,aA,aO,putS,Sf.set,Sf.reg,getR,setR,aa,Sf.disAt,Sf.setLoc,look,aX,aH,al,ai,a9,fG,ag,ae,aV,ah,bD,aS,List.length_cons,List.length_nil,List.all_cons,List.all_nil,List.drop_zero,List.take_succ_cons,List.take_zero,List.set_cons_zero,List.set_cons_succ,↓reduceIte,Nat.reduceEqDiff,Nat.reduceAdd,Nat.reduceLeDiff,Bool.true_and,Bool.and_true,and_true,true_and,Nat.zero_add,decide_true,aq,aj,f27_17e,f27_18e,f27_18l]
    exact hQ _ _ (.tupL ⟨.refl _,ez _ _ _,trivial⟩)
  · rw [if_pos ⟨c1,c2⟩] at hQ
    rw [decide_eq_false c2]
    simp (config:=KF) (disch:=omega) only [bZ,and_self,retI,resI,resL,aI,AI.dst,cE,bt,o_un,am,cd,aR,c9,ap,bstV,boxX,aZ,af,ao,a8,unA,aB,aP,aA,aO,putS,Sf.set,Sf.reg,getR,setR,aa,Sf.disAt,Sf.setLoc,look,aX,al,ai,a9,az,ag,ae,aV,ah,bD,aS,List.length_cons,List.length_nil,List.getElem?_cons_zero,List.getElem?_cons_succ,List.all_cons,List.all_nil,List.drop_zero,List.take_succ_cons,List.take_zero,List.set_cons_zero,List.set_cons_succ,↓reduceIte,Nat.reduceEqDiff,Nat.reduceAdd,Nat.reduceLeDiff,Bool.true_and,Bool.and_true,and_true,true_and,Nat.zero_add,decide_true,Bool.not_false,aq,aj,f27_12e,f27_13e,f27_14e,f27_14l]
    exact hQ _ _ (.tupL ⟨.refl _,ez _ _ _,trivial⟩)
end

theorem requal_w (x y:Rs) (hf:x.2.2.1.length≤1000000) (hg:y.2.2.1.length≤1000000) (st:St):bd Go.Proofs.Try.prog n_f28 [rsw x,rsw y] st (.lit (.bool (decide (x = y)))):=by
  obtain ⟨a,b,c,d⟩:=x
  obtain ⟨a',b',c',d'⟩:=y
  have hs:∀ st,bd Go.Proofs.Try.prog n_f69 [.sl false 1 (ints c),.sl false 1 (ints c')] st (.lit (.bool (decide (c = c')))):=fun st=>rsame_sl c c' hf hg st
  refine bX hmix k_f28 rfl rfl fun Q hQ=>?_
  unfold aFun c_f28
  by_cases h1:a = a'
  case neg =>
    have hh:(a == a') = false:=by simpa using h1
    have:decide ((a,b,c,d) = (a',b',c',d')) = false:=by simp [h1]
    rw [this] at hQ
    simp (config:=KF) (disch:=omega) only [bZ,retI,aI,c4,AI.dst,bh,bt,aw,am,au,bV,bC,ap,boxX,nx,addA,af,aA,putS,Sf.set,Sf.reg,getR,setR,aa,Sf.disAt,Sf.newLoc,look,bJ,aX,aG,al,ai,a9,ag,ae,aV,ah,aT,aU,List.length_cons,List.length_nil,List.all_cons,List.all_nil,List.drop_zero,↓reduceIte,Nat.reduceEqDiff,Nat.reduceAdd,Bool.true_and,Bool.and_true,and_true,true_and,reduceCtorEq,Nat.zero_add,Nat.add_zero,f28_1e,f28_2e,f28_2l,f28_3e,f28_4e,f28_4l,rsw,hh]
    exact hQ _
  subst h1
  by_cases h2:b = b'
  case neg =>
    have hh:(b == b') = false:=by simpa using h2
    have:decide ((a,b,c,d) = (a,b',c',d')) = false:=by simp [h2]
    rw [this] at hQ
    simp (config:=KF) (disch:=omega) only [bZ,retI,aI,c4,AI.dst,cE,bh,bt,aw,am,au,bV,c9,bC,ap,boxX,nx,addA,af,aA,putS,Sf.set,Sf.reg,getR,setR,aa,Sf.disAt,Sf.newLoc,look,bJ,aX,aG,al,ai,a9,ag,ae,aV,ah,aT,aU,List.length_cons,List.length_nil,List.all_cons,List.all_nil,List.drop_zero,List.drop_succ_cons,↓reduceIte,Nat.reduceEqDiff,Nat.reduceAdd,Bool.true_and,Bool.and_true,and_true,true_and,reduceCtorEq,Nat.zero_add,Nat.add_zero,f28_1e,f28_2e,f28_2l,f28_3e,f28_4e,f28_4l,rsw,beq_self_eq_true,hh]
    exact hQ _
  subst h2
  simp (config:=KF) (disch:=omega) only [bZ,aI,AI.dst,cE,bt,aw,am,bV,c9,ap,boxX,nx,addA,af,bW,aA,putS,Sf.set,Sf.reg,getR,setR,aa,Sf.newLoc,look,bJ,aX,aG,al,ai,a9,ag,ae,aV,ah,aT,aU,List.length_cons,List.length_nil,List.all_cons,List.all_nil,List.drop_zero,List.drop_succ_cons,↓reduceIte,Nat.reduceEqDiff,Nat.reduceAdd,Bool.true_and,Bool.and_true,and_true,true_and,reduceCtorEq,Nat.zero_add,Nat.add_zero,f28_1e,f28_2e,f28_2l,f28_3e,f28_4e,f28_4l,rsw,beq_self_eq_true]
  refine kS (fun h3=>?_) (fun h3=>?_)
  · simp (config:=KF) (disch:=omega) only [bZ,aI,AI.dst,cE,aw,am,ak,ap,addA,af,ev_f,putS,Sf.set,Sf.reg,getR,setR,look,id,aH,List.drop_zero,List.drop_succ_cons,↓reduceIte,Nat.reduceEqDiff,Nat.zero_add]
    refine aK rfl e_f69 (hs _) rfl ?_
    simp (config:=KF) (disch:=omega) only [bZ,retI,bt,au,c9,putS,Sf.set,Sf.reg,getR,setR,aa,Sf.disAt,↓reduceIte,Nat.reduceEqDiff,Bool.true_and,true_and]
    have:decide ((a,b,c,d) = (a,b,c',d')) = decide (c = c'):=by simp [h3]
    rw [this] at hQ
    exact hQ _
  · simp (config:=KF) (disch:=omega) only [bZ,retI,aI,c4,AI.dst,bh,bt,au,bC,putS,Sf.set,Sf.reg,getR,setR,aa,Sf.disAt,↓reduceIte,Nat.reduceEqDiff,Bool.true_and,true_and]
    have:decide ((a,b,c,d) = (a,b,c',d')) = false:=by simp [h3]
    rw [this] at hQ
    exact hQ _
theorem kB (x:Rs) (hf:x.2.2.1.length≤1000000) (st:St):bd Go.Proofs.Try.prog n_f28 [rsAV x,rsw x] st (.lit (.bool true)):=by
  have h:=requal_w x x hf hf st
  rw [decide_eq_true rfl] at h
  exact h.weak ⟨rsw_le x,.refl _,trivial⟩ (.refl _)
theorem ac_lit2 (l:List (Int×Int×Int×Bool×Unit)):AV.sl false 4 (l.map fun x=>.agg [.lit (.int .i64 x.1),.lit (.int .i64 x.2.1),.lit (.int .i64 x.2.2.1),.lit (.bool x.2.2.2.1)]) = .sl false 4 ((l.map fun x=>(x.1,x.2.1,x.2.2.1,x.2.2.2.1)).map acAV):=by
  simp only [List.map_map]; rfl
end Go.Fx.YtphaaebhgggbaaaFx

