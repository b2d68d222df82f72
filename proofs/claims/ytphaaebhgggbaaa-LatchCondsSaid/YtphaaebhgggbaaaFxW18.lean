/- What the functions that the statement reaches compute: part 18. -/
import Derived.Test.YtphaaebhgggbaaaFxW17
namespace Go.Fx.YtphaaebhgggbaaaFx
open Go Go.Fx
attribute [local irreducible] aC runI bD cO

set_option maxRecDepth 100000
set_option maxHeartbeats 8000000

/-! The reference's condition: printed by wip/dev/gen_lt24.py. -/
section
variable {T:List Int}
theorem rlock (o:Int) (T U:List Int) (t:Int) (hl:T.length≤1000) (hu:U.length≤1000) (st:St):bg Go.Proofs.Try.prog n_f47 [stAV 0 0 0 o false T U,.lit (.int .i64 t)] st (.tup [stAV 0 0 0 (cn o T U t).1.1 false (cn o T U t).1.2 U,rsw (false,(cn o T U t).2.1,[],(cn o T U t).2.2)]):=by
  refine gh hmix k_f47 rfl rfl (.tup _ (by simp [jl,mQ])) (by simp [jl,g8]) (fun Q hQ=>?_) st
  unfold aFun c_f47
  have hck:=fun st=>rcheck_pure 0 0 0 o false T U t hl hu st
  rw [rchk_own] at hck
  unfold cn at hQ
  by_cases h0:chk (U++T) t = 0
  case neg =>
    rw [if_pos h0] at hQ hck
    simp (config:=KF) (disch:=omega) only [bZ,aq,bT,b9,ao,ar,boxX,ag,ak,ap,aH,ev_f,au,putS,Sf.set,Sf.reg,getR,setR,aa,Sf.newLoc,look,bK,aU,aO,id,al,ah,aK,ai,ae,aJ,af,bR,aW,aY,List.length_cons,List.length_nil,List.all_cons,List.all_nil,List.drop_zero,List.take_succ_cons,List.take_zero,↓reduceIte,Nat.reduceEqDiff,Nat.reduceAdd,Nat.reduceLeDiff,Bool.true_and,Bool.and_true,and_true,true_and,reduceCtorEq,Nat.zero_add,decide_true,f47_1e,f47_2e,f47_2l,f47_3e,f47_4e,f47_5e,f47_5l,stAV]
    refine aF rfl e_f67 (hck _) rfl ?_
    simp (config:=KF) (disch:=omega) only [bZ,and_self,retI,resI,resL,aq,cv,az,aG,ar,bstV,boxX,aR,ag,ak,bf,cH,ap,aH,au,aE,putS,Sf.set,Sf.reg,getR,setR,aa,Sf.disAt,Sf.setLoc,look,aU,al,ah,aK,aA,ai,ae,aJ,af,bz,aT,List.length_cons,List.length_nil,List.getElem?_cons_zero,List.getElem?_cons_succ,List.all_cons,List.all_nil,List.drop_zero,List.take_succ_cons,List.take_zero,List.set_cons_zero,List.set_cons_succ,↓reduceIte,Nat.reduceEqDiff,Nat.reduceAdd,Nat.reduceLeDiff,Bool.true_and,Bool.and_true,and_true,true_and,Nat.zero_add,not_false_eq_true,decide_true,am,aj,f47_6e,f47_7e,f47_7l,f47_8e,f47_9e,f47_10e,f47_10l,h0]
    exact hQ _ _ (.tupL ⟨.refl _,fj _ _ _,trivial⟩)
  rw [if_neg (by simpa using h0)] at hQ hck
  by_cases h1:o = t
  · rw [if_pos h1] at hQ hck
    simp (config:=KF) (disch:=omega) only [bZ,aq,bT,b9,ao,ar,boxX,ag,ak,ap,aH,ev_f,au,putS,Sf.set,Sf.reg,getR,setR,aa,Sf.newLoc,look,bK,aU,aO,id,al,ah,aK,ai,ae,aJ,af,bR,aW,aY,List.length_cons,List.length_nil,List.all_cons,List.all_nil,List.drop_zero,List.take_succ_cons,List.take_zero,↓reduceIte,Nat.reduceEqDiff,Nat.reduceAdd,Nat.reduceLeDiff,Bool.true_and,Bool.and_true,and_true,true_and,reduceCtorEq,Nat.zero_add,decide_true,f47_1e,f47_2e,f47_2l,f47_3e,f47_4e,f47_5e,f47_5l,stAV]
    refine aF rfl e_f67 (hck _) rfl ?_
    simp (config:=KF) (disch:=omega) only [bZ,and_self,retI,resI,resL,aq,cv,az,aG,ar,bstV,boxX,aR,ag,ak,bf,cH,ap,aH,au,aE,putS,Sf.set,Sf.reg,getR,setR,aa,Sf.disAt,Sf.setLoc,look,aU,al,ah,aK,aA,ai,ae,aJ,af,bz,aT,List.length_cons,List.length_nil,List.getElem?_cons_zero,List.getElem?_cons_succ,List.all_cons,List.all_nil,List.drop_zero,List.take_succ_cons,List.take_zero,List.set_cons_zero,List.set_cons_succ,↓reduceIte,Nat.reduceEqDiff,Nat.reduceAdd,Nat.reduceLeDiff,Int.reduceEq,Bool.true_and,Bool.and_true,and_true,true_and,Nat.zero_add,not_false_eq_true,decide_true,am,aj,f47_6e,f47_7e,f47_7l,f47_8e,f47_9e,f47_10e,f47_10l]
    exact hQ _ _ (.tupL ⟨.refl _,fj _ _ _,trivial⟩)
  rw [if_neg h1] at hQ hck
  by_cases h2:o < 0
  · rw [if_pos h2] at hQ
    simp (config:=KF) (disch:=omega) only [bZ,aq,bT,b9,ao,ar,boxX,ag,ak,ap,aH,ev_f,au,putS,Sf.set,Sf.reg,getR,setR,aa,Sf.newLoc,look,bK,aU,aO,id,al,ah,aK,ai,ae,aJ,af,bR,aW,aY,List.length_cons,List.length_nil,List.all_cons,List.all_nil,List.drop_zero,List.take_succ_cons,List.take_zero,↓reduceIte,Nat.reduceEqDiff,Nat.reduceAdd,Nat.reduceLeDiff,Bool.true_and,Bool.and_true,and_true,true_and,reduceCtorEq,Nat.zero_add,decide_true,f47_1e,f47_2e,f47_2l,f47_3e,f47_4e,f47_5e,f47_5l,stAV]
    refine aF rfl e_f67 (hck _) rfl ?_
    simp (config:=KF) (disch:=omega) only [bZ,and_self,retI,resI,resL,aw,aq,cv,az,aG,ar,bstV,boxX,aR,addA,ag,ak,bf,cH,bS,ap,aH,au,aE,putS,Sf.set,Sf.reg,getR,setR,aa,Sf.disAt,Sf.setLoc,look,aU,al,ah,aK,aA,ai,ae,aJ,af,bz,aT,List.length_cons,List.length_nil,List.getElem?_cons_zero,List.getElem?_cons_succ,List.all_cons,List.all_nil,List.drop_zero,List.drop_succ_cons,List.take_succ_cons,List.take_zero,List.set_cons_zero,List.set_cons_succ,↓reduceIte,Nat.reduceEqDiff,Nat.reduceAdd,Nat.reduceLeDiff,Bool.true_and,Bool.and_true,and_true,true_and,Nat.zero_add,not_true_eq_false,decide_true,decide_false,bq,am,aj,f47_6e,f47_7e,f47_7l,f47_8e,f47_11e,f47_12e,f47_13e,f47_13l,f47_14e,f47_15e,f47_16e,f47_16l,f47_17e,f47_18e,f47_18l]
    exact hQ _ _ (.tupL ⟨.refl _,fj _ _ _,trivial⟩)
  · rw [if_neg h2] at hQ
    simp (config:=KF) (disch:=omega) only [bZ,aq,bT,b9,ao,ar,boxX,ag,ak,ap,aH,ev_f,au,putS,Sf.set,Sf.reg,getR,setR,aa,Sf.newLoc,look,bK,aU,aO,id,al,ah,aK,ai,ae,aJ,af,bR,aW,aY,List.length_cons,List.length_nil,List.all_cons,List.all_nil,List.drop_zero,List.take_succ_cons,List.take_zero,↓reduceIte,Nat.reduceEqDiff,Nat.reduceAdd,Nat.reduceLeDiff,Bool.true_and,Bool.and_true,and_true,true_and,reduceCtorEq,Nat.zero_add,decide_true,f47_1e,f47_2e,f47_2l,f47_3e,f47_4e,f47_5e,f47_5l,stAV]
    refine aF rfl e_f67 (hck _) rfl ?_
    simp (config:=KF) (disch:=omega) only [bZ,aw,aq,az,ao,ar,addA,ag,cH,bS,ev_f,putS,Sf.set,Sf.reg,getR,setR,aa,Sf.disAt,look,id,aI,List.drop_zero,List.drop_succ_cons,↓reduceIte,Nat.reduceEqDiff,Nat.zero_add,not_true_eq_false,decide_false,bH,f47_6e,f47_7e,f47_7l,f47_8e,f47_11e,f47_12e,f47_13e,f47_13l,f47_14e,f47_19e,f47_20e,f47_20l]
    refine aF rfl e_f21 (rwith_sl T t (by omega) _) rfl ?_
    simp (config:=KF) (disch:=omega) only [bZ,retI,resI,resL,aw,aq,cv,aG,ar,bstV,boxX,aR,addA,ag,ak,bf,ap,aH,au,aE,putS,Sf.set,Sf.reg,getR,setR,aa,Sf.disAt,Sf.setLoc,look,aU,aI,al,ah,aK,c7,ai,ae,aJ,af,bz,aT,List.length_cons,List.length_nil,List.all_cons,List.all_nil,List.drop_zero,List.take_succ_cons,List.take_zero,List.set_cons_zero,List.set_cons_succ,↓reduceIte,Nat.reduceEqDiff,Nat.reduceAdd,Nat.reduceLeDiff,Bool.true_and,Bool.and_true,and_true,true_and,Nat.zero_add,decide_true,am,aj,f47_21e,f47_22e,f47_22l]
    exact hQ _ _ (.tupL ⟨.refl _,fj _ _ _,trivial⟩)
theorem runlock (o:Int) (T U:List Int) (t:Int) (s:Bool) (hl:T.length≤1000) (hu:U.length≤1000) (st:St):bg Go.Proofs.Try.prog n_f48 [stAV 0 0 0 o false T U,.lit (.int .i64 t),.lit (.bool s)] st (.tup [stAV 0 0 0 (bX o T t).1.1 false (bX o T t).1.2 (if s = true then n5 o T U t else U),rsw (false,false,(bX o T t).2.1,(bX o T t).2.2)]):=by
  refine gh hmix k_f48 rfl rfl (.tup _ (by simp [jl,mQ])) (by simp [jl,g8]) (fun Q hQ=>?_) st
  unfold aFun c_f48
  have ht:=fun st=>jy t st
  unfold n5 bX cm at hQ
  by_cases h0:0≤t∧t < 64
  case neg =>
    have hc:chk [] t = 2:=by unfold chk; rw [if_pos (by omega)]
    rw [hc] at hQ
    rw [decide_eq_false h0] at ht
    simp only [ne_eq,show ¬ (2:Int) = 0 by decide,not_false_eq_true,if_true,if_false,ite_self] at hQ
    simp (config:=KF) (disch:=omega) only [bZ,bT,b9,ao,boxX,ev_f,au,putS,Sf.set,Sf.reg,getR,setR,aa,Sf.newLoc,look,bK,aU,aO,id,al,ah,aK,ai,ae,aJ,af,bR,aW,aY,List.length_cons,List.length_nil,List.all_cons,List.all_nil,↓reduceIte,Nat.reduceEqDiff,Nat.reduceAdd,Bool.true_and,Bool.and_true,and_true,true_and,reduceCtorEq,Nat.zero_add,f48_1e,f48_2e,f48_2l,f48_3e,f48_4e,f48_5e,f48_5l,stAV]
    refine aF rfl e_f68 (ht _) rfl ?_
    simp (config:=KF) (disch:=omega) only [bZ,and_self,retI,resI,resL,o_un,aq,cv,aG,ar,bstV,boxX,aR,ag,ak,bf,unA,ap,aH,au,aE,putS,Sf.set,Sf.reg,getR,setR,aa,Sf.disAt,Sf.setLoc,look,aU,al,ah,aK,aA,ai,ae,aJ,af,bz,aT,List.length_cons,List.length_nil,List.getElem?_cons_zero,List.getElem?_cons_succ,List.all_cons,List.all_nil,List.drop_zero,List.take_succ_cons,List.take_zero,List.set_cons_zero,List.set_cons_succ,↓reduceIte,Nat.reduceEqDiff,Nat.reduceAdd,Nat.reduceLeDiff,Bool.true_and,Bool.and_true,and_true,true_and,Nat.zero_add,decide_true,Bool.not_false,am,aj,f48_6e,f48_7e,f48_8e,f48_8l]
    exact hQ _ _ (.tupL ⟨.refl _,fj _ _ _,trivial⟩)
  have hc:chk [] t = 0:=by unfold chk; rw [if_neg (by omega),if_neg (by simp)]
  rw [hc] at hQ
  rw [decide_eq_true h0] at ht
  simp only [ne_eq,not_true_eq_false,if_false] at hQ
  simp (config:=KF) (disch:=omega) only [bZ,bT,b9,ao,boxX,ev_f,au,putS,Sf.set,Sf.reg,getR,setR,aa,Sf.newLoc,look,bK,aU,aO,id,al,ah,aK,ai,ae,aJ,af,bR,aW,aY,List.length_cons,List.length_nil,List.all_cons,List.all_nil,↓reduceIte,Nat.reduceEqDiff,Nat.reduceAdd,Bool.true_and,Bool.and_true,and_true,true_and,reduceCtorEq,Nat.zero_add,f48_1e,f48_2e,f48_2l,f48_3e,f48_4e,f48_5e,f48_5l,stAV]
  refine aF rfl e_f68 (ht _) rfl ?_
  by_cases h1:o = t
  case neg =>
    simp only [h1,not_false_eq_true,if_true,show ¬ (8:Int) = 0 by decide,if_false,ite_self] at hQ
    simp (config:=KF) (disch:=omega) only [bZ,and_self,retI,resI,resL,o_un,aw,aq,cv,aG,ar,bstV,boxX,aR,addA,ag,ak,bf,unA,cH,ap,aH,au,aE,putS,Sf.set,Sf.reg,getR,setR,aa,Sf.disAt,Sf.setLoc,look,aU,al,ah,aK,aA,ai,ae,aJ,af,bz,aT,List.length_cons,List.length_nil,List.getElem?_cons_zero,List.getElem?_cons_succ,List.all_cons,List.all_nil,List.drop_zero,List.drop_succ_cons,List.take_succ_cons,List.take_zero,List.set_cons_zero,List.set_cons_succ,↓reduceIte,Nat.reduceEqDiff,Nat.reduceAdd,Nat.reduceLeDiff,Bool.true_and,Bool.and_true,and_true,true_and,Nat.zero_add,not_false_eq_true,decide_true,Bool.not_true,am,aj,f48_6e,f48_9e,f48_10e,f48_11e,f48_11l,f48_12e,f48_13e,f48_14e,f48_14l,h1]
    exact hQ _ _ (.tupL ⟨.refl _,fj _ _ _,trivial⟩)
  simp only [h1,not_true_eq_false,if_false,if_true] at hQ
  subst h1
  cases s with
  | true =>
    simp only [if_true] at hQ
    simp (config:=KF) (disch:=omega) only [bZ,o_un,aw,aq,aG,ao,ar,boxX,aR,addA,ag,unA,cH,ev_f,lJ,lK,putS,Sf.set,Sf.reg,getR,setR,aa,Sf.setLoc,look,aU,id,aI,aA,ae,af,List.length_cons,List.length_nil,List.all_cons,List.all_nil,List.drop_zero,List.drop_succ_cons,List.set_cons_zero,List.set_cons_succ,↓reduceIte,Nat.reduceEqDiff,Nat.reduceAdd,Nat.reduceLeDiff,Int.reduceNeg,Bool.true_and,Bool.and_true,and_true,true_and,Nat.zero_add,not_true_eq_false,decide_false,Bool.not_true,am,aj,f48_6e,f48_9e,f48_10e,f48_11e,f48_11l,f48_12e,f48_15e,f48_16e,f48_16l,f48_17e,f48_18e,f48_19e,f48_19l,f48_20e,f48_21e,f48_21l]
    refine aF rfl e_f21 (rwith_sl U o (by omega) _) rfl ?_
    simp (config:=KF) (disch:=omega) only [bZ,aw,aq,aG,ao,ar,boxX,aR,addA,ag,ak,ap,aH,ev_f,au,aE,putS,Sf.set,Sf.reg,getR,setR,aa,Sf.disAt,Sf.setLoc,look,aU,id,aI,al,ah,aK,c7,aJ,af,List.length_cons,List.length_nil,List.all_cons,List.all_nil,List.drop_zero,List.take_succ_cons,List.take_zero,List.set_cons_zero,List.set_cons_succ,↓reduceIte,Nat.reduceEqDiff,Nat.reduceAdd,Nat.reduceLeDiff,Int.reduceNeg,Bool.true_and,Bool.and_true,and_true,true_and,Nat.zero_add,decide_true,am,aj,f48_22e,f48_23e,f48_23l]
    refine aF rfl e_f73 (rnext 0 0 0 (-1) false T (U++[o]) hl _) rfl ?_
    simp (config:=KF) (disch:=omega) only [bZ,retI,resI,resL,bJ,aG,extV,boxX,aR,ag,ak,ap,aH,au,aE,putS,Sf.set,Sf.reg,getR,setR,aa,Sf.disAt,Sf.setLoc,look,aU,al,ah,aK,ai,ae,aJ,af,bz,aT,List.length_cons,List.length_nil,List.getElem?_cons_zero,List.getElem?_cons_succ,List.all_cons,List.all_nil,List.drop_zero,List.take_succ_cons,List.take_zero,List.set_cons_zero,List.set_cons_succ,↓reduceIte,Nat.reduceEqDiff,Nat.reduceAdd,Nat.reduceLeDiff,Int.reduceNeg,Bool.true_and,Bool.and_true,and_true,true_and,Nat.zero_add,decide_true,am,aj,stAV,rsw]
    exact hQ _ _ (.refl _)
  | false =>
    simp only [Bool.false_eq_true,if_false] at hQ
    simp (config:=KF) (disch:=omega) only [bZ,o_un,aw,aq,aG,ao,ar,boxX,aR,addA,ag,ak,unA,cH,ap,aH,ev_f,lJ,lK,putS,Sf.set,Sf.reg,getR,setR,aa,Sf.setLoc,look,aU,id,al,ah,aK,aA,ae,af,List.length_cons,List.length_nil,List.all_cons,List.all_nil,List.drop_zero,List.drop_succ_cons,List.take_succ_cons,List.take_zero,List.set_cons_zero,List.set_cons_succ,↓reduceIte,Nat.reduceEqDiff,Nat.reduceAdd,Nat.reduceLeDiff,Int.reduceNeg,Bool.true_and,Bool.and_true,and_true,true_and,Nat.zero_add,not_true_eq_false,decide_true,decide_false,Bool.not_true,am,aj,f48_6e,f48_9e,f48_10e,f48_11e,f48_11l,f48_12e,f48_15e,f48_16e,f48_16l,f48_17e,f48_18e,f48_19e,f48_19l,f48_20e,f48_22e,f48_23e,f48_23l]
    refine aF rfl e_f73 (rnext 0 0 0 (-1) false T U hl _) rfl ?_
    simp (config:=KF) (disch:=omega) only [bZ,retI,resI,resL,bJ,aG,extV,boxX,aR,ag,ak,ap,aH,au,aE,putS,Sf.set,Sf.reg,getR,setR,aa,Sf.disAt,Sf.setLoc,look,aU,al,ah,aK,ai,ae,aJ,af,bz,aT,List.length_cons,List.length_nil,List.getElem?_cons_zero,List.getElem?_cons_succ,List.all_cons,List.all_nil,List.drop_zero,List.take_succ_cons,List.take_zero,List.set_cons_zero,List.set_cons_succ,↓reduceIte,Nat.reduceEqDiff,Nat.reduceAdd,Nat.reduceLeDiff,Int.reduceNeg,Bool.true_and,Bool.and_true,and_true,true_and,Nat.zero_add,decide_true,am,aj,stAV,rsw]
    exact hQ _ _ (.refl _)
theorem iM (l:List Int):(ints l).map AV.dis = ints l:=by simp [ints,AV.dis,Function.comp_def]
theorem ints_take (l:List Int) (k:Nat):(ints l).take k = ints (l.take k):=by simp [ints]
theorem ints_drop (l:List Int) (k:Nat):(ints l).drop k = ints (l.drop k):=by simp [ints]
theorem gm {l:List Int} (h:l≠[]):(ints l).isEmpty = false:=by simpa [ints] using h
theorem rsignal (o:Int) (T U:List Int) (a:Bool) (k:Nat) (hk:k = if a = true then U.length else min U.length 1) (hl:T.length≤100) (hu:U.length≤100) (st:St):bg Go.Proofs.Try.prog n_f49 [stAV 0 0 0 o false T U,.lit (.bool a)] st (.tup [stAV 0 0 0 (a8 o (T++U.take k)).1.1 false (a8 o (T++U.take k)).1.2 (U.drop k),rsw (false,false,(a8 o (T++U.take k)).2,0)]):=by
  refine gh hmix k_f49 rfl rfl (.tup _ (by simp [jl,mQ])) (by simp [jl,g8]) (fun Q hQ=>?_) st
  unfold aFun c_f49
  have lT:=cM T
  have lU:=cM U
  have hkl:k≤U.length:=by rw [hk]; split <;> omega
  have hTU:(T++U.take k).length≤1000:=by rw [List.length_append,List.length_take]; omega
  have hnx:∀ st v5 v6,AV.le v5 (.sl false 1 (ints (T++U.take k)))→AV.le v6 (.sl false 1 (ints (U.drop k)))→bg Go.Proofs.Try.prog n_f73 [.agg [.lit (.int .i64 0),.lit (.int .i64 0),.lit (.int .i64 0),.lit (.int .i64 o),.lit (.bool false),v5,v6]] st
      (.tup [stAV 0 0 0 (a8 o (T++U.take k)).1.1 false (a8 o (T++U.take k)).1.2 (U.drop k),rsw (false,false,(a8 o (T++U.take k)).2,0)]):=fun st v5 v6 h5 h6 =>
    (rnext 0 0 0 o false (T++U.take k) (U.drop k) hTU st).weak ⟨.aggL ⟨.refl _,.refl _,.refl _,.refl _,.refl _,h5,h6,trivial⟩,trivial⟩ (.refl _)
  have hQ1:Q (.tup [stAV 0 0 0 (a8 o (T++U.take k)).1.1 false (a8 o (T++U.take k)).1.2 (U.drop k),rsw (false,false,(a8 o (T++U.take k)).2,0)]) ⟨[]⟩:=hQ _ _ (.refl _)
  clear hQ
  unfold stAV rsw at hQ1
  unfold stAV rsw at hnx
  -- behind the length
  cases a with
  | true =>
    simp only [if_true] at hk
    subst hk
    simp (config:=KF) (disch:=omega) only [bZ,o_un,aw,aq,cw,az,bT,b9,ar,boxX,lenI,addA,ag,unA,au,putS,Sf.set,Sf.reg,getR,setR,aa,Sf.disAt,Sf.newLoc,look,bK,aU,aO,aI,al,ah,aK,ai,ae,aJ,af,bR,aW,aY,List.length_cons,List.length_nil,List.all_cons,List.all_nil,List.drop_zero,List.drop_succ_cons,↓reduceIte,Nat.reduceEqDiff,Nat.reduceAdd,Bool.true_and,Bool.and_true,and_true,true_and,reduceCtorEq,Nat.zero_add,Bool.not_true,f49_1e,f49_2e,f49_2l,f49_3e,f49_4e,f49_4l,f49_5e,f49_6e,f49_7e,f49_7l,f49_8e,stAV,lU]
    simp only [List.take_length,List.drop_length] at hnx hQ1
    have q7:(ints U).take U.length = ints U:=List.take_of_length_le (by rw [lU]; exact Nat.le_refl _)
    have q8:(ints U).drop U.length = []:=List.drop_of_length_le (by rw [lU]; exact Nat.le_refl _)
    have q1:=iM T
    have q2:=iM U
    have e0:ints [] = []:=rfl
    by_cases hT:T = []
    · subst hT
      simp only [List.nil_append] at hnx hQ1
      by_cases hA:U = []
      · subst hA
        simp (config:=KF) (disch:=omega) only [bZ,List.contains_nil,dy,cp,dc,bV,bY,fC,h9,bC,cf,and_self,aw,aq,gO,dN,dO,aG,ao,ar,gv,dY,eF,boxX,aR,List.isEmpty_nil,ixTo,addA,ag,ak,cq,srcA,ap,aH,ev_f,au,aE,putS,Sf.set,Sf.reg,getR,setR,aa,Sf.disAt,Sf.setLoc,look,aU,br,id,aI,al,ah,aA,ae,af,List.length_cons,List.length_nil,Option.map_some,Option.map_none,List.all_cons,List.all_nil,List.drop_zero,List.drop_succ_cons,List.take_succ_cons,List.take_zero,List.set_cons_zero,List.set_cons_succ,Int.toNat_zero,Int.cast_ofNat_Int,↓reduceIte,Nat.reduceEqDiff,Nat.reduceAdd,Nat.reduceLeDiff,Int.reduceLE,Bool.true_and,Bool.and_true,and_true,true_and,Nat.zero_add,decide_true,Bool.false_eq_true,am,aj,f49_10e,f49_11e,f49_11h,f49_11l,f49_12e,f49_13e,f49_13l,f49_14e,f49_15e,f49_15l,e0]
        refine aF rfl e_f73 (hnx _ _ _ (.nil _ _) (.nil _ _)) rfl ?_
        simp (config:=KF) (disch:=omega) only [bZ,retI,resI,resL,bJ,aG,extV,boxX,aR,ag,ak,ap,aH,au,aE,putS,Sf.set,Sf.reg,getR,setR,aa,Sf.disAt,Sf.setLoc,look,aU,al,ah,aK,ai,ae,aJ,af,bz,aT,List.length_cons,List.length_nil,List.getElem?_cons_zero,List.getElem?_cons_succ,List.all_cons,List.all_nil,List.drop_zero,List.take_succ_cons,List.take_zero,List.set_cons_zero,List.set_cons_succ,↓reduceIte,Nat.reduceEqDiff,Nat.reduceAdd,Nat.reduceLeDiff,Bool.true_and,Bool.and_true,and_true,true_and,Nat.zero_add,decide_true,am,aj]
        exact hQ1
      · have eA:=gm hA
        simp (config:=KF) (disch:=omega) only [bZ,List.contains_nil,dy,cp,dc,bV,bY,fC,h9,bC,cf,aw,aq,gO,dN,dO,aG,ao,ar,gv,dY,eF,boxX,aR,List.isEmpty_nil,ixTo,addA,ag,ak,cq,srcA,ap,aH,ev_f,au,aE,putS,Sf.set,Sf.reg,getR,setR,aa,Sf.disAt,Sf.setLoc,look,aU,br,id,aI,al,ah,aK,aA,c7,ae,aJ,af,List.length_cons,List.length_nil,Option.map_some,Option.map_none,List.all_cons,List.all_nil,List.drop_zero,List.drop_succ_cons,List.take_succ_cons,List.take_zero,List.set_cons_zero,List.set_cons_succ,Int.toNat_natCast,↓reduceIte,Nat.reduceEqDiff,Nat.reduceAdd,Nat.reduceLeDiff,Bool.true_and,Bool.and_true,and_true,true_and,Nat.zero_add,decide_true,Bool.false_eq_true,bE,dg,bI,am,aj,f49_10e,f49_11e,f49_11h,f49_11l,f49_12e,f49_13e,f49_13l,f49_14e,f49_15e,f49_15l,lU,e0,eA,q2,q7,q8]
        refine aF rfl e_f73 (hnx _ _ _ (ke _ _) (.nil _ _)) rfl ?_
        simp (config:=KF) (disch:=omega) only [bZ,retI,resI,resL,bJ,aG,extV,boxX,aR,ag,ak,ap,aH,au,aE,putS,Sf.set,Sf.reg,getR,setR,aa,Sf.disAt,Sf.setLoc,look,aU,al,ah,aK,ai,ae,aJ,af,bz,aT,List.length_cons,List.length_nil,List.getElem?_cons_zero,List.getElem?_cons_succ,List.all_cons,List.all_nil,List.drop_zero,List.take_succ_cons,List.take_zero,List.set_cons_zero,List.set_cons_succ,↓reduceIte,Nat.reduceEqDiff,Nat.reduceAdd,Nat.reduceLeDiff,Bool.true_and,Bool.and_true,and_true,true_and,Nat.zero_add,decide_true,am,aj]
        exact hQ1
    · have eT:=gm hT
      have qa:=(iK T U).symm
      simp (config:=KF) (disch:=omega) only [bZ,List.contains_nil,dy,cp,dc,bV,bY,fC,h9,bC,cf,aw,aq,gO,dN,dO,aG,ao,ar,gv,dY,eF,boxX,aR,List.isEmpty_nil,ixTo,addA,ag,ak,cq,eC,srcA,ap,aH,ev_f,au,aE,putS,Sf.set,Sf.reg,getR,setR,aa,Sf.disAt,Sf.setLoc,look,aU,br,id,aI,al,ah,aK,aA,c7,ae,aJ,af,List.length_cons,List.length_nil,Option.map_some,Option.map_none,List.all_cons,List.all_nil,List.drop_zero,List.drop_succ_cons,List.take_succ_cons,List.take_zero,List.set_cons_zero,List.set_cons_succ,Int.toNat_natCast,↓reduceIte,Nat.reduceEqDiff,Nat.reduceAdd,Nat.reduceLeDiff,Bool.true_and,Bool.and_true,and_true,true_and,Nat.zero_add,decide_true,Bool.false_eq_true,bE,dg,bI,am,aj,f49_10e,f49_11e,f49_11h,f49_11l,f49_12e,f49_13e,f49_13l,f49_14e,f49_15e,f49_15l,lT,lU,eT,q1,q2,q7,q8,qa]
      refine aF rfl e_f73 (hnx _ _ _ (ke _ _) (.nil _ _)) rfl ?_
      simp (config:=KF) (disch:=omega) only [bZ,retI,resI,resL,bJ,aG,extV,boxX,aR,ag,ak,ap,aH,au,aE,putS,Sf.set,Sf.reg,getR,setR,aa,Sf.disAt,Sf.setLoc,look,aU,al,ah,aK,ai,ae,aJ,af,bz,aT,List.length_cons,List.length_nil,List.getElem?_cons_zero,List.getElem?_cons_succ,List.all_cons,List.all_nil,List.drop_zero,List.take_succ_cons,List.take_zero,List.set_cons_zero,List.set_cons_succ,↓reduceIte,Nat.reduceEqDiff,Nat.reduceAdd,Nat.reduceLeDiff,Bool.true_and,Bool.and_true,and_true,true_and,Nat.zero_add,decide_true,am,aj]
      exact hQ1
  | false =>
    simp only [Bool.false_eq_true,if_false] at hk
    subst hk
    have hm:(if 1 < (U.length:Int) then (1:Int) else (U.length:Int)) = ((min U.length 1:Nat):Int):=by split <;> omega
    simp (config:=KF) (disch:=omega) only [bZ,o_un,aw,aq,cw,o_mn,az,bT,b9,ar,boxX,lenI,addA,ag,unA,ey,au,putS,Sf.set,Sf.reg,getR,setR,aa,Sf.disAt,Sf.newLoc,look,bK,aU,aO,aI,al,ah,aK,ai,ae,aJ,af,bR,aW,aY,List.length_cons,List.length_nil,List.all_cons,List.all_nil,List.drop_zero,List.drop_succ_cons,↓reduceIte,Nat.reduceEqDiff,Nat.reduceAdd,Bool.true_and,Bool.and_true,and_true,true_and,reduceCtorEq,Nat.zero_add,Bool.not_false,f49_1e,f49_2e,f49_2l,f49_3e,f49_4e,f49_4l,f49_5e,f49_6e,f49_7e,f49_7l,f49_8e,f49_9e,f49_9l,stAV,lU]
    rw [hm]
    generalize min U.length 1 = k at *
    have q4:=ints_take U k
    have q5:=ints_drop U k
    have q7:(ints U).take U.length = ints U:=List.take_of_length_le (by rw [lU]; exact Nat.le_refl _)
    have hA1:(U.take k).length≤100:=by rw [List.length_take]; omega
    have hD1:(U.drop k).length≤100:=by rw [List.length_drop]; omega
    generalize U.take k = A at *
    generalize U.drop k = D at *
    have lA:=cM A
    have lD:=cM D
    have q1:=iM T
    have q2:=iM A
    have q3:=iM D
    have e0:ints [] = []:=rfl
    by_cases hT:T = []
    · subst hT
      simp only [List.nil_append] at hnx hQ1
      by_cases hA:A = []
      · subst hA
        by_cases hD:D = []
        · subst hD
          simp (config:=KF) (disch:=omega) only [bZ,List.contains_nil,dy,cp,dc,bV,bY,fC,h9,bC,cf,aw,aq,gO,dN,dO,aG,ao,ar,gv,dY,eF,boxX,aR,List.isEmpty_nil,ixTo,addA,ag,ak,cq,srcA,ap,aH,ev_f,au,aE,putS,Sf.set,Sf.reg,getR,setR,aa,Sf.disAt,Sf.setLoc,look,aU,br,id,aI,al,ah,aA,ae,af,List.length_cons,List.length_nil,Option.map_some,Option.map_none,List.all_cons,List.all_nil,List.drop_zero,List.drop_succ_cons,List.take_succ_cons,List.take_zero,List.set_cons_zero,List.set_cons_succ,Int.toNat_natCast,↓reduceIte,Nat.reduceEqDiff,Nat.reduceAdd,Nat.reduceLeDiff,Bool.true_and,Bool.and_true,and_true,true_and,Nat.zero_add,decide_true,Bool.false_eq_true,bE,bI,am,aj,f49_10e,f49_11e,f49_11h,f49_11l,f49_12e,f49_13e,f49_13l,f49_14e,f49_15e,f49_15l,lU,e0,q4,q5,q7]
          refine aF rfl e_f73 (hnx _ _ _ (.nil _ _) (.nil _ _)) rfl ?_
          simp (config:=KF) (disch:=omega) only [bZ,retI,resI,resL,bJ,aG,extV,boxX,aR,ag,ak,ap,aH,au,aE,putS,Sf.set,Sf.reg,getR,setR,aa,Sf.disAt,Sf.setLoc,look,aU,al,ah,aK,ai,ae,aJ,af,bz,aT,List.length_cons,List.length_nil,List.getElem?_cons_zero,List.getElem?_cons_succ,List.all_cons,List.all_nil,List.drop_zero,List.take_succ_cons,List.take_zero,List.set_cons_zero,List.set_cons_succ,↓reduceIte,Nat.reduceEqDiff,Nat.reduceAdd,Nat.reduceLeDiff,Bool.true_and,Bool.and_true,and_true,true_and,Nat.zero_add,decide_true,am,aj]
          exact hQ1
        · have eD:=gm hD
          simp (config:=KF) (disch:=omega) only [bZ,List.contains_nil,dy,cp,dc,bV,bY,fC,h9,bC,cf,aw,aq,gO,dN,dO,aG,ao,ar,gv,dY,eF,boxX,aR,List.isEmpty_nil,ixTo,addA,ag,ak,cq,srcA,ap,aH,ev_f,au,aE,putS,Sf.set,Sf.reg,getR,setR,aa,Sf.disAt,Sf.setLoc,look,aU,br,id,aI,al,ah,aK,aA,c7,ae,aJ,af,List.length_cons,List.length_nil,Option.map_some,Option.map_none,List.all_cons,List.all_nil,List.drop_zero,List.drop_succ_cons,List.take_succ_cons,List.take_zero,List.set_cons_zero,List.set_cons_succ,Int.toNat_natCast,↓reduceIte,Nat.reduceEqDiff,Nat.reduceAdd,Nat.reduceLeDiff,Bool.true_and,Bool.and_true,and_true,true_and,Nat.zero_add,decide_true,Bool.false_eq_true,bE,dg,bI,am,aj,f49_10e,f49_11e,f49_11h,f49_11l,f49_12e,f49_13e,f49_13l,f49_14e,f49_15e,f49_15l,lU,e0,eD,q3,q4,q5,q7,lD]
          refine aF rfl e_f73 (hnx _ _ _ (.nil _ _) (ke _ _)) rfl ?_
          simp (config:=KF) (disch:=omega) only [bZ,retI,resI,resL,bJ,aG,extV,boxX,aR,ag,ak,ap,aH,au,aE,putS,Sf.set,Sf.reg,getR,setR,aa,Sf.disAt,Sf.setLoc,look,aU,al,ah,aK,ai,ae,aJ,af,bz,aT,List.length_cons,List.length_nil,List.getElem?_cons_zero,List.getElem?_cons_succ,List.all_cons,List.all_nil,List.drop_zero,List.take_succ_cons,List.take_zero,List.set_cons_zero,List.set_cons_succ,↓reduceIte,Nat.reduceEqDiff,Nat.reduceAdd,Nat.reduceLeDiff,Bool.true_and,Bool.and_true,and_true,true_and,Nat.zero_add,decide_true,am,aj]
          exact hQ1
      · have eA:=gm hA
        by_cases hD:D = []
        · subst hD
          simp (config:=KF) (disch:=omega) only [bZ,List.contains_nil,dy,cp,dc,bV,bY,fC,h9,bC,cf,aw,aq,gO,dN,dO,aG,ao,ar,gv,dY,eF,boxX,aR,List.isEmpty_nil,ixTo,addA,ag,ak,cq,srcA,ap,aH,ev_f,au,aE,putS,Sf.set,Sf.reg,getR,setR,aa,Sf.disAt,Sf.setLoc,look,aU,br,id,aI,al,ah,aK,aA,c7,ae,aJ,af,List.length_cons,List.length_nil,Option.map_some,Option.map_none,List.all_cons,List.all_nil,List.drop_zero,List.drop_succ_cons,List.take_succ_cons,List.take_zero,List.set_cons_zero,List.set_cons_succ,Int.toNat_natCast,↓reduceIte,Nat.reduceEqDiff,Nat.reduceAdd,Nat.reduceLeDiff,Bool.true_and,Bool.and_true,and_true,true_and,Nat.zero_add,decide_true,Bool.false_eq_true,bE,dg,bI,am,aj,f49_10e,f49_11e,f49_11h,f49_11l,f49_12e,f49_13e,f49_13l,f49_14e,f49_15e,f49_15l,lU,e0,eA,q2,q4,q5,q7,lA]
          refine aF rfl e_f73 (hnx _ _ _ (ke _ _) (.nil _ _)) rfl ?_
          simp (config:=KF) (disch:=omega) only [bZ,retI,resI,resL,bJ,aG,extV,boxX,aR,ag,ak,ap,aH,au,aE,putS,Sf.set,Sf.reg,getR,setR,aa,Sf.disAt,Sf.setLoc,look,aU,al,ah,aK,ai,ae,aJ,af,bz,aT,List.length_cons,List.length_nil,List.getElem?_cons_zero,List.getElem?_cons_succ,List.all_cons,List.all_nil,List.drop_zero,List.take_succ_cons,List.take_zero,List.set_cons_zero,List.set_cons_succ,↓reduceIte,Nat.reduceEqDiff,Nat.reduceAdd,Nat.reduceLeDiff,Bool.true_and,Bool.and_true,and_true,true_and,Nat.zero_add,decide_true,am,aj]
          exact hQ1
        · have eD:=gm hD
          simp (config:=KF) (disch:=omega) only [bZ,List.contains_nil,dy,cp,dc,bV,bY,fC,h9,bC,cf,aw,aq,gO,dN,dO,aG,ao,ar,gv,dY,eF,boxX,aR,List.isEmpty_nil,ixTo,addA,ag,ak,cq,srcA,ap,aH,ev_f,au,aE,putS,Sf.set,Sf.reg,getR,setR,aa,Sf.disAt,Sf.setLoc,look,aU,br,id,aI,al,ah,aK,c7,aJ,af,List.length_cons,List.length_nil,Option.map_some,Option.map_none,List.all_cons,List.all_nil,List.drop_zero,List.drop_succ_cons,List.take_succ_cons,List.take_zero,List.set_cons_zero,List.set_cons_succ,Int.toNat_natCast,↓reduceIte,Nat.reduceEqDiff,Nat.reduceAdd,Nat.reduceLeDiff,Bool.true_and,Bool.and_true,and_true,true_and,Nat.zero_add,decide_true,Bool.false_eq_true,bE,dg,bI,am,aj,f49_10e,f49_11e,f49_11h,f49_11l,f49_12e,f49_13e,f49_13l,f49_14e,f49_15e,f49_15l,lU,e0,eA,eD,q2,q3,q4,q5,q7,lA,lD]
          refine aF rfl e_f73 (hnx _ _ _ (ke _ _) (ke _ _)) rfl ?_
          simp (config:=KF) (disch:=omega) only [bZ,retI,resI,resL,bJ,aG,extV,boxX,aR,ag,ak,ap,aH,au,aE,putS,Sf.set,Sf.reg,getR,setR,aa,Sf.disAt,Sf.setLoc,look,aU,al,ah,aK,ai,ae,aJ,af,bz,aT,List.length_cons,List.length_nil,List.getElem?_cons_zero,List.getElem?_cons_succ,List.all_cons,List.all_nil,List.drop_zero,List.take_succ_cons,List.take_zero,List.set_cons_zero,List.set_cons_succ,↓reduceIte,Nat.reduceEqDiff,Nat.reduceAdd,Nat.reduceLeDiff,Bool.true_and,Bool.and_true,and_true,true_and,Nat.zero_add,decide_true,am,aj]
          exact hQ1
    · have eT:=gm hT
      have qa:=(iK T A).symm
      have lTA:=cM (T++A)
      by_cases hD:D = []
      · subst hD
        simp (config:=KF) (disch:=omega) only [bZ,List.contains_nil,dy,cp,dc,bV,bY,fC,h9,bC,cf,aw,aq,gO,dN,dO,aG,ao,ar,gv,dY,eF,boxX,aR,List.isEmpty_nil,ixTo,addA,ag,ak,cq,eC,srcA,ap,aH,ev_f,au,aE,putS,Sf.set,Sf.reg,getR,setR,aa,Sf.disAt,Sf.setLoc,look,aU,br,id,aI,al,ah,aK,aA,c7,ae,aJ,af,List.length_cons,List.length_nil,Option.map_some,Option.map_none,List.all_cons,List.all_nil,List.drop_zero,List.drop_succ_cons,List.take_succ_cons,List.take_zero,List.set_cons_zero,List.set_cons_succ,Int.toNat_natCast,↓reduceIte,Nat.reduceEqDiff,Nat.reduceAdd,Nat.reduceLeDiff,Bool.true_and,Bool.and_true,and_true,true_and,Nat.zero_add,decide_true,Bool.false_eq_true,bE,dg,bI,am,aj,f49_10e,f49_11e,f49_11h,f49_11l,f49_12e,f49_13e,f49_13l,f49_14e,f49_15e,f49_15l,lT,lU,e0,eT,q1,q2,q4,q5,q7,lA,qa]
        refine aF rfl e_f73 (hnx _ _ _ (ke _ _) (.nil _ _)) rfl ?_
        simp (config:=KF) (disch:=omega) only [bZ,retI,resI,resL,bJ,aG,extV,boxX,aR,ag,ak,ap,aH,au,aE,putS,Sf.set,Sf.reg,getR,setR,aa,Sf.disAt,Sf.setLoc,look,aU,al,ah,aK,ai,ae,aJ,af,bz,aT,List.length_cons,List.length_nil,List.getElem?_cons_zero,List.getElem?_cons_succ,List.all_cons,List.all_nil,List.drop_zero,List.take_succ_cons,List.take_zero,List.set_cons_zero,List.set_cons_succ,↓reduceIte,Nat.reduceEqDiff,Nat.reduceAdd,Nat.reduceLeDiff,Bool.true_and,Bool.and_true,and_true,true_and,Nat.zero_add,decide_true,am,aj]
        exact hQ1
      · have eD:=gm hD
        simp (config:=KF) (disch:=omega) only [bZ,List.contains_nil,dy,cp,dc,bV,bY,fC,h9,bC,cf,aw,aq,gO,dN,dO,aG,ao,ar,gv,dY,eF,boxX,aR,ixTo,addA,ag,ak,cq,eC,srcA,ap,aH,ev_f,au,aE,putS,Sf.set,Sf.reg,getR,setR,aa,Sf.disAt,Sf.setLoc,look,aU,br,id,aI,al,ah,aK,c7,aJ,af,List.length_cons,List.length_nil,Option.map_some,Option.map_none,List.all_cons,List.all_nil,List.drop_zero,List.drop_succ_cons,List.take_succ_cons,List.take_zero,List.set_cons_zero,List.set_cons_succ,Int.toNat_natCast,↓reduceIte,Nat.reduceEqDiff,Nat.reduceAdd,Nat.reduceLeDiff,Bool.true_and,Bool.and_true,and_true,true_and,Nat.zero_add,decide_true,Bool.false_eq_true,bE,dg,bI,am,aj,f49_10e,f49_11e,f49_11h,f49_11l,f49_12e,f49_13e,f49_13l,f49_14e,f49_15e,f49_15l,lT,lU,eT,eD,q1,q2,q3,q4,q5,q7,lA,lD,qa]
        refine aF rfl e_f73 (hnx _ _ _ (ke _ _) (ke _ _)) rfl ?_
        simp (config:=KF) (disch:=omega) only [bZ,retI,resI,resL,bJ,aG,extV,boxX,aR,ag,ak,ap,aH,au,aE,putS,Sf.set,Sf.reg,getR,setR,aa,Sf.disAt,Sf.setLoc,look,aU,al,ah,aK,ai,ae,aJ,af,bz,aT,List.length_cons,List.length_nil,List.getElem?_cons_zero,List.getElem?_cons_succ,List.all_cons,List.all_nil,List.drop_zero,List.take_succ_cons,List.take_zero,List.set_cons_zero,List.set_cons_succ,↓reduceIte,Nat.reduceEqDiff,Nat.reduceAdd,Nat.reduceLeDiff,Bool.true_and,Bool.and_true,and_true,true_and,Nat.zero_add,decide_true,am,aj]
        exact hQ1
end
end Go.Fx.YtphaaebhgggbaaaFx

