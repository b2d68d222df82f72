/- What the functions that the statement reaches compute: part 16. -/
import Derived.Test.YtphaaebhgggbaaaFxW15
namespace Go.Fx.YtphaaebhgggbaaaFx
open Go Go.Fx
attribute [local irreducible] aC runI bD cO

set_option maxRecDepth 100000
set_option maxHeartbeats 8000000

/-! The reference's once: printed by wip/dev/gen_lt22.py. -/
theorem rchk_own (o:Int) (T U:List Int) (t:Int):rchk o T U t = if chk (U++T) t≠0 then chk (U++T) t else if o = t then 11 else 0:=by
  unfold rchk chk
  by_cases h:t < 0∨64≤t
  · simp [h]
  · simp only [if_neg h]
    by_cases h1:t ∈ U++T
    · have h1':t ∈ T∨t ∈ U∨o = t:=by
        rcases List.mem_append.1 h1 with h | h
        · exact .inr (.inl h)
        · exact .inl h
      simp only [if_pos h1,if_pos h1',ne_eq,show ¬ (11:Int) = 0 by decide,not_false_eq_true,if_true]
    · have h2:t ∉ U∧t ∉ T:=by simpa using h1
      simp only [if_neg h1,ne_eq,not_true_eq_false,if_false]
      by_cases h3:o = t
      · rw [if_pos h3,if_pos (.inr (.inr h3))]
      · rw [if_neg h3,if_neg (by simp [h2,h3])]
section
variable {T:List Int}
theorem rnext (c p u o:Int) (d:Bool) (T U:List Int) (hl:T.length≤1000) (st:St):bg Go.Proofs.Try.prog n_f73 [stAV c p u o d T U] st (.tup [stAV c p u (a8 o T).1.1 d (a8 o T).1.2 U,rsw (false,false,(a8 o T).2,0)]):=by
  refine gh hmix k_f73 rfl rfl (.tup _ (by simp [jl,mQ])) (by simp [jl,g8]) (fun Q hQ=>?_) st
  unfold aFun c_f73
  unfold a8 at hQ
  have lT:=cM T
  by_cases h0:0≤o
  · rw [if_pos h0] at hQ
    simp (config:=KF) (disch:=omega) only [bZ,retI,resI,resL,aL,c5,AI.dst,cL,bu,aw,aq,cv,bT,b9,aG,dv,ar,bstV,boxX,aR,addA,ag,ak,bf,ep,ap,aH,au,aE,putS,Sf.set,Sf.reg,getR,setR,aa,Sf.disAt,Sf.newLoc,Sf.setLoc,look,bK,aU,aO,al,ah,aK,ai,ae,aJ,af,bz,aT,aW,aY,List.length_cons,List.length_nil,List.all_cons,List.all_nil,List.drop_zero,List.drop_succ_cons,List.take_succ_cons,List.take_zero,List.set_cons_zero,List.set_cons_succ,↓reduceIte,Nat.reduceEqDiff,Nat.reduceAdd,Nat.reduceLeDiff,Bool.true_and,Bool.and_true,and_true,true_and,reduceCtorEq,Nat.zero_add,decide_true,Bool.false_eq_true,fI,am,aj,f73_1e,f73_2e,f73_2l,f73_3e,f73_4e,f73_5e,f73_5l,f73_6e,f73_7e,f73_8e,f73_8l,stAV]
    exact hQ _ _ (.tupL ⟨.refl _,fj _ _ _,trivial⟩)
  rw [if_neg h0] at hQ
  cases T with
  | nil =>
    have e0:ints [] = []:=rfl
    simp (config:=KF) (disch:=omega) only [bZ,retI,resI,resL,aL,AI.dst,bh,bu,aw,aq,cv,cw,bT,b9,aG,bA,ar,bstV,boxX,aR,lenI,addA,ag,ak,bf,bW,ep,ap,aH,au,aE,putS,Sf.set,Sf.reg,getR,setR,aa,Sf.disAt,Sf.newLoc,Sf.setLoc,look,bK,aU,aO,aI,al,ah,aK,ai,ae,aJ,af,bz,aT,aW,aY,List.length_cons,List.length_nil,List.all_cons,List.all_nil,List.drop_zero,List.drop_succ_cons,List.take_succ_cons,List.take_zero,List.set_cons_zero,List.set_cons_succ,Int.cast_ofNat_Int,↓reduceIte,Nat.reduceEqDiff,Nat.reduceAdd,Nat.reduceLeDiff,Bool.true_and,Bool.and_true,and_true,true_and,reduceCtorEq,Nat.zero_add,decide_true,Bool.false_eq_true,dl,am,aj,f73_1e,f73_2e,f73_2l,f73_3e,f73_4e,f73_5e,f73_5l,f73_6e,f73_7e,f73_8e,f73_8l,stAV,e0]
    exact hQ _ _ (.tupL ⟨.refl _,fj _ _ _,trivial⟩)
  | cons t B =>
    have lB:=cM B
    have e0:ints (t::B) = .lit (.int .i64 t)::ints B:=rfl
    simp only [List.length_cons] at hl
    have hf:∀ v st',AV.le v (.sl false 1 (ints B))→Q (.tup [.agg [.lit (.int .i64 c),.lit (.int .i64 p),.lit (.int .i64 u),.lit (.int .i64 t),.lit (.bool d),v,.sl false 1 (ints U)],.agg [.lit (.bool false),.lit (.bool false),.sl false 1 [.lit (.int .i64 t)],.lit (.int .i64 0)]]) st':=fun v st' hv =>
      hQ _ _ (.tupL ⟨.aggL ⟨.refl _,.refl _,.refl _,.refl _,.refl _,hv,.refl _,trivial⟩,.refl _,trivial⟩)
    by_cases hz:B = []
    · subst hz
      have e1:ints [] = []:=rfl
      simp (config:=KF) (disch:=omega) only [bZ,List.contains_nil,List.contains_cons,Nat.reduceBEq,Bool.or_false,ksB,a9,bG,bO,bd,cG,co,nstB,bP,dy,cp,bV,bY,hh_bsl,oJ,hh_store,lu,j7,bC,iV,mM,and_self,retI,resI,resL,aL,AI.dst,bh,bu,aw,e8,aq,cw,gO,dN,bT,b9,aG,bA,ixSV,ar,gv,bslV,bstV,dY,boxX,aR,List.isEmpty_nil,List.reduceReplicate,ixA,ixTo,lenI,addA,ag,ak,cq,srcA,cE,bf,bW,ep,ap,aH,au,aE,putS,Sf.set,Sf.reg,getR,setR,aa,Sf.disAt,Sf.newLoc,Sf.setLoc,look,bK,aU,br,aO,cW,aI,al,ah,aK,aA,c7,ai,ae,aJ,af,bz,aT,aW,aY,List.length_cons,List.length_nil,List.getElem?_cons_zero,List.getElem?_cons_succ,List.getD_cons_zero,List.all_cons,List.all_nil,List.nil_append,List.drop_zero,List.drop_succ_cons,List.take_succ_cons,List.take_zero,List.set_cons_zero,List.set_cons_succ,Int.toNat_zero,Int.toNat_one,Int.cast_ofNat_Int,↓reduceIte,Nat.reduceEqDiff,Nat.reduceAdd,Nat.reduceLT,Nat.reduceLeDiff,Int.reduceLT,Int.reduceLE,Int.reduceEq,Bool.true_and,Bool.and_true,and_true,true_and,reduceCtorEq,Nat.zero_add,or_false,decide_true,decide_false,Bool.not_false,Bool.false_eq_true,dl,am,aj,f73_1e,f73_2e,f73_2l,f73_3e,f73_4e,f73_5e,f73_5l,f73_6e,f73_9e,f73_10e,f73_10l,f73_11e,f73_12e,f73_12l,f73_13e,f73_14e,f73_14h,f73_14l,stAV,e0,e1]
      exact hf _ _ (.nil _ _)
    · have hz':(ints B).isEmpty = false:=by simpa [ints] using hz
      have hd:(ints B).map AV.dis = ints B:=by simp [ints,AV.dis,Function.comp_def]
      have htk:(ints B).take B.length = ints B:=List.take_of_length_le (by rw [lB]; exact Nat.le_refl _)
      simp (config:=KF) (disch:=omega) only [bZ,List.contains_nil,List.contains_cons,Nat.reduceBEq,Bool.or_false,ksB,a9,bG,bO,bd,cG,co,nstB,bP,dy,cp,bV,bY,hh_bsl,oJ,hh_store,lu,j7,bC,iV,mM,and_self,retI,resI,resL,aL,AI.dst,bh,bu,aw,e8,aq,cw,gO,dN,bT,b9,aG,bA,ixSV,ar,gv,bslV,bstV,dY,boxX,aR,List.reduceReplicate,ixA,ixTo,lenI,addA,ag,ak,cq,srcA,cE,bf,bW,ep,ap,aH,au,aE,putS,Sf.set,Sf.reg,getR,setR,aa,Sf.disAt,Sf.newLoc,Sf.setLoc,look,bK,aU,br,aO,cW,aI,al,ah,aK,aA,c7,ai,ae,aJ,af,bz,aT,aW,aY,List.length_cons,List.length_nil,List.getElem?_cons_zero,List.getElem?_cons_succ,List.getD_cons_zero,List.all_cons,List.all_nil,List.nil_append,List.drop_zero,List.drop_succ_cons,List.take_succ_cons,List.take_zero,List.set_cons_zero,List.set_cons_succ,Int.toNat_zero,Int.toNat_one,↓reduceIte,Nat.reduceEqDiff,Nat.reduceAdd,Nat.reduceLT,Nat.reduceLeDiff,Int.reduceLE,Bool.true_and,Bool.and_true,and_true,true_and,reduceCtorEq,Nat.zero_add,or_false,decide_true,Bool.not_false,Bool.false_eq_true,bE,dg,bH,dl,am,aj,f73_1e,f73_2e,f73_2l,f73_3e,f73_4e,f73_5e,f73_5l,f73_6e,f73_9e,f73_10e,f73_10l,f73_11e,f73_12e,f73_12l,f73_13e,f73_14e,f73_14h,f73_14l,stAV,e0,lB,hz',hd,htk]
      first | exact hf _ _ (.own _ _) | exact hf _ _ (.refl _)
end
end Go.Fx.YtphaaebhgggbaaaFx

