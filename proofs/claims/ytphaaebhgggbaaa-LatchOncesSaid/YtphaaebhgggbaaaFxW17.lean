/- What the functions that the statement reaches compute: part 17. -/
import Derived.Test.YtphaaebhgggbaaaFxW16
namespace Go.Fx.YtphaaebhgggbaaaFx
open Go Go.Fx
attribute [local irreducible] aC runI bu cN

set_option maxRecDepth 100000
set_option maxHeartbeats 8000000

/-! The reference's once: printed by wip/dev/gen_lt22.py. -/
theorem rchk_own (o:Int) (T U:List Int) (t:Int):rchk o T U t = if chk (U++T) t≠0 then chk (U++T) t else if o = t then 11 else 0:=by
  unfold rchk chk
  by_cases h:t < 0∨64≤t
  · simp [h]
  · simp only [if_neg h]
    by_cases h1:t ∈ U++T
    · have h1':t ∈ T∨t ∈ U∨o = t:=by
        rcases List.mem_append.1 h1 with h | h
        · exact .inr (.inl h)
        · exact .inl h
      simp only [if_pos h1,if_pos h1',ne_eq,show ¬ (11:Int) = 0 by decide,not_false_eq_true,if_true]
    · have h2:t ∉ U∧t ∉ T:=by simpa using h1
      simp only [if_neg h1,ne_eq,not_true_eq_false,if_false]
      by_cases h3:o = t
      · rw [if_pos h3,if_pos (.inr (.inr h3))]
      · rw [if_neg h3,if_neg (by simp [h2,h3])]
/-- A done once has no runner, and nobody waits for it. -/
def OInv (o:Int) (T:List Int) (d:Bool):Prop:=d = true→T = []∧o = -1
theorem mw {o:Int} {T:List Int} {d:Bool} (a:Ac) (h:OInv o T d):OInv (onDo o T d a).1.1 (onDo o T d a).1.2.1 (onDo o T d a).1.2.2:=by
  obtain ⟨w,t,n,s⟩:=a
  unfold onDo
  by_cases h0:w = 0
  · subst h0
    simp only [if_true]
    unfold bE
    by_cases hd:d = true
    · simp only [hd,if_true]; rw [hd] at h; exact h
    · intro e; exact absurd e hd
  simp only [if_neg h0]
  by_cases h1:w = 1
  · subst h1
    simp only [if_true]
    unfold bU
    by_cases h2:(bL o t).2 = 0
    case neg =>
      have hl:(bL o t).1 = o:=by
        unfold bL at h2 ⊢
        split
        · rfl
        split
        · rfl
        · rename_i a b; rw [if_neg a,if_neg b] at h2; simp at h2
      rw [if_pos h2,hl]; exact h
    rw [if_neg (by simpa using h2)]
    obtain ⟨rfl,t0,t1,e⟩:=jo h2
    cases s with
    | true=>rw [if_pos rfl,e]; exact fun _=>⟨rfl,rfl⟩
    | false =>
      simp only [Bool.false_eq_true,if_false]
      intro hd
      have:=(h hd).2
      omega
  · simp only [if_neg h1]
    intro hd
    obtain ⟨e1,e2⟩:=h hd
    refine ⟨?_,e2⟩
    have:=(mD T t).1
    rw [e1] at this
    simpa [e1] using this

section
variable {T:List Int}
theorem rnext (c p u o:Int) (d:Bool) (T U:List Int) (hl:T.length≤1000) (st:St):bd Go.Proofs.Try.prog n_f73 [stAV c p u o d T U] st (.tup [stAV c p u (br o T).1.1 d (br o T).1.2 U,rsw (false,false,(br o T).2,0)]):=by
  refine gw hmix k_f73 rfl rfl (.tup _ (by simp [kW,om])) (by simp [kW,il]) (fun Q hQ=>?_) st
  unfold aFun c_f73
  unfold br at hQ
  have lT:=dw T
  by_cases h0:0≤o
  · rw [if_pos h0] at hQ
    simp (config:=KF) (disch:=omega) only [bZ,retI,resI,resL,aI,c4,AI.dst,cE,bt,aw,am,cd,bR,bV,aR,c9,ap,bstV,boxX,aZ,addA,af,ao,a8,eW,aB,aP,aA,aO,putS,Sf.set,Sf.reg,getR,setR,aa,Sf.disAt,Sf.newLoc,Sf.setLoc,look,bJ,aX,aG,al,ai,a9,ag,ae,aV,ah,bD,aS,aT,aU,List.length_cons,List.length_nil,List.all_cons,List.all_nil,List.drop_zero,List.drop_succ_cons,List.take_succ_cons,List.take_zero,List.set_cons_zero,List.set_cons_succ,↓reduceIte,Nat.reduceEqDiff,Nat.reduceAdd,Nat.reduceLeDiff,Bool.true_and,Bool.and_true,and_true,true_and,reduceCtorEq,Nat.zero_add,decide_true,Bool.false_eq_true,fk,aq,aj,f73_1e,f73_2e,f73_2l,f73_3e,f73_4e,f73_5e,f73_5l,f73_6e,f73_7e,f73_8e,f73_8l,stAV]
    exact hQ _ _ (.tupL ⟨.refl _,ez _ _ _,trivial⟩)
  rw [if_neg h0] at hQ
  cases T with
  | nil =>
    have e0:ints [] = []:=rfl
    simp (config:=KF) (disch:=omega) only [bZ,retI,resI,resL,aI,AI.dst,bh,bt,aw,am,cd,cO,bR,bV,aR,bC,ap,bstV,boxX,aZ,lenI,addA,af,ao,a8,bW,eW,aB,aP,aA,aO,putS,Sf.set,Sf.reg,getR,setR,aa,Sf.disAt,Sf.newLoc,Sf.setLoc,look,bJ,aX,aG,aH,al,ai,a9,ag,ae,aV,ah,bD,aS,aT,aU,List.length_cons,List.length_nil,List.all_cons,List.all_nil,List.drop_zero,List.drop_succ_cons,List.take_succ_cons,List.take_zero,List.set_cons_zero,List.set_cons_succ,Int.cast_ofNat_Int,↓reduceIte,Nat.reduceEqDiff,Nat.reduceAdd,Nat.reduceLeDiff,Bool.true_and,Bool.and_true,and_true,true_and,reduceCtorEq,Nat.zero_add,decide_true,Bool.false_eq_true,dc,aq,aj,f73_1e,f73_2e,f73_2l,f73_3e,f73_4e,f73_5e,f73_5l,f73_6e,f73_7e,f73_8e,f73_8l,stAV,e0]
    exact hQ _ _ (.tupL ⟨.refl _,ez _ _ _,trivial⟩)
  | cons t B =>
    have lB:=dw B
    have e0:ints (t::B) = .lit (.int .i64 t)::ints B:=rfl
    simp only [List.length_cons] at hl
    have hf:∀ v st',AV.le v (.sl false 1 (ints B))→Q (.tup [.agg [.lit (.int .i64 c),.lit (.int .i64 p),.lit (.int .i64 u),.lit (.int .i64 t),.lit (.bool d),v,.sl false 1 (ints U)],.agg [.lit (.bool false),.lit (.bool false),.sl false 1 [.lit (.int .i64 t)],.lit (.int .i64 0)]]) st':=fun v st' hv =>
      hQ _ _ (.tupL ⟨.aggL ⟨.refl _,.refl _,.refl _,.refl _,.refl _,hv,.refl _,trivial⟩,.refl _,trivial⟩)
    by_cases hz:B = []
    · subst hz
      have e1:ints [] = []:=rfl
      simp (config:=KF) (disch:=omega) only [bZ,List.contains_nil,List.contains_cons,Nat.reduceBEq,Bool.or_false,ksB,ba,bF,bM,bf,cI,co,nstB,bN,eo,cz,b8,cc,hh_bsl,n9,hh_store,kT,jV,bp,iI,ml,and_self,retI,resI,resL,aI,AI.dst,bh,bt,aw,fV,am,cO,o_app,o_sliOwn,bR,bV,aR,bC,ixSV,ap,sliSV,bslV,bstV,lh,boxX,aZ,List.isEmpty_nil,List.reduceReplicate,ixA,ixTo,lenI,addA,af,ao,dk,srcA,cB,a8,bW,eW,aB,aP,aA,aO,putS,Sf.set,Sf.reg,getR,setR,aa,Sf.disAt,Sf.newLoc,Sf.setLoc,look,bJ,aX,bB,aG,cW,aH,al,ai,a9,az,fG,ag,ae,aV,ah,bD,aS,aT,aU,List.length_cons,List.length_nil,List.getElem?_cons_zero,List.getElem?_cons_succ,List.getD_cons_zero,List.all_cons,List.all_nil,List.nil_append,List.drop_zero,List.drop_succ_cons,List.take_succ_cons,List.take_zero,List.set_cons_zero,List.set_cons_succ,Int.toNat_zero,Int.toNat_one,Int.cast_ofNat_Int,↓reduceIte,Nat.reduceEqDiff,Nat.reduceAdd,Nat.reduceLT,Nat.reduceLeDiff,Int.reduceLT,Int.reduceLE,Int.reduceEq,Bool.true_and,Bool.and_true,and_true,true_and,reduceCtorEq,Nat.zero_add,or_false,decide_true,decide_false,Bool.not_false,Bool.false_eq_true,dc,aq,aj,f73_1e,f73_2e,f73_2l,f73_3e,f73_4e,f73_5e,f73_5l,f73_6e,f73_9e,f73_10e,f73_10l,f73_11e,f73_12e,f73_12l,f73_13e,f73_14e,f73_14h,f73_14l,stAV,e0,e1]
      exact hf _ _ (.nil _ _)
    · have hz':(ints B).isEmpty = false:=by simpa [ints] using hz
      have hd:(ints B).map AV.dis = ints B:=by simp [ints,AV.dis,Function.comp_def]
      have htk:(ints B).take B.length = ints B:=List.take_of_length_le (by rw [lB]; exact Nat.le_refl _)
      simp (config:=KF) (disch:=omega) only [bZ,List.contains_nil,List.contains_cons,Nat.reduceBEq,Bool.or_false,ksB,ba,bF,bM,bf,cI,co,nstB,bN,eo,cz,b8,cc,hh_bsl,n9,hh_store,kT,jV,bp,iI,ml,and_self,retI,resI,resL,aI,AI.dst,bh,bt,aw,fV,am,cO,o_app,o_sliOwn,bR,bV,aR,bC,ixSV,ap,sliSV,bslV,bstV,lh,boxX,aZ,List.reduceReplicate,ixA,ixTo,lenI,addA,af,ao,dk,srcA,cB,a8,bW,eW,aB,aP,aA,aO,putS,Sf.set,Sf.reg,getR,setR,aa,Sf.disAt,Sf.newLoc,Sf.setLoc,look,bJ,aX,bB,aG,cW,aH,al,ai,a9,az,fG,ag,ae,aV,ah,bD,aS,aT,aU,List.length_cons,List.length_nil,List.getElem?_cons_zero,List.getElem?_cons_succ,List.getD_cons_zero,List.all_cons,List.all_nil,List.nil_append,List.drop_zero,List.drop_succ_cons,List.take_succ_cons,List.take_zero,List.set_cons_zero,List.set_cons_succ,Int.toNat_zero,Int.toNat_one,↓reduceIte,Nat.reduceEqDiff,Nat.reduceAdd,Nat.reduceLT,Nat.reduceLeDiff,Int.reduceLE,Bool.true_and,Bool.and_true,and_true,true_and,reduceCtorEq,Nat.zero_add,or_false,decide_true,Bool.not_false,Bool.false_eq_true,cf,fa,bK,dc,aq,aj,f73_1e,f73_2e,f73_2l,f73_3e,f73_4e,f73_5e,f73_5l,f73_6e,f73_9e,f73_10e,f73_10l,f73_11e,f73_12e,f73_12l,f73_13e,f73_14e,f73_14h,f73_14l,stAV,e0,lB,hz',hd,htk]
      first | exact hf _ _ (.own _ _) | exact hf _ _ (.refl _)
theorem renter (o:Int) (T:List Int) (d:Bool) (t:Int) (hi:OInv o T d) (hl:T.length≤1000) (st:St):bd Go.Proofs.Try.prog n_f32 [stAV 0 0 0 o d T [],.lit (.int .i64 t)] st (.tup [stAV 0 0 0 (bE o T d t).1.1 d (bE o T d t).1.2 [],rsw ((bE o T d t).2.1,(bE o T d t).2.2.1,[],(bE o T d t).2.2.2)]):=by
  refine gw hmix k_f32 rfl rfl (.tup _ (by simp [kW,om])) (by simp [kW,il]) (fun Q hQ=>?_) st
  unfold aFun c_f32
  have hck:=fun st=>rcheck_pure 0 0 0 o d T [] t hl (by simp) st
  rw [rchk_own] at hck
  unfold bE at hQ
  cases d with
  | true =>
    obtain ⟨rfl,rfl⟩:=hi rfl
    simp only [if_true,List.append_nil] at hQ hck
    by_cases h0:chk [] t = 0
    · have h1:¬ (-1:Int) = t:=by have:=(jl h0).1; omega
      rw [h0] at hQ hck
      simp only [ne_eq,not_true_eq_false,if_false,h1,decide_true] at hQ hck
      simp (config:=KF) (disch:=omega) only [bZ,am,bR,bV,ak,ap,boxX,af,ao,aB,aP,ev_f,aA,putS,Sf.set,Sf.reg,getR,setR,aa,Sf.newLoc,look,bJ,aX,aG,id,al,ai,a9,ag,ae,aV,ah,bS,aT,aU,List.length_cons,List.length_nil,List.all_cons,List.all_nil,List.drop_zero,List.take_succ_cons,List.take_zero,↓reduceIte,Nat.reduceEqDiff,Nat.reduceAdd,Nat.reduceLeDiff,Int.reduceNeg,Bool.true_and,Bool.and_true,and_true,true_and,reduceCtorEq,Nat.zero_add,decide_true,f32_1e,f32_2e,f32_2l,f32_3e,f32_4e,f32_5e,f32_5l,stAV]
      refine aK rfl e_f67 (hck _) rfl ?_
      simp (config:=KF) (disch:=omega) only [bZ,and_self,retI,resI,resL,aw,am,cd,au,aR,ap,bstV,boxX,aZ,addA,af,ao,a8,cx,aB,aP,aA,aO,putS,Sf.set,Sf.reg,getR,setR,aa,Sf.disAt,Sf.setLoc,look,aX,al,ai,a9,az,ag,ae,aV,ah,bD,aS,List.length_cons,List.length_nil,List.getElem?_cons_zero,List.getElem?_cons_succ,List.all_cons,List.all_nil,List.drop_zero,List.drop_succ_cons,List.take_succ_cons,List.take_zero,List.set_cons_zero,List.set_cons_succ,↓reduceIte,Nat.reduceEqDiff,Nat.reduceAdd,Nat.reduceLeDiff,Int.reduceNeg,Bool.true_and,Bool.and_true,and_true,true_and,Nat.zero_add,not_true_eq_false,decide_true,decide_false,aq,aj,f32_6e,f32_7e,f32_7l,f32_8e,f32_11e,f32_12e,f32_13e,f32_13l,f32_14e,f32_15e,f32_16e,f32_16l]
      exact hQ _ _ (.tupL ⟨.refl _,ez _ _ _,trivial⟩)
    · rw [if_pos h0] at hck
      rw [decide_eq_false h0] at hQ
      simp (config:=KF) (disch:=omega) only [bZ,am,bR,bV,ak,ap,boxX,af,ao,aB,aP,ev_f,aA,putS,Sf.set,Sf.reg,getR,setR,aa,Sf.newLoc,look,bJ,aX,aG,id,al,ai,a9,ag,ae,aV,ah,bS,aT,aU,List.length_cons,List.length_nil,List.all_cons,List.all_nil,List.drop_zero,List.take_succ_cons,List.take_zero,↓reduceIte,Nat.reduceEqDiff,Nat.reduceAdd,Nat.reduceLeDiff,Int.reduceNeg,Bool.true_and,Bool.and_true,and_true,true_and,reduceCtorEq,Nat.zero_add,decide_true,f32_1e,f32_2e,f32_2l,f32_3e,f32_4e,f32_5e,f32_5l,stAV]
      refine aK rfl e_f67 (hck _) rfl ?_
      simp (config:=KF) (disch:=omega) only [bZ,and_self,retI,resI,resL,am,cd,au,aR,ap,bstV,boxX,aZ,af,ao,a8,cx,aB,aP,aA,aO,putS,Sf.set,Sf.reg,getR,setR,aa,Sf.disAt,Sf.setLoc,look,aX,al,ai,a9,az,ag,ae,aV,ah,bD,aS,List.length_cons,List.length_nil,List.getElem?_cons_zero,List.getElem?_cons_succ,List.all_cons,List.all_nil,List.drop_zero,List.take_succ_cons,List.take_zero,List.set_cons_zero,List.set_cons_succ,↓reduceIte,Nat.reduceEqDiff,Nat.reduceAdd,Nat.reduceLeDiff,Int.reduceNeg,Bool.true_and,Bool.and_true,and_true,true_and,Nat.zero_add,not_false_eq_true,decide_true,aq,aj,f32_6e,f32_7e,f32_7l,f32_8e,f32_9e,f32_10e,f32_10l,h0]
      exact hQ _ _ (.tupL ⟨.refl _,ez _ _ _,trivial⟩)
  | false =>
    simp only [Bool.false_eq_true,if_false] at hQ
    unfold cP at hQ
    simp only [List.nil_append] at hQ hck
    by_cases h0:chk T t = 0
    case neg =>
      rw [if_pos h0] at hQ hck
      simp (config:=KF) (disch:=omega) only [bZ,am,bR,bV,ak,ap,boxX,af,ao,aB,aP,ev_f,aA,putS,Sf.set,Sf.reg,getR,setR,aa,Sf.newLoc,look,bJ,aX,aG,id,al,ai,a9,ag,ae,aV,ah,bS,aT,aU,List.length_cons,List.length_nil,List.all_cons,List.all_nil,List.drop_zero,List.take_succ_cons,List.take_zero,↓reduceIte,Nat.reduceEqDiff,Nat.reduceAdd,Nat.reduceLeDiff,Bool.true_and,Bool.and_true,and_true,true_and,reduceCtorEq,Nat.zero_add,decide_true,f32_1e,f32_2e,f32_2l,f32_3e,f32_4e,f32_5e,f32_5l,stAV]
      refine aK rfl e_f67 (hck _) rfl ?_
      simp (config:=KF) (disch:=omega) only [bZ,and_self,retI,resI,resL,am,cd,au,aR,ap,bstV,boxX,aZ,af,ao,a8,cx,aB,aP,aA,aO,putS,Sf.set,Sf.reg,getR,setR,aa,Sf.disAt,Sf.setLoc,look,aX,al,ai,a9,az,ag,ae,aV,ah,bD,aS,List.length_cons,List.length_nil,List.getElem?_cons_zero,List.getElem?_cons_succ,List.all_cons,List.all_nil,List.drop_zero,List.take_succ_cons,List.take_zero,List.set_cons_zero,List.set_cons_succ,↓reduceIte,Nat.reduceEqDiff,Nat.reduceAdd,Nat.reduceLeDiff,Bool.true_and,Bool.and_true,and_true,true_and,Nat.zero_add,not_false_eq_true,decide_true,aq,aj,f32_6e,f32_7e,f32_7l,f32_8e,f32_9e,f32_10e,f32_10l,h0]
      exact hQ _ _ (.tupL ⟨.refl _,ez _ _ _,trivial⟩)
    rw [if_neg (by simpa using h0)] at hQ hck
    by_cases h1:o = t
    · rw [if_pos h1] at hQ hck
      simp (config:=KF) (disch:=omega) only [bZ,am,bR,bV,ak,ap,boxX,af,ao,aB,aP,ev_f,aA,putS,Sf.set,Sf.reg,getR,setR,aa,Sf.newLoc,look,bJ,aX,aG,id,al,ai,a9,ag,ae,aV,ah,bS,aT,aU,List.length_cons,List.length_nil,List.all_cons,List.all_nil,List.drop_zero,List.take_succ_cons,List.take_zero,↓reduceIte,Nat.reduceEqDiff,Nat.reduceAdd,Nat.reduceLeDiff,Bool.true_and,Bool.and_true,and_true,true_and,reduceCtorEq,Nat.zero_add,decide_true,f32_1e,f32_2e,f32_2l,f32_3e,f32_4e,f32_5e,f32_5l,stAV]
      refine aK rfl e_f67 (hck _) rfl ?_
      simp (config:=KF) (disch:=omega) only [bZ,and_self,retI,resI,resL,am,cd,au,aR,ap,bstV,boxX,aZ,af,ao,a8,cx,aB,aP,aA,aO,putS,Sf.set,Sf.reg,getR,setR,aa,Sf.disAt,Sf.setLoc,look,aX,al,ai,a9,az,ag,ae,aV,ah,bD,aS,List.length_cons,List.length_nil,List.getElem?_cons_zero,List.getElem?_cons_succ,List.all_cons,List.all_nil,List.drop_zero,List.take_succ_cons,List.take_zero,List.set_cons_zero,List.set_cons_succ,↓reduceIte,Nat.reduceEqDiff,Nat.reduceAdd,Nat.reduceLeDiff,Int.reduceEq,Bool.true_and,Bool.and_true,and_true,true_and,Nat.zero_add,not_false_eq_true,decide_true,aq,aj,f32_6e,f32_7e,f32_7l,f32_8e,f32_9e,f32_10e,f32_10l]
      exact hQ _ _ (.tupL ⟨.refl _,ez _ _ _,trivial⟩)
    rw [if_neg h1] at hQ hck
    by_cases h2:o < 0
    · rw [if_pos h2] at hQ
      simp (config:=KF) (disch:=omega) only [bZ,am,bR,bV,ak,ap,boxX,af,ao,aB,aP,ev_f,aA,putS,Sf.set,Sf.reg,getR,setR,aa,Sf.newLoc,look,bJ,aX,aG,id,al,ai,a9,ag,ae,aV,ah,bS,aT,aU,List.length_cons,List.length_nil,List.all_cons,List.all_nil,List.drop_zero,List.take_succ_cons,List.take_zero,↓reduceIte,Nat.reduceEqDiff,Nat.reduceAdd,Nat.reduceLeDiff,Bool.true_and,Bool.and_true,and_true,true_and,reduceCtorEq,Nat.zero_add,decide_true,f32_1e,f32_2e,f32_2l,f32_3e,f32_4e,f32_5e,f32_5l,stAV]
      refine aK rfl e_f67 (hck _) rfl ?_
      simp (config:=KF) (disch:=omega) only [bZ,and_self,retI,resI,resL,aw,am,cd,au,aR,ap,bstV,boxX,aZ,addA,af,ao,a8,cx,bT,aB,aP,aA,aO,putS,Sf.set,Sf.reg,getR,setR,aa,Sf.disAt,Sf.setLoc,look,aX,al,ai,a9,az,ag,ae,aV,ah,bD,aS,List.length_cons,List.length_nil,List.getElem?_cons_zero,List.all_cons,List.all_nil,List.drop_zero,List.drop_succ_cons,List.take_succ_cons,List.take_zero,List.set_cons_zero,List.set_cons_succ,↓reduceIte,Nat.reduceEqDiff,Nat.reduceAdd,Nat.reduceLeDiff,Bool.true_and,Bool.and_true,and_true,true_and,Nat.zero_add,not_true_eq_false,decide_true,decide_false,bw,aq,aj,f32_6e,f32_7e,f32_7l,f32_8e,f32_11e,f32_12e,f32_13e,f32_13l,f32_14e,f32_17e,f32_18e,f32_19e,f32_19l,f32_20e,f32_21e,f32_22e,f32_22l,f32_23e,f32_24e,f32_24l]
      exact hQ _ _ (.tupL ⟨.refl _,ez _ _ _,trivial⟩)
    · rw [if_neg h2] at hQ
      simp (config:=KF) (disch:=omega) only [bZ,am,bR,bV,ak,ap,boxX,af,ao,aB,aP,ev_f,aA,putS,Sf.set,Sf.reg,getR,setR,aa,Sf.newLoc,look,bJ,aX,aG,id,al,ai,a9,ag,ae,aV,ah,bS,aT,aU,List.length_cons,List.length_nil,List.all_cons,List.all_nil,List.drop_zero,List.take_succ_cons,List.take_zero,↓reduceIte,Nat.reduceEqDiff,Nat.reduceAdd,Nat.reduceLeDiff,Bool.true_and,Bool.and_true,and_true,true_and,reduceCtorEq,Nat.zero_add,decide_true,f32_1e,f32_2e,f32_2l,f32_3e,f32_4e,f32_5e,f32_5l,stAV]
      refine aK rfl e_f67 (hck _) rfl ?_
      simp (config:=KF) (disch:=omega) only [bZ,aw,am,au,ak,ap,addA,af,cx,bT,ev_f,putS,Sf.set,Sf.reg,getR,setR,aa,Sf.disAt,look,id,aH,List.drop_zero,List.drop_succ_cons,↓reduceIte,Nat.reduceEqDiff,Nat.zero_add,not_true_eq_false,decide_false,bK,f32_6e,f32_7e,f32_7l,f32_8e,f32_11e,f32_12e,f32_13e,f32_13l,f32_14e,f32_17e,f32_18e,f32_19e,f32_19l,f32_20e,f32_25e,f32_26e,f32_26l]
      refine aK rfl e_f21 (rwith_sl T t (by omega) _) rfl ?_
      simp (config:=KF) (disch:=omega) only [bZ,retI,resI,resL,aw,am,cd,aR,ap,bstV,boxX,aZ,addA,af,ao,a8,aB,aP,aA,aO,putS,Sf.set,Sf.reg,getR,setR,aa,Sf.disAt,Sf.setLoc,look,aX,aH,al,ai,a9,fG,ag,ae,aV,ah,bD,aS,List.length_cons,List.length_nil,List.all_cons,List.all_nil,List.drop_zero,List.take_succ_cons,List.take_zero,List.set_cons_zero,List.set_cons_succ,↓reduceIte,Nat.reduceEqDiff,Nat.reduceAdd,Nat.reduceLeDiff,Bool.true_and,Bool.and_true,and_true,true_and,Nat.zero_add,decide_true,aq,aj,f32_27e,f32_28e,f32_28l]
      exact hQ _ _ (.tupL ⟨.refl _,ez _ _ _,trivial⟩)
theorem rleave (o:Int) (T:List Int) (d:Bool) (t:Int) (s:Bool) (hl:T.length≤1000) (st:St):bd Go.Proofs.Try.prog n_f33 [stAV 0 0 0 o d T [],.lit (.int .i64 t),.lit (.bool s)] st (.tup [stAV 0 0 0 (bU o T d t s).1.1 (bU o T d t s).1.2.2 (bU o T d t s).1.2.1 [],rsw (false,false,(bU o T d t s).2.1,(bU o T d t s).2.2)]):=by
  refine gw hmix k_f33 rfl rfl (.tup _ (by simp [kW,om])) (by simp [kW,il]) (fun Q hQ=>?_) st
  unfold aFun c_f33
  have ht:=fun st=>jk t st
  unfold bU bL at hQ
  by_cases h0:0≤t∧t < 64
  case neg =>
    have hc:chk [] t = 2:=by unfold chk; rw [if_pos (by omega)]
    rw [hc] at hQ
    rw [decide_eq_false h0] at ht
    simp only [ne_eq,show ¬ (2:Int) = 0 by decide,not_false_eq_true,if_true] at hQ
    simp (config:=KF) (disch:=omega) only [bZ,bR,bV,ak,boxX,ev_f,aA,putS,Sf.set,Sf.reg,getR,setR,aa,Sf.newLoc,look,bJ,aX,aG,id,al,ai,a9,ag,ae,aV,ah,bS,aT,aU,List.length_cons,List.length_nil,List.all_cons,List.all_nil,↓reduceIte,Nat.reduceEqDiff,Nat.reduceAdd,Bool.true_and,Bool.and_true,and_true,true_and,reduceCtorEq,Nat.zero_add,f33_1e,f33_2e,f33_2l,f33_3e,f33_4e,f33_5e,f33_5l,stAV]
    refine aK rfl e_f68 (ht _) rfl ?_
    simp (config:=KF) (disch:=omega) only [bZ,and_self,retI,resI,resL,o_un,am,cd,aR,ap,bstV,boxX,aZ,af,ao,a8,unA,aB,aP,aA,aO,putS,Sf.set,Sf.reg,getR,setR,aa,Sf.disAt,Sf.setLoc,look,aX,al,ai,a9,az,ag,ae,aV,ah,bD,aS,List.length_cons,List.length_nil,List.getElem?_cons_zero,List.getElem?_cons_succ,List.all_cons,List.all_nil,List.drop_zero,List.take_succ_cons,List.take_zero,List.set_cons_zero,List.set_cons_succ,↓reduceIte,Nat.reduceEqDiff,Nat.reduceAdd,Nat.reduceLeDiff,Bool.true_and,Bool.and_true,and_true,true_and,Nat.zero_add,decide_true,Bool.not_false,aq,aj,f33_6e,f33_7e,f33_8e,f33_8l]
    exact hQ _ _ (.tupL ⟨.refl _,ez _ _ _,trivial⟩)
  have hc:chk [] t = 0:=by unfold chk; rw [if_neg (by omega),if_neg (by simp)]
  rw [hc] at hQ
  rw [decide_eq_true h0] at ht
  simp only [ne_eq,not_true_eq_false,if_false] at hQ
  simp (config:=KF) (disch:=omega) only [bZ,bR,bV,ak,boxX,ev_f,aA,putS,Sf.set,Sf.reg,getR,setR,aa,Sf.newLoc,look,bJ,aX,aG,id,al,ai,a9,ag,ae,aV,ah,bS,aT,aU,List.length_cons,List.length_nil,List.all_cons,List.all_nil,↓reduceIte,Nat.reduceEqDiff,Nat.reduceAdd,Bool.true_and,Bool.and_true,and_true,true_and,reduceCtorEq,Nat.zero_add,f33_1e,f33_2e,f33_2l,f33_3e,f33_4e,f33_5e,f33_5l,stAV]
  refine aK rfl e_f68 (ht _) rfl ?_
  by_cases h1:o = t
  case neg =>
    simp only [h1,not_false_eq_true,if_true,show ¬ (8:Int) = 0 by decide] at hQ
    simp (config:=KF) (disch:=omega) only [bZ,and_self,retI,resI,resL,o_un,aw,am,cd,aR,ap,bstV,boxX,aZ,addA,af,ao,a8,unA,cx,aB,aP,aA,aO,putS,Sf.set,Sf.reg,getR,setR,aa,Sf.disAt,Sf.setLoc,look,aX,al,ai,a9,az,ag,ae,aV,ah,bD,aS,List.length_cons,List.length_nil,List.getElem?_cons_zero,List.getElem?_cons_succ,List.all_cons,List.all_nil,List.drop_zero,List.drop_succ_cons,List.take_succ_cons,List.take_zero,List.set_cons_zero,List.set_cons_succ,↓reduceIte,Nat.reduceEqDiff,Nat.reduceAdd,Nat.reduceLeDiff,Bool.true_and,Bool.and_true,and_true,true_and,Nat.zero_add,not_false_eq_true,decide_true,Bool.not_true,aq,aj,f33_6e,f33_9e,f33_10e,f33_11e,f33_11l,f33_12e,f33_13e,f33_14e,f33_14l,h1]
    exact hQ _ _ (.tupL ⟨.refl _,ez _ _ _,trivial⟩)
  simp only [h1,not_true_eq_false,if_false] at hQ
  subst h1
  cases s with
  | true =>
    simp only [if_true] at hQ
    simp (config:=KF) (disch:=omega) only [bZ,and_self,retI,resI,resL,o_un,aw,am,cd,au,aR,ap,bstV,boxX,aZ,addA,af,ao,a8,unA,cx,aB,aP,aA,li,aO,lj,putS,Sf.set,Sf.reg,getR,setR,aa,Sf.disAt,Sf.setLoc,look,aX,aH,al,ai,a9,az,fG,ag,ae,aV,ah,bD,aS,List.length_cons,List.length_nil,List.getElem?_cons_zero,List.getElem?_cons_succ,List.all_cons,List.all_nil,List.drop_zero,List.drop_succ_cons,List.take_succ_cons,List.take_zero,List.set_cons_zero,List.set_cons_succ,↓reduceIte,Nat.reduceEqDiff,Nat.reduceAdd,Nat.reduceLeDiff,Int.reduceNeg,Bool.true_and,Bool.and_true,and_true,true_and,Nat.zero_add,not_true_eq_false,decide_true,decide_false,Bool.not_true,aq,aj,f33_6e,f33_9e,f33_10e,f33_11e,f33_11l,f33_12e,f33_15e,f33_16e,f33_16l,f33_17e,f33_18e,f33_19e,f33_19l,f33_20e,f33_21e,f33_22e,f33_22l,f33_23e,f33_24e,f33_24l,f33_25e,f33_26e,f33_26l]
    exact hQ _ _ (.tupL ⟨.aggL ⟨.refl _,.refl _,.refl _,.refl _,.refl _,.nil _ _,.refl _,trivial⟩,.refl _,trivial⟩)
  | false =>
    simp only [Bool.false_eq_true,if_false] at hQ
    simp (config:=KF) (disch:=omega) only [bZ,o_un,aw,am,aR,ak,ap,boxX,aZ,addA,af,ao,unA,cx,aB,aP,ev_f,li,lj,putS,Sf.set,Sf.reg,getR,setR,aa,Sf.setLoc,look,aX,id,al,ai,a9,az,ae,ah,List.length_cons,List.length_nil,List.all_cons,List.all_nil,List.drop_zero,List.drop_succ_cons,List.take_succ_cons,List.take_zero,List.set_cons_zero,List.set_cons_succ,↓reduceIte,Nat.reduceEqDiff,Nat.reduceAdd,Nat.reduceLeDiff,Int.reduceNeg,Bool.true_and,Bool.and_true,and_true,true_and,Nat.zero_add,not_true_eq_false,decide_true,decide_false,Bool.not_true,aq,aj,f33_6e,f33_9e,f33_10e,f33_11e,f33_11l,f33_12e,f33_15e,f33_16e,f33_16l,f33_17e,f33_18e,f33_19e,f33_19l,f33_20e,f33_27e,f33_28e,f33_28l]
    refine aK rfl e_f73 (rnext 0 0 0 (-1) d T [] hl _) rfl ?_
    simp (config:=KF) (disch:=omega) only [bZ,retI,resI,resL,cw,aR,extV,boxX,aZ,af,ao,aB,aP,aA,aO,putS,Sf.set,Sf.reg,getR,setR,aa,Sf.disAt,Sf.setLoc,look,aX,al,ai,a9,ag,ae,aV,ah,bD,aS,List.length_cons,List.length_nil,List.getElem?_cons_zero,List.getElem?_cons_succ,List.all_cons,List.all_nil,List.drop_zero,List.take_succ_cons,List.take_zero,List.set_cons_zero,List.set_cons_succ,↓reduceIte,Nat.reduceEqDiff,Nat.reduceAdd,Nat.reduceLeDiff,Int.reduceNeg,Bool.true_and,Bool.and_true,and_true,true_and,Nat.zero_add,decide_true,aq,aj,stAV,rsw]
    exact hQ _ _ (.refl _)
end
end Go.Fx.YtphaaebhgggbaaaFx

