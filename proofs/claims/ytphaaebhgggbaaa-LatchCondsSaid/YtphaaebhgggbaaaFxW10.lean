/- What the functions that the statement reaches compute: part 10. -/
import Derived.Test.YtphaaebhgggbaaaFxW9
namespace Go.Fx.YtphaaebhgggbaaaFx
open Go Go.Fx
attribute [local irreducible] aC runI bD cO

set_option maxRecDepth 100000
set_option maxHeartbeats 4000000

/-! Results, and the reference's equality. -/
abbrev Rs:=Bool×Bool×List Int×Int
def rsAV (x:Rs):AV:=.agg [.lit (.bool x.1),.lit (.bool x.2.1),lAV x.2.2.1,.lit (.int .i64 x.2.2.2)]
theorem cg (l:List Int):(lAV l).dis = lAV l∧(lAV l).own1 = lAV l∧(lAV l).own2 = lAV l∧(lAV l).solid1 = true∧(lAV l).noL = true∧(lAV l).cells = [lAV l]∧∀ s,kill s (lAV l) = lAV l:=by
  unfold lAV; split <;> exact ⟨rfl,rfl,rfl,rfl,rfl,rfl,fun _=>rfl⟩
theorem db (x:Rs):(rsAV x).dis = rsAV x∧(rsAV x).noL = true:=by
  obtain ⟨w1,w2,w3,w4,w5,w6,w7⟩:=cg x.2.2.1
  simp only [rsAV,AV.dis,List.map_cons,List.map_nil,w2]
  exact ⟨rfl,rfl⟩

theorem rsame_sl (f g:List Int) (hf:f.length≤1000000) (hg:g.length≤1000000) (st:St):bg Go.Proofs.Try.prog n_f69 [.sl false 1 (ints f),.sl false 1 (ints g)] st (.lit (.bool (decide (f = g)))):=by
  refine cc hmix k_f69 rfl rfl fun Q hQ=>?_
  unfold aFun c_f69
  have lf:=cM f
  have lg:=cM g
  simp (config:=KF) (disch:=omega) only [bZ,cw,lenI,cH,putS,Sf.set,Sf.reg,getR,setR,aa,aO,aI,↓reduceIte,Nat.reduceEqDiff,reduceCtorEq,Nat.zero_add,f69_1e,f69_2e,f69_2l,f69_3e,f69_4e,f69_5e,f69_5l,f69_6e,lf,lg]
  refine mH (fun h=>?_) (fun h=>?_)
  · simp (config:=KF) (disch:=omega) only [bZ,retI,putS,Sf.set,Sf.reg,getR,setR,aa,↓reduceIte,Nat.reduceEqDiff,Bool.true_and,true_and,reduceCtorEq,f69_7e,f69_8e,f69_8l]
    have:false = decide (f = g):=by
      symm; rw [decide_eq_false_iff_not]
      rintro rfl; exact h rfl
    rw [← this] at hQ
    exact hQ _
  · simp (config:=KF) (disch:=omega) only [bZ,putS,Sf.set,getR,setR,aa,↓reduceIte,Nat.reduceEqDiff,reduceCtorEq,f69_9e,f69_10e,f69_11e,f69_11l,f69_12e]
    have hfg:f.length = g.length:=by omega
    rw [f69_13w]
    refine ef (A:=Nat) (fun a=>f.length - a) (fun a=>⟨[(0,.sl false 1 (ints f)),(1,.sl false 1 (ints g)),(5,.lit (.int .i64 (a:Nat)))],[]⟩) (fun _=>st)
      (fun a=>a≤f.length∧f.take a = g.take a) 0 ⟨by omega,rfl⟩ (Sf.le_refl _) rfl ?_
    rintro i ⟨h1,h2⟩ K hK hKe hKr
    by_cases h:i < f.length
    · have hj:i < g.length:=by omega
      have e1:(ints f).getD i .any = .lit (.int .i64 f[i]):=by simp [ints,List.getD,h]
      have e2:(ints g).getD i .any = .lit (.int .i64 g[i]):=by simp [ints,List.getD,hj]
      simp (config:=KF) (disch:=omega) only [bZ,dy,cp,dc,hh_ixS,bY,bC,cf,cw,ixSV,ar,ixA,lenI,ag,cH,bS,ap,putS,Sf.set,Sf.reg,getR,setR,aa,br,aI,aA,Int.toNat_natCast,↓reduceIte,Nat.reduceEqDiff,reduceCtorEq,bE,bq,bI,f69_14e,f69_15e,f69_16e,f69_16l,f69_17e,f69_18e,f69_19e,f69_20e,f69_21e,f69_21h,f69_21l,f69_22e,e1,e2,lf,lg]
      refine mH (fun h3=>?_) (fun h3=>?_)
      · simp (config:=KF) (disch:=omega) only [bZ,cx,putS,Sf.set,getR,setR,aa,↓reduceIte,Nat.reduceEqDiff,reduceCtorEq,f69_23e,f69_24e,f69_24l]
        have:false = decide (f = g):=by
          symm; rw [decide_eq_false_iff_not]
          rintro rfl; exact h3 rfl
        rw [← this] at hQ
        refine hKr _ _ ?_
        simp (config:=KF) (disch:=omega) only [bZ,cx,retI,Sf.reg,getR,↓reduceIte,Bool.true_and,true_and]
        exact hQ _
      · simp (config:=KF) (disch:=omega) only [bZ,aD,az,d4,putS,Sf.set,Sf.reg,getR,setR,aa,Sf.disAt,↓reduceIte,Nat.reduceEqDiff,reduceCtorEq,IntWalk.i64_in,cu,f69_25e,f69_25l]
        refine hK (i + 1) _ ⟨by omega,?_⟩ (by omega) (Sf.le_refl _)
        rw [List.take_succ_eq_append_getElem h,List.take_succ_eq_append_getElem hj,h2,Classical.not_not.1 h3]
    · simp (config:=KF) (disch:=omega) only [bZ,cT,dX,cw,lenI,bS,putS,Sf.set,Sf.reg,getR,setR,aa,aI,↓reduceIte,Nat.reduceEqDiff,reduceCtorEq,bH,f69_14e,f69_15e,f69_16e,f69_16l,f69_17e,lf]
      refine hKe _ _ _ ?_
      simp (config:=KF) (disch:=omega) only [bZ,ci,retI,putS,Sf.set,Sf.reg,getR,setR,aa,↓reduceIte,Bool.true_and,true_and,f69_26e,f69_27e,f69_27l]
      have:true = decide (f = g):=by
        symm; rw [decide_eq_true_iff]
        have e:i = f.length:=by omega
        rw [e,List.take_length,hfg,List.take_length] at h2
        exact h2
      rw [← this] at hQ
      exact hQ _
theorem rsame_pure (f g:List Int) (hf:f.length≤1000000) (hg:g.length≤1000000) (st:St):bg Go.Proofs.Try.prog n_f69 [lAV f,lAV g] st (.lit (.bool (decide (f = g)))) :=
  (rsame_sl f g hf hg st).weak ⟨oS f,oS g,trivial⟩ (.refl _)

theorem gx (x y:Rs) (hf:x.2.2.1.length≤1000000) (hg:y.2.2.1.length≤1000000) (st:St):bg Go.Proofs.Try.prog n_f28 [rsAV x,rsAV y] st (.lit (.bool (decide (x = y)))):=by
  obtain ⟨a,b,c,d⟩:=x
  obtain ⟨a',b',c',d'⟩:=y
  obtain ⟨w1,w2,w3,w4,w5,w6,w7⟩:=cg c
  obtain ⟨u1,u2,u3,u4,u5,u6,u7⟩:=cg c'
  have hs:∀ st,bg Go.Proofs.Try.prog n_f69 [(lAV c).dis,(lAV c').dis] st (.lit (.bool (decide (c = c')))):=fun st=>by
    rw [w1,u1]; exact rsame_pure c c' hf hg st
  refine cc hmix k_f28 rfl rfl fun Q hQ=>?_
  unfold aFun c_f28
  by_cases h1:a = a'
  case neg =>
    have hh:(a == a') = false:=by simpa using h1
    have:decide ((a,b,c,d) = (a',b',c',d')) = false:=by simp [h1]
    rw [this] at hQ
    simp (config:=KF) (disch:=omega) only [bZ,retI,aL,c5,AI.dst,bh,bu,aw,aq,az,b9,bA,ar,boxX,nS,addA,ag,au,putS,Sf.set,Sf.reg,getR,setR,aa,Sf.disAt,Sf.newLoc,look,bK,aU,aO,al,ah,ai,ae,af,aW,aY,List.length_cons,List.length_nil,List.all_cons,List.all_nil,List.drop_zero,↓reduceIte,Nat.reduceEqDiff,Nat.reduceAdd,Bool.true_and,Bool.and_true,and_true,true_and,reduceCtorEq,Nat.zero_add,Nat.add_zero,f28_1e,f28_2e,f28_2l,f28_3e,f28_4e,f28_4l,rsAV,w2,w4,u2,u4,hh]
    exact hQ _
  subst h1
  by_cases h2:b = b'
  case neg =>
    have hh:(b == b') = false:=by simpa using h2
    have:decide ((a,b,c,d) = (a,b',c',d')) = false:=by simp [h2]
    rw [this] at hQ
    simp (config:=KF) (disch:=omega) only [bZ,retI,aL,c5,AI.dst,cL,bh,bu,aw,aq,az,b9,dv,bA,ar,boxX,nS,addA,ag,au,putS,Sf.set,Sf.reg,getR,setR,aa,Sf.disAt,Sf.newLoc,look,bK,aU,aO,al,ah,ai,ae,af,aW,aY,List.length_cons,List.length_nil,List.all_cons,List.all_nil,List.drop_zero,List.drop_succ_cons,↓reduceIte,Nat.reduceEqDiff,Nat.reduceAdd,Bool.true_and,Bool.and_true,and_true,true_and,reduceCtorEq,Nat.zero_add,Nat.add_zero,f28_1e,f28_2e,f28_2l,f28_3e,f28_4e,f28_4l,rsAV,w2,w4,u2,u4,beq_self_eq_true,hh]
    exact hQ _
  subst h2
  simp (config:=KF) (disch:=omega) only [bZ,aL,AI.dst,cL,bu,aw,aq,b9,dv,ar,boxX,nS,addA,ag,bW,au,putS,Sf.set,Sf.reg,getR,setR,aa,Sf.newLoc,look,bK,aU,aO,al,ah,ai,ae,af,aW,aY,List.length_cons,List.length_nil,List.all_cons,List.all_nil,List.drop_zero,List.drop_succ_cons,↓reduceIte,Nat.reduceEqDiff,Nat.reduceAdd,Bool.true_and,Bool.and_true,and_true,true_and,reduceCtorEq,Nat.zero_add,Nat.add_zero,f28_1e,f28_2e,f28_2l,f28_3e,f28_4e,f28_4l,rsAV,w2,w4,u2,u4,beq_self_eq_true]
  refine lq (fun h3=>?_) (fun h3=>?_)
  · simp (config:=KF) (disch:=omega) only [bZ,aL,AI.dst,cL,aw,aq,ao,ar,addA,ag,ev_f,putS,Sf.set,Sf.reg,getR,setR,look,id,List.drop_zero,List.drop_succ_cons,↓reduceIte,Nat.reduceEqDiff,Nat.zero_add,w1,u1]
    refine aF rfl e_f69 (hs _) (by simp [w5,u5]) ?_
    simp (config:=KF) (disch:=omega) only [bZ,retI,bu,az,dv,putS,Sf.set,Sf.reg,getR,setR,aa,Sf.disAt,↓reduceIte,Nat.reduceEqDiff,Bool.true_and,true_and]
    have:decide ((a,b,c,d) = (a,b,c',d')) = decide (c = c'):=by simp [h3]
    rw [this] at hQ
    exact hQ _
  · simp (config:=KF) (disch:=omega) only [bZ,retI,aL,c5,AI.dst,bh,bu,az,bA,putS,Sf.set,Sf.reg,getR,setR,aa,Sf.disAt,↓reduceIte,Nat.reduceEqDiff,Bool.true_and,true_and]
    have:decide ((a,b,c,d) = (a,b,c',d')) = false:=by simp [h3]
    rw [this] at hQ
    exact hQ _
theorem iL (l:List Int) (st:St):bg Go.Proofs.Try.prog n_f52 [lAV l] st (rsAV (false,false,l,0)):=by
  obtain ⟨w1,w2,w3,w4,w5,w6,w7⟩:=cg l
  refine cc hmix k_f52 rfl rfl fun Q hQ=>?_
  unfold aFun c_f52
  unfold rsAV at hQ
  simp (config:=KF) (disch:=omega) only [bZ,and_self,retI,resI,cv,bT,aG,bstV,boxX,aR,ag,ak,bf,ap,aH,au,aE,putS,Sf.set,Sf.reg,getR,setR,aa,Sf.disAt,Sf.newLoc,Sf.setLoc,look,bK,aU,aO,al,ah,ai,ae,af,bz,List.length_cons,List.length_nil,List.getElem?_cons_zero,List.getElem?_cons_succ,List.all_cons,List.all_nil,List.drop_zero,List.take_succ_cons,List.take_zero,List.set_cons_zero,List.set_cons_succ,↓reduceIte,Nat.reduceEqDiff,Nat.reduceAdd,Nat.reduceLeDiff,Bool.true_and,Bool.and_true,and_true,true_and,reduceCtorEq,Nat.zero_add,decide_true,am,aj,f52_1e,f52_2e,f52_2l,f52_3e,f52_4e,f52_4l,w1,w2,w4,w6,w7]
  exact hQ _
theorem oN (e:Int) (st:St):bg Go.Proofs.Try.prog n_f50 [.lit (.int .i64 e)] st (rsAV (false,false,[],e)):=by
  refine cc hmix k_f50 rfl rfl fun Q hQ=>?_
  unfold aFun c_f50
  unfold rsAV lAV at hQ
  simp (config:=KF) (disch:=omega) only [bZ,and_self,retI,resI,cv,bT,aG,bstV,boxX,aR,ag,ak,bf,ap,aH,au,aE,putS,Sf.set,Sf.reg,getR,setR,aa,Sf.disAt,Sf.newLoc,Sf.setLoc,look,bK,aU,aO,al,ah,aA,ai,ae,af,bz,bR,List.length_cons,List.length_nil,List.getElem?_cons_zero,List.getElem?_cons_succ,List.all_cons,List.all_nil,List.drop_zero,List.take_succ_cons,List.take_zero,List.set_cons_zero,List.set_cons_succ,↓reduceIte,Nat.reduceEqDiff,Nat.reduceAdd,Nat.reduceLeDiff,Bool.true_and,Bool.and_true,and_true,true_and,reduceCtorEq,Nat.zero_add,decide_true,am,aj,f50_1e,f50_2e,f50_2l,f50_3e,f50_4e,f50_4l]
  exact hQ _
end Go.Fx.YtphaaebhgggbaaaFx

