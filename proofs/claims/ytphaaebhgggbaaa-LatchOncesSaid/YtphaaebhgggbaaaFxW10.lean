/- What the functions that the statement reaches compute: part 10. -/
import Derived.Test.YtphaaebhgggbaaaFxW9
namespace Go.Fx.YtphaaebhgggbaaaFx
open Go Go.Fx
attribute [local irreducible] aC runI bu cN

set_option maxRecDepth 100000
set_option maxHeartbeats 4000000

/-! Results, and the reference's equality. -/
abbrev Rs:=Bool×Bool×List Int×Int
def rsAV (x:Rs):AV:=.agg [.lit (.bool x.1),.lit (.bool x.2.1),lAV x.2.2.1,.lit (.int .i64 x.2.2.2)]
theorem cA (l:List Int):(lAV l).dis = lAV l∧(lAV l).own1 = lAV l∧(lAV l).own2 = lAV l∧(lAV l).solid1 = true∧(lAV l).noL = true∧(lAV l).cells = [lAV l]∧∀ s,kill s (lAV l) = lAV l:=by
  unfold lAV; split <;> exact ⟨rfl,rfl,rfl,rfl,rfl,rfl,fun _=>rfl⟩
theorem d6 (x:Rs):(rsAV x).dis = rsAV x∧(rsAV x).noL = true:=by
  obtain ⟨w1,w2,w3,w4,w5,w6,w7⟩:=cA x.2.2.1
  simp only [rsAV,AV.dis,List.map_cons,List.map_nil,w2]
  exact ⟨rfl,rfl⟩

theorem rsame_sl (f g:List Int) (hf:f.length≤1000000) (hg:g.length≤1000000) (st:St):bd Go.Proofs.Try.prog n_f69 [.sl false 1 (ints f),.sl false 1 (ints g)] st (.lit (.bool (decide (f = g)))):=by
  refine bX hmix k_f69 rfl rfl fun Q hQ=>?_
  unfold aFun c_f69
  have lf:=dw f
  have lg:=dw g
  simp (config:=KF) (disch:=omega) only [bZ,cO,lenI,cx,putS,Sf.set,Sf.reg,getR,setR,aa,aG,aH,↓reduceIte,Nat.reduceEqDiff,reduceCtorEq,Nat.zero_add,f69_1e,f69_2e,f69_2l,f69_3e,f69_4e,f69_5e,f69_5l,f69_6e,lf,lg]
  refine mf (fun h=>?_) (fun h=>?_)
  · simp (config:=KF) (disch:=omega) only [bZ,retI,putS,Sf.set,Sf.reg,getR,setR,aa,↓reduceIte,Nat.reduceEqDiff,Bool.true_and,true_and,reduceCtorEq,f69_7e,f69_8e,f69_8l]
    have:false = decide (f = g):=by
      symm; rw [decide_eq_false_iff_not]
      rintro rfl; exact h rfl
    rw [← this] at hQ
    exact hQ _
  · simp (config:=KF) (disch:=omega) only [bZ,putS,Sf.set,getR,setR,aa,↓reduceIte,Nat.reduceEqDiff,reduceCtorEq,f69_9e,f69_10e,f69_11e,f69_11l,f69_12e]
    have hfg:f.length = g.length:=by omega
    rw [f69_13w]
    refine d3 (A:=Nat) (fun a=>f.length - a) (fun a=>⟨[(0,.sl false 1 (ints f)),(1,.sl false 1 (ints g)),(5,.lit (.int .i64 (a:Nat)))],[]⟩) (fun _=>st)
      (fun a=>a≤f.length∧f.take a = g.take a) 0 ⟨by omega,rfl⟩ (Sf.le_refl _) rfl ?_
    rintro i ⟨h1,h2⟩ K hK hKe hKr
    by_cases h:i < f.length
    · have hj:i < g.length:=by omega
      have e1:(ints f).getD i .any = .lit (.int .i64 f[i]):=by simp [ints,List.getD,h]
      have e2:(ints g).getD i .any = .lit (.int .i64 g[i]):=by simp [ints,List.getD,hj]
      simp (config:=KF) (disch:=omega) only [bZ,eo,cz,dt,hh_ixS,cc,bp,cJ,cO,ixSV,ap,ixA,lenI,af,cx,bT,aB,putS,Sf.set,Sf.reg,getR,setR,aa,bB,aH,az,Int.toNat_natCast,↓reduceIte,Nat.reduceEqDiff,reduceCtorEq,cf,bw,cm,f69_14e,f69_15e,f69_16e,f69_16l,f69_17e,f69_18e,f69_19e,f69_20e,f69_21e,f69_21h,f69_21l,f69_22e,e1,e2,lf,lg]
      refine mf (fun h3=>?_) (fun h3=>?_)
      · simp (config:=KF) (disch:=omega) only [bZ,cn,putS,Sf.set,getR,setR,aa,↓reduceIte,Nat.reduceEqDiff,reduceCtorEq,f69_23e,f69_24e,f69_24l]
        have:false = decide (f = g):=by
          symm; rw [decide_eq_false_iff_not]
          rintro rfl; exact h3 rfl
        rw [← this] at hQ
        refine hKr _ _ ?_
        simp (config:=KF) (disch:=omega) only [bZ,cn,retI,Sf.reg,getR,↓reduceIte,Bool.true_and,true_and]
        exact hQ _
      · simp (config:=KF) (disch:=omega) only [bZ,aD,au,en,putS,Sf.set,Sf.reg,getR,setR,aa,Sf.disAt,↓reduceIte,Nat.reduceEqDiff,reduceCtorEq,IntWalk.i64_in,cC,f69_25e,f69_25l]
        refine hK (i + 1) _ ⟨by omega,?_⟩ (by omega) (Sf.le_refl _)
        rw [List.take_succ_eq_append_getElem h,List.take_succ_eq_append_getElem hj,h2,Classical.not_not.1 h3]
    · simp (config:=KF) (disch:=omega) only [bZ,cS,dO,cO,lenI,bT,putS,Sf.set,Sf.reg,getR,setR,aa,aH,↓reduceIte,Nat.reduceEqDiff,reduceCtorEq,bK,f69_14e,f69_15e,f69_16e,f69_16l,f69_17e,lf]
      refine hKe _ _ _ ?_
      simp (config:=KF) (disch:=omega) only [bZ,ce,retI,putS,Sf.set,Sf.reg,getR,setR,aa,↓reduceIte,Bool.true_and,true_and,f69_26e,f69_27e,f69_27l]
      have:true = decide (f = g):=by
        symm; rw [decide_eq_true_iff]
        have e:i = f.length:=by omega
        rw [e,List.take_length,hfg,List.take_length] at h2
        exact h2
      rw [← this] at hQ
      exact hQ _
theorem rsame_pure (f g:List Int) (hf:f.length≤1000000) (hg:g.length≤1000000) (st:St):bd Go.Proofs.Try.prog n_f69 [lAV f,lAV g] st (.lit (.bool (decide (f = g)))) :=
  (rsame_sl f g hf hg st).weak ⟨oq f,oq g,trivial⟩ (.refl _)

theorem fZ (x y:Rs) (hf:x.2.2.1.length≤1000000) (hg:y.2.2.1.length≤1000000) (st:St):bd Go.Proofs.Try.prog n_f28 [rsAV x,rsAV y] st (.lit (.bool (decide (x = y)))):=by
  obtain ⟨a,b,c,d⟩:=x
  obtain ⟨a',b',c',d'⟩:=y
  obtain ⟨w1,w2,w3,w4,w5,w6,w7⟩:=cA c
  obtain ⟨u1,u2,u3,u4,u5,u6,u7⟩:=cA c'
  have hs:∀ st,bd Go.Proofs.Try.prog n_f69 [(lAV c).dis,(lAV c').dis] st (.lit (.bool (decide (c = c')))):=fun st=>by
    rw [w1,u1]; exact rsame_pure c c' hf hg st
  refine bX hmix k_f28 rfl rfl fun Q hQ=>?_
  unfold aFun c_f28
  by_cases h1:a = a'
  case neg =>
    have hh:(a == a') = false:=by simpa using h1
    have:decide ((a,b,c,d) = (a',b',c',d')) = false:=by simp [h1]
    rw [this] at hQ
    simp (config:=KF) (disch:=omega) only [bZ,retI,aI,c4,AI.dst,bh,bt,aw,am,au,bV,bC,ap,boxX,nx,addA,af,aA,putS,Sf.set,Sf.reg,getR,setR,aa,Sf.disAt,Sf.newLoc,look,bJ,aX,aG,al,ai,ag,ae,ah,aT,aU,List.length_cons,List.length_nil,List.all_cons,List.all_nil,List.drop_zero,↓reduceIte,Nat.reduceEqDiff,Nat.reduceAdd,Bool.true_and,Bool.and_true,and_true,true_and,reduceCtorEq,Nat.zero_add,Nat.add_zero,f28_1e,f28_2e,f28_2l,f28_3e,f28_4e,f28_4l,rsAV,w2,w4,u2,u4,hh]
    exact hQ _
  subst h1
  by_cases h2:b = b'
  case neg =>
    have hh:(b == b') = false:=by simpa using h2
    have:decide ((a,b,c,d) = (a,b',c',d')) = false:=by simp [h2]
    rw [this] at hQ
    simp (config:=KF) (disch:=omega) only [bZ,retI,aI,c4,AI.dst,cE,bh,bt,aw,am,au,bV,c9,bC,ap,boxX,nx,addA,af,aA,putS,Sf.set,Sf.reg,getR,setR,aa,Sf.disAt,Sf.newLoc,look,bJ,aX,aG,al,ai,ag,ae,ah,aT,aU,List.length_cons,List.length_nil,List.all_cons,List.all_nil,List.drop_zero,List.drop_succ_cons,↓reduceIte,Nat.reduceEqDiff,Nat.reduceAdd,Bool.true_and,Bool.and_true,and_true,true_and,reduceCtorEq,Nat.zero_add,Nat.add_zero,f28_1e,f28_2e,f28_2l,f28_3e,f28_4e,f28_4l,rsAV,w2,w4,u2,u4,beq_self_eq_true,hh]
    exact hQ _
  subst h2
  simp (config:=KF) (disch:=omega) only [bZ,aI,AI.dst,cE,bt,aw,am,bV,c9,ap,boxX,nx,addA,af,bW,aA,putS,Sf.set,Sf.reg,getR,setR,aa,Sf.newLoc,look,bJ,aX,aG,al,ai,ag,ae,ah,aT,aU,List.length_cons,List.length_nil,List.all_cons,List.all_nil,List.drop_zero,List.drop_succ_cons,↓reduceIte,Nat.reduceEqDiff,Nat.reduceAdd,Bool.true_and,Bool.and_true,and_true,true_and,reduceCtorEq,Nat.zero_add,Nat.add_zero,f28_1e,f28_2e,f28_2l,f28_3e,f28_4e,f28_4l,rsAV,w2,w4,u2,u4,beq_self_eq_true]
  refine kS (fun h3=>?_) (fun h3=>?_)
  · simp (config:=KF) (disch:=omega) only [bZ,aI,AI.dst,cE,aw,am,ak,ap,addA,af,ev_f,putS,Sf.set,Sf.reg,getR,setR,look,id,List.drop_zero,List.drop_succ_cons,↓reduceIte,Nat.reduceEqDiff,Nat.zero_add,w1,u1]
    refine aK rfl e_f69 (hs _) (by simp [w5,u5]) ?_
    simp (config:=KF) (disch:=omega) only [bZ,retI,bt,au,c9,putS,Sf.set,Sf.reg,getR,setR,aa,Sf.disAt,↓reduceIte,Nat.reduceEqDiff,Bool.true_and,true_and]
    have:decide ((a,b,c,d) = (a,b,c',d')) = decide (c = c'):=by simp [h3]
    rw [this] at hQ
    exact hQ _
  · simp (config:=KF) (disch:=omega) only [bZ,retI,aI,c4,AI.dst,bh,bt,au,bC,putS,Sf.set,Sf.reg,getR,setR,aa,Sf.disAt,↓reduceIte,Nat.reduceEqDiff,Bool.true_and,true_and]
    have:decide ((a,b,c,d) = (a,b,c',d')) = false:=by simp [h3]
    rw [this] at hQ
    exact hQ _
theorem ix (l:List Int) (st:St):bd Go.Proofs.Try.prog n_f52 [lAV l] st (rsAV (false,false,l,0)):=by
  obtain ⟨w1,w2,w3,w4,w5,w6,w7⟩:=cA l
  refine bX hmix k_f52 rfl rfl fun Q hQ=>?_
  unfold aFun c_f52
  unfold rsAV at hQ
  simp (config:=KF) (disch:=omega) only [bZ,and_self,retI,resI,cd,bR,aR,bstV,boxX,aZ,af,ao,a8,aB,aP,aA,aO,putS,Sf.set,Sf.reg,getR,setR,aa,Sf.disAt,Sf.newLoc,Sf.setLoc,look,bJ,aX,aG,al,ai,ag,ae,ah,bD,List.length_cons,List.length_nil,List.getElem?_cons_zero,List.getElem?_cons_succ,List.all_cons,List.all_nil,List.drop_zero,List.take_succ_cons,List.take_zero,List.set_cons_zero,List.set_cons_succ,↓reduceIte,Nat.reduceEqDiff,Nat.reduceAdd,Nat.reduceLeDiff,Bool.true_and,Bool.and_true,and_true,true_and,reduceCtorEq,Nat.zero_add,decide_true,aq,aj,f52_1e,f52_2e,f52_2l,f52_3e,f52_4e,f52_4l,w1,w2,w4,w6,w7]
  exact hQ _
theorem og (e:Int) (st:St):bd Go.Proofs.Try.prog n_f50 [.lit (.int .i64 e)] st (rsAV (false,false,[],e)):=by
  refine bX hmix k_f50 rfl rfl fun Q hQ=>?_
  unfold aFun c_f50
  unfold rsAV lAV at hQ
  simp (config:=KF) (disch:=omega) only [bZ,and_self,retI,resI,cd,bR,aR,bstV,boxX,aZ,af,ao,a8,aB,aP,aA,aO,putS,Sf.set,Sf.reg,getR,setR,aa,Sf.disAt,Sf.newLoc,Sf.setLoc,look,bJ,aX,aG,al,ai,az,ag,ae,ah,bD,bS,List.length_cons,List.length_nil,List.getElem?_cons_zero,List.getElem?_cons_succ,List.all_cons,List.all_nil,List.drop_zero,List.take_succ_cons,List.take_zero,List.set_cons_zero,List.set_cons_succ,↓reduceIte,Nat.reduceEqDiff,Nat.reduceAdd,Nat.reduceLeDiff,Bool.true_and,Bool.and_true,and_true,true_and,reduceCtorEq,Nat.zero_add,decide_true,aq,aj,f50_1e,f50_2e,f50_2l,f50_3e,f50_4e,f50_4l]
  exact hQ _
end Go.Fx.YtphaaebhgggbaaaFx

