/- What the functions that the statement reaches compute: part 13. -/
import Derived.Test.YtohlpjfhkejjgaaFxW12
namespace Go.Fx.YtohlpjfhkejjgaaFx
open Go Go.Fx
attribute [local irreducible] aC runI aY cF

set_option maxRecDepth 100000
set_option maxHeartbeats 4000000

theorem n_item_neq (x y:It):binI (.agg (.field 0 1 .int (.field 1 1 .int (.field 2 1 .int (.field 3 1 .int .tt))))) .neq (itAV x) (itAV y) = .ok (.lit (.bool (decide (x≠y)))):=by
  obtain ⟨a,b,c⟩:=x
  obtain ⟨a',b',c'⟩:=y
  simp only [itAV,binI,eqI,n9,List.drop,List.take,Res.bind,andA]
  by_cases h1:a = a'
  · by_cases h2:b = b'
    · by_cases h3:c = c'
      · simp [h1,h2,h3,andA,Res.bind]
      · simp [h1,h2,h3,andA,Res.bind]
    · simp [h1,h2,andA,Res.bind]
  · simp [h1,andA,Res.bind]
theorem oR (f g:List It) (hf:f.length≤1000000) (hg:g.length≤1000000) (st:St):bF Go.Proofs.Try.prog n_f37 [.sl false 4 (f.map itAV),.sl false 4 (g.map itAV)] st (.lit (.bool (decide (f = g)))):=by
  refine cC hmix k_f37 rfl rfl fun Q hQ=>?_
  unfold aFun c_f37
  simp (config:=KF) (disch:=omega) only [bZ,cM,lenI,gw,putS,Sf.set,Sf.reg,getR,setR,ae,bt,aW,↓reduceIte,Nat.reduceEqDiff,reduceCtorEq,Nat.zero_add,List.length_map,f37_1e,f37_2e,f37_2l,f37_3e,f37_4e,f37_5e,f37_5l,f37_6e]
  refine bV (fun h=>?_) (fun h=>?_)
  · simp (config:=KF) (disch:=omega) only [bZ,retI,putS,Sf.set,Sf.reg,getR,setR,ae,↓reduceIte,Nat.reduceEqDiff,Bool.true_and,true_and,reduceCtorEq,f37_7e,f37_8e,f37_8l]
    have:false = decide (f = g):=by
      symm; rw [decide_eq_false_iff_not]
      rintro rfl; exact h rfl
    rw [← this] at hQ
    exact hQ _
  · simp (config:=KF) (disch:=omega) only [bZ,putS,Sf.set,getR,setR,ae,↓reduceIte,Nat.reduceEqDiff,reduceCtorEq,f37_9e,f37_10e,f37_11e,f37_11l,f37_12e]
    have hfg:f.length = g.length:=by omega
    rw [f37_13w]
    refine gM (A:=Nat) (fun a=>f.length - a) (fun a=>⟨[(0,.sl false 4 (f.map itAV)),(1,.sl false 4 (g.map itAV)),(5,.lit (.int .i64 (a:Nat)))],[]⟩) (fun _=>st)
      (fun a=>a≤f.length∧f.take a = g.take a) 0 ⟨by omega,rfl⟩ (Sf.le_refl _) rfl ?_
    rintro i ⟨h1,h2⟩ K hK hKe hKr
    by_cases h:i < f.length
    · have hj:i < g.length:=by omega
      have e1:(f.map itAV).getD i .any = itAV f[i]:=by simp [List.getD,h]
      have e2:(g.map itAV).getD i .any = itAV g[i]:=by simp [List.getD,hj]
      have hn:=n_item_neq f[i] g[i]
      simp only [itAV] at hn
      simp (config:=KF) (disch:=omega) only [bZ,da,cd,cX,oG,cc,bp,tail_nil,cM,ixSV,au,ixA,lenI,ak,al,cI,am,aG,putS,Sf.set,Sf.reg,getR,setR,ae,bk,aW,ao,aj,ag,List.length_cons,List.length_nil,List.take_succ_cons,List.take_zero,Int.toNat_natCast,↓reduceIte,Nat.reduceEqDiff,Nat.reduceAdd,Nat.reduceLeDiff,reduceCtorEq,Nat.zero_add,decide_true,List.length_map,du,cN,eA,f37_14e,f37_15e,f37_16e,f37_16l,f37_17e,f37_18e,f37_19e,f37_20e,f37_21e,f37_21h,f37_21l,f37_22e,e1,e2,itAV,hn]
      refine bV (fun h3=>?_) (fun h3=>?_)
      · simp (config:=KF) (disch:=omega) only [bZ,bU,putS,Sf.set,getR,setR,ae,↓reduceIte,Nat.reduceEqDiff,reduceCtorEq,f37_23e,f37_24e,f37_24l]
        have:false = decide (f = g):=by
          symm; rw [decide_eq_false_iff_not]
          rintro rfl; exact h3 rfl
        rw [← this] at hQ
        refine hKr _ _ ?_
        simp (config:=KF) (disch:=omega) only [bZ,bU,retI,Sf.reg,getR,↓reduceIte,Bool.true_and,true_and]
        exact hQ _
      · simp (config:=KF) (disch:=omega) only [bZ,aV,aA,eI,putS,Sf.set,Sf.reg,getR,setR,ae,Sf.disAt,↓reduceIte,Nat.reduceEqDiff,reduceCtorEq,IntWalk.i64_in,dV,f37_25e,f37_25l]
        refine hK (i + 1) _ ⟨by omega,?_⟩ (by omega) (Sf.le_refl _)
        rw [List.take_succ_eq_append_getElem h,List.take_succ_eq_append_getElem hj,h2,Classical.not_not.1 h3]
    · simp (config:=KF) (disch:=omega) only [bZ,el,fY,cM,lenI,cI,putS,Sf.set,Sf.reg,getR,setR,ae,aW,↓reduceIte,Nat.reduceEqDiff,reduceCtorEq,List.length_map,cB,f37_14e,f37_15e,f37_16e,f37_16l,f37_17e]
      refine hKe _ _ _ ?_
      simp (config:=KF) (disch:=omega) only [bZ,dp,retI,putS,Sf.set,Sf.reg,getR,setR,ae,↓reduceIte,Bool.true_and,true_and,f37_26e,f37_27e,f37_27l]
      have:true = decide (f = g):=by
        symm; rw [decide_eq_true_iff]
        have e:i = f.length:=by omega
        rw [e,List.take_length,hfg,List.take_length] at h2
        exact h2
      rw [← this] at hQ
      exact hQ _

theorem its_same (f g:List It) (hf:f.length≤1000000) (hg:g.length≤1000000) (st:St):bF Go.Proofs.Try.prog n_f37 [cD f,cD g] st (.lit (.bool (decide (f = g)))):=by
  have hle:∀ l:List It,(cD l).le (.sl false 4 (l.map itAV)):=fun l=>by
    unfold cD
    split
    · rename_i h; subst h; exact .nil _ _
    · exact .refl _
  exact (oR f g hf hg st).weak ⟨hle f,hle g,trivial⟩ (.refl _)

theorem la (x y:Rs) (hf:x.2.2.1.length≤1000000) (hg:y.2.2.1.length≤1000000) (st:St):bF Go.Proofs.Try.prog n_f23 [rsAV x,rsAV y] st (.lit (.bool (decide (x = y)))):=by
  obtain ⟨a,b,c,d⟩:=x
  obtain ⟨a',b',c',d'⟩:=y
  obtain ⟨w1,w2,w3,w4,w5,w6,w7⟩:=bE c
  obtain ⟨u1,u2,u3,u4,u5,u6,u7⟩:=bE c'
  have hs:∀ st,bF Go.Proofs.Try.prog n_f37 [(cD c).dis,(cD c').dis] st (.lit (.bool (decide (c = c')))):=fun st=>by
    rw [w1,u1]; exact its_same c c' hf hg st
  refine cC hmix k_f23 rfl rfl fun Q hQ=>?_
  unfold aFun c_f23
  simp (config:=KF) (disch:=omega) only [bZ,aw,AI.dst,aD,aq,dO,au,boxX,addA,ak,bR,ap,putS,Sf.set,Sf.reg,getR,setR,ae,Sf.newLoc,look,bW,aR,bt,ao,aj,ag,aa,ai,bO,aX,List.length_cons,List.length_nil,List.all_cons,List.all_nil,List.drop_zero,↓reduceIte,Nat.reduceEqDiff,Nat.reduceAdd,Bool.true_and,Bool.and_true,and_true,true_and,reduceCtorEq,Nat.zero_add,Nat.add_zero,f23_1e,f23_2e,f23_2l,f23_3e,f23_4e,f23_4l,rsAV,w2,w4,u2,u4]
  refine c8 (fun h1=>?_) (fun h1=>?_)
  · simp (config:=KF) (disch:=omega) only [bZ,aw,AI.dst,bX,a7,aD,aq,bQ,au,b_eql,addA,ak,putS,Sf.set,Sf.reg,getR,setR,look,List.drop_zero,List.drop_succ_cons,↓reduceIte,Nat.reduceEqDiff,Nat.zero_add]
    by_cases h2:b = b'
    · subst h2
      simp (config:=KF) (disch:=omega) only [bZ,aw,AI.dst,bX,a7,aD,aq,bQ,au,addA,ak,bR,putS,Sf.set,Sf.reg,getR,setR,look,List.drop_zero,List.drop_succ_cons,↓reduceIte,Nat.reduceEqDiff,Nat.zero_add,beq_self_eq_true]
      refine c8 (fun h3=>?_) (fun h3=>?_)
      · simp (config:=KF) (disch:=omega) only [bZ,aw,AI.dst,bX,aD,aq,az,au,addA,ak,ev_f,putS,Sf.set,Sf.reg,getR,setR,look,id,List.drop_zero,List.drop_succ_cons,↓reduceIte,Nat.reduceEqDiff,Nat.zero_add,w1,u1]
        refine bA rfl e_f37 (hs _) (by simp [w5,u5]) ?_
        simp (config:=KF) (disch:=omega) only [bZ,retI,a7,aA,bQ,putS,Sf.set,Sf.reg,getR,setR,ae,Sf.disAt,↓reduceIte,Nat.reduceEqDiff,Bool.true_and,true_and]
        have:decide ((a,b,c,d) = (a',b,c',d')) = decide (c = c'):=by simp [h1,h3]
        rw [this] at hQ
        exact hQ _
      · simp (config:=KF) (disch:=omega) only [bZ,retI,aw,cQ,AI.dst,a9,a7,aA,bN,putS,Sf.set,Sf.reg,getR,setR,ae,Sf.disAt,↓reduceIte,Nat.reduceEqDiff,Bool.true_and,true_and]
        have:decide ((a,b,c,d) = (a',b,c',d')) = false:=by simp [h3]
        rw [this] at hQ
        exact hQ _
    · have hbb:(b == b') = false:=by simpa using h2
      simp (config:=KF) (disch:=omega) only [bZ,retI,aw,cQ,AI.dst,a9,a7,aA,bN,putS,Sf.set,Sf.reg,getR,setR,ae,Sf.disAt,↓reduceIte,Nat.reduceEqDiff,Bool.true_and,true_and,hbb]
      have:decide ((a,b,c,d) = (a',b',c',d')) = false:=by simp [h2]
      rw [this] at hQ
      exact hQ _
  · simp (config:=KF) (disch:=omega) only [bZ,retI,aw,cQ,AI.dst,a9,a7,aA,bN,putS,Sf.set,Sf.reg,getR,setR,ae,Sf.disAt,↓reduceIte,Nat.reduceEqDiff,Bool.true_and,true_and]
    have:decide ((a,b,c,d) = (a',b',c',d')) = false:=by simp [h1]
    rw [this] at hQ
    exact hQ _
end Go.Fx.YtohlpjfhkejjgaaFx

