/- What the functions that the statement reaches compute: part 23. -/
import Derived.Test.YtohlpjfhkejjgaaFxW22
namespace Go.Fx.YtohlpjfhkejjgaaFx
open Go Go.Fx
attribute [local irreducible] aC runI aY cF

set_option maxRecDepth 100000
set_option maxHeartbeats 8000000

theorem iv {c q0 m0 q1 m1 wid n0:Nat} {st:St} {P:ChP} {bv:AV} (h:ChIs st c P q0 m0 q1 m1 wid bv) (hb:Bd P n0) (l:List Ca) (hl:l.length≤100) (hn0:n0≤1000) :
    bj Go.Proofs.Try.prog n_f16 [.ptr c 0,bu P,fa l] st (fun r st'=>r = .tup [bu (pAll P l),.lit (.bool true)]∧cV st c (pAll P l) q0 m0 q1 m1 wid bv st'):=by
  refine bf hmix k_f16 rfl rfl fun Q hQ=>?_
  unfold aFun c_f16
  simp only [bu,wlAV,fa]
  simp (config:=KF) (disch:=omega) only [bZ,cm,dO,boxX,ap,putS,Sf.set,Sf.reg,getR,setR,ae,Sf.newLoc,look,bW,aR,bt,aW,ao,aj,aL,ag,aa,aB,ai,cn,bO,df,aX,List.length_cons,List.length_nil,List.all_cons,List.all_nil,↓reduceIte,Nat.reduceEqDiff,Nat.reduceAdd,Bool.true_and,Bool.and_true,and_true,true_and,reduceCtorEq,Nat.zero_add,f16_1e,f16_2e,f16_2l,f16_3e,f16_4e,f16_5e,f16_5l,f16_6e]
  refine plays_loop h hb l hl hn0 _ fun st1 h1=>?_
  have hq:=hQ (.tup [bu (pAll P l),.lit (.bool true)]) st1 ⟨rfl,h1⟩
  simp only [nZ,bu,wlAV] at hq ⊢
  simp (config:=KF) (disch:=omega) only [bZ,dp,retI,resI,resL,aq,aF,au,boxX,aM,ak,al,am,aG,ap,aE,putS,Sf.set,Sf.reg,getR,setR,ae,Sf.disAt,Sf.setLoc,look,aR,ao,aj,aL,ag,aa,aB,ai,bq,aJ,List.length_cons,List.length_nil,List.all_cons,List.all_nil,List.drop_zero,List.take_succ_cons,List.take_zero,List.set_cons_zero,List.set_cons_succ,↓reduceIte,Nat.reduceEqDiff,Nat.reduceAdd,Nat.reduceLeDiff,Bool.true_and,Bool.and_true,and_true,true_and,Nat.zero_add,decide_true,ah,af,f16_24e,f16_25e,f16_25l]
  exact hq

end Go.Fx.YtohlpjfhkejjgaaFx

