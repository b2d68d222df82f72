/- What the functions that the statement reaches compute: part 12. -/
import Derived.Test.YtohlpjfhkejjgaaFxW11
namespace Go.Fx.YtohlpjfhkejjgaaFx
open Go Go.Fx
attribute [local irreducible] aC runI aY cF

set_option maxRecDepth 100000
set_option maxHeartbeats 4000000

/-- A call of the law's: what, task, value. -/
abbrev Ca:=Int×Int×Int
def caAV (a:Ca):AV:=.agg [.lit (.int .i64 a.1),.lit (.int .i64 a.2.1),.lit (.int .i64 a.2.2)]
/-- What it comes to: value, done, ended, error. -/
abbrev Rs:=Int×Bool×List It×Int
def rsAV (x:Rs):AV:=.agg [.lit (.int .i64 x.1),.lit (.bool x.2.1),cD x.2.2.1,.lit (.int .i64 x.2.2.2)]
def pDo (P:ChP) (a:Ca):ChP×Rs :=
  if a.1 = 0 then ((eJ P a.2.1 a.2.2).1,0,(eJ P a.2.1 a.2.2).2.1,(eJ P a.2.1 a.2.2).2.2.1,(eJ P a.2.1 a.2.2).2.2.2)
  else if a.1 = 1 then ((co P a.2.1).1,(co P a.2.1).2.1,(co P a.2.1).2.2.1,(co P a.2.1).2.2.2.1,(co P a.2.1).2.2.2.2)
  else if a.1 = 2 then ((bI P a.2.2).1,0,decide ((bI P a.2.2).2.2 = 0),(bI P a.2.2).2.1,(bI P a.2.2).2.2)
  else if a.1 = 3 then ((aO P).1,(aO P).2.1,decide ((aO P).2.2.2 = 0),(aO P).2.2.1,(aO P).2.2.2)
  else if a.1 = 4 then ((dw P a.2.1).1,0,false,[],(dw P a.2.1).2)
  else ((dm P).1,0,false,(dm P).2.1,(dm P).2.2)

section
variable {st:St} {c q0 m0 q1 m1 wid:Nat} {bv:AV} {P:ChP}

theorem nX (h:ChIs st c P q0 m0 q1 m1 wid bv) (a:Ca) {n:Nat} (hb:Bd P n∧n < 3000) :
    bj Go.Proofs.Try.prog n_f11 [.ptr c 0,caAV a] st (fun r st'=>r = rsAV (pDo P a).2∧cV st c (pDo P a).1 q0 m0 q1 m1 wid bv st'):=by
  have hbd:=hb
  unfold Bd at hb
  obtain ⟨w,t,v⟩:=a
  refine bf hmix k_f11 rfl rfl fun Q hQ=>?_
  unfold aFun c_f11
  generalize hR:pDo P (w,t,v) = R at hQ
  unfold pDo at hR
  simp only at hR
  simp (config:=KF) (disch:=omega) only [bZ,aD,aq,aA,cm,dO,au,boxX,addA,ak,bR,ap,putS,Sf.set,Sf.reg,getR,setR,ae,Sf.disAt,Sf.newLoc,look,bW,aR,bt,ao,aj,ag,aa,ai,cn,bO,aX,List.length_cons,List.length_nil,List.all_cons,List.all_nil,List.drop_zero,↓reduceIte,Nat.reduceEqDiff,Nat.reduceAdd,Bool.true_and,Bool.and_true,and_true,true_and,reduceCtorEq,Nat.zero_add,Nat.add_zero,f11_1e,f11_2e,f11_2l,f11_3e,f11_4e,f11_4l,f11_5e,f11_6e,f11_6l,f11_7e,f11_8e,f11_9e,f11_9l,f11_10e,f11_11e,f11_12e,f11_12l,f11_13e,caAV]
  refine bV (fun h0=>?_) (fun h0=>?_)
  · rw [if_pos h0] at hR
    subst hR
    simp (config:=KF) (disch:=omega) only [bZ,aD,aq,az,au,addA,ak,ev_f,putS,Sf.set,Sf.reg,getR,setR,look,id,List.drop_zero,List.drop_succ_cons,↓reduceIte,Nat.reduceEqDiff,reduceCtorEq,Nat.zero_add,f11_14e,f11_14l]
    refine ba rfl e_f26 (csend_calls h t v hbd) rfl fun r st1 hr=>?_
    obtain ⟨rfl,h1⟩:=hr
    obtain ⟨w1,w2,w3,w4,w5,w6,w7⟩:=bE (eJ P t v).2.2.1
    simp (config:=KF) (disch:=omega) only [bZ,aV,retI,resI,bP,aD,aq,aA,aF,extV,au,boxX,aM,addA,ak,al,am,aG,ap,aE,putS,Sf.set,Sf.reg,getR,setR,ae,Sf.disAt,Sf.setLoc,look,aR,ao,bg,aj,aU,ar,ag,aa,ai,bq,List.length_cons,List.length_nil,List.getElem?_cons_zero,List.getElem?_cons_succ,List.all_cons,List.all_nil,List.drop_zero,List.take_succ_cons,List.take_zero,List.set_cons_zero,List.set_cons_succ,↓reduceIte,Nat.reduceEqDiff,Nat.reduceAdd,Nat.reduceLeDiff,Bool.true_and,Bool.and_true,and_true,true_and,reduceCtorEq,Nat.zero_add,decide_true,ah,af,f11_36e,f11_37e,f11_37l,f11_38e,f11_39e,f11_39l,w1,w2,w3,w4,w6]
    exact hQ _ _ ⟨rfl,h1⟩
  rw [if_neg h0] at hR
  simp (config:=KF) (disch:=omega) only [bZ,aA,bR,putS,Sf.set,Sf.reg,getR,setR,ae,Sf.disAt,look,↓reduceIte,Nat.reduceEqDiff,reduceCtorEq,f11_15e,f11_16e,f11_16l,f11_17e]
  refine bV (fun h1=>?_) (fun h1=>?_)
  · rw [if_pos h1] at hR
    subst hR
    simp (config:=KF) (disch:=omega) only [bZ,aD,aq,az,au,addA,ak,ev_f,putS,Sf.set,Sf.reg,getR,setR,look,id,List.drop_zero,List.drop_succ_cons,↓reduceIte,Nat.reduceEqDiff,reduceCtorEq,Nat.zero_add,f11_18e,f11_18l]
    refine ba rfl e_f27 (mK h t hbd) rfl fun r st1 hr=>?_
    obtain ⟨rfl,h1⟩:=hr
    obtain ⟨w1,w2,w3,w4,w5,w6,w7⟩:=bE (co P t).2.2.2.1
    simp (config:=KF) (disch:=omega) only [bZ,aV,retI,resI,bP,aD,aq,aA,aF,extV,au,boxX,aM,addA,ak,al,am,aG,ap,aE,putS,Sf.set,Sf.reg,getR,setR,ae,Sf.disAt,Sf.setLoc,look,aR,ao,bg,aj,aU,ar,ag,aa,ai,bq,List.length_cons,List.length_nil,List.getElem?_cons_zero,List.getElem?_cons_succ,List.all_cons,List.all_nil,List.drop_zero,List.take_succ_cons,List.take_zero,List.set_cons_zero,List.set_cons_succ,↓reduceIte,Nat.reduceEqDiff,Nat.reduceAdd,Nat.reduceLeDiff,Bool.true_and,Bool.and_true,and_true,true_and,reduceCtorEq,Nat.zero_add,Nat.add_zero,decide_true,ah,af,f11_36e,f11_37e,f11_37l,f11_38e,f11_39e,f11_39l,w1,w2,w3,w4,w6]
    exact hQ _ _ ⟨rfl,h1⟩
  rw [if_neg h1] at hR
  simp (config:=KF) (disch:=omega) only [bZ,aA,bR,putS,Sf.set,Sf.reg,getR,setR,ae,Sf.disAt,look,↓reduceIte,Nat.reduceEqDiff,reduceCtorEq,f11_19e,f11_20e,f11_20l,f11_21e]
  refine bV (fun h2=>?_) (fun h2=>?_)
  · rw [if_pos h2] at hR
    subst hR
    simp (config:=KF) (disch:=omega) only [bZ,aD,aq,az,au,addA,ak,ev_f,putS,Sf.set,Sf.reg,getR,setR,look,id,List.drop_zero,List.drop_succ_cons,↓reduceIte,Nat.reduceEqDiff,reduceCtorEq,Nat.zero_add,f11_22e,f11_23e,f11_23l]
    refine ba rfl e_f21 (iw h v (by omega)) rfl fun r st1 hr=>?_
    obtain ⟨rfl,h1⟩:=hr
    obtain ⟨w1,w2,w3,w4,w5,w6,w7⟩:=bE (bI P v).2.1
    simp (config:=KF) (disch:=omega) only [bZ,aV,retI,resI,bP,aD,aq,aA,aF,extV,au,boxX,aM,addA,ak,al,bR,am,aG,ap,aE,putS,Sf.set,Sf.reg,getR,setR,ae,Sf.disAt,Sf.setLoc,look,aR,ao,bg,aj,aU,ar,ag,aa,ai,bq,List.length_cons,List.length_nil,List.getElem?_cons_zero,List.getElem?_cons_succ,List.all_cons,List.all_nil,List.drop_zero,List.take_succ_cons,List.take_zero,List.set_cons_zero,List.set_cons_succ,↓reduceIte,Nat.reduceEqDiff,Nat.reduceAdd,Nat.reduceLeDiff,Bool.true_and,Bool.and_true,and_true,true_and,reduceCtorEq,Nat.zero_add,decide_true,ah,af,f11_24e,f11_24l,f11_36e,f11_37e,f11_37l,f11_38e,f11_39e,f11_39l,w1,w2,w3,w4,w6]
    exact hQ _ _ ⟨rfl,h1⟩
  rw [if_neg h2] at hR
  simp (config:=KF) (disch:=omega) only [bZ,aA,bR,putS,Sf.set,Sf.reg,getR,setR,ae,Sf.disAt,look,↓reduceIte,Nat.reduceEqDiff,reduceCtorEq,f11_25e,f11_26e,f11_26l,f11_27e]
  refine bV (fun h3=>?_) (fun h3=>?_)
  · rw [if_pos h3] at hR
    subst hR
    simp (config:=KF) (disch:=omega) only [bZ,az,ev_f,putS,Sf.set,Sf.reg,getR,setR,id,↓reduceIte,Nat.reduceEqDiff,reduceCtorEq,f11_28e,f11_29e,f11_29l]
    refine ba rfl e_f20 (ga h hbd) rfl fun r st1 hr=>?_
    obtain ⟨rfl,h1⟩:=hr
    obtain ⟨w1,w2,w3,w4,w5,w6,w7⟩:=bE (aO P).2.2.1
    simp (config:=KF) (disch:=omega) only [bZ,aV,retI,resI,bP,aD,aq,aA,aF,extV,au,boxX,aM,addA,ak,al,bR,am,aG,ap,aE,putS,Sf.set,Sf.reg,getR,setR,ae,Sf.disAt,Sf.setLoc,look,aR,ao,bg,aj,aU,ar,ag,aa,ai,bq,List.length_cons,List.length_nil,List.getElem?_cons_zero,List.getElem?_cons_succ,List.all_cons,List.all_nil,List.drop_zero,List.take_succ_cons,List.take_zero,List.set_cons_zero,List.set_cons_succ,↓reduceIte,Nat.reduceEqDiff,Nat.reduceAdd,Nat.reduceLeDiff,Bool.true_and,Bool.and_true,and_true,true_and,reduceCtorEq,Nat.zero_add,Nat.add_zero,decide_true,ah,af,f11_30e,f11_30l,f11_36e,f11_37e,f11_37l,f11_38e,f11_39e,f11_39l,w1,w2,w3,w4,w6]
    exact hQ _ _ ⟨rfl,h1⟩
  rw [if_neg h3] at hR
  simp (config:=KF) (disch:=omega) only [bZ,aA,bR,putS,Sf.set,Sf.reg,getR,setR,ae,Sf.disAt,look,↓reduceIte,Nat.reduceEqDiff,reduceCtorEq,f11_31e,f11_32e,f11_32l,f11_33e]
  refine bV (fun h4=>?_) (fun h4=>?_)
  · rw [if_pos h4] at hR
    subst hR
    simp (config:=KF) (disch:=omega) only [bZ,aD,aq,az,au,addA,ak,ev_f,putS,Sf.set,Sf.reg,getR,setR,look,id,List.drop_zero,List.drop_succ_cons,↓reduceIte,Nat.reduceEqDiff,reduceCtorEq,Nat.zero_add,f11_34e,f11_34l]
    refine ba rfl e_f28 (mV h t (by omega)) rfl fun r st1 hr=>?_
    obtain ⟨rfl,h1⟩:=hr
    simp (config:=KF) (disch:=omega) only [bZ,aV,retI,resI,aD,aq,aA,aF,au,boxX,aM,addA,ak,al,am,aG,ap,aE,putS,Sf.set,Sf.reg,getR,setR,ae,Sf.disAt,Sf.setLoc,look,aR,ao,aj,ar,ag,aa,ai,bq,List.length_cons,List.length_nil,List.all_cons,List.all_nil,List.drop_zero,List.take_succ_cons,List.take_zero,List.set_cons_zero,List.set_cons_succ,↓reduceIte,Nat.reduceEqDiff,Nat.reduceAdd,Nat.reduceLeDiff,Bool.true_and,Bool.and_true,and_true,true_and,reduceCtorEq,Nat.zero_add,decide_true,ah,af,f11_36e,f11_37e,f11_37l,f11_38e,f11_39e,f11_39l]
    exact hQ _ _ ⟨rfl,h1⟩
  · rw [if_neg h4] at hR
    subst hR
    simp (config:=KF) (disch:=omega) only [bZ,az,ev_f,putS,Sf.set,Sf.reg,getR,setR,id,↓reduceIte,Nat.reduceEqDiff,reduceCtorEq,f11_35e,f11_35l]
    refine ba rfl e_f19 (o3 h hbd) rfl fun r st1 hr=>?_
    obtain ⟨rfl,h1⟩:=hr
    obtain ⟨w1,w2,w3,w4,w5,w6,w7⟩:=bE (dm P).2.1
    simp (config:=KF) (disch:=omega) only [bZ,aV,retI,resI,bP,aD,aq,aA,aF,extV,au,boxX,aM,addA,ak,al,am,aG,ap,aE,putS,Sf.set,Sf.reg,getR,setR,ae,Sf.disAt,Sf.setLoc,look,aR,ao,bg,aj,aU,ar,ag,aa,ai,bq,List.length_cons,List.length_nil,List.getElem?_cons_zero,List.getElem?_cons_succ,List.all_cons,List.all_nil,List.drop_zero,List.take_succ_cons,List.take_zero,List.set_cons_zero,List.set_cons_succ,↓reduceIte,Nat.reduceEqDiff,Nat.reduceAdd,Nat.reduceLeDiff,Bool.true_and,Bool.and_true,and_true,true_and,reduceCtorEq,Nat.zero_add,decide_true,ah,af,f11_36e,f11_37e,f11_37l,f11_38e,f11_39e,f11_39l,w1,w2,w3,w4,w6]
    exact hQ _ _ ⟨rfl,h1⟩
end
end Go.Fx.YtohlpjfhkejjgaaFx

