/- What the functions that the statement reaches compute: part 21. -/
import Derived.Test.YtohlpjfhkejjgaaFxW20
namespace Go.Fx.YtohlpjfhkejjgaaFx
open Go Go.Fx
attribute [local irreducible] aC runI aY cF

set_option maxRecDepth 100000
set_option maxHeartbeats 4000000

theorem chk_2 {P:ChP} {t:Int} (h:t < 0∨64≤t):chk P t = 2:=by unfold chk; rw [if_pos h]
theorem chk_b {P:ChP} {t:Int} (h:¬ (t < 0∨64≤t)) (h2:t ∈ aP (entC P.S P.V)):chk P t = 11:=by unfold chk; rw [if_neg h,if_pos h2]
theorem chk_0 {P:ChP} {t:Int} (h:¬ (t < 0∨64≤t)) (h2:t ∉ aP (entC P.S P.V)):chk P t = 0:=by unfold chk; rw [if_neg h,if_neg h2]

theorem rS_pos (P:ChP) (w t v:Int) (h:0≤t) (hw:w = 0):rS P t v = pDo P (w,t,v):=by
  subst hw
  rw [pDo_0]
  unfold rS eJ
  by_cases h1:64≤t
  · rw [if_pos (.inr h1),chk_2 (.inr h1)]; rfl
  rw [if_neg (by omega)]
  by_cases h2:t ∈ aP (entC P.S P.V)
  · rw [if_pos h2,chk_b (by omega) h2]; rfl
  rw [if_neg h2,chk_0 (by omega) h2]
  unfold bI
  simp only [ne_eq,not_true_eq_false,if_false]
  by_cases h3:P.closed = true
  · simp only [if_pos h3]; rfl
  simp only [if_neg h3]
  cases hV:P.V with
  | cons x l=>rfl
  | nil =>
    simp only
    by_cases h4:P.buf.length < P.cap
    · simp only [if_pos h4]; rfl
    · simp only [if_neg h4,if_true,if_neg (show ¬ t < 0 by omega)]
theorem rS_neg (P:ChP) (w t v:Int) (h:∀ t ∈ aP (entC P.S P.V),0≤t) (hw:w = 2):rS P (-1) v = pDo P (w,t,v):=by
  subst hw
  rw [pDo_2]
  unfold rS
  have h2:¬ (-1:Int) ∈ aP (entC P.S P.V):=fun e=>by have:=h _ e; omega
  rw [if_neg (by omega),if_neg h2]
  unfold bI
  by_cases h3:P.closed = true
  · simp only [if_pos h3]; rfl
  simp only [if_neg h3]
  cases hV:P.V with
  | cons x l=>rfl
  | nil =>
    simp only
    by_cases h4:P.buf.length < P.cap
    · simp only [if_pos h4]; rfl
    · simp only [if_neg h4]; rfl
theorem rR_pos (P:ChP) (w t v:Int) (h:0≤t) (hw:w = 1):rR P t = pDo P (w,t,v):=by
  subst hw
  rw [pDo_1]
  unfold rR co
  by_cases h1:64≤t
  · rw [if_pos (.inr h1),chk_2 (.inr h1)]; rfl
  rw [if_neg (by omega)]
  by_cases h2:t ∈ aP (entC P.S P.V)
  · rw [if_pos h2,chk_b (by omega) h2]; rfl
  rw [if_neg h2,chk_0 (by omega) h2]
  unfold aO
  simp only [ne_eq,not_true_eq_false,if_false]
  cases hS:P.S with
  | cons x l=>rfl
  | nil =>
    simp only
    cases hB:P.buf with
    | cons x l=>rfl
    | nil =>
      simp only
      by_cases h3:P.closed = true
      · simp only [if_pos h3]; rfl
      · simp only [if_neg h3,if_true,if_neg (show ¬ t < 0 by omega)]
theorem rR_neg (P:ChP) (w t v:Int) (h:∀ t ∈ aP (entC P.S P.V),0≤t) (hw:w = 3):rR P (-1) = pDo P (w,t,v):=by
  subst hw
  rw [pDo_3]
  unfold rR
  have h2:¬ (-1:Int) ∈ aP (entC P.S P.V):=fun e=>by have:=h _ e; omega
  rw [if_neg (by omega),if_neg h2]
  unfold aO
  cases hS:P.S with
  | cons x l=>rfl
  | nil =>
    simp only
    cases hB:P.buf with
    | cons x l=>rfl
    | nil =>
      simp only
      by_cases h3:P.closed = true
      · simp only [if_pos h3]; rfl
      · simp only [if_neg h3]; rfl

/-- What makes answers. -/
theorem makes_pure (P:ChP) (a:Ca) (hl:Sm P) (hnd:(aP (entC P.S P.V)).Nodup) (hr:∀ t ∈ aP (entC P.S P.V),0≤t) (st:St):bF Go.Proofs.Try.prog n_f31 [bu P,caAV a] st (rrAV (pDo P a)):=by
  obtain ⟨w,t,v⟩:=a
  refine f8 hmix k_f31 rfl rfl (rr_nb _) (by simp [ir,caAV,nb_agg,eQ]) (fun Q hQ=>?_) st
  unfold aFun c_f31
  have hs:=fun t v=>oU P t v hl ⟨[]⟩
  have hrv:=fun t=>oV P t hl ⟨[]⟩
  have hcn:=mF P t hl hnd ⟨[]⟩
  have hcl:=mX P hl ⟨[]⟩
  have hq':Q (rrAV (pDo P (w,t,v))) ⟨[]⟩:=hQ _ _ (.refl _)
  have h0:w = 0→t < 0→pDo P (w,t,v) = (P,0,false,[],2):=fun e h=>by
    subst e
    rw [pDo_0]; unfold eJ; rw [chk_2 (.inl h)]; rfl
  have h1:w = 1→t < 0→pDo P (w,t,v) = (P,0,false,[],2):=fun e h=>by
    subst e
    rw [pDo_1]; unfold co; rw [chk_2 (.inl h)]; rfl
  simp only [bu,wlAV] at hs hrv hcn hcl
  have hfin:∀ R,pDo P (w,t,v) = R→∀ w1 w2,rrAV R = .tup [w1,w2]→True:=fun _ _ _ _ _=>trivial
  simp (config:=KF) (disch:=omega) only [bZ,aD,aq,aA,cm,dO,au,boxX,addA,ak,bR,ap,putS,Sf.set,Sf.reg,getR,setR,ae,Sf.disAt,Sf.newLoc,look,bW,aR,bt,ao,aj,aL,ag,aa,aB,ai,bO,aX,List.length_cons,List.length_nil,List.all_cons,List.all_nil,List.drop_zero,↓reduceIte,Nat.reduceEqDiff,Nat.reduceAdd,Bool.true_and,Bool.and_true,and_true,true_and,reduceCtorEq,Nat.zero_add,Nat.add_zero,f31_1e,f31_2e,f31_2l,f31_3e,f31_4e,f31_5e,f31_5l,f31_6e,f31_7e,f31_8e,f31_8l,f31_9e,bu,wlAV,caAV]
  refine bV (fun e0=>?_) (fun e0=>?_)
  · simp (config:=KF) (disch:=omega) only [bZ,aD,aq,au,addA,ak,cI,putS,Sf.set,Sf.reg,getR,setR,ae,look,List.drop_zero,List.drop_succ_cons,↓reduceIte,Nat.reduceEqDiff,Nat.zero_add,f31_10e,f31_11e,f31_12e,f31_12l,f31_13e]
    refine bV (fun e=>?_) (fun e=>?_)
    · rw [h0 e0 e] at hq'
      simp (config:=KF) (disch:=omega) only [bZ,and_self,bU,retI,resI,resL,aq,bT,aF,au,bstV,boxX,aM,ak,al,aQ,am,aG,ap,aE,putS,Sf.set,Sf.reg,getR,setR,ae,Sf.disAt,Sf.setLoc,look,aR,ao,aj,aL,ar,ag,aa,aB,ai,bq,aJ,List.length_cons,List.length_nil,List.getElem?_cons_zero,List.getElem?_cons_succ,List.all_cons,List.all_nil,List.drop_zero,List.take_succ_cons,List.take_zero,List.set_cons_zero,List.set_cons_succ,↓reduceIte,Nat.reduceEqDiff,Nat.reduceAdd,Nat.reduceLeDiff,Bool.true_and,Bool.and_true,and_true,true_and,Nat.zero_add,decide_true,ah,af,f31_14e,f31_15e,f31_15l]
      exact hq'
    · simp (config:=KF) (disch:=omega) only [bZ,aD,aq,az,au,addA,ak,al,am,aG,ev_f,putS,Sf.set,Sf.reg,getR,setR,look,id,ao,aj,aL,List.length_cons,List.length_nil,List.drop_zero,List.drop_succ_cons,List.take_succ_cons,List.take_zero,↓reduceIte,Nat.reduceEqDiff,Nat.reduceAdd,Nat.reduceLeDiff,Nat.zero_add,decide_true,f31_16e,f31_17e,f31_17l]
      refine bA rfl e_f42 (hs t v) rfl ?_
      rw [rS_pos P w t v (by omega) e0]
      generalize pDo P (w,t,v) = R at *
      obtain ⟨w1,w2,w3,w4,w5,w6,w7⟩:=bE R.2.2.2.1
      simp only [rrAV,bu,wlAV,rsAV] at hq'
      simp (config:=KF) (disch:=omega) only [bZ,bU,retI,resI,resL,bP,aF,extV,boxX,aM,ak,al,am,aG,ap,aE,putS,Sf.set,Sf.reg,getR,setR,ae,Sf.disAt,Sf.setLoc,look,aR,ao,aj,aL,ag,aa,aB,ai,bq,aJ,List.length_cons,List.length_nil,List.getElem?_cons_zero,List.getElem?_cons_succ,List.all_cons,List.all_nil,List.drop_zero,List.take_succ_cons,List.take_zero,List.set_cons_zero,List.set_cons_succ,↓reduceIte,Nat.reduceEqDiff,Nat.reduceAdd,Nat.reduceLeDiff,Bool.true_and,Bool.and_true,and_true,true_and,Nat.zero_add,decide_true,ah,af,rrAV,bu,wlAV,rsAV,w2,w4]
      exact hq'
  simp (config:=KF) (disch:=omega) only [bZ,aA,bR,putS,Sf.set,Sf.reg,getR,setR,ae,Sf.disAt,look,↓reduceIte,Nat.reduceEqDiff,f31_18e,f31_19e,f31_19l,f31_20e]
  refine bV (fun e1=>?_) (fun e1=>?_)
  · simp (config:=KF) (disch:=omega) only [bZ,aD,aq,au,addA,ak,cI,putS,Sf.set,Sf.reg,getR,setR,ae,look,List.drop_zero,List.drop_succ_cons,↓reduceIte,Nat.reduceEqDiff,Nat.zero_add,f31_21e,f31_22e,f31_23e,f31_23l,f31_24e]
    refine bV (fun e=>?_) (fun e=>?_)
    · rw [h1 e1 e] at hq'
      simp (config:=KF) (disch:=omega) only [bZ,and_self,bU,retI,resI,resL,aq,bT,aF,au,bstV,boxX,aM,ak,al,aQ,am,aG,ap,aE,putS,Sf.set,Sf.reg,getR,setR,ae,Sf.disAt,Sf.setLoc,look,aR,ao,aj,aL,ar,ag,aa,aB,ai,bq,aJ,List.length_cons,List.length_nil,List.getElem?_cons_zero,List.getElem?_cons_succ,List.all_cons,List.all_nil,List.drop_zero,List.take_succ_cons,List.take_zero,List.set_cons_zero,List.set_cons_succ,↓reduceIte,Nat.reduceEqDiff,Nat.reduceAdd,Nat.reduceLeDiff,Bool.true_and,Bool.and_true,and_true,true_and,Nat.zero_add,decide_true,ah,af,f31_25e,f31_26e,f31_26l]
      exact hq'
    · simp (config:=KF) (disch:=omega) only [bZ,aD,aq,az,au,addA,ak,al,am,aG,ev_f,putS,Sf.set,Sf.reg,getR,setR,look,id,ao,aj,aL,List.length_cons,List.length_nil,List.drop_zero,List.drop_succ_cons,List.take_succ_cons,List.take_zero,↓reduceIte,Nat.reduceEqDiff,Nat.reduceAdd,Nat.reduceLeDiff,Nat.zero_add,decide_true,f31_27e,f31_28e,f31_28l]
      refine bA rfl e_f43 (hrv t) rfl ?_
      rw [rR_pos P w t v (by omega) e1]
      generalize pDo P (w,t,v) = R at *
      obtain ⟨w1,w2,w3,w4,w5,w6,w7⟩:=bE R.2.2.2.1
      simp only [rrAV,bu,wlAV,rsAV] at hq'
      simp (config:=KF) (disch:=omega) only [bZ,bU,retI,resI,resL,bP,aF,extV,boxX,aM,ak,al,am,aG,ap,aE,putS,Sf.set,Sf.reg,getR,setR,ae,Sf.disAt,Sf.setLoc,look,aR,ao,aj,aL,ag,aa,aB,ai,bq,aJ,List.length_cons,List.length_nil,List.getElem?_cons_zero,List.getElem?_cons_succ,List.all_cons,List.all_nil,List.drop_zero,List.take_succ_cons,List.take_zero,List.set_cons_zero,List.set_cons_succ,↓reduceIte,Nat.reduceEqDiff,Nat.reduceAdd,Nat.reduceLeDiff,Bool.true_and,Bool.and_true,and_true,true_and,Nat.zero_add,decide_true,ah,af,rrAV,bu,wlAV,rsAV,w2,w4]
      exact hq'
  simp (config:=KF) (disch:=omega) only [bZ,aA,bR,putS,Sf.set,Sf.reg,getR,setR,ae,Sf.disAt,look,↓reduceIte,Nat.reduceEqDiff,f31_29e,f31_30e,f31_30l,f31_31e]
  refine bV (fun e2=>?_) (fun e2=>?_)
  · simp (config:=KF) (disch:=omega) only [bZ,aD,aq,az,au,addA,ak,al,am,aG,ev_f,putS,Sf.set,Sf.reg,getR,setR,look,id,ao,aj,aL,List.length_cons,List.length_nil,List.drop_zero,List.drop_succ_cons,List.take_succ_cons,List.take_zero,↓reduceIte,Nat.reduceEqDiff,Nat.reduceAdd,Nat.reduceLeDiff,Int.reduceNeg,Nat.zero_add,decide_true,f31_32e,f31_33e,f31_33l]
    refine bA rfl e_f42 (hs (-1) v) rfl ?_
    rw [rS_neg P w t v hr e2]
    generalize pDo P (w,t,v) = R at *
    obtain ⟨w1,w2,w3,w4,w5,w6,w7⟩:=bE R.2.2.2.1
    simp only [rrAV,bu,wlAV,rsAV] at hq'
    simp (config:=KF) (disch:=omega) only [bZ,bU,retI,resI,resL,bP,aF,extV,boxX,aM,ak,al,am,aG,ap,aE,putS,Sf.set,Sf.reg,getR,setR,ae,Sf.disAt,Sf.setLoc,look,aR,ao,aj,aL,ag,aa,aB,ai,bq,aJ,List.length_cons,List.length_nil,List.getElem?_cons_zero,List.getElem?_cons_succ,List.all_cons,List.all_nil,List.drop_zero,List.take_succ_cons,List.take_zero,List.set_cons_zero,List.set_cons_succ,↓reduceIte,Nat.reduceEqDiff,Nat.reduceAdd,Nat.reduceLeDiff,Bool.true_and,Bool.and_true,and_true,true_and,Nat.zero_add,decide_true,ah,af,rrAV,bu,wlAV,rsAV,w2,w4]
    exact hq'
  simp (config:=KF) (disch:=omega) only [bZ,aA,bR,putS,Sf.set,Sf.reg,getR,setR,ae,Sf.disAt,look,↓reduceIte,Nat.reduceEqDiff,f31_34e,f31_35e,f31_35l,f31_36e]
  refine bV (fun e3=>?_) (fun e3=>?_)
  · simp (config:=KF) (disch:=omega) only [bZ,aq,az,au,ak,al,am,aG,ev_f,putS,Sf.set,Sf.reg,getR,setR,look,id,ao,aj,aL,List.length_cons,List.length_nil,List.drop_zero,List.take_succ_cons,List.take_zero,↓reduceIte,Nat.reduceEqDiff,Nat.reduceAdd,Nat.reduceLeDiff,Int.reduceNeg,Nat.zero_add,decide_true,f31_37e,f31_38e,f31_38l]
    refine bA rfl e_f43 (hrv (-1)) rfl ?_
    rw [rR_neg P w t v hr e3]
    generalize pDo P (w,t,v) = R at *
    obtain ⟨w1,w2,w3,w4,w5,w6,w7⟩:=bE R.2.2.2.1
    simp only [rrAV,bu,wlAV,rsAV] at hq'
    simp (config:=KF) (disch:=omega) only [bZ,bU,retI,resI,resL,bP,aF,extV,boxX,aM,ak,al,am,aG,ap,aE,putS,Sf.set,Sf.reg,getR,setR,ae,Sf.disAt,Sf.setLoc,look,aR,ao,aj,aL,ag,aa,aB,ai,bq,aJ,List.length_cons,List.length_nil,List.getElem?_cons_zero,List.getElem?_cons_succ,List.all_cons,List.all_nil,List.drop_zero,List.take_succ_cons,List.take_zero,List.set_cons_zero,List.set_cons_succ,↓reduceIte,Nat.reduceEqDiff,Nat.reduceAdd,Nat.reduceLeDiff,Bool.true_and,Bool.and_true,and_true,true_and,Nat.zero_add,decide_true,ah,af,rrAV,bu,wlAV,rsAV,w2,w4]
    exact hq'
  simp (config:=KF) (disch:=omega) only [bZ,aA,bR,putS,Sf.set,Sf.reg,getR,setR,ae,Sf.disAt,look,↓reduceIte,Nat.reduceEqDiff,f31_39e,f31_40e,f31_40l,f31_41e]
  refine bV (fun e4=>?_) (fun e4=>?_)
  · have hd:pDo P (w,t,v) = ((dw P t).1,0,false,[],(dw P t).2):=by
      unfold pDo; simp only [if_neg e0,if_neg e1,if_neg e2,if_neg e3,if_pos e4]
    rw [hd] at hq'
    simp (config:=KF) (disch:=omega) only [bZ,aD,aq,az,au,addA,ak,al,am,aG,ev_f,putS,Sf.set,Sf.reg,getR,setR,look,id,ao,aj,aL,List.length_cons,List.length_nil,List.drop_zero,List.drop_succ_cons,List.take_succ_cons,List.take_zero,↓reduceIte,Nat.reduceEqDiff,Nat.reduceAdd,Nat.reduceLeDiff,Nat.zero_add,decide_true,f31_42e,f31_43e,f31_43l]
    refine bA rfl e_f44 hcn rfl ?_
    generalize (((dw P t).1,0,false,[],(dw P t).2):ChP×Rs) = R at *
    obtain ⟨w1,w2,w3,w4,w5,w6,w7⟩:=bE R.2.2.2.1
    simp only [rrAV,bu,wlAV,rsAV] at hq'
    simp (config:=KF) (disch:=omega) only [bZ,bU,retI,resI,resL,bP,aF,extV,boxX,aM,ak,al,am,aG,ap,aE,putS,Sf.set,Sf.reg,getR,setR,ae,Sf.disAt,Sf.setLoc,look,aR,ao,aj,aL,ag,aa,aB,ai,bq,aJ,List.length_cons,List.length_nil,List.getElem?_cons_zero,List.getElem?_cons_succ,List.all_cons,List.all_nil,List.drop_zero,List.take_succ_cons,List.take_zero,List.set_cons_zero,List.set_cons_succ,↓reduceIte,Nat.reduceEqDiff,Nat.reduceAdd,Nat.reduceLeDiff,Bool.true_and,Bool.and_true,and_true,true_and,Nat.zero_add,decide_true,ah,af,rrAV,bu,wlAV,rsAV,w2,w4]
    exact hq'
  · have hd:pDo P (w,t,v) = ((dm P).1,0,false,(dm P).2.1,(dm P).2.2):=by
      unfold pDo; simp only [if_neg e0,if_neg e1,if_neg e2,if_neg e3,if_neg e4]
    rw [hd] at hq'
    simp (config:=KF) (disch:=omega) only [bZ,aV,aq,az,au,ak,al,am,aG,ev_f,putS,Sf.set,Sf.reg,getR,setR,look,id,ao,aj,aL,List.length_cons,List.length_nil,List.drop_zero,List.take_succ_cons,List.take_zero,↓reduceIte,Nat.reduceEqDiff,Nat.reduceAdd,Nat.reduceLeDiff,Nat.zero_add,decide_true,f31_44e,f31_45e,f31_45l]
    refine bA rfl e_f45 hcl rfl ?_
    generalize (((dm P).1,0,false,(dm P).2.1,(dm P).2.2):ChP×Rs) = R at *
    obtain ⟨w1,w2,w3,w4,w5,w6,w7⟩:=bE R.2.2.2.1
    simp only [rrAV,bu,wlAV,rsAV] at hq'
    simp (config:=KF) (disch:=omega) only [bZ,retI,resI,resL,bP,aF,extV,boxX,aM,ak,al,am,aG,ap,aE,putS,Sf.set,Sf.reg,getR,setR,ae,Sf.disAt,Sf.setLoc,look,aR,ao,aj,aL,ag,aa,aB,ai,bq,aJ,List.length_cons,List.length_nil,List.getElem?_cons_zero,List.getElem?_cons_succ,List.all_cons,List.all_nil,List.drop_zero,List.take_succ_cons,List.take_zero,List.set_cons_zero,List.set_cons_succ,↓reduceIte,Nat.reduceEqDiff,Nat.reduceAdd,Nat.reduceLeDiff,Bool.true_and,Bool.and_true,and_true,true_and,Nat.zero_add,decide_true,ah,af,rrAV,bu,wlAV,rsAV,w2,w4]
    exact hq'
end Go.Fx.YtohlpjfhkejjgaaFx

