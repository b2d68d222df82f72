/- What the functions that the statement reaches compute: part 18. -/
import Derived.Test.YtohlpjfhkejjgaaFxW17
namespace Go.Fx.YtohlpjfhkejjgaaFx
open Go Go.Fx
attribute [local irreducible] aC runI aY cF

set_option maxRecDepth 100000
set_option maxHeartbeats 4000000

theorem atR_in {t:Int}:∀ {l:List W3} {k:Nat},t ∈ aP (wEnt 0 l)→0≤atR t l k
  | x :: l, k, h => by
    simp only [wEnt,aP,List.map_cons,List.mem_cons] at h
    simp only [atR]
    by_cases e:x.2.1 = t
    · rw [if_pos e]; omega
    · rw [if_neg e]
      exact atR_in (h.resolve_left fun q=>e q.symm)
theorem kI (P:ChP) (t:Int):(0≤atR t P.S 0∨0≤atR t P.V 0)↔t ∈ aP (entC P.S P.V):=by
  have h0:∀ l:List W3,0≤atR t l 0↔t ∈ aP (wEnt 0 l):=fun l=>by
    constructor
    · intro h
      by_cases e:t ∈ aP (wEnt 0 l)
      · exact e
      · rw [mE e] at h; omega
    · exact atR_in
  rw [h0,h0]
  simp only [entC,fQ,cU,List.mem_append]

/-- What the reference's Send does. -/
def rS (P:ChP) (t v:Int):ChP×Rs :=
  if t < -1∨64≤t then (P,0,false,[],2) else if t ∈ aP (entC P.S P.V) then (P,0,false,[],11) else if P.closed = true then (P,0,false,[],14) else
  match P.V with
  | x::l=>({ P with V:=l },0,true,[(x.2.1,v,0)],0)
  | [] => if P.buf.length < P.cap then ({ P with buf := P.buf ++ [v] }, 0, true, [], 0) else if t < 0 then (P, 0, false, [], 16) else
    ({ P with S:=P.S++[(P.g0 + 1,t,v)],g0:=P.g0 + 1 },0,false,[],0)
def rrAV (x:ChP×Rs):AV:=.tup [bu x.1,rsAV x.2]
theorem rr_nb (x:ChP×Rs):(rrAV x).NB:=.tup _ (by simp [ir,rs_nb])
def Sm (P:ChP):Prop:=P.S.length≤10000∧P.V.length≤10000∧P.buf.length≤10000

theorem oU (P:ChP) (t v:Int) (hl:Sm P) (st:St):bF Go.Proofs.Try.prog n_f42 [bu P,.lit (.int .i64 t),.lit (.int .i64 v)] st (rrAV (rS P t v)):=by
  unfold Sm at hl
  refine f8 hmix k_f42 rfl rfl (rr_nb _) (by simp [ir,eQ]) (fun Q hQ=>?_) st
  unfold aFun c_f42
  generalize hR:rS P t v = R at hQ
  unfold rS at hR
  have hw:=fun st=>ji P t (by omega) st
  simp only [kI] at hw
  by_cases h1:t < -1∨64≤t
  · rw [if_pos h1] at hR
    subst hR
    simp (config:=KF) (disch:=omega) only [bZ,aw,AI.dst,cm,dO,boxX,cI,ap,putS,Sf.set,Sf.reg,getR,setR,ae,Sf.newLoc,look,bW,aR,bt,ao,aj,aL,ag,aa,aB,ai,bD,bO,aX,List.length_cons,List.length_nil,List.all_cons,List.all_nil,↓reduceIte,Nat.reduceEqDiff,Nat.reduceAdd,Int.reduceNeg,Bool.true_and,Bool.and_true,and_true,true_and,reduceCtorEq,Nat.zero_add,f42_1e,f42_2e,f42_2l,f42_3e,f42_4e,f42_5e,f42_5l,bu,wlAV]
    refine c8 (fun h=>?_) (fun h=>?_)
    · simp (config:=KF) (disch:=omega) only [bZ,and_self,retI,resI,resL,aw,cQ,AI.dst,bX,a7,aq,bT,aF,bQ,au,bstV,boxX,aM,ak,al,aQ,am,aG,ap,aE,putS,Sf.set,Sf.reg,getR,setR,ae,Sf.disAt,Sf.setLoc,look,aR,ao,aj,aL,ar,ag,aa,aB,ai,bq,aJ,List.length_cons,List.length_nil,List.getElem?_cons_zero,List.getElem?_cons_succ,List.all_cons,List.all_nil,List.drop_zero,List.take_succ_cons,List.take_zero,List.set_cons_zero,List.set_cons_succ,↓reduceIte,Nat.reduceEqDiff,Nat.reduceAdd,Nat.reduceLeDiff,Int.reduceNeg,Bool.true_and,Bool.and_true,and_true,true_and,Nat.zero_add,decide_true,Bool.false_eq_true,ah,af,f42_6e,f42_7e,f42_8e,f42_8l]
      exact hQ _ _ (.refl _)
    · simp (config:=KF) (disch:=omega) only [bZ,and_self,retI,resI,resL,aw,AI.dst,a9,a7,aq,bT,aF,bN,au,bstV,boxX,aM,ak,al,aQ,ik,am,aG,ap,aE,putS,Sf.set,Sf.reg,getR,setR,ae,Sf.disAt,Sf.setLoc,look,aR,ao,aj,aL,ar,ag,aa,aB,ai,bq,aJ,List.length_cons,List.length_nil,List.getElem?_cons_zero,List.getElem?_cons_succ,List.all_cons,List.all_nil,List.drop_zero,List.take_succ_cons,List.take_zero,List.set_cons_zero,List.set_cons_succ,↓reduceIte,Nat.reduceEqDiff,Nat.reduceAdd,Nat.reduceLeDiff,Int.reduceNeg,Bool.true_and,Bool.and_true,and_true,true_and,Nat.zero_add,decide_true,Bool.false_eq_true,cN,ah,af,f42_6e,f42_7e,f42_8e,f42_8l]
      exact hQ _ _ (.refl _)
  rw [if_neg h1] at hR
  simp only [bu,wlAV] at hw
  simp (config:=KF) (disch:=omega) only [bZ,aw,AI.dst,a9,a7,aq,cm,dO,az,bN,au,boxX,ak,al,cI,ik,am,aG,ev_f,ap,putS,Sf.set,Sf.reg,getR,setR,ae,Sf.newLoc,look,bW,aR,bt,id,ao,aj,aL,ag,aa,aB,ai,bD,bO,aX,List.length_cons,List.length_nil,List.all_cons,List.all_nil,List.drop_zero,List.take_succ_cons,List.take_zero,↓reduceIte,Nat.reduceEqDiff,Nat.reduceAdd,Nat.reduceLeDiff,Int.reduceNeg,Bool.true_and,Bool.and_true,and_true,true_and,reduceCtorEq,Nat.zero_add,decide_true,Bool.false_eq_true,cB,dP,f42_1e,f42_2e,f42_2l,f42_3e,f42_4e,f42_5e,f42_5l,f42_6e,f42_9e,f42_10e,f42_11e,f42_11l,bu,wlAV]
  refine bA rfl e_f49 (hw _) rfl ?_
  by_cases h2:t ∈ aP (entC P.S P.V)
  · rw [if_pos h2] at hR
    subst hR
    rw [decide_eq_true h2]
    simp (config:=KF) (disch:=omega) only [bZ,and_self,retI,resI,resL,aq,bT,aF,au,bstV,boxX,aM,ak,al,aQ,am,aG,ap,aE,putS,Sf.set,Sf.reg,getR,setR,ae,Sf.disAt,Sf.setLoc,look,aR,ao,aj,aL,ar,ag,aa,aB,ai,bq,aJ,List.length_cons,List.length_nil,List.getElem?_cons_zero,List.getElem?_cons_succ,List.all_cons,List.all_nil,List.drop_zero,List.take_succ_cons,List.take_zero,List.set_cons_zero,List.set_cons_succ,↓reduceIte,Nat.reduceEqDiff,Nat.reduceAdd,Nat.reduceLeDiff,Bool.true_and,Bool.and_true,and_true,true_and,Nat.zero_add,decide_true,ah,af,f42_12e,f42_13e,f42_14e,f42_14l]
    exact hQ _ _ (.refl _)
  rw [if_neg h2] at hR
  rw [decide_eq_false h2]
  cases hcl:P.closed with
  | true =>
    rw [hcl] at hR
    simp only [if_true] at hR
    subst hR
    simp (config:=KF) (disch:=omega) only [bZ,and_self,retI,resI,resL,aD,aq,bT,aF,au,bstV,boxX,aM,addA,ak,al,aQ,am,aG,ap,aE,putS,Sf.set,Sf.reg,getR,setR,ae,Sf.disAt,Sf.setLoc,look,aR,ao,aj,aL,ar,ag,aa,aB,ai,bq,aJ,List.length_cons,List.length_nil,List.getElem?_cons_zero,List.getElem?_cons_succ,List.all_cons,List.all_nil,List.drop_zero,List.drop_succ_cons,List.take_succ_cons,List.take_zero,List.set_cons_zero,List.set_cons_succ,↓reduceIte,Nat.reduceEqDiff,Nat.reduceAdd,Nat.reduceLeDiff,Bool.true_and,Bool.and_true,and_true,true_and,Nat.zero_add,decide_true,ah,af,f42_12e,f42_15e,f42_16e,f42_17e,f42_17l,f42_18e,f42_19e,f42_20e,f42_20l]
    refine hQ _ _ ?_
    simp only [rrAV,bu,hcl]
    exact .refl _
  | false =>
    rw [hcl] at hR
    simp only [Bool.false_eq_true,if_false] at hR
    cases hV:P.V with
    | cons x l =>
      have hVl:P.V.length = l.length + 1:=by rw [hV]; rfl
      rw [hV] at hR
      simp only at hR
      subst hR
      have htl:List.take l.length (l.map wAV) = l.map wAV:=List.take_of_length_le (by simp)
      simp (config:=KF) (disch:=omega) only [bZ,List.contains_nil,List.contains_cons,Nat.reduceBEq,Bool.or_false,ksB,bz,bY,ci,bG,cO,cu,nstB,ck,da,cd,cX,cJ,cc,mq,mr,gz,eZ,eB,bp,eX,fM,and_self,retI,resI,resL,aD,nK,aq,cM,gq,jK,cm,aF,ixSV,au,gS,bslV,bstV,fH,iD,boxX,aM,List.reduceReplicate,ixA,ixTo,lenI,addA,ak,al,dg,aQ,ez,am,aG,ap,aE,putS,Sf.set,Sf.reg,getR,setR,ae,Sf.disAt,Sf.newLoc,Sf.setLoc,look,bW,aR,bk,c5,aW,ao,aj,aL,ar,dy,ag,aa,aB,ai,bq,aJ,bD,bO,nO,df,aX,List.length_cons,List.length_nil,List.getElem?_cons_zero,List.getElem?_cons_succ,List.getD_cons_zero,List.all_cons,List.all_nil,List.nil_append,List.drop_zero,List.drop_succ_cons,List.take_succ_cons,List.take_zero,List.set_cons_zero,List.set_cons_succ,Int.toNat_zero,Int.toNat_one,↓reduceIte,Nat.reduceEqDiff,Nat.reduceAdd,Nat.reduceLT,Nat.reduceLeDiff,Int.reduceLE,Bool.true_and,Bool.and_true,and_true,true_and,Nat.zero_add,Nat.add_zero,or_false,decide_true,Bool.not_false,Bool.false_eq_true,List.length_map,du,cN,ah,af,f42_12e,f42_15e,f42_16e,f42_17e,f42_17l,f42_18e,f42_21e,f42_22e,f42_23e,f42_23l,f42_24e,f42_25e,f42_26e,f42_26l,f42_27e,f42_28e,f42_28l,f42_29e,f42_30e,f42_30h,f42_30l,wAV,htl]
      refine hQ _ _ ?_
      simp only [rrAV,bu,hcl]
      exact .refl _
    | nil =>
      rw [hV] at hR
      simp only at hR
      simp (config:=KF) (disch:=omega) only [bZ,aD,aq,cM,au,lenI,addA,ak,cI,ez,putS,Sf.set,Sf.reg,getR,setR,ae,look,aW,List.length_nil,List.drop_zero,List.drop_succ_cons,Int.cast_ofNat_Int,↓reduceIte,Nat.reduceEqDiff,Nat.zero_add,Nat.add_zero,cB,f42_12e,f42_15e,f42_16e,f42_17e,f42_17l,f42_18e,f42_21e,f42_22e,f42_23e,f42_23l,f42_24e,f42_31e,f42_32e,f42_33e,f42_33l,f42_34e,cg]
      refine bV (fun h3=>?_) (fun h3=>?_)
      · rw [if_pos (by omega)] at hR
        subst hR
        rcases hB:P.buf with _ | ⟨b,B⟩
        · simp (config:=KF) (disch:=omega) only [bZ,and_self,retI,resI,resL,aD,aq,gp,bT,o_app,fI,aF,au,bslV,bstV,gt,boxX,aM,List.isEmpty_cons,List.isEmpty_nil,List.reduceReplicate,addA,ak,al,cR,srcA,dg,aQ,am,aG,ap,aE,putS,Sf.set,Sf.reg,getR,setR,ae,Sf.disAt,Sf.setLoc,look,aR,gv,aW,ao,aj,aL,ar,dy,ag,aa,aB,ai,bq,aJ,List.length_cons,List.length_nil,List.getElem?_cons_zero,List.getElem?_cons_succ,List.all_cons,List.all_nil,List.drop_zero,List.drop_succ_cons,List.take_succ_cons,List.take_zero,List.set_cons_zero,List.set_cons_succ,Int.cast_ofNat_Int,↓reduceIte,Nat.reduceEqDiff,Nat.reduceAdd,Nat.reduceLT,Nat.reduceLeDiff,Bool.true_and,Bool.and_true,and_true,true_and,Nat.zero_add,decide_true,Bool.false_eq_true,c9,ah,af,f42_35e,f42_36e,f42_36l,f42_37e,f42_38e,f42_38l,ints]
          refine hQ _ _ ?_
          simp only [rrAV,bu,hcl,hB,hV]
          exact .refl _
        · have hBl:P.buf.length = B.length + 1:=by rw [hB]; rfl
          have hi:ints (b::B) = .lit (.int .i64 b)::ints B:=rfl
          have hia:ints (b::B++[v]) = .lit (.int .i64 b)::(ints B++[.lit (.int .i64 v)]):=by simp [ints]
          have hid:=mD B
          simp (config:=KF) (disch:=omega) only [bZ,and_self,retI,resI,resL,aD,aq,gp,bT,o_app,fI,aF,au,bslV,bstV,gt,boxX,aM,List.isEmpty_cons,List.reduceReplicate,addA,ak,al,cR,eV,srcA,dg,aQ,am,aG,ap,aE,putS,Sf.set,Sf.reg,getR,setR,ae,Sf.disAt,Sf.setLoc,look,aR,gv,aW,ao,aj,aL,ar,dy,ag,aa,aB,ai,bq,aJ,List.length_cons,List.length_nil,List.getElem?_cons_zero,List.getElem?_cons_succ,List.all_cons,List.all_nil,List.cons_append,List.drop_zero,List.drop_succ_cons,List.take_succ_cons,List.take_zero,List.set_cons_zero,List.set_cons_succ,↓reduceIte,Nat.reduceEqDiff,Nat.reduceAdd,Nat.reduceLT,Nat.reduceLeDiff,Bool.true_and,Bool.and_true,and_true,true_and,Nat.zero_add,decide_true,Bool.false_eq_true,List.length_map,c9,kC,ah,af,f42_35e,f42_36e,f42_36l,f42_37e,f42_38e,f42_38l,hi,cg,hid]
          refine hQ _ _ ?_
          simp only [rrAV,bu,hcl,hB,hV,hia]
          exact .refl _
      · rw [if_neg (by omega)] at hR
        by_cases h4:t < 0
        · rw [if_pos h4] at hR
          subst hR
          simp (config:=KF) (disch:=omega) only [bZ,and_self,retI,resI,resL,aq,bT,aF,au,bstV,boxX,aM,ak,al,aQ,cI,am,aG,ap,aE,putS,Sf.set,Sf.reg,getR,setR,ae,Sf.disAt,Sf.setLoc,look,aR,ao,aj,aL,ar,ag,aa,aB,ai,bq,aJ,List.length_cons,List.length_nil,List.getElem?_cons_zero,List.getElem?_cons_succ,List.all_cons,List.all_nil,List.drop_zero,List.take_succ_cons,List.take_zero,List.set_cons_zero,List.set_cons_succ,↓reduceIte,Nat.reduceEqDiff,Nat.reduceAdd,Nat.reduceLeDiff,Bool.true_and,Bool.and_true,and_true,true_and,Nat.zero_add,decide_true,cN,ah,af,f42_39e,f42_40e,f42_41e,f42_41l,f42_42e,f42_43e,f42_44e,f42_44l]
          refine hQ _ _ ?_
          simp only [rrAV,bu,hcl,hV]
          exact .refl _
        · rw [if_neg h4] at hR
          subst hR
          have hwp:=fun st=>nY P.S (P.g0 + 1) t v (by omega) st
          simp only [wlAV,wAV] at hwp
          simp (config:=KF) (disch:=omega) only [bZ,and_self,aD,aq,bT,az,au,bstV,addA,ak,aQ,cI,ev_f,putS,Sf.set,Sf.reg,getR,setR,ae,look,id,aW,ar,ag,aa,ai,List.length_cons,List.length_nil,List.getElem?_cons_zero,List.getElem?_cons_succ,List.all_cons,List.all_nil,List.drop_zero,List.drop_succ_cons,List.set_cons_zero,List.set_cons_succ,↓reduceIte,Nat.reduceEqDiff,Nat.reduceAdd,Nat.reduceLeDiff,Bool.and_true,and_true,Nat.zero_add,cB,ah,af,f42_39e,f42_40e,f42_41e,f42_41l,f42_42e,f42_45e,f42_46e,f42_46l]
          refine bA rfl e_f50 (hwp _) rfl ?_
          simp (config:=KF) (disch:=omega) only [bZ,retI,resI,resL,aD,aq,bT,aF,au,bstV,boxX,aM,addA,ak,al,aQ,am,aG,ap,aE,putS,Sf.set,Sf.reg,getR,setR,ae,Sf.disAt,Sf.setLoc,look,aR,aW,ao,aj,aL,dy,ag,aa,aB,ai,bq,aJ,List.length_cons,List.length_nil,List.all_cons,List.all_nil,List.drop_zero,List.take_succ_cons,List.take_zero,List.set_cons_zero,List.set_cons_succ,↓reduceIte,Nat.reduceEqDiff,Nat.reduceAdd,Nat.reduceLeDiff,Bool.true_and,Bool.and_true,and_true,true_and,Nat.zero_add,decide_true,ah,af,f42_47e,f42_48e,f42_48l]
          refine hQ _ _ ?_
          simp only [rrAV,bu,hcl,hV]
          exact .refl _
end Go.Fx.YtohlpjfhkejjgaaFx

