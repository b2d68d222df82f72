/- What the functions that the statement reaches compute: part 19. -/
import Derived.Test.YtohlpjfhkejjgaaFxW18
namespace Go.Fx.YtohlpjfhkejjgaaFx
open Go Go.Fx
attribute [local irreducible] aC runI aY cF

set_option maxRecDepth 100000
set_option maxHeartbeats 4000000

/-- What the reference's Receive does. -/
def rR (P:ChP) (t:Int):ChP×Rs :=
  if t < -1∨64≤t then (P,0,false,[],2) else if t ∈ aP (entC P.S P.V) then (P,0,false,[],11) else
  match P.S with
  | x::l=>({ P with S:=l,buf:=(P.buf++[x.2.2]).tail },(P.buf++[x.2.2]).headD 0,true,[(x.2.1,0,0)],0)
  | [] => match P.buf with
    | x::b=>({ P with buf:=b },x,true,[],0)
    | [] => if P.closed = true then (P, 0, false, [], 13) else if t < 0 then (P, 0, false, [], 16) else
      ({ P with V:=P.V++[(P.g1 + 1,t,0)],g1:=P.g1 + 1 },0,false,[],0)

theorem oV (P:ChP) (t:Int) (hl:Sm P) (st:St):bF Go.Proofs.Try.prog n_f43 [bu P,.lit (.int .i64 t)] st (rrAV (rR P t)):=by
  unfold Sm at hl
  refine f8 hmix k_f43 rfl rfl (rr_nb _) (by simp [ir,eQ]) (fun Q hQ=>?_) st
  unfold aFun c_f43
  generalize hR:rR P t = R at hQ
  unfold rR at hR
  have hw:=fun st=>ji P t (by omega) st
  simp only [kI] at hw
  by_cases h1:t < -1∨64≤t
  · rw [if_pos h1] at hR
    subst hR
    simp (config:=KF) (disch:=omega) only [bZ,aw,AI.dst,cm,dO,boxX,cI,ap,putS,Sf.set,Sf.reg,getR,setR,ae,Sf.newLoc,look,bW,aR,bt,ao,aj,aL,ag,aa,aB,ai,bD,bO,aX,List.length_cons,List.length_nil,List.all_cons,List.all_nil,↓reduceIte,Nat.reduceEqDiff,Nat.reduceAdd,Int.reduceNeg,Bool.true_and,Bool.and_true,and_true,true_and,reduceCtorEq,Nat.zero_add,f43_1e,f43_2e,f43_2l,f43_3e,f43_4e,f43_5e,f43_5l,bu,wlAV]
    refine c8 (fun h=>?_) (fun h=>?_)
    · simp (config:=KF) (disch:=omega) only [bZ,and_self,retI,resI,resL,aw,cQ,AI.dst,bX,a7,aq,bT,aF,bQ,au,bstV,boxX,aM,ak,al,aQ,am,aG,ap,aE,putS,Sf.set,Sf.reg,getR,setR,ae,Sf.disAt,Sf.setLoc,look,aR,ao,aj,aL,ar,ag,aa,aB,ai,bq,aJ,List.length_cons,List.length_nil,List.getElem?_cons_zero,List.getElem?_cons_succ,List.all_cons,List.all_nil,List.drop_zero,List.take_succ_cons,List.take_zero,List.set_cons_zero,List.set_cons_succ,↓reduceIte,Nat.reduceEqDiff,Nat.reduceAdd,Nat.reduceLeDiff,Int.reduceNeg,Bool.true_and,Bool.and_true,and_true,true_and,Nat.zero_add,decide_true,Bool.false_eq_true,ah,af,f43_6e,f43_7e,f43_8e,f43_8l]
      exact hQ _ _ (.refl _)
    · simp (config:=KF) (disch:=omega) only [bZ,and_self,retI,resI,resL,aw,AI.dst,a9,a7,aq,bT,aF,bN,au,bstV,boxX,aM,ak,al,aQ,ik,am,aG,ap,aE,putS,Sf.set,Sf.reg,getR,setR,ae,Sf.disAt,Sf.setLoc,look,aR,ao,aj,aL,ar,ag,aa,aB,ai,bq,aJ,List.length_cons,List.length_nil,List.getElem?_cons_zero,List.getElem?_cons_succ,List.all_cons,List.all_nil,List.drop_zero,List.take_succ_cons,List.take_zero,List.set_cons_zero,List.set_cons_succ,↓reduceIte,Nat.reduceEqDiff,Nat.reduceAdd,Nat.reduceLeDiff,Int.reduceNeg,Bool.true_and,Bool.and_true,and_true,true_and,Nat.zero_add,decide_true,Bool.false_eq_true,cN,ah,af,f43_6e,f43_7e,f43_8e,f43_8l]
      exact hQ _ _ (.refl _)
  rw [if_neg h1] at hR
  simp only [bu,wlAV] at hw
  simp (config:=KF) (disch:=omega) only [bZ,aw,AI.dst,a9,a7,aq,cm,dO,az,bN,au,boxX,ak,al,cI,ik,am,aG,ev_f,ap,putS,Sf.set,Sf.reg,getR,setR,ae,Sf.newLoc,look,bW,aR,bt,id,ao,aj,aL,ag,aa,aB,ai,bD,bO,aX,List.length_cons,List.length_nil,List.all_cons,List.all_nil,List.drop_zero,List.take_succ_cons,List.take_zero,↓reduceIte,Nat.reduceEqDiff,Nat.reduceAdd,Nat.reduceLeDiff,Int.reduceNeg,Bool.true_and,Bool.and_true,and_true,true_and,reduceCtorEq,Nat.zero_add,decide_true,Bool.false_eq_true,cB,dP,f43_1e,f43_2e,f43_2l,f43_3e,f43_4e,f43_5e,f43_5l,f43_6e,f43_9e,f43_10e,f43_11e,f43_11l,bu,wlAV]
  refine bA rfl e_f49 (hw _) rfl ?_
  by_cases h2:t ∈ aP (entC P.S P.V)
  · rw [if_pos h2] at hR
    subst hR
    rw [decide_eq_true h2]
    simp (config:=KF) (disch:=omega) only [bZ,and_self,retI,resI,resL,aq,bT,aF,au,bstV,boxX,aM,ak,al,aQ,am,aG,ap,aE,putS,Sf.set,Sf.reg,getR,setR,ae,Sf.disAt,Sf.setLoc,look,aR,ao,aj,aL,ar,ag,aa,aB,ai,bq,aJ,List.length_cons,List.length_nil,List.getElem?_cons_zero,List.getElem?_cons_succ,List.all_cons,List.all_nil,List.drop_zero,List.take_succ_cons,List.take_zero,List.set_cons_zero,List.set_cons_succ,↓reduceIte,Nat.reduceEqDiff,Nat.reduceAdd,Nat.reduceLeDiff,Bool.true_and,Bool.and_true,and_true,true_and,Nat.zero_add,decide_true,ah,af,f43_12e,f43_13e,f43_14e,f43_14l]
    exact hQ _ _ (.refl _)
  rw [if_neg h2] at hR
  rw [decide_eq_false h2]
  cases hS:P.S with
  | cons x l =>
    have hSl:P.S.length = l.length + 1:=by rw [hS]; rfl
    have htl:List.take l.length (l.map wAV) = l.map wAV:=List.take_of_length_le (by simp)
    rw [hS] at hR
    simp only at hR
    rcases hB:P.buf with _ | ⟨b,B⟩
    · rw [hB] at hR
      simp only [List.nil_append,List.tail_cons,List.headD_cons] at hR
      subst hR
      simp (config:=KF) (disch:=omega) only [bZ,List.contains_nil,List.contains_cons,Nat.reduceBEq,Bool.or_false,ksB,bz,bY,ci,bG,cO,cu,nstB,ck,da,cd,cc,gz,eZ,eB,bp,eX,fM,and_self,retI,resI,resL,aD,nK,aq,gp,bT,cM,o_app,gq,aA,jK,fI,cm,aF,ixSV,au,gS,bslV,bstV,fH,iD,gt,boxX,aM,List.isEmpty_cons,List.isEmpty_nil,List.reduceReplicate,ixA,ixTo,lenI,addA,ak,al,cR,srcA,dg,aQ,eI,ez,am,aG,ap,aE,putS,Sf.set,Sf.reg,getR,setR,ae,Sf.disAt,Sf.newLoc,Sf.setLoc,look,bW,aR,bk,gv,c5,aW,ao,aj,aL,ar,dy,ag,aa,aB,ai,bq,aJ,bD,bO,aX,List.length_cons,List.length_nil,List.getElem?_cons_zero,List.getElem?_cons_succ,List.getD_cons_zero,List.all_cons,List.all_nil,List.nil_append,List.drop_zero,List.drop_succ_cons,List.take_succ_cons,List.take_zero,List.set_cons_zero,List.set_cons_succ,Int.toNat_zero,Int.toNat_one,Int.cast_ofNat_Int,↓reduceIte,Nat.reduceEqDiff,Nat.reduceAdd,Nat.reduceLT,Nat.reduceLeDiff,Int.reduceLT,Int.reduceLE,Bool.true_and,Bool.and_true,and_true,true_and,Nat.zero_add,Nat.add_zero,or_false,decide_true,Bool.not_false,Bool.false_eq_true,List.length_map,du,c9,cN,IntWalk.i64_in,up_addR,ah,af,f43_12e,f43_15e,f43_16e,f43_17e,f43_17l,f43_18e,f43_19e,f43_20e,f43_20l,f43_21e,f43_22e,f43_22l,f43_23e,f43_24e,f43_25e,f43_25l,f43_26e,f43_27e,f43_28e,f43_28l,f43_29e,f43_30e,f43_30l,f43_31e,f43_31l,f43_32e,f43_33e,f43_33l,f43_34e,f43_35e,f43_35l,f43_36e,f43_37e,f43_37h,f43_37l,wAV,htl,ints]
      refine hQ _ _ ?_
      simp only [rrAV,bu]
      exact .refl _
    · have hBl:P.buf.length = B.length + 1:=by rw [hB]; rfl
      rw [hB] at hR
      simp only [List.cons_append,List.tail_cons,List.headD_cons] at hR
      subst hR
      have hi:ints (b::B) = .lit (.int .i64 b)::ints B:=rfl
      have hia:ints (B++[x.2.2]) = ints B++[.lit (.int .i64 x.2.2)]:=by simp [ints]
      have hid:=mD B
      have hit:List.take (B.length + 1) (ints B++[.lit (.int .i64 x.2.2)]) = ints B++[.lit (.int .i64 x.2.2)]:=List.take_of_length_le (by simp [ints])
      simp (config:=KF) (disch:=omega) only [bZ,List.contains_nil,List.contains_cons,Nat.reduceBEq,Bool.or_false,ksB,bz,bY,ci,bG,cO,cu,nstB,ck,da,cd,cc,gz,eZ,eB,bp,eX,fM,and_self,retI,resI,resL,aD,nK,aq,gp,bT,cM,o_app,gq,aA,jK,fI,cm,aF,ixSV,au,gS,bslV,bstV,fH,iD,gt,boxX,aM,List.isEmpty_cons,List.reduceReplicate,ixA,ixTo,lenI,addA,ak,al,cR,eV,srcA,dg,aQ,eI,ez,am,aG,ap,aE,putS,Sf.set,Sf.reg,getR,setR,ae,Sf.disAt,Sf.newLoc,Sf.setLoc,look,bW,aR,bk,gv,c5,aW,ao,aj,aL,ar,dy,ag,aa,aB,ai,bq,aJ,bO,df,aX,List.length_cons,List.length_nil,List.getElem?_cons_zero,List.getElem?_cons_succ,List.getD_cons_zero,List.all_cons,List.all_nil,List.nil_append,List.cons_append,List.drop_zero,List.drop_succ_cons,List.take_succ_cons,List.take_zero,List.set_cons_zero,List.set_cons_succ,Int.toNat_zero,Int.toNat_one,↓reduceIte,Nat.reduceEqDiff,Nat.reduceAdd,Nat.reduceLT,Nat.reduceLeDiff,Int.reduceLE,Bool.true_and,Bool.and_true,and_true,true_and,Nat.zero_add,Nat.add_zero,or_false,decide_true,Bool.not_false,Bool.false_eq_true,List.length_map,du,c9,cN,IntWalk.i64_in,up_add,List.length_append,ah,af,Nat.mul_one,f43_12e,f43_15e,f43_16e,f43_17e,f43_17l,f43_18e,f43_19e,f43_20e,f43_20l,f43_21e,f43_22e,f43_22l,f43_23e,f43_24e,f43_25e,f43_25l,f43_26e,f43_27e,f43_28e,f43_28l,f43_29e,f43_30e,f43_30l,f43_31e,f43_31l,f43_32e,f43_33e,f43_33l,f43_34e,f43_35e,f43_35l,f43_36e,f43_37e,f43_37h,f43_37l,wAV,htl,cg,hi,hid]
      refine hQ _ _ ?_
      simp only [rrAV,bu,hia]
      exact .refl _
  | nil =>
    rw [hS] at hR
    simp only at hR
    rcases hB:P.buf with _ | ⟨b,B⟩
    · rw [hB] at hR
      simp only at hR
      cases hcl:P.closed with
      | true =>
        rw [hcl] at hR
        simp only [if_true] at hR
        subst hR
        simp (config:=KF) (disch:=omega) only [bZ,and_self,retI,resI,resL,aD,aq,bT,cM,aF,au,bstV,boxX,aM,lenI,addA,ak,al,aQ,eI,ez,am,aG,ap,aE,putS,Sf.set,Sf.reg,getR,setR,ae,Sf.disAt,Sf.setLoc,look,aR,aW,ao,aj,aL,ar,ag,aa,aB,ai,bq,aJ,List.length_cons,List.length_nil,List.getElem?_cons_zero,List.getElem?_cons_succ,List.all_cons,List.all_nil,List.drop_zero,List.drop_succ_cons,List.take_succ_cons,List.take_zero,List.set_cons_zero,List.set_cons_succ,Int.cast_ofNat_Int,↓reduceIte,Nat.reduceEqDiff,Nat.reduceAdd,Nat.reduceLeDiff,Bool.true_and,Bool.and_true,and_true,true_and,Nat.zero_add,decide_true,cB,IntWalk.i64_in,Int.add_zero,ah,af,f43_12e,f43_15e,f43_16e,f43_17e,f43_17l,f43_18e,f43_38e,f43_39e,f43_40e,f43_40l,f43_41e,f43_42e,f43_43e,f43_43l,ints]
        refine hQ _ _ ?_
        simp only [rrAV,bu,hcl,hB,hS]
        exact .refl _
      | false =>
        rw [hcl] at hR
        simp only [Bool.false_eq_true,if_false] at hR
        by_cases h4:t < 0
        · rw [if_pos h4] at hR
          subst hR
          simp (config:=KF) (disch:=omega) only [bZ,and_self,retI,resI,resL,aD,aq,bT,cM,aF,au,bstV,boxX,aM,lenI,addA,ak,al,aQ,eI,cI,ez,am,aG,ap,aE,putS,Sf.set,Sf.reg,getR,setR,ae,Sf.disAt,Sf.setLoc,look,aR,aW,ao,aj,aL,ar,ag,aa,aB,ai,bq,aJ,List.length_cons,List.length_nil,List.getElem?_cons_zero,List.getElem?_cons_succ,List.all_cons,List.all_nil,List.drop_zero,List.drop_succ_cons,List.take_succ_cons,List.take_zero,List.set_cons_zero,List.set_cons_succ,Int.cast_ofNat_Int,↓reduceIte,Nat.reduceEqDiff,Nat.reduceAdd,Nat.reduceLeDiff,Bool.true_and,Bool.and_true,and_true,true_and,Nat.zero_add,decide_true,cN,cB,IntWalk.i64_in,Int.add_zero,ah,af,f43_12e,f43_15e,f43_16e,f43_17e,f43_17l,f43_18e,f43_38e,f43_39e,f43_40e,f43_40l,f43_41e,f43_44e,f43_45e,f43_46e,f43_46l,f43_47e,f43_48e,f43_49e,f43_49l,ints]
          refine hQ _ _ ?_
          simp only [rrAV,bu,hcl,hB,hS]
          exact .refl _
        · rw [if_neg h4] at hR
          subst hR
          have hwp:=fun st=>nY P.V (P.g1 + 1) t 0 (by omega) st
          simp only [wlAV,wAV] at hwp
          simp (config:=KF) (disch:=omega) only [bZ,and_self,aD,aq,bT,cM,az,au,bstV,lenI,addA,ak,aQ,eI,cI,ez,ev_f,putS,Sf.set,Sf.reg,getR,setR,ae,look,id,aW,ar,ag,aa,ai,List.length_cons,List.length_nil,List.getElem?_cons_zero,List.all_cons,List.all_nil,List.drop_zero,List.drop_succ_cons,List.set_cons_zero,Int.cast_ofNat_Int,↓reduceIte,Nat.reduceEqDiff,Nat.reduceAdd,Nat.reduceLeDiff,Bool.and_true,and_true,Nat.zero_add,cB,IntWalk.i64_in,Int.add_zero,ah,af,f43_12e,f43_15e,f43_16e,f43_17e,f43_17l,f43_18e,f43_38e,f43_39e,f43_40e,f43_40l,f43_41e,f43_44e,f43_45e,f43_46e,f43_46l,f43_47e,f43_50e,f43_51e,f43_51l,ints]
          refine bA rfl e_f50 (hwp _) rfl ?_
          simp (config:=KF) (disch:=omega) only [bZ,retI,resI,resL,aD,aq,bT,aF,au,bstV,boxX,aM,addA,ak,al,aQ,am,aG,ap,aE,putS,Sf.set,Sf.reg,getR,setR,ae,Sf.disAt,Sf.setLoc,look,aR,aW,ao,aj,aL,dy,ag,aa,aB,ai,bq,aJ,List.length_cons,List.length_nil,List.all_cons,List.all_nil,List.drop_zero,List.take_succ_cons,List.take_zero,List.set_cons_zero,List.set_cons_succ,↓reduceIte,Nat.reduceEqDiff,Nat.reduceAdd,Nat.reduceLeDiff,Bool.true_and,Bool.and_true,and_true,true_and,Nat.zero_add,decide_true,ah,af,f43_52e,f43_53e,f43_53l]
          refine hQ _ _ ?_
          simp only [rrAV,bu,hcl,hB,hS]
          exact .refl _
    · have hBl:P.buf.length = B.length + 1:=by rw [hB]; rfl
      rw [hB] at hR
      simp only at hR
      subst hR
      have hi:ints (b::B) = .lit (.int .i64 b)::ints B:=rfl
      have hid:=mD B
      have hit:List.take B.length (ints B) = ints B:=List.take_of_length_le (by simp [ints])
      simp (config:=KF) (disch:=omega) only [bZ,List.contains_nil,List.contains_cons,Nat.reduceBEq,Bool.or_false,ksB,bz,bY,ci,bG,cO,cu,nstB,ck,da,cd,cc,gz,eZ,eB,bp,eX,fM,and_self,retI,resI,resL,aD,nK,aq,bT,cM,o_app,aA,jK,cm,aF,ixSV,au,bstV,iD,boxX,aM,List.isEmpty_cons,ixA,ixTo,lenI,addA,ak,al,cR,srcA,aQ,eI,ez,am,aG,ap,aE,putS,Sf.set,Sf.reg,getR,setR,ae,Sf.disAt,Sf.newLoc,Sf.setLoc,look,bW,aR,bk,aW,ao,aj,aL,ar,dy,ag,aa,aB,ai,bq,aJ,bO,df,aX,List.length_cons,List.length_nil,List.getElem?_cons_zero,List.getElem?_cons_succ,List.getD_cons_zero,List.all_cons,List.all_nil,List.nil_append,List.drop_zero,List.drop_succ_cons,List.take_succ_cons,List.take_zero,List.set_cons_zero,List.set_cons_succ,Int.toNat_zero,Int.toNat_one,Int.cast_ofNat_Int,↓reduceIte,Nat.reduceEqDiff,Nat.reduceAdd,Nat.reduceLeDiff,Int.reduceLE,Bool.true_and,Bool.and_true,and_true,true_and,Nat.zero_add,Nat.add_zero,or_false,decide_true,Bool.not_false,Bool.false_eq_true,du,c9,cN,cB,IntWalk.i64_in,Int.add_zero,ah,af,f43_12e,f43_15e,f43_16e,f43_17e,f43_17l,f43_18e,f43_19e,f43_20e,f43_20l,f43_21e,f43_22e,f43_22l,f43_23e,f43_24e,f43_25e,f43_25l,f43_26e,f43_32e,f43_33e,f43_33l,f43_34e,f43_35e,f43_35l,f43_36e,f43_37e,f43_37h,f43_37l,cg,hi,hid]
      refine hQ _ _ ?_
      simp only [rrAV,bu,hS]
      exact .refl _

theorem mF (P:ChP) (t:Int) (hl:Sm P) (hnd:(aP (entC P.S P.V)).Nodup) (st:St):bF Go.Proofs.Try.prog n_f44 [bu P,.lit (.int .i64 t)] st
    (rrAV ((dw P t).1,0,false,[],(dw P t).2)):=by
  unfold Sm at hl
  refine f8 hmix k_f44 rfl rfl (rr_nb _) (by simp [ir,eQ]) (fun Q hQ=>?_) st
  unfold aFun c_f44
  have hw:=fun st=>ji P t (by omega) st
  simp only [kI] at hw
  unfold dw chk at hQ
  by_cases h1:t < 0∨64≤t
  · rw [if_pos h1] at hQ
    simp (config:=KF) (disch:=omega) only [bZ,aw,AI.dst,cm,dO,boxX,cI,ap,putS,Sf.set,Sf.reg,getR,setR,ae,Sf.newLoc,look,bW,aR,bt,ao,aj,aL,ag,aa,aB,ai,bD,bO,aX,List.length_cons,List.length_nil,List.all_cons,List.all_nil,↓reduceIte,Nat.reduceEqDiff,Nat.reduceAdd,Bool.true_and,Bool.and_true,and_true,true_and,reduceCtorEq,Nat.zero_add,f44_1e,f44_2e,f44_2l,f44_3e,f44_4e,f44_5e,f44_5l,bu,wlAV]
    refine c8 (fun h=>?_) (fun h=>?_)
    · simp (config:=KF) (disch:=omega) only [bZ,and_self,retI,resI,resL,aw,cQ,AI.dst,bX,a7,aq,bT,aF,bQ,au,bstV,boxX,aM,ak,al,aQ,am,aG,ap,aE,putS,Sf.set,Sf.reg,getR,setR,ae,Sf.disAt,Sf.setLoc,look,aR,ao,aj,aL,ar,ag,aa,aB,ai,bq,aJ,List.length_cons,List.length_nil,List.getElem?_cons_zero,List.getElem?_cons_succ,List.all_cons,List.all_nil,List.drop_zero,List.take_succ_cons,List.take_zero,List.set_cons_zero,List.set_cons_succ,↓reduceIte,Nat.reduceEqDiff,Nat.reduceAdd,Nat.reduceLeDiff,Bool.true_and,Bool.and_true,and_true,true_and,Nat.zero_add,decide_true,Bool.false_eq_true,ah,af,f44_6e,f44_7e,f44_8e,f44_8l]
      exact hQ _ _ (.refl _)
    · simp (config:=KF) (disch:=omega) only [bZ,and_self,retI,resI,resL,aw,AI.dst,a9,a7,aq,bT,aF,bN,au,bstV,boxX,aM,ak,al,aQ,ik,am,aG,ap,aE,putS,Sf.set,Sf.reg,getR,setR,ae,Sf.disAt,Sf.setLoc,look,aR,ao,aj,aL,ar,ag,aa,aB,ai,bq,aJ,List.length_cons,List.length_nil,List.getElem?_cons_zero,List.getElem?_cons_succ,List.all_cons,List.all_nil,List.drop_zero,List.take_succ_cons,List.take_zero,List.set_cons_zero,List.set_cons_succ,↓reduceIte,Nat.reduceEqDiff,Nat.reduceAdd,Nat.reduceLeDiff,Bool.true_and,Bool.and_true,and_true,true_and,Nat.zero_add,decide_true,Bool.false_eq_true,cN,ah,af,f44_6e,f44_7e,f44_8e,f44_8l]
      exact hQ _ _ (.refl _)
  rw [if_neg h1] at hQ
  simp only [bu,wlAV] at hw
  simp (config:=KF) (disch:=omega) only [bZ,aw,AI.dst,a9,a7,aq,cm,dO,az,bN,au,boxX,ak,al,cI,ik,am,aG,ev_f,ap,putS,Sf.set,Sf.reg,getR,setR,ae,Sf.newLoc,look,bW,aR,bt,id,ao,aj,aL,ag,aa,aB,ai,bD,bO,aX,List.length_cons,List.length_nil,List.all_cons,List.all_nil,List.drop_zero,List.take_succ_cons,List.take_zero,↓reduceIte,Nat.reduceEqDiff,Nat.reduceAdd,Nat.reduceLeDiff,Bool.true_and,Bool.and_true,and_true,true_and,reduceCtorEq,Nat.zero_add,decide_true,Bool.false_eq_true,cB,dP,f44_1e,f44_2e,f44_2l,f44_3e,f44_4e,f44_5e,f44_5l,f44_6e,f44_9e,f44_10e,f44_11e,f44_11l,bu,wlAV]
  refine bA rfl e_f49 (hw _) rfl ?_
  by_cases h2:t ∈ aP (entC P.S P.V)
  · rw [if_pos h2] at hQ
    rw [decide_eq_true h2]
    simp only [entC,fQ,List.nodup_append] at hnd
    rw [cU,cU,← cU 0,← cU 0 P.V] at hnd
    have ha:=fun st=>jX P.S t (by omega) hnd.1 st
    have hb:=fun st=>jX P.V t (by omega) hnd.2.1 st
    simp only [wlAV] at ha hb
    simp (config:=KF) (disch:=omega) only [bZ,List.contains_nil,cd,cX,cJ,cc,gL,bp,o_un,au,addA,ak,unA,ev_f,putS,Sf.set,Sf.reg,getR,setR,ae,look,bk,id,aW,List.drop_zero,List.drop_succ_cons,↓reduceIte,Nat.reduceEqDiff,Nat.zero_add,Bool.not_true,Bool.false_eq_true,f44_12e,f44_15e,f44_16e,f44_16h,f44_16l]
    refine jh rfl e_f51 (ha _) rfl ?_
    simp (config:=KF) (disch:=omega) only [bZ,cd,cX,cJ,cc,gL,e6,bp,au,addA,ak,ev_f,putS,Sf.set,Sf.reg,getR,setR,look,id,aW,List.drop_zero,List.drop_succ_cons,↓reduceIte,Nat.reduceEqDiff,Nat.zero_add]
    refine jh rfl e_f51 (hb _) rfl ?_
    simp (config:=KF) (disch:=omega) only [bZ,da,cd,cJ,e6,bp,tail_nil,retI,resI,resL,aD,aq,bT,aF,au,bstV,boxX,aM,addA,ak,al,aQ,am,aG,ap,aE,putS,Sf.set,Sf.reg,getR,setR,ae,Sf.disAt,Sf.setLoc,look,aR,aW,ao,aj,aL,dy,ag,aa,aB,ai,bq,aJ,List.length_cons,List.length_nil,List.all_cons,List.all_nil,List.drop_zero,List.take_succ_cons,List.take_zero,List.set_cons_zero,List.set_cons_succ,↓reduceIte,Nat.reduceEqDiff,Nat.reduceAdd,Nat.reduceLeDiff,Bool.true_and,Bool.and_true,and_true,true_and,Nat.zero_add,decide_true,ah,af,f44_17e,f44_18e,f44_18l]
    exact hQ _ _ (.refl _)
  · rw [if_neg h2] at hQ
    rw [decide_eq_false h2]
    simp (config:=KF) (disch:=omega) only [bZ,and_self,retI,resI,resL,o_un,aq,bT,aF,au,bstV,boxX,aM,ak,al,aQ,unA,am,aG,ap,aE,putS,Sf.set,Sf.reg,getR,setR,ae,Sf.disAt,Sf.setLoc,look,aR,ao,aj,aL,ar,ag,aa,aB,ai,bq,aJ,List.length_cons,List.length_nil,List.getElem?_cons_zero,List.getElem?_cons_succ,List.all_cons,List.all_nil,List.drop_zero,List.take_succ_cons,List.take_zero,List.set_cons_zero,List.set_cons_succ,↓reduceIte,Nat.reduceEqDiff,Nat.reduceAdd,Nat.reduceLeDiff,Bool.true_and,Bool.and_true,and_true,true_and,Nat.zero_add,decide_true,Bool.not_false,ah,af,f44_12e,f44_13e,f44_14e,f44_14l]
    exact hQ _ _ (.refl _)
end Go.Fx.YtohlpjfhkejjgaaFx

