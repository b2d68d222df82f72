/- What the functions that the statement reaches compute: part 25. -/
import Derived.Test.YtohlpjfhkejjgaaFxW24
namespace Go.Fx.YtohlpjfhkejjgaaFx
open Go Go.Fx
attribute [local irreducible] aC runI aY cF

set_option maxRecDepth 100000
set_option maxHeartbeats 8000000

/-! ChannelCopies. -/
theorem bd_all {P:ChP} {n:Nat} (h:Bd P n):∀ l:List Ca,Bd (pAll P l) (n + l.length):=fun l=>by
  induction l generalizing P n with
  | nil=>exact h
  | cons a l ih =>
    have:=ih (fR h a).1
    rw [List.length_cons,Nat.add_comm l.length 1,← Nat.add_assoc]
    exact this

theorem jZ (n:Int) (l0 l1 l2:List Ca):bj Go.Proofs.Try.prog n_f7 [.lit (.int .i64 n),fa l0,fa l1,fa l2] ⟨[]⟩ (fun v _=>v = .lit (.bool true)):=by
  refine bf hmix k_f7 rfl rfl fun Q hQ=>?_
  unfold aFun c_f7
  have hkn:∀ st,bj Go.Proofs.Try.prog n_f10 [] st (fun r _=>r = .lit (.bool true)):=known36
  by_cases hn:n < 0∨4096 < n
  · have hr:=fun st=>refnew_err n hn st
    have hc:=fun st=>cnew_err hn st
    simp only [bu,wlAV] at hr
    simp (config:=KF) (disch:=omega) only [bZ,az,ev_f,putS,Sf.set,Sf.reg,getR,setR,ae,bt,id,aW,↓reduceIte,Nat.reduceEqDiff,Nat.reduceAdd,reduceCtorEq,Nat.zero_add,f7_1e,f7_2e,f7_2l,f7_3e,f7_4e,f7_4l,fa]
    refine bA rfl e_f9 (hc _) rfl ?_
    simp (config:=KF) (disch:=omega) only [bZ,bP,aA,az,extV,ev_f,putS,Sf.set,Sf.reg,getR,setR,ae,Sf.disAt,id,bg,aU,List.getElem?_cons_zero,List.getElem?_cons_succ,↓reduceIte,Nat.reduceEqDiff,reduceCtorEq,f7_5e,f7_6e,f7_6l]
    refine bA rfl e_f14 (hr _) rfl ?_
    by_cases h0:30 < l0.length
    · simp (config:=KF) (disch:=omega) only [bZ,aw,cQ,AI.dst,bX,a7,bP,cM,aA,cm,aF,az,bQ,extV,boxX,aM,lenI,bR,ez,ev_f,ap,aE,putS,Sf.set,Sf.reg,getR,setR,ae,Sf.disAt,Sf.newLoc,Sf.setLoc,look,bW,aR,id,aW,ao,bg,aj,aL,aU,c6,ag,aa,aB,ai,bD,df,aX,c7,List.length_cons,List.length_nil,List.getElem?_cons_zero,List.getElem?_cons_succ,List.all_cons,List.all_nil,List.set_cons_zero,List.set_cons_succ,↓reduceIte,Nat.reduceEqDiff,Nat.reduceAdd,Nat.reduceLeDiff,Bool.true_and,Bool.and_true,and_true,true_and,reduceCtorEq,Nat.zero_add,decide_true,Bool.false_eq_true,List.length_map,eS,ah,af,f7_7e,f7_8e,f7_9e,f7_9l,f7_10e,f7_11e,f7_12e,f7_12l]
      refine ba rfl e_f10 (hkn _) rfl fun r st2 hr2=>?_
      subst hr2
      simp (config:=KF) (disch:=omega) only [bZ,retI,a7,aA,bQ,putS,Sf.set,Sf.reg,getR,setR,ae,Sf.disAt,↓reduceIte,Nat.reduceEqDiff,Bool.true_and,true_and]
      exact hQ _ _ rfl
    by_cases h1:30 < l1.length
    · simp (config:=KF) (disch:=omega) only [bZ,aw,cQ,AI.dst,bX,a9,a7,bP,cM,aA,cm,aF,az,bQ,bN,extV,boxX,aM,lenI,bR,ez,ev_f,ap,aE,putS,Sf.set,Sf.reg,getR,setR,ae,Sf.disAt,Sf.newLoc,Sf.setLoc,look,bW,aR,id,aW,ao,bg,aj,aL,aU,c6,ag,aa,aB,ai,bD,df,aX,c7,List.length_cons,List.length_nil,List.getElem?_cons_zero,List.getElem?_cons_succ,List.all_cons,List.all_nil,List.set_cons_zero,List.set_cons_succ,↓reduceIte,Nat.reduceEqDiff,Nat.reduceAdd,Nat.reduceLeDiff,Bool.true_and,Bool.and_true,and_true,true_and,reduceCtorEq,Nat.zero_add,decide_true,Bool.false_eq_true,List.length_map,eS,dP,ah,af,f7_7e,f7_8e,f7_9e,f7_9l,f7_10e,f7_11e,f7_12e,f7_12l]
      refine ba rfl e_f10 (hkn _) rfl fun r st2 hr2=>?_
      subst hr2
      simp (config:=KF) (disch:=omega) only [bZ,retI,a7,aA,bQ,putS,Sf.set,Sf.reg,getR,setR,ae,Sf.disAt,↓reduceIte,Nat.reduceEqDiff,Bool.true_and,true_and]
      exact hQ _ _ rfl
    by_cases h2:30 < l2.length
    all_goals
      simp (config:=KF) (disch:=omega) only [bZ,aw,cQ,AI.dst,bX,a9,a7,bP,cM,aA,cm,aF,az,bQ,bN,extV,boxX,aM,lenI,bR,gw,ez,ev_f,ap,aE,putS,Sf.set,Sf.reg,getR,setR,ae,Sf.disAt,Sf.newLoc,Sf.setLoc,look,bW,aR,id,aW,ao,bg,aj,aL,aU,c6,ag,aa,aB,ai,bD,df,aX,c7,List.length_cons,List.length_nil,List.getElem?_cons_zero,List.getElem?_cons_succ,List.all_cons,List.all_nil,List.set_cons_zero,List.set_cons_succ,↓reduceIte,Nat.reduceEqDiff,Nat.reduceAdd,Nat.reduceLeDiff,Int.reduceEq,Bool.true_and,Bool.and_true,and_true,true_and,reduceCtorEq,Nat.zero_add,not_false_eq_true,decide_true,Bool.false_eq_true,List.length_map,eS,dP,ah,af,f7_7e,f7_8e,f7_9e,f7_9l,f7_10e,f7_11e,f7_12e,f7_12l]
      refine ba rfl e_f10 (hkn _) rfl fun r st2 hr2=>?_
      subst hr2
      simp (config:=KF) (disch:=omega) only [bZ,retI,a7,aA,bQ,putS,Sf.set,Sf.reg,getR,setR,ae,Sf.disAt,↓reduceIte,Nat.reduceEqDiff,Bool.true_and,true_and]
      exact hQ _ _ rfl
  obtain ⟨k,rfl⟩:∃ k:Nat,n = (k:Int):=⟨n.toNat,by omega⟩
  have hk:k≤4096:=by omega
  have hr:=fun st=>refnew_pure k hk st
  simp only [bu,wlAV] at hr
  simp (config:=KF) (disch:=omega) only [bZ,az,ev_f,putS,Sf.set,Sf.reg,getR,setR,ae,bt,id,aW,↓reduceIte,Nat.reduceEqDiff,Nat.reduceAdd,reduceCtorEq,Nat.zero_add,f7_1e,f7_2e,f7_2l,f7_3e,f7_4e,f7_4l,fa]
  refine ba rfl e_f9 (cnew_ex hk _) rfl fun r st1 hr1=>?_
  obtain ⟨c,q0,m0,q1,m1,wid,bv,rfl,k0⟩:=hr1
  simp (config:=KF) (disch:=omega) only [bZ,bP,aA,az,extV,ev_f,putS,Sf.set,Sf.reg,getR,setR,ae,Sf.disAt,id,bg,aU,own2_ptr,List.getElem?_cons_zero,List.getElem?_cons_succ,↓reduceIte,Nat.reduceEqDiff,reduceCtorEq,f7_5e,f7_6e,f7_6l]
  refine bA rfl e_f14 (hr _) rfl ?_
  by_cases h0:30 < l0.length
  · simp (config:=KF) (disch:=omega) only [bZ,aw,cQ,AI.dst,bX,a7,bP,cM,aA,cm,aF,az,bQ,extV,boxX,aM,lenI,bR,ez,ev_f,ap,aE,putS,Sf.set,Sf.reg,getR,setR,ae,Sf.disAt,Sf.newLoc,Sf.setLoc,look,bW,aR,id,aW,ao,bg,aj,aL,aU,c6,ag,aa,aB,ai,bD,cn,df,aX,c7,List.length_cons,List.length_nil,List.getElem?_cons_zero,List.getElem?_cons_succ,List.all_cons,List.all_nil,List.set_cons_zero,List.set_cons_succ,↓reduceIte,Nat.reduceEqDiff,Nat.reduceAdd,Nat.reduceLeDiff,Bool.true_and,Bool.and_true,and_true,true_and,reduceCtorEq,Nat.zero_add,decide_true,Bool.false_eq_true,List.length_map,eS,ah,af,f7_7e,f7_8e,f7_9e,f7_9l,f7_10e,f7_11e,f7_12e,f7_12l]
    refine ba rfl e_f10 (hkn _) rfl fun r st2 hr2=>?_
    subst hr2
    simp (config:=KF) (disch:=omega) only [bZ,retI,a7,aA,bQ,putS,Sf.set,Sf.reg,getR,setR,ae,Sf.disAt,↓reduceIte,Nat.reduceEqDiff,Bool.true_and,true_and]
    exact hQ _ _ rfl
  by_cases h1:30 < l1.length
  · simp (config:=KF) (disch:=omega) only [bZ,aw,cQ,AI.dst,bX,a9,a7,bP,cM,aA,cm,aF,az,bQ,bN,extV,boxX,aM,lenI,bR,ez,ev_f,ap,aE,putS,Sf.set,Sf.reg,getR,setR,ae,Sf.disAt,Sf.newLoc,Sf.setLoc,look,bW,aR,id,aW,ao,bg,aj,aL,aU,c6,ag,aa,aB,ai,bD,cn,df,aX,c7,List.length_cons,List.length_nil,List.getElem?_cons_zero,List.getElem?_cons_succ,List.all_cons,List.all_nil,List.set_cons_zero,List.set_cons_succ,↓reduceIte,Nat.reduceEqDiff,Nat.reduceAdd,Nat.reduceLeDiff,Bool.true_and,Bool.and_true,and_true,true_and,reduceCtorEq,Nat.zero_add,decide_true,Bool.false_eq_true,List.length_map,eS,dP,ah,af,f7_7e,f7_8e,f7_9e,f7_9l,f7_10e,f7_11e,f7_12e,f7_12l]
    refine ba rfl e_f10 (hkn _) rfl fun r st2 hr2=>?_
    subst hr2
    simp (config:=KF) (disch:=omega) only [bZ,retI,a7,aA,bQ,putS,Sf.set,Sf.reg,getR,setR,ae,Sf.disAt,↓reduceIte,Nat.reduceEqDiff,Bool.true_and,true_and]
    exact hQ _ _ rfl
  by_cases h2:30 < l2.length
  · simp (config:=KF) (disch:=omega) only [bZ,aw,cQ,AI.dst,bX,a9,a7,bP,cM,aA,cm,aF,az,bQ,bN,extV,boxX,aM,lenI,bR,ez,ev_f,ap,aE,putS,Sf.set,Sf.reg,getR,setR,ae,Sf.disAt,Sf.newLoc,Sf.setLoc,look,bW,aR,id,aW,ao,bg,aj,aL,aU,c6,ag,aa,aB,ai,bD,cn,df,aX,c7,List.length_cons,List.length_nil,List.getElem?_cons_zero,List.getElem?_cons_succ,List.all_cons,List.all_nil,List.set_cons_zero,List.set_cons_succ,↓reduceIte,Nat.reduceEqDiff,Nat.reduceAdd,Nat.reduceLeDiff,Bool.true_and,Bool.and_true,and_true,true_and,reduceCtorEq,Nat.zero_add,decide_true,Bool.false_eq_true,List.length_map,eS,dP,ah,af,f7_7e,f7_8e,f7_9e,f7_9l,f7_10e,f7_11e,f7_12e,f7_12l]
    refine ba rfl e_f10 (hkn _) rfl fun r st2 hr2=>?_
    subst hr2
    simp (config:=KF) (disch:=omega) only [bZ,retI,a7,aA,bQ,putS,Sf.set,Sf.reg,getR,setR,ae,Sf.disAt,↓reduceIte,Nat.reduceEqDiff,Bool.true_and,true_and]
    exact hQ _ _ rfl
  have hb0:Bd (newP k) 1:=bd_new hk
  have hp:=iv (n0:=1) k0 hb0 l0 (by omega) (by omega)
  have hb1:=bd_all hb0 l0
  generalize pAll (newP k) l0 = P1 at *
  simp only [bu,wlAV,fa] at hp
  simp (config:=KF) (disch:=omega) only [bZ,aw,AI.dst,a9,a7,bP,aq,cM,aA,cm,aF,az,bN,extV,au,boxX,aM,fZ,ec,cZ,lenI,ak,al,gw,ez,am,aG,ev_f,ap,aE,putS,Sf.set,Sf.reg,getR,setR,ae,Sf.disAt,Sf.newLoc,Sf.setLoc,look,bW,aR,id,aW,ao,bg,aj,aL,aU,c6,ag,aa,aB,ai,bD,cn,df,aX,c7,List.length_cons,List.length_nil,List.getElem?_cons_zero,List.getElem?_cons_succ,List.all_cons,List.all_nil,List.drop_zero,List.take_succ_cons,List.take_zero,List.set_cons_zero,List.set_cons_succ,↓reduceIte,Nat.reduceEqDiff,Nat.reduceAdd,Nat.reduceLeDiff,Bool.true_and,Bool.and_true,and_true,true_and,reduceCtorEq,Nat.zero_add,not_true_eq_false,decide_true,decide_false,Bool.false_eq_true,List.length_map,dP,ah,af,f7_7e,f7_8e,f7_9e,f7_9l,f7_10e,f7_13e,f7_14e,f7_15e,f7_15l,f7_16e,f7_19e,f7_20e,f7_20l]
  refine ba rfl e_f16 hp rfl fun r st2 hr2=>?_
  obtain ⟨rfl,bv2,k2,kp2,kb2⟩:=hr2
  simp (config:=KF) (disch:=omega) only [bZ,bP,aA,aF,az,extV,boxX,aM,ev_f,ap,aE,putS,Sf.set,Sf.reg,getR,setR,ae,Sf.disAt,Sf.setLoc,look,aR,id,ao,bg,aj,aL,aU,c6,ag,aa,aB,ai,List.length_cons,List.length_nil,List.getElem?_cons_zero,List.getElem?_cons_succ,List.all_cons,List.all_nil,List.set_cons_zero,List.set_cons_succ,↓reduceIte,Nat.reduceEqDiff,Nat.reduceAdd,Nat.reduceLeDiff,Bool.true_and,Bool.and_true,and_true,true_and,Nat.zero_add,ah,af,f7_21e,f7_22e,f7_22l]
  have hbl:P1.buf.length≤100000:=by unfold Bd at hb1; omega
  refine ba rfl e_f22 (ccopy_calls k2 hbl) rfl fun r st3 hr3=>?_
  obtain ⟨d,r0,o0,r1,o1,wd,bd,rfl,kd,kp3,kb3⟩:=hr3
  have lt2:=k2.lts
  have k3:=k2.kp kp3 (by simp)
  have hs:=iI kd
  simp only [bu,wlAV] at hs
  simp (config:=KF) (disch:=omega) only [bZ,aw,AI.dst,a9,a7,o_un,aq,aA,az,bN,au,fZ,ec,cZ,ak,al,unA,am,aG,ev_f,putS,Sf.set,Sf.reg,getR,setR,ae,Sf.disAt,look,id,ao,aj,aL,List.length_cons,List.length_nil,List.drop_zero,List.take_succ_cons,List.take_zero,↓reduceIte,Nat.reduceEqDiff,Nat.reduceAdd,Nat.reduceLeDiff,Nat.zero_add,decide_true,Bool.not_true,Bool.false_eq_true,f7_23e,f7_24e,f7_25e,f7_25l]
  refine bA rfl e_f15 hs rfl ?_
  -- the channel goes on
  have hpl:=iv (n0:=1 + l0.length) k3 hb1 l1 (by omega) (by omega)
  have hpr0:∀ st bd',ChIs st d P1 r0 o0 r1 o1 wd bd'→_:=fun st bd' h=>iv (n0:=1 + l0.length) (st:=st) (bv:=bd') h hb1 l2 (by omega) (by omega)
  generalize pAll P1 l1 = P2 at *
  generalize pAll P1 l2 = P3 at *
  simp only [bu,wlAV,fa] at hpl hpr0
  simp (config:=KF) (disch:=omega) only [bZ,aw,AI.dst,a9,a7,o_un,aq,az,bN,au,ak,al,unA,am,aG,ev_f,putS,Sf.set,Sf.reg,getR,setR,ae,look,id,aW,ao,aj,aL,List.length_cons,List.length_nil,List.drop_zero,List.take_succ_cons,List.take_zero,↓reduceIte,Nat.reduceEqDiff,Nat.reduceAdd,Nat.reduceLeDiff,Nat.zero_add,decide_true,Bool.not_true,Bool.false_eq_true,f7_26e,f7_29e,f7_30e,f7_30l]
  refine ba rfl e_f16 hpl rfl fun r st4 hr4=>?_
  obtain ⟨rfl,bv4,k4,kp4,kb4⟩:=hr4
  have kd4:=kd.kp kp4 (fun x hx hf=>by
    have:=kb3 x hx
    have:=lt2 x hf
    omega)
  simp (config:=KF) (disch:=omega) only [bZ,bP,aq,aA,cm,aF,az,extV,au,boxX,aM,ak,al,am,aG,ev_f,ap,aE,putS,Sf.set,Sf.reg,getR,setR,ae,Sf.disAt,Sf.newLoc,Sf.setLoc,look,bW,aR,id,aW,ao,bg,aj,aL,aU,c6,ag,aa,aB,ai,bD,cn,bO,df,aX,c7,List.length_cons,List.length_nil,List.getElem?_cons_zero,List.getElem?_cons_succ,List.all_cons,List.all_nil,List.drop_zero,List.take_succ_cons,List.take_zero,List.set_cons_zero,List.set_cons_succ,↓reduceIte,Nat.reduceEqDiff,Nat.reduceAdd,Nat.reduceLeDiff,Bool.true_and,Bool.and_true,and_true,true_and,Nat.zero_add,decide_true,ah,af,f7_31e,f7_32e,f7_32l]
  refine ba rfl e_f16 (hpr0 st4 bd kd4) rfl fun r st5 hr5=>?_
  obtain ⟨rfl,bd5,kd5,kp5,kb5⟩:=hr5
  have ltd:=kd.lts
  have k5:=k4.kp kp5 (fun x hx hf=>by
    have h1:=kb3 x hf
    have h2:=ltd x hf
    rcases List.mem_append.1 hx with hx | hx
    · have:=lt2 x (List.mem_append_left _ hx)
      omega
    · rcases kb4 x hx with hx | hx
      · have:=lt2 x (List.mem_append_right _ hx)
        omega
      · omega)
  have hs1:=iI k5
  have hs2:=iI kd5
  simp only [bu,wlAV] at hs1 hs2
  simp (config:=KF) (disch:=omega) only [bZ,aw,AI.dst,bX,a7,bP,aq,aA,cm,aF,az,bQ,extV,au,boxX,aM,ak,al,am,aG,ev_f,ap,aE,putS,Sf.set,Sf.reg,getR,setR,ae,Sf.disAt,Sf.newLoc,Sf.setLoc,look,bW,aR,id,ao,bg,aj,aL,aU,c6,ag,aa,aB,ai,bD,cn,bO,df,aX,c7,List.length_cons,List.length_nil,List.getElem?_cons_zero,List.getElem?_cons_succ,List.all_cons,List.all_nil,List.drop_zero,List.take_succ_cons,List.take_zero,List.set_cons_zero,List.set_cons_succ,↓reduceIte,Nat.reduceEqDiff,Nat.reduceAdd,Nat.reduceLeDiff,Bool.true_and,Bool.and_true,and_true,true_and,Nat.zero_add,decide_true,ah,af,f7_33e,f7_34e,f7_34l]
  refine bA rfl e_f15 hs1 rfl ?_
  simp (config:=KF) (disch:=omega) only [bZ,aw,AI.dst,bX,a7,aq,az,bQ,au,ak,al,am,aG,ev_f,putS,Sf.set,Sf.reg,getR,setR,look,id,ao,aj,aL,List.length_cons,List.length_nil,List.drop_zero,List.take_succ_cons,List.take_zero,↓reduceIte,Nat.reduceEqDiff,Nat.reduceAdd,Nat.reduceLeDiff,Nat.zero_add,decide_true]
  refine bA rfl e_f15 hs2 rfl ?_
  simp (config:=KF) (disch:=omega) only [bZ,aw,AI.dst,bX,a7,az,bQ,ev_f,putS,Sf.set,Sf.reg,getR,setR,id,↓reduceIte,Nat.reduceEqDiff]
  refine ba rfl e_f10 (hkn _) rfl fun r st6 hr6=>?_
  subst hr6
  simp (config:=KF) (disch:=omega) only [bZ,retI,a7,aA,bQ,putS,Sf.set,Sf.reg,getR,setR,ae,Sf.disAt,↓reduceIte,Nat.reduceEqDiff,Bool.true_and,true_and]
  exact hQ _ _ rfl
theorem j0 {n:Int} {l0 l1 l2:List (Int×Int×Int×Unit)}:bj Go.Proofs.Try.prog n_f7 [.lit (.int .i64 n),.sl false 3 (l0.map fun x=>.agg [.lit (.int .i64 x.1),.lit (.int .i64 x.2.1),.lit (.int .i64 x.2.2.1)]),.sl false 3 (l1.map fun x=>.agg [.lit (.int .i64 x.1),.lit (.int .i64 x.2.1),.lit (.int .i64 x.2.2.1)]),.sl false 3 (l2.map fun x=>.agg [.lit (.int .i64 x.1),.lit (.int .i64 x.2.1),.lit (.int .i64 x.2.2.1)])] ⟨[]⟩ (fun v _=>v = .lit (.bool true)):=by
  rw [oS,oS,oS]
  exact jZ n _ _ _
end Go.Fx.YtohlpjfhkejjgaaFx

