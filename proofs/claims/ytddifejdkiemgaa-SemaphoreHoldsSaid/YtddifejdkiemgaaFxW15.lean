/- What the functions that the statement reaches compute: part 15. -/
import Derived.Test.YtddifejdkiemgaaFxW14
namespace Go.Fx.YtddifejdkiemgaaFx
open Go Go.Fx
attribute [local irreducible] aC runI dg ep

set_option maxRecDepth 100000
set_option maxHeartbeats 4000000

theorem nz (st:St):dt Go.Proofs.Try.prog n_f31 [] st (fun r _=>r = .lit (.bool true)):=by
  refine dN hmix k_f31 rfl rfl fun Q hQ=>?_
  unfold aFun c_f31
  obtain ⟨H0,hH0⟩:∃ H,H = List.replicate 64 (0:Int):=⟨_,rfl⟩
  have hnew:=qr (sz:=3) (nw:=10) (by omega) (by unfold nev; omega) st
  rw [← hH0] at hnew
  generalize st.boxes.length + 3 = b at hnew
  generalize st.boxes.length + 1 = q at hnew
  generalize st.boxes.length + 2 = wid at hnew
  obtain ⟨mid,hmid⟩:∃ m,m = st.boxes.length:=⟨_,rfl⟩
  rw [← hmid] at hnew
  obtain ⟨H1,hH1⟩:∃ H,H = 2::List.replicate 63 (0:Int):=⟨_,rfl⟩
  obtain ⟨H2,hH2⟩:∃ H,H = 2::0::1::List.replicate 61 (0:Int):=⟨_,rfl⟩
  obtain ⟨H3,hH3⟩:∃ H,H = 0::0::1::List.replicate 61 (0:Int):=⟨_,rfl⟩
  have t1:sAcq 3 10 H0 [] 0 0 2 nev = ((H1,[],0),true,0):=by subst hH0 hH1; decide +kernel
  have t2:sAcq 3 10 H1 [] 0 1 2 20 = ((H1,[(1,2,20)],1),false,0):=by subst hH1; decide +kernel
  have t3:sAcq 3 10 H1 [(1,2,20)] 1 2 1 nev = ((H1,[(1,2,20),(2,1,nev)],2),false,0):=by subst hH1; decide +kernel
  have t4:sTry 3 H1 [(1,2,20),(2,1,nev)] 3 1 = (H1,16):=by subst hH1; decide +kernel
  have t5:(3 - H1.sum:Int) = 1:=by subst hH1; decide +kernel
  have t6:dy [(1,2,20),(2,1,nev)] = 20:=by decide +kernel
  have t7:sAcq 3 10 H1 [(1,2,20),(2,1,nev)] 2 1 1 nev = ((H1,[(1,2,20),(2,1,nev)],2),false,11):=by subst hH1; decide +kernel
  have t8:sAcq 3 10 H1 [(1,2,20),(2,1,nev)] 2 4 4 nev = ((H1,[(1,2,20),(2,1,nev)],2),false,2):=by subst hH1; decide +kernel
  have t9:sAcq 3 10 H1 [(1,2,20),(2,1,nev)] 2 4 1 10 = ((H1,[(1,2,20),(2,1,nev)],2),false,12):=by subst hH1; decide +kernel
  have t10:sAdv 3 10 H1 [(1,2,20),(2,1,nev)] 20 = ((H2,[],[(1,12),(2,0)],0),20):=by subst hH1 hH2; kernel_rfl
  have t11:sRel 3 H2 [] 0 3 = (H2,[],[],9):=by subst hH2; decide +kernel
  have t12:sRel 3 H2 [] 0 2 = (H3,[],[],0):=by subst hH2 hH3; decide +kernel
  have t13:(3 - H3.sum:Int) = 2:=by subst hH3; decide +kernel
  have t14:sAdv 3 20 H3 [] 19 = ((H3,[],[],3),20):=by subst hH3; kernel_rfl
  clear hH0 hH1 hH2 hH3
  simp (config:=KF) (disch:=omega) only [bZ,aI,ev_f,putS,Sf.set,setR,aD,da,id,f31_1e,f31_2e,f31_2l,f31_3e,f31_4e,f31_4l]
  refine du rfl e_f29 hnew rfl fun r st0 hr=>?_
  obtain ⟨rfl,h0,_⟩:=hr
  simp (config:=KF) (disch:=omega) only [bZ,aS,AI.dst,ck,c8,fH,bH,aI,cV,extV,lx,iw,fv,eE,ev_f,putS,Sf.set,Sf.reg,getR,setR,aD,Sf.disAt,id,ei,dW,kX,List.getElem?_cons_zero,List.getElem?_cons_succ,↓reduceIte,Nat.reduceEqDiff,not_true_eq_false,decide_false,Bool.false_eq_true,f31_5e,f31_6e,f31_7e,f31_7l]
  refine du rfl e_f52 (gb h0 (by omega) (Int.le_refl _) t1) rfl fun r st1 hr=>?_
  obtain ⟨rfl,h1,_⟩:=hr
  simp (config:=KF) (disch:=omega) only [bZ,aS,AI.dst,ck,c8,o_un,aI,cV,unA,ev_f,putS,Sf.set,Sf.reg,getR,setR,id,↓reduceIte,Nat.reduceEqDiff,Bool.not_true,Bool.false_eq_true]
  refine du rfl e_f52 (gb h1 (by simp) (by decide) t2) rfl fun r st2 hr=>?_
  obtain ⟨rfl,h2,_⟩:=hr
  simp (config:=KF) (disch:=omega) only [bZ,aS,AI.dst,ck,c8,o_un,aI,cV,unA,ev_f,putS,Sf.set,Sf.reg,getR,setR,id,↓reduceIte,Nat.reduceEqDiff,Bool.not_true,Bool.false_eq_true]
  refine du rfl e_f52 (gb h2 (by simp) (Int.le_refl _) t3) rfl fun r st3 hr=>?_
  obtain ⟨rfl,h3,_⟩:=hr
  simp (config:=KF) (disch:=omega) only [bZ,aS,AI.dst,ck,c8,o_un,aI,cV,unA,ev_f,putS,Sf.set,Sf.reg,getR,setR,id,↓reduceIte,Nat.reduceEqDiff,Bool.not_true,Bool.false_eq_true]
  have c4:=qt h3 3 1
  try simp only at c4
  rw [t4] at c4
  refine du rfl e_f36 c4 rfl fun r st4 hr=>?_
  obtain ⟨rfl,h4,_⟩:=hr
  simp (config:=KF) (disch:=omega) only [bZ,aS,AI.dst,ck,c8,aI,cV,eE,ev_f,putS,Sf.set,Sf.reg,getR,setR,aD,id,↓reduceIte,Nat.reduceEqDiff,not_true_eq_false,decide_false,Bool.false_eq_true,f31_8e,f31_11e,f31_12e,f31_13e,f31_13l]
  have c5:=ky h4
  try simp only at c5
  rw [t5] at c5
  refine cF rfl e_f41 c5 rfl ?_
  simp (config:=KF) (disch:=omega) only [bZ,aS,AI.dst,ck,aI,eE,ev_f,putS,Sf.set,Sf.reg,getR,setR,id,↓reduceIte,Nat.reduceEqDiff,not_true_eq_false,decide_false,Bool.false_eq_true]
  refine du rfl e_f34 (io h4) rfl fun r st5 hr=>?_
  obtain ⟨rfl,_,k5⟩:=hr
  have hlt4:=h4.lts
  have h5:=h4.at fun i hi=>k5 i (hlt4 i hi)
  simp (config:=KF) (disch:=omega) only [bZ,and_self,aS,AI.dst,ck,pW,aI,bslV,List.reduceReplicate,iL,ev_f,putS,Sf.set,Sf.reg,getR,setR,id,cN,bU,cR,List.length_cons,List.length_nil,List.all_cons,List.all_nil,List.set_cons_zero,List.set_cons_succ,↓reduceIte,Nat.reduceEqDiff,Nat.reduceAdd,Nat.reduceLT,Bool.and_true,and_true,Nat.zero_add,Bool.false_eq_true]
  have c6:=rsame_pure [1,2] [1,2] (by simp) (by simp) st5
  rw [show decide (([1,2]:List Int) = [1,2]) = true from by decide] at c6
  refine cF rfl e_f53 c6 rfl ?_
  simp (config:=KF) (disch:=omega) only [bZ,aS,AI.dst,ck,c8,o_un,aI,cV,unA,ev_f,putS,Sf.set,Sf.reg,getR,setR,id,↓reduceIte,Nat.reduceEqDiff,Bool.not_true,Bool.false_eq_true]
  have c7:=kw h5
  try simp only at c7
  rw [t6] at c7
  refine cF rfl e_f42 c7 rfl ?_
  simp (config:=KF) (disch:=omega) only [bZ,aS,AI.dst,ck,c8,aI,cV,eE,ev_f,putS,Sf.set,Sf.reg,getR,setR,id,↓reduceIte,Nat.reduceEqDiff,not_true_eq_false,decide_false,Bool.false_eq_true]
  refine du rfl e_f52 (gb h5 (by simp) (Int.le_refl _) t7) rfl fun r st6 hr=>?_
  obtain ⟨rfl,h6,_⟩:=hr
  simp (config:=KF) (disch:=omega) only [bZ,aS,AI.dst,ck,c8,o_un,aI,cV,unA,ev_f,putS,Sf.set,Sf.reg,getR,setR,id,↓reduceIte,Nat.reduceEqDiff,Bool.not_true,Bool.false_eq_true]
  refine du rfl e_f52 (gb h6 (by simp) (Int.le_refl _) t8) rfl fun r st7 hr=>?_
  obtain ⟨rfl,h7,_⟩:=hr
  simp (config:=KF) (disch:=omega) only [bZ,aS,AI.dst,ck,c8,o_un,aI,cV,unA,ev_f,putS,Sf.set,Sf.reg,getR,setR,id,↓reduceIte,Nat.reduceEqDiff,Bool.not_true,Bool.false_eq_true]
  refine du rfl e_f52 (gb h7 (by simp) (by decide) t9) rfl fun r st8 hr=>?_
  obtain ⟨rfl,h8,_⟩:=hr
  simp (config:=KF) (disch:=omega) only [bZ,aS,AI.dst,ck,c8,o_un,aI,cV,unA,ev_f,putS,Sf.set,Sf.reg,getR,setR,aD,id,↓reduceIte,Nat.reduceEqDiff,Bool.not_true,Bool.false_eq_true,f31_14e,f31_17e,f31_18e,f31_18l]
  have c9:=l5 h8 (by simp) 20 (by omega) (by decide)
  try simp only at c9
  rw [t10] at c9
  refine du rfl e_f39 c9 rfl fun r st9 hr=>?_
  obtain ⟨v,rfl,b9,h9,_,_⟩:=hr
  have c10:=sameg_bl (k:=[(1,12),(2,0)]) b9 (by simp) (by simp)
  rw [show decide (([(1,12),(2,0)]:List Gt) = [(1,12),(2,0)]) = true from by decide] at c10
  have fin:dt Go.Proofs.Try.prog n_f37 [.ptr b 0,.lit (.int .i64 0),.lit (.int .i64 3)] st9 _:=ma h9 (by simp) 0 3
  try simp only at fin
  rw [t11] at fin
  rcases b9.k with rfl | ⟨ib,ln,cap,rfl⟩
  all_goals
    simp (config:=KF) (disch:=omega) only [bZ,and_self,aS,AI.dst,ck,fH,pW,oF,bH,aI,extV,bslV,bstV,List.reduceReplicate,iL,eF,eE,ev_f,putS,Sf.set,Sf.reg,getR,setR,aD,Sf.disAt,id,dD,ei,d4,dk,dW,kq,cN,cP,bU,cR,List.length_cons,List.length_nil,List.getElem?_cons_zero,List.getElem?_cons_succ,List.all_cons,List.all_nil,List.set_cons_zero,List.set_cons_succ,↓reduceIte,Nat.reduceEqDiff,Nat.reduceAdd,Nat.reduceLT,Nat.reduceLeDiff,Bool.and_true,and_true,Nat.zero_add,not_true_eq_false,decide_false,Bool.false_eq_true,cD,b4,f31_19e,f31_20e,f31_21e,f31_21l]
    refine cF rfl e_f54 c10 rfl ?_
    simp (config:=KF) (disch:=omega) only [bZ,aS,AI.dst,ck,c8,o_un,aI,cV,unA,ev_f,putS,Sf.set,Sf.reg,getR,setR,aD,id,↓reduceIte,Nat.reduceEqDiff,Bool.not_true,Bool.false_eq_true,f31_22e,f31_25e,f31_26e,f31_26l]
    refine du rfl e_f37 fin rfl fun r st10 hr=>?_
    obtain ⟨v10,rfl,b10,h10,_,_⟩:=hr
    have c11:=ma h10 (by simp) 0 2
    try simp only at c11
    rw [t12] at c11
    rcases b10.k with rfl | ⟨ib',ln',cap',rfl⟩
    all_goals
      simp (config:=KF) (disch:=omega) only [bZ,fH,bH,aI,extV,ev_f,putS,Sf.set,Sf.reg,getR,setR,aD,Sf.disAt,id,ei,d4,dW,kq,List.getElem?_cons_zero,List.getElem?_cons_succ,↓reduceIte,Nat.reduceEqDiff,f31_27e,f31_28e,f31_28l]
      refine du rfl e_f37 c11 rfl fun r st11 hr=>?_
      obtain ⟨v11,rfl,b11,h11,_,_⟩:=hr
      have c12:=ky h11
      try simp only at c12
      rw [t13] at c12
      have c13:=l5 h11 (by simp) 19 (by omega) (by decide)
      try simp only at c13
      rw [t14] at c13
      have b11:GB v11 st11 []:=b11
      rcases b11.cases with ⟨rfl,_⟩ | ⟨ib2,ln2,cap2,rfl,rfl⟩
      all_goals
        simp (config:=KF) (disch:=omega) only [bZ,fH,bH,aI,extV,ev_f,putS,Sf.set,Sf.reg,getR,setR,aD,Sf.disAt,id,ei,d4,dW,kq,List.length_nil,List.getElem?_cons_zero,List.getElem?_cons_succ,↓reduceIte,Nat.reduceEqDiff,f31_29e,f31_30e,f31_30l]
        refine cF rfl e_f41 c12 rfl ?_
        simp (config:=KF) (disch:=omega) only [bZ,bH,aI,ev_f,putS,Sf.set,Sf.reg,getR,setR,aD,Sf.disAt,id,↓reduceIte,Nat.reduceEqDiff,f31_31e,f31_32e,f31_32l]
        refine du rfl e_f39 c13 rfl fun r st12 hr=>?_
        obtain ⟨v12,rfl,b12,h12,_,_⟩:=hr
        rcases b12.k with rfl | ⟨ib3,ln3,cap3,rfl⟩
        all_goals
          simp (config:=KF) (disch:=omega) only [bZ,retI,aS,AI.dst,dY,c8,fH,er,bH,ea,extV,lenI,fa,putS,Sf.set,Sf.reg,getR,setR,aD,Sf.disAt,ei,d4,dW,kq,List.getElem?_cons_zero,List.getElem?_cons_succ,Int.cast_ofNat_Int,↓reduceIte,Nat.reduceEqDiff,Bool.true_and,true_and,reduceCtorEq,decide_true,f31_33e,f31_34e,f31_34l]
          exact hQ _ _ rfl
end Go.Fx.YtddifejdkiemgaaFx

