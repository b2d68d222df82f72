/- What the functions that the statement reaches compute: part 24. -/
import Derived.Test.YtddifejdkiemgaaFxW23
namespace Go.Fx.YtddifejdkiemgaaFx
open Go Go.Fx
attribute [local irreducible] aC runI a9 cd

set_option maxRecDepth 100000
set_option maxHeartbeats 4000000

section
variable {H:List Int} {V:List Vt} {sz nw:Int}

theorem racq_pure (h:RfOk sz nw H V) (g:Nat) (t n d:Int) (st:St):bF Go.Proofs.Try.prog n_f71 [rfAV sz nw H V,.lit (.int .i64 t),.lit (.int .i64 n),.lit (.int .u64 d)] st
    (.tup [rfAV sz nw (sAcq sz nw H V g t n d).1.1 (sAcq sz nw H V g t n d).1.2.1,.lit (.bool (sAcq sz nw H V g t n d).2.1),.lit (.int .i64 (sAcq sz nw H V g t n d).2.2)]):=by
  refine bU hmix k_f71 rfl rfl fun Q hQ=>?_
  unfold aFun c_f71
  have hQ:=hQ st
  have f1:=fun H V=>cz (H:=H) (V:=V)
  have f2:=fun H V=>co (H:=H) (V:=V)
  have f3:=fun V=>bL (V:=V) h.hl
  have f4:=jn (V:=V) h.hl
  have f6:=fun V=>bW (V:=V) h.hl
  have f7:=fun V=>dF (V:=V) h.hl
  have hszb:=h.szb
  have hs1:=h.hs
  have hs0:=(fR H h.hb).1
  have hcn:=h.cnt
  have hnw:=h.nwb
  have hvd:(.agg (rfC sz nw H V):AV).dis = rfAV sz nw H V:=by simp only [ah,List.map_cons,aa,f1]
  have hwa:=m4 (V:=V) (nw:=nw) h.hl (by omega) h.szb h.getb t n st
  unfold sAcq at hQ
  unfold wantE at hwa
  simp only at hQ
  by_cases h0:sChk sz V t n = 0
  case neg =>
    rw [if_pos h0] at hQ hwa
    simp (config:=KF) (disch:=omega) only [bZ,ap,bA,bR,au,aq,boxX,aj,ai,ak,aA,ev_f,ar,putS,Sf.set,Sf.reg,getR,setR,ae,Sf.newLoc,look,bt,aM,aO,id,ah,aa,ag,af,al,aF,aV,aB,List.length_cons,List.all_cons,List.drop_zero,List.take_succ_cons,↓reduceIte,Nat.reduceEqDiff,Nat.reduceAdd,Nat.reduceLeDiff,Bool.true_and,Bool.and_true,and_true,true_and,reduceCtorEq,Nat.zero_add,decide_true,f71_1e,f71_2e,f71_2l,f71_3e,f71_4e,f71_5e,f71_5l,f1,f2,f3,f6]
    refine aL (vs:=[rfAV sz nw H V,.lit (.int .i64 t),.lit (.int .i64 n)]) (by simp only [List.map_cons,List.map_nil,List.nil_append,List.append_nil,hvd,bH]) e_f78 hwa rfl ?_
    simp (config:=KF) (disch:=omega) only [bZ,retI,resI,resL,ap,aw,aH,aq,boxX,aU,aj,ai,cA,ak,aA,ar,aG,putS,Sf.set,Sf.reg,getR,setR,ae,Sf.disAt,Sf.setLoc,look,aM,ah,aa,ag,af,al,bO,aR,List.length_cons,List.length_nil,List.all_cons,List.all_nil,List.drop_zero,List.take_succ_cons,List.set_cons_zero,List.set_cons_succ,↓reduceIte,Nat.reduceEqDiff,Nat.reduceAdd,Nat.reduceLeDiff,Bool.true_and,Bool.and_true,and_true,true_and,Nat.zero_add,not_false_eq_true,decide_true,bh,am,f71_6e,f71_7e,f71_7l,f71_8e,f71_9e,f71_10e,f71_10l,f1,f2,f3,f6,f7,h0]
    exact hQ
  rw [if_neg (by simpa using h0)] at hQ hwa
  obtain ⟨⟨t0,t1⟩,⟨n0,n1⟩,hnm⟩:=kj h0
  have hgb:=h.getb t t0 t1
  by_cases h1:sz < getH H t + n
  · rw [if_pos h1] at hQ hwa
    simp (config:=KF) (disch:=omega) only [bZ,ap,bA,bR,au,aq,boxX,aj,ai,ak,aA,ev_f,ar,putS,Sf.set,Sf.reg,getR,setR,ae,Sf.newLoc,look,bt,aM,aO,id,ah,aa,ag,af,al,aF,aV,aB,List.length_cons,List.all_cons,List.drop_zero,List.take_succ_cons,↓reduceIte,Nat.reduceEqDiff,Nat.reduceAdd,Nat.reduceLeDiff,Bool.true_and,Bool.and_true,and_true,true_and,reduceCtorEq,Nat.zero_add,decide_true,f71_1e,f71_2e,f71_2l,f71_3e,f71_4e,f71_5e,f71_5l,f1,f2,f3,f6]
    refine aL (vs:=[rfAV sz nw H V,.lit (.int .i64 t),.lit (.int .i64 n)]) (by simp only [List.map_cons,List.map_nil,List.nil_append,List.append_nil,hvd,bH]) e_f78 hwa rfl ?_
    simp (config:=KF) (disch:=omega) only [bZ,retI,resI,resL,ap,aw,aH,aq,boxX,aU,aj,ai,cA,ak,aA,ar,aG,putS,Sf.set,Sf.reg,getR,setR,ae,Sf.disAt,Sf.setLoc,look,aM,ah,aa,ag,af,al,bO,aR,List.length_cons,List.length_nil,List.all_cons,List.all_nil,List.drop_zero,List.take_succ_cons,List.set_cons_zero,List.set_cons_succ,↓reduceIte,Nat.reduceEqDiff,Nat.reduceAdd,Nat.reduceLeDiff,Int.reduceEq,Bool.true_and,Bool.and_true,and_true,true_and,Nat.zero_add,not_false_eq_true,decide_true,bh,am,f71_6e,f71_7e,f71_7l,f71_8e,f71_9e,f71_10e,f71_10l,f1,f2,f3,f6,f7]
    exact hQ
  rw [if_neg h1] at hQ hwa
  by_cases h2:d≤nw
  · rw [if_pos h2] at hQ
    have h2':¬ d = 18446744073709551615:=by have:=hnw.2; unfold nev at this; omega
    simp (config:=KF) (disch:=omega) only [bZ,ap,bA,bR,au,aq,boxX,aj,ai,ak,aA,ev_f,ar,putS,Sf.set,Sf.reg,getR,setR,ae,Sf.newLoc,look,bt,aM,aO,id,ah,aa,ag,af,al,aF,aV,aB,List.length_cons,List.all_cons,List.drop_zero,List.take_succ_cons,↓reduceIte,Nat.reduceEqDiff,Nat.reduceAdd,Nat.reduceLeDiff,Bool.true_and,Bool.and_true,and_true,true_and,reduceCtorEq,Nat.zero_add,decide_true,f71_1e,f71_2e,f71_2l,f71_3e,f71_4e,f71_5e,f71_5l,f1,f2,f3,f6]
    refine aL (vs:=[rfAV sz nw H V,.lit (.int .i64 t),.lit (.int .i64 n)]) (by simp only [List.map_cons,List.map_nil,List.nil_append,List.append_nil,hvd,bH]) e_f78 hwa rfl ?_
    simp (config:=KF) (disch:=omega) only [bZ,retI,resI,resL,ao,AI.dst,bj,aI,az,ap,aw,aH,ba,aq,boxX,aU,addA,aj,ai,cA,fI,ak,aA,ar,aG,putS,Sf.set,Sf.reg,getR,setR,ae,Sf.disAt,Sf.setLoc,look,aM,ah,aa,ag,af,al,bO,aR,List.length_cons,List.length_nil,List.all_cons,List.all_nil,List.drop_zero,List.drop_succ_cons,List.take_succ_cons,List.set_cons_zero,List.set_cons_succ,↓reduceIte,Nat.reduceEqDiff,Nat.reduceAdd,Nat.reduceLeDiff,Bool.true_and,Bool.and_true,and_true,true_and,Nat.zero_add,not_false_eq_true,not_true_eq_false,decide_true,decide_false,aS,bh,am,f71_6e,f71_7e,f71_7l,f71_8e,f71_11e,f71_12e,f71_13e,f71_13l,f71_14e,f71_15e,f71_16e,f71_16l,f1,f2,f3,f6,f7,h2']
    exact hQ
  rw [if_neg h2] at hQ
  have hlf:=ik (V:=V) (nw:=nw) h.hl h.hb h.hs (by omega) st
  have hset:=fun y=>o4 (sz:=sz) (nw:=nw) (H:=H) (V:=V) h.hl (i:=t) (x:=y) ⟨t0,t1⟩
  obtain ⟨r,hr⟩:=jB (sz:=sz) (nw:=nw) (V:=V) h.hl (i:=t) t0 t1
  have hadd:H.set t.toNat (getH H t + n) = addH H t n:=rfl
  have g3:=fun V=>bL (V:=V) (H:=addH H t n) (by rw [eC]; exact h.hl)
  have g6:=fun V=>bW (V:=V) (H:=addH H t n) (by rw [eC]; exact h.hl)
  have g7:=fun V=>dF (V:=V) (H:=addH H t n) (by rw [eC]; exact h.hl)
  have p1:=fun l=>(i7 (V:=V) h.hl l).1
  have p2:=fun l=>(i7 (V:=V) h.hl l).2.1
  have p3:=fun l=>(i7 (V:=V) h.hl l).2.2.1
  have gd:=fun l=>(mZ l).2
  have f8:=hR_setq (V:=V) h.hl (V++[(t,n,d)])
  have f9:qR (V++[(t,n,d)]) = .sl false 3 (V.map wtR++[.agg [.lit (.int .i64 t),.lit (.int .i64 n),.lit (.int .u64 d)]]):=by unfold qR; rw [if_neg (by simp)]; simp [wtR]
  rw [f9] at f8
  by_cases hd:d = 18446744073709551615
  all_goals
    try rw [hd] at f8 hQ
    rcases fQ V with ⟨e,hz⟩ | ⟨e,hz⟩
    · subst hz
      rw [e] at f4
      simp only [List.map_nil,List.nil_append] at f8 f9
      by_cases h3:n≤sz - H.sum
      · rw [if_pos ⟨rfl,h3⟩] at hQ
        simp (config:=KF) (disch:=omega) only [bZ,ap,bA,bR,au,aq,boxX,aj,ai,ak,aA,ev_f,ar,putS,Sf.set,Sf.reg,getR,setR,ae,Sf.newLoc,look,bt,aM,aO,id,ah,aa,ag,af,al,aF,aV,aB,List.length_cons,List.all_cons,List.drop_zero,List.take_succ_cons,↓reduceIte,Nat.reduceEqDiff,Nat.reduceAdd,Nat.reduceLeDiff,Bool.true_and,Bool.and_true,and_true,true_and,reduceCtorEq,Nat.zero_add,decide_true,f71_1e,f71_2e,f71_2l,f71_3e,f71_4e,f71_5e,f71_5l,f1,f2,f3,f6]
        refine aL (vs:=[rfAV sz nw H [],.lit (.int .i64 t),.lit (.int .i64 n)]) (by simp only [List.map_cons,List.map_nil,List.nil_append,List.append_nil,hvd,bH]) e_f78 hwa rfl ?_
        simp (config:=KF) (disch:=omega) only [bZ,ao,bY,AI.dst,bj,aD,aI,az,ap,ce,aw,au,ba,aW,aq,lenI,addA,aj,ai,ci,cA,fI,ak,aA,ev_f,putS,Sf.set,Sf.reg,getR,setR,ae,Sf.disAt,look,id,ah,aa,List.length_cons,List.drop_zero,List.drop_succ_cons,List.take_succ_cons,↓reduceIte,Nat.reduceEqDiff,Nat.reduceAdd,Nat.reduceLeDiff,Nat.zero_add,not_false_eq_true,not_true_eq_false,decide_true,decide_false,a8,f71_6e,f71_7e,f71_7l,f71_8e,f71_11e,f71_12e,f71_13e,f71_13l,f71_14e,f71_17e,f71_18e,f71_19e,f71_19l,f1,f3,f4,f6,hd]
        refine aL (vs:=[rfAV sz nw H []]) (by simp only [List.map_cons,List.map_nil,List.nil_append,List.append_nil,hvd,bH]) e_f55 hlf rfl ?_
        simp (config:=KF) (disch:=omega) only [bZ,retI,resI,resL,ao,AI.dst,bj,aI,az,jk,ap,aH,ba,aq,boxX,aU,ixA,addA,aj,ai,cZ,fI,ak,aA,ar,aG,putS,Sf.set,Sf.reg,getR,setR,ae,Sf.disAt,Sf.setLoc,look,aM,ah,aa,aZ,ag,af,al,bO,aR,List.length_cons,List.length_nil,List.all_cons,List.all_nil,List.drop_zero,List.take_succ_cons,List.set_cons_zero,List.set_cons_succ,Int.cast_ofNat_Int,↓reduceIte,Nat.reduceEqDiff,Nat.reduceAdd,Nat.reduceLeDiff,Bool.true_and,Bool.and_true,and_true,true_and,Nat.zero_add,decide_true,bD,aS,IntWalk.i64_in,bK,bh,aQ,am,Nat.mul_one,f71_20e,f71_21e,f71_22e,f71_22l,f71_23e,f71_24e,f71_24l,f1,f2,f3,g3,g6,g7,hr,hset,hadd]
        exact hQ
      · rw [if_neg (fun e=>h3 e.2)] at hQ
        simp (config:=KF) (disch:=omega) only [bZ,ap,bA,bR,au,aq,boxX,aj,ai,ak,aA,ev_f,ar,putS,Sf.set,Sf.reg,getR,setR,ae,Sf.newLoc,look,bt,aM,aO,id,ah,aa,ag,af,al,aF,aV,aB,List.length_cons,List.all_cons,List.drop_zero,List.take_succ_cons,↓reduceIte,Nat.reduceEqDiff,Nat.reduceAdd,Nat.reduceLeDiff,Bool.true_and,Bool.and_true,and_true,true_and,reduceCtorEq,Nat.zero_add,decide_true,f71_1e,f71_2e,f71_2l,f71_3e,f71_4e,f71_5e,f71_5l,f1,f2,f3,f6]
        refine aL (vs:=[rfAV sz nw H [],.lit (.int .i64 t),.lit (.int .i64 n)]) (by simp only [List.map_cons,List.map_nil,List.nil_append,List.append_nil,hvd,bH]) e_f78 hwa rfl ?_
        simp (config:=KF) (disch:=omega) only [bZ,ao,bY,AI.dst,bj,aD,aI,az,ap,ce,aw,au,ba,aW,aq,lenI,addA,aj,ai,ci,cA,fI,ak,aA,ev_f,putS,Sf.set,Sf.reg,getR,setR,ae,Sf.disAt,look,id,ah,aa,List.length_cons,List.drop_zero,List.drop_succ_cons,List.take_succ_cons,↓reduceIte,Nat.reduceEqDiff,Nat.reduceAdd,Nat.reduceLeDiff,Nat.zero_add,not_false_eq_true,not_true_eq_false,decide_true,decide_false,a8,f71_6e,f71_7e,f71_7l,f71_8e,f71_11e,f71_12e,f71_13e,f71_13l,f71_14e,f71_17e,f71_18e,f71_19e,f71_19l,f1,f3,f4,f6,hd]
        refine aL (vs:=[rfAV sz nw H []]) (by simp only [List.map_cons,List.map_nil,List.nil_append,List.append_nil,hvd,bH]) e_f55 hlf rfl ?_
        simp (config:=KF) (disch:=omega) only [bZ,and_self,retI,resI,resL,ao,AI.dst,bj,aI,az,ap,gC,eZ,o_app,gX,aH,ba,aq,bslV,bstV,iG,boxX,aU,List.isEmpty_cons,List.isEmpty_nil,List.reduceReplicate,addA,aj,ai,dt,srcA,d7,cu,fI,ak,aA,ar,aG,putS,Sf.set,Sf.reg,getR,setR,ae,Sf.disAt,Sf.setLoc,look,aM,br,ah,aa,aZ,gE,ag,af,fo,al,bO,aR,List.length_cons,List.length_nil,List.getElem?_cons_zero,List.getElem?_cons_succ,List.all_cons,List.all_nil,List.drop_zero,List.drop_succ_cons,List.take_succ_cons,List.set_cons_zero,List.set_cons_succ,↓reduceIte,Nat.reduceEqDiff,Nat.reduceAdd,Nat.reduceLT,Nat.reduceLeDiff,Bool.true_and,Bool.and_true,and_true,true_and,Nat.zero_add,decide_true,Bool.false_eq_true,fZ,a8,bh,aQ,am,f71_20e,f71_25e,f71_26e,f71_26l,f71_27e,f71_28e,f71_28l,f1,f2,f3,f4,f6,f7,p1,p2,p3,f8]
        exact hQ
    · rw [e] at f4
      rw [if_neg (fun e=>hz e.1)] at hQ
      have hml:(V.map wtR).length = V.length:=by simp
      have hmz:¬ (V.length:Int) = 0:=by
        have:=List.length_pos_iff.2 hz
        omega
      have hme:(V.map wtR).isEmpty = false:=by cases V with
        | nil=>exact absurd rfl hz
        | cons _ _=>rfl
      simp (config:=KF) (disch:=omega) only [bZ,ap,bA,bR,au,aq,boxX,aj,ai,ak,aA,ev_f,ar,putS,Sf.set,Sf.reg,getR,setR,ae,Sf.newLoc,look,bt,aM,aO,id,ah,aa,ag,af,al,aF,aV,aB,List.length_cons,List.all_cons,List.drop_zero,List.take_succ_cons,↓reduceIte,Nat.reduceEqDiff,Nat.reduceAdd,Nat.reduceLeDiff,Bool.true_and,Bool.and_true,and_true,true_and,reduceCtorEq,Nat.zero_add,decide_true,f71_1e,f71_2e,f71_2l,f71_3e,f71_4e,f71_5e,f71_5l,f1,f2,f3,f6]
      refine aL (vs:=[rfAV sz nw H V,.lit (.int .i64 t),.lit (.int .i64 n)]) (by simp only [List.map_cons,List.map_nil,List.nil_append,List.append_nil,hvd,bH]) e_f78 hwa rfl ?_
      simp (config:=KF) (disch:=omega) only [bZ,and_self,retI,resI,resL,ao,bY,AI.dst,bj,aD,aI,az,ap,gC,eZ,ce,o_app,aw,gX,aH,ba,aW,aq,bslV,bstV,iG,boxX,aU,List.reduceReplicate,lenI,addA,aj,ai,dt,eO,srcA,d7,cu,ci,cA,fI,ak,aA,ar,aG,putS,Sf.set,Sf.reg,getR,setR,ae,Sf.disAt,Sf.setLoc,look,aM,br,ah,aa,aZ,gE,ag,af,fo,al,bO,aR,List.length_cons,List.length_nil,List.getElem?_cons_zero,List.getElem?_cons_succ,List.all_cons,List.all_nil,List.drop_zero,List.drop_succ_cons,List.take_succ_cons,List.set_cons_zero,List.set_cons_succ,↓reduceIte,Nat.reduceEqDiff,Nat.reduceAdd,Nat.reduceLT,Nat.reduceLeDiff,Bool.true_and,Bool.and_true,and_true,true_and,Nat.zero_add,not_false_eq_true,not_true_eq_false,decide_true,decide_false,Bool.false_eq_true,List.length_map,fZ,a8,bh,aQ,am,f71_6e,f71_7e,f71_7l,f71_8e,f71_11e,f71_12e,f71_13e,f71_13l,f71_14e,f71_17e,f71_18e,f71_19e,f71_19l,f71_20e,f71_25e,f71_26e,f71_26l,f71_27e,f71_28e,f71_28l,f1,f2,f3,f4,f6,f7,hd,hml,hmz,hme,gd,p1,p2,p3,f8]
      exact hQ

theorem rtry_pure (h:RfOk sz nw H V) (t n:Int) (st:St):bF Go.Proofs.Try.prog n_f72 [rfAV sz nw H V,.lit (.int .i64 t),.lit (.int .i64 n)] st
    (.tup [rfAV sz nw (sTry sz H V t n).1 V,.lit (.int .i64 (sTry sz H V t n).2)]):=by
  refine bU hmix k_f72 rfl rfl fun Q hQ=>?_
  unfold aFun c_f72
  have hQ:=hQ st
  have f1:=fun H V=>cz (H:=H) (V:=V)
  have f2:=fun H V=>co (H:=H) (V:=V)
  have f3:=fun V=>bL (V:=V) h.hl
  have f4:=jn (V:=V) h.hl
  have f6:=fun V=>bW (V:=V) h.hl
  have f7:=fun V=>dF (V:=V) h.hl
  have hszb:=h.szb
  have hs1:=h.hs
  have hs0:=(fR H h.hb).1
  have hcn:=h.cnt
  have hvd:(.agg (rfC sz nw H V):AV).dis = rfAV sz nw H V:=by simp only [ah,List.map_cons,aa,f1]
  have hwa:=m4 (V:=V) (nw:=nw) h.hl (by omega) h.szb h.getb t n st
  unfold sTry at hQ
  unfold wantE at hwa
  simp only at hQ
  by_cases h0:sChk sz V t n = 0
  case neg =>
    rw [if_pos h0] at hQ hwa
    simp (config:=KF) (disch:=omega) only [bZ,ap,bA,bR,au,aq,boxX,aj,ai,ak,aA,ev_f,ar,putS,Sf.set,Sf.reg,getR,setR,ae,Sf.newLoc,look,bt,aM,aO,id,ah,aa,ag,af,al,aF,aV,aB,List.length_cons,List.all_cons,List.drop_zero,List.take_succ_cons,↓reduceIte,Nat.reduceEqDiff,Nat.reduceAdd,Nat.reduceLeDiff,Bool.true_and,Bool.and_true,and_true,true_and,reduceCtorEq,Nat.zero_add,decide_true,f72_1e,f72_2e,f72_2l,f72_3e,f72_4e,f72_5e,f72_5l,f1,f2,f3,f6]
    refine aL (vs:=[rfAV sz nw H V,.lit (.int .i64 t),.lit (.int .i64 n)]) (by simp only [List.map_cons,List.map_nil,List.nil_append,List.append_nil,hvd,bH]) e_f78 hwa rfl ?_
    simp (config:=KF) (disch:=omega) only [bZ,retI,resI,resL,ap,aw,aH,aq,boxX,aU,aj,ai,cA,ak,aA,ar,aG,putS,Sf.set,Sf.reg,getR,setR,ae,Sf.disAt,Sf.setLoc,look,aM,ah,aa,ag,af,al,bO,aR,List.length_cons,List.length_nil,List.all_cons,List.all_nil,List.drop_zero,List.take_succ_cons,List.set_cons_zero,List.set_cons_succ,↓reduceIte,Nat.reduceEqDiff,Nat.reduceAdd,Nat.reduceLeDiff,Bool.true_and,Bool.and_true,and_true,true_and,Nat.zero_add,not_false_eq_true,decide_true,bh,am,f72_6e,f72_7e,f72_7l,f72_8e,f72_9e,f72_10e,f72_10l,f1,f2,f3,f6,f7,h0]
    exact hQ
  rw [if_neg (by simpa using h0)] at hQ hwa
  obtain ⟨⟨t0,t1⟩,⟨n0,n1⟩,hnm⟩:=kj h0
  have hgb:=h.getb t t0 t1
  by_cases h1:sz < getH H t + n
  · rw [if_pos h1] at hQ hwa
    simp (config:=KF) (disch:=omega) only [bZ,ap,bA,bR,au,aq,boxX,aj,ai,ak,aA,ev_f,ar,putS,Sf.set,Sf.reg,getR,setR,ae,Sf.newLoc,look,bt,aM,aO,id,ah,aa,ag,af,al,aF,aV,aB,List.length_cons,List.all_cons,List.drop_zero,List.take_succ_cons,↓reduceIte,Nat.reduceEqDiff,Nat.reduceAdd,Nat.reduceLeDiff,Bool.true_and,Bool.and_true,and_true,true_and,reduceCtorEq,Nat.zero_add,decide_true,f72_1e,f72_2e,f72_2l,f72_3e,f72_4e,f72_5e,f72_5l,f1,f2,f3,f6]
    refine aL (vs:=[rfAV sz nw H V,.lit (.int .i64 t),.lit (.int .i64 n)]) (by simp only [List.map_cons,List.map_nil,List.nil_append,List.append_nil,hvd,bH]) e_f78 hwa rfl ?_
    simp (config:=KF) (disch:=omega) only [bZ,retI,resI,resL,ap,aw,aH,aq,boxX,aU,aj,ai,cA,ak,aA,ar,aG,putS,Sf.set,Sf.reg,getR,setR,ae,Sf.disAt,Sf.setLoc,look,aM,ah,aa,ag,af,al,bO,aR,List.length_cons,List.length_nil,List.all_cons,List.all_nil,List.drop_zero,List.take_succ_cons,List.set_cons_zero,List.set_cons_succ,↓reduceIte,Nat.reduceEqDiff,Nat.reduceAdd,Nat.reduceLeDiff,Int.reduceEq,Bool.true_and,Bool.and_true,and_true,true_and,Nat.zero_add,not_false_eq_true,decide_true,bh,am,f72_6e,f72_7e,f72_7l,f72_8e,f72_9e,f72_10e,f72_10l,f1,f2,f3,f6,f7]
    exact hQ
  rw [if_neg h1] at hQ hwa
  have hlf:=ik (V:=V) (nw:=nw) h.hl h.hb h.hs (by omega) st
  have hset:=fun y=>o4 (sz:=sz) (nw:=nw) (H:=H) (V:=V) h.hl (i:=t) (x:=y) ⟨t0,t1⟩
  obtain ⟨r,hr⟩:=jB (sz:=sz) (nw:=nw) (V:=V) h.hl (i:=t) t0 t1
  have hadd:H.set t.toNat (getH H t + n) = addH H t n:=rfl
  have g3:=fun V=>bL (V:=V) (H:=addH H t n) (by rw [eC]; exact h.hl)
  have g6:=fun V=>bW (V:=V) (H:=addH H t n) (by rw [eC]; exact h.hl)
  have g7:=fun V=>dF (V:=V) (H:=addH H t n) (by rw [eC]; exact h.hl)
  rcases fQ V with ⟨e,hz⟩ | ⟨e,hz⟩
  · subst hz
    rw [e] at f4
    by_cases h3:sz - H.sum < n
    · rw [if_pos (.inr h3)] at hQ
      simp (config:=KF) (disch:=omega) only [bZ,ap,bA,bR,au,aq,boxX,aj,ai,ak,aA,ev_f,ar,putS,Sf.set,Sf.reg,getR,setR,ae,Sf.newLoc,look,bt,aM,aO,id,ah,aa,ag,af,al,aF,aV,aB,List.length_cons,List.all_cons,List.drop_zero,List.take_succ_cons,↓reduceIte,Nat.reduceEqDiff,Nat.reduceAdd,Nat.reduceLeDiff,Bool.true_and,Bool.and_true,and_true,true_and,reduceCtorEq,Nat.zero_add,decide_true,f72_1e,f72_2e,f72_2l,f72_3e,f72_4e,f72_5e,f72_5l,f1,f2,f3,f6]
      refine aL (vs:=[rfAV sz nw H [],.lit (.int .i64 t),.lit (.int .i64 n)]) (by simp only [List.map_cons,List.map_nil,List.nil_append,List.append_nil,hvd,bH]) e_f78 hwa rfl ?_
      simp (config:=KF) (disch:=omega) only [bZ,ao,AI.dst,aD,az,ap,ce,aw,au,aq,lenI,addA,aj,ai,cA,cr,ak,aA,ev_f,putS,Sf.set,Sf.reg,getR,setR,ae,Sf.disAt,look,id,ah,aa,List.length_cons,List.drop_zero,List.drop_succ_cons,List.take_succ_cons,↓reduceIte,Nat.reduceEqDiff,Nat.reduceAdd,Nat.reduceLeDiff,Nat.zero_add,not_true_eq_false,decide_true,decide_false,Bool.false_eq_true,bk,f72_6e,f72_7e,f72_7l,f72_8e,f72_11e,f72_12e,f72_13e,f72_13l,f1,f3,f4,f6]
      refine aL (vs:=[rfAV sz nw H []]) (by simp only [List.map_cons,List.map_nil,List.nil_append,List.append_nil,hvd,bH]) e_f55 hlf rfl ?_
      simp (config:=KF) (disch:=omega) only [bZ,retI,resI,resL,ao,AI.dst,aD,aI,ap,aH,aW,aq,boxX,aU,aj,ai,cr,ak,aA,ar,aG,putS,Sf.set,Sf.reg,getR,setR,ae,Sf.disAt,Sf.setLoc,look,aM,ah,aa,ag,af,al,bO,aR,List.length_cons,List.length_nil,List.all_cons,List.all_nil,List.drop_zero,List.take_succ_cons,List.set_cons_zero,List.set_cons_succ,↓reduceIte,Nat.reduceEqDiff,Nat.reduceAdd,Nat.reduceLeDiff,Bool.true_and,Bool.and_true,and_true,true_and,Nat.zero_add,decide_true,Bool.false_eq_true,aS,bh,am,f72_14e,f72_15e,f72_16e,f72_16l,f1,f2,f3,f6,f7]
      exact hQ
    · rw [if_neg (by rintro (e | e); exact e rfl; exact h3 e)] at hQ
      simp (config:=KF) (disch:=omega) only [bZ,ap,bA,bR,au,aq,boxX,aj,ai,ak,aA,ev_f,ar,putS,Sf.set,Sf.reg,getR,setR,ae,Sf.newLoc,look,bt,aM,aO,id,ah,aa,ag,af,al,aF,aV,aB,List.length_cons,List.all_cons,List.drop_zero,List.take_succ_cons,↓reduceIte,Nat.reduceEqDiff,Nat.reduceAdd,Nat.reduceLeDiff,Bool.true_and,Bool.and_true,and_true,true_and,reduceCtorEq,Nat.zero_add,decide_true,f72_1e,f72_2e,f72_2l,f72_3e,f72_4e,f72_5e,f72_5l,f1,f2,f3,f6]
      refine aL (vs:=[rfAV sz nw H [],.lit (.int .i64 t),.lit (.int .i64 n)]) (by simp only [List.map_cons,List.map_nil,List.nil_append,List.append_nil,hvd,bH]) e_f78 hwa rfl ?_
      simp (config:=KF) (disch:=omega) only [bZ,ao,AI.dst,aD,az,ap,ce,aw,au,aq,lenI,addA,aj,ai,cA,cr,ak,aA,ev_f,putS,Sf.set,Sf.reg,getR,setR,ae,Sf.disAt,look,id,ah,aa,List.length_cons,List.drop_zero,List.drop_succ_cons,List.take_succ_cons,↓reduceIte,Nat.reduceEqDiff,Nat.reduceAdd,Nat.reduceLeDiff,Nat.zero_add,not_true_eq_false,decide_true,decide_false,Bool.false_eq_true,bk,f72_6e,f72_7e,f72_7l,f72_8e,f72_11e,f72_12e,f72_13e,f72_13l,f1,f3,f4,f6]
      refine aL (vs:=[rfAV sz nw H []]) (by simp only [List.map_cons,List.map_nil,List.nil_append,List.append_nil,hvd,bH]) e_f55 hlf rfl ?_
      simp (config:=KF) (disch:=omega) only [bZ,retI,resI,resL,ao,AI.dst,aD,aI,az,jk,ap,aH,aW,aq,boxX,aU,ixA,addA,aj,ai,cZ,cr,ak,aA,ar,aG,putS,Sf.set,Sf.reg,getR,setR,ae,Sf.disAt,Sf.setLoc,look,aM,ah,aa,aZ,ag,af,al,bO,aR,List.length_cons,List.length_nil,List.all_cons,List.all_nil,List.drop_zero,List.take_succ_cons,List.set_cons_zero,List.set_cons_succ,Int.cast_ofNat_Int,↓reduceIte,Nat.reduceEqDiff,Nat.reduceAdd,Nat.reduceLeDiff,Bool.true_and,Bool.and_true,and_true,true_and,Nat.zero_add,decide_true,Bool.false_eq_true,bD,a8,IntWalk.i64_in,bK,bh,aQ,am,Nat.mul_one,f72_14e,f72_17e,f72_18e,f72_18l,f72_19e,f72_20e,f72_20l,f1,f2,f3,g3,g6,g7,hr,hset,hadd]
      exact hQ
  · rw [e] at f4
    rw [if_pos (.inl hz)] at hQ
    have hml:(V.map wtR).length = V.length:=by simp
    have hmz:0 < (V.length:Int):=by
      have:=List.length_pos_iff.2 hz
      omega
    simp (config:=KF) (disch:=omega) only [bZ,ap,bA,bR,au,aq,boxX,aj,ai,ak,aA,ev_f,ar,putS,Sf.set,Sf.reg,getR,setR,ae,Sf.newLoc,look,bt,aM,aO,id,ah,aa,ag,af,al,aF,aV,aB,List.length_cons,List.all_cons,List.drop_zero,List.take_succ_cons,↓reduceIte,Nat.reduceEqDiff,Nat.reduceAdd,Nat.reduceLeDiff,Bool.true_and,Bool.and_true,and_true,true_and,reduceCtorEq,Nat.zero_add,decide_true,f72_1e,f72_2e,f72_2l,f72_3e,f72_4e,f72_5e,f72_5l,f1,f2,f3,f6]
    refine aL (vs:=[rfAV sz nw H V,.lit (.int .i64 t),.lit (.int .i64 n)]) (by simp only [List.map_cons,List.map_nil,List.nil_append,List.append_nil,hvd,bH]) e_f78 hwa rfl ?_
    simp (config:=KF) (disch:=omega) only [bZ,retI,resI,resL,ao,bY,AI.dst,bj,aI,az,ap,ce,aw,aH,ba,aq,boxX,aU,lenI,addA,aj,ai,cA,cr,ak,aA,ar,aG,putS,Sf.set,Sf.reg,getR,setR,ae,Sf.disAt,Sf.setLoc,look,aM,br,ah,aa,ag,af,al,bO,aR,List.length_cons,List.length_nil,List.all_cons,List.all_nil,List.drop_zero,List.drop_succ_cons,List.take_succ_cons,List.set_cons_zero,List.set_cons_succ,↓reduceIte,Nat.reduceEqDiff,Nat.reduceAdd,Nat.reduceLeDiff,Bool.true_and,Bool.and_true,and_true,true_and,Nat.zero_add,not_true_eq_false,decide_true,decide_false,Bool.false_eq_true,bh,am,f72_6e,f72_7e,f72_7l,f72_8e,f72_11e,f72_12e,f72_13e,f72_13l,f72_14e,f72_15e,f72_16e,f72_16l,f1,f2,f3,f4,f6,f7,hml,hmz]
    exact hQ
end
end Go.Fx.YtddifejdkiemgaaFx

