/- What the functions that the statement reaches compute: part 16. -/
import Derived.Test.YtphaaebhgggbaaaFxW15
namespace Go.Fx.YtphaaebhgggbaaaFx
open Go Go.Fx
attribute [local irreducible] aC runI bt cG

set_option maxRecDepth 100000
set_option maxHeartbeats 8000000

theorem get4 (s:St) (a b c d:List AV):((((s.push (.cells a)).push (.cells b)).push (.cells c)).push (.cells d)).get s.boxes.length = some a∧((((s.push (.cells a)).push (.cells b)).push (.cells c)).push (.cells d)).get (s.boxes.length + 1) = some b ∧
    ((((s.push (.cells a)).push (.cells b)).push (.cells c)).push (.cells d)).get (s.boxes.length + 1 + 1) = some c∧((((s.push (.cells a)).push (.cells b)).push (.cells c)).push (.cells d)).get (s.boxes.length + 1 + 1 + 1) = some d:=by
  have e0:∀ l:List (Option Box),(s.boxes++l)[s.boxes.length]? = l[0]?:=fun l=>by rw [List.getElem?_append_right (by omega)]; simp
  have e:∀ (l:List (Option Box)) k,(s.boxes++l)[s.boxes.length + k]? = l[k]?:=fun l k=>by rw [List.getElem?_append_right (by omega)]; simp
  refine ⟨?_,?_,?_,?_⟩ <;> simp [St.get,St.push,Nat.add_assoc,e0,e]

theorem mB (a:Ac):aW Go.Proofs.Try.prog n_f8 [acAV a] ⟨[]⟩ (fun v _=>v = .lit (.bool true)):=by
  refine aP hmix k_f8 rfl rfl fun Q hQ=>?_
  have he:∀ st,aM Go.Proofs.Try.prog n_f28 [rsAV (false,false,[],1),rsAV (false,false,[],1)] st (.lit (.bool true)):=fun st=>by
    simpa using eA (false,false,[],1) (false,false,[],1) (by decide) (by decide) st
  unfold rsAV lAV at he
  simp only [if_true] at he
  have hon:∀ {f v c st},aM Go.Proofs.Try.prog f [v,acAV a] st (rsAV (false,false,[],1))→Zq c st v→aW Go.Proofs.Try.prog f [v,acAV a] st (Grow (.agg [.lit (.bool false),.lit (.bool false),.lit (.slice none 0 0),.lit (.int .i64 1)]) st):=fun h _=>by
    unfold rsAV lAV at h
    exact aM.grow (by simpa only [if_true] using h)
  unfold aFun c_f8
  obtain ⟨w,t,n,s⟩:=a
  simp (config:=KF) (disch:=omega) only [bZ,bN,boxX,aB,putS,Sf.set,Sf.reg,getR,setR,aa,Sf.newLoc,look,bK,aZ,aD,ak,ai,ag,ae,aj,a8,List.length_cons,List.length_nil,List.all_cons,List.all_nil,↓reduceIte,Nat.reduceEqDiff,Nat.reduceAdd,Bool.true_and,Bool.and_true,and_true,true_and,reduceCtorEq,Nat.zero_add,f8_1e,f8_2e,f8_2l,f8_3e,f8_4e,f8_4l,f8_5e,f8_6e,f8_6l,f8_7e,f8_8e,f8_8l,f8_9e,f8_10e,f8_10l,f8_11e,f8_12e,f8_13e,f8_13l,f8_14e,acAV]
  rw [f8_15w]
  refine loop_rounds 3 ?_
  simp (config:=KF) (disch:=omega) only [bZ,af,bB,cf,ev_f,putS,Sf.set,Sf.reg,getR,setR,aa,look,id,↓reduceIte,Nat.reduceEqDiff,Int.reduceLT,Int.reduceEq,decide_true,decide_false,f8_16e,f8_17e,f8_18e,f8_18l,f8_19e,f8_20e,f8_21e,f8_22e,f8_23e,f8_24e,f8_24l,f8_25e,f8_27e,f8_28e,f8_28l,iT]
  refine ap rfl e_f50 (jE 1 _) rfl ?_
  simp (config:=KF) (disch:=omega) only [bZ,bM,aY,af,boxX,bf,ev_f,aB,aS,putS,Sf.set,Sf.reg,getR,setR,aa,Sf.disAt,Sf.newLoc,Sf.setLoc,look,bK,aZ,id,ak,ai,ag,ae,aj,ew,aX,a8,List.length_cons,List.length_nil,List.all_cons,List.all_nil,List.set_cons_zero,List.set_cons_succ,↓reduceIte,Nat.reduceEqDiff,Nat.reduceAdd,Nat.reduceLeDiff,Bool.true_and,Bool.and_true,and_true,true_and,Nat.zero_add,aA,ao,f8_29e,f8_30e,f8_30l,rsAV,lAV]
  refine ap rfl e_f19 (kB (.inl rfl)) rfl ?_
  simp (config:=KF) (disch:=omega) only [bZ,bF,al,af,extV,ev_f,putS,Sf.set,Sf.reg,getR,setR,aa,Sf.disAt,look,id,a9,aU,List.getElem?_cons_zero,List.getElem?_cons_succ,↓reduceIte,Nat.reduceEqDiff,f8_31e,f8_32e,f8_32l]
  refine ap rfl e_f20 (iF (.inl rfl)) rfl ?_
  simp (config:=KF) (disch:=omega) only [bZ,List.contains_nil,dN,bG,dO,g_none_t,eH,gU,bF,al,extV,aw,ah,aq,aE,aV,ev_f,putS,Sf.set,Sf.reg,getR,setR,aa,Sf.disAt,look,bL,id,ak,a9,ai,aU,List.length_cons,List.length_nil,List.getElem?_cons_zero,List.getElem?_cons_succ,List.drop_zero,List.take_succ_cons,List.take_zero,↓reduceIte,Nat.reduceEqDiff,Nat.reduceAdd,Nat.reduceLeDiff,Bool.true_and,true_and,Nat.zero_add,decide_true,Bool.false_eq_true,f8_33e,f8_34e,f8_35e,f8_35h,f8_35l]
  refine gV rfl e_f41 (fun s hs _=>(hon (ny (Zq.sub (.inl rfl) hs) _) (Zq.sub (c:=eF) (.inl rfl) hs))) rfl ?_
  simp (config:=KF) (disch:=omega) only [bZ,bG,ic,dO,eH,ky,aw,ah,aq,aE,aV,ev_f,putS,Sf.set,Sf.reg,getR,setR,look,id,ak,ai,List.length_cons,List.length_nil,List.drop_zero,List.take_succ_cons,List.take_zero,↓reduceIte,Nat.reduceEqDiff,Nat.reduceAdd,Nat.reduceLeDiff,Nat.zero_add,decide_true]
  refine j9 rfl e_f28 (fun s _=>he s) rfl ?_
  simp (config:=KF) (disch:=omega) only [bZ,dN,nu,bG,dO,c7,fW,eH,gU,cH,AI.dst,aw,ah,aq,unA,aE,aV,ev_f,putS,Sf.set,Sf.reg,getR,setR,look,id,ak,ai,List.length_cons,List.length_nil,List.drop_zero,List.take_succ_cons,List.take_zero,↓reduceIte,Nat.reduceEqDiff,Nat.reduceAdd,Nat.reduceLeDiff,Nat.zero_add,decide_true,Bool.not_true]
  refine gV rfl e_f13 (fun s hs _=>(hon (kC (Zq.sub (.inl rfl) hs) _) (Zq.sub (c:=dv) (.inl rfl) hs))) rfl ?_
  simp (config:=KF) (disch:=omega) only [bZ,bG,ic,c7,eH,ky,cH,AI.dst,aw,ah,aq,aE,aV,ev_f,putS,Sf.set,Sf.reg,getR,setR,look,id,ak,ai,List.length_cons,List.length_nil,List.drop_zero,List.take_succ_cons,List.take_zero,↓reduceIte,Nat.reduceEqDiff,Nat.reduceAdd,Nat.reduceLeDiff,Nat.zero_add,decide_true]
  refine j9 rfl e_f28 (fun s _=>he s) rfl ?_
  simp (config:=KF) (disch:=omega) only [bZ,dN,kR,nu,bG,dO,c7,fW,eH,gU,cH,AI.dst,ba,aw,ah,aq,unA,aE,aV,ev_f,putS,Sf.set,Sf.reg,getR,setR,look,id,ak,ai,List.length_cons,List.length_nil,List.drop_zero,List.take_succ_cons,List.take_zero,↓reduceIte,Nat.reduceEqDiff,Nat.reduceAdd,Nat.reduceLeDiff,Nat.zero_add,decide_true,Bool.not_true]
  refine gV rfl e_f16 (fun s hs _=>(hon (zOnce_on (Zq.sub (.inl rfl) hs) _) (Zq.sub (c:=gy) (.inl rfl) hs))) rfl ?_
  simp (config:=KF) (disch:=omega) only [bZ,bG,ic,c7,eH,ky,cH,AI.dst,aw,ah,aq,aE,aV,ev_f,putS,Sf.set,Sf.reg,getR,setR,look,id,ak,ai,List.length_cons,List.length_nil,List.drop_zero,List.take_succ_cons,List.take_zero,↓reduceIte,Nat.reduceEqDiff,Nat.reduceAdd,Nat.reduceLeDiff,Nat.zero_add,decide_true]
  refine j9 rfl e_f28 (fun s _=>he s) rfl ?_
  simp (config:=KF) (disch:=omega) only [bZ,dN,kR,nu,bG,dO,c7,fW,eH,gU,cH,AI.dst,ba,aw,ah,aq,unA,aE,aV,ev_f,putS,Sf.set,Sf.reg,getR,setR,look,id,ak,ai,List.length_cons,List.length_nil,List.drop_zero,List.take_succ_cons,List.take_zero,↓reduceIte,Nat.reduceEqDiff,Nat.reduceAdd,Nat.reduceLeDiff,Nat.zero_add,decide_true,Bool.not_true]
  refine gV rfl e_f18 (fun s hs _=>(hon (zCond_on (Zq.sub (.inl rfl) hs) _) (Zq.sub (c:=eI) (.inl rfl) hs))) rfl ?_
  simp (config:=KF) (disch:=omega) only [bZ,bG,g_nil,c7,eH,ky,nv,cH,aF,AI.dst,aQ,af,aw,ah,aq,aE,aV,ev_f,putS,Sf.set,Sf.reg,getR,setR,look,id,ak,ai,List.length_cons,List.length_nil,List.drop_zero,List.take_succ_cons,List.take_zero,↓reduceIte,Nat.reduceEqDiff,Nat.reduceAdd,Nat.reduceLeDiff,Nat.zero_add,decide_true,Bool.false_eq_true]
  intro s1 hs1 hl1
  refine ap rfl e_f28 (he _) rfl ?_
  simp (config:=KF) (disch:=omega) only [bZ,aF,AI.dst,aQ,bj,o_un,af,ba,unA,cp,ev_f,putS,Sf.set,Sf.reg,getR,setR,aa,look,id,↓reduceIte,Nat.reduceEqDiff,not_true_eq_false,decide_false,Bool.not_true,Bool.false_eq_true,f8_36e,f8_39e,f8_40e,f8_40l]
  refine ap rfl e_f42 (jF (.inl rfl)) rfl ?_
  simp (config:=KF) (disch:=omega) only [bZ,aF,AI.dst,aQ,af,cp,ev_f,putS,Sf.set,Sf.reg,getR,setR,id,↓reduceIte,Nat.reduceEqDiff,not_true_eq_false,decide_false,Bool.false_eq_true]
  refine ap rfl e_f43 (gY (.inl rfl)) rfl ?_
  simp (config:=KF) (disch:=omega) only [bZ,aF,AI.dst,aQ,bj,af,ba,cp,ev_f,putS,Sf.set,Sf.reg,getR,setR,id,↓reduceIte,Nat.reduceEqDiff,not_true_eq_false,decide_false,Bool.false_eq_true]
  refine ap rfl e_f36 (kA (.inl rfl)) rfl ?_
  simp (config:=KF) (disch:=omega) only [bZ,aF,AI.dst,aQ,bj,af,ba,fB,bT,bH,ev_f,putS,Sf.set,Sf.reg,getR,setR,id,↓reduceIte,Nat.reduceEqDiff,Bool.not_true,Bool.false_eq_true]
  refine ap rfl e_f15 (iC (.inl rfl)) rfl ?_
  simp (config:=KF) (disch:=omega) only [bZ,aF,AI.dst,aQ,bj,af,ba,cp,ev_f,putS,Sf.set,Sf.reg,getR,setR,id,↓reduceIte,Nat.reduceEqDiff,not_true_eq_false,decide_false,Bool.false_eq_true]
  refine ap rfl e_f14 (fZ (.inl rfl)) rfl ?_
  simp (config:=KF) (disch:=omega) only [bZ,aF,AI.dst,aQ,bj,af,ba,cp,ev_f,putS,Sf.set,Sf.reg,getR,setR,id,↓reduceIte,Nat.reduceEqDiff,not_true_eq_false,decide_false,Bool.false_eq_true]
  refine ap rfl e_f24 (iD (.inl rfl)) rfl ?_
  simp (config:=KF) (disch:=omega) only [bZ,aF,AI.dst,aQ,bj,af,ba,fB,bT,bH,ev_f,putS,Sf.set,Sf.reg,getR,setR,id,↓reduceIte,Nat.reduceEqDiff,Bool.not_true,Bool.false_eq_true]
  refine ap rfl e_f17 (l8 (.inl rfl)) rfl ?_
  simp (config:=KF) (disch:=omega) only [bZ,aF,AI.dst,aQ,bj,af,ba,ev_f,putS,Sf.set,Sf.reg,getR,setR,id,↓reduceIte,Nat.reduceEqDiff,Bool.false_eq_true]
  refine ap rfl e_f34 (iE (.inl rfl)) rfl ?_
  simp (config:=KF) (disch:=omega) only [bZ,aF,AI.dst,aQ,bj,af,ba,cp,ev_f,putS,Sf.set,Sf.reg,getR,setR,id,↓reduceIte,Nat.reduceEqDiff,not_true_eq_false,decide_false,Bool.false_eq_true]
  refine ap rfl e_f29 (l9 (.inl rfl)) rfl ?_
  simp (config:=KF) (disch:=omega) only [bZ,aF,AI.dst,aQ,bj,af,ba,fB,bT,bH,ev_f,putS,Sf.set,Sf.reg,getR,setR,id,↓reduceIte,Nat.reduceEqDiff,Bool.not_true,Bool.false_eq_true]
  refine ap rfl e_f44 (mc (.inl rfl)) rfl ?_
  simp (config:=KF) (disch:=omega) only [bZ,aH,aF,AI.dst,kx,aQ,bj,co,al,iS,af,ba,bstV,boxX,fB,bT,bH,bg,fT,bB,cf,ev_f,aB,aS,putS,Sf.set,Sf.reg,getR,setR,aa,Sf.disAt,look,id,ak,ai,ag,ae,aj,List.length_cons,List.length_nil,List.all_cons,List.all_nil,↓reduceIte,Nat.reduceEqDiff,Nat.reduceAdd,Int.reduceLT,Bool.true_and,Bool.and_true,and_true,true_and,Nat.zero_add,decide_true,Bool.not_true,Bool.false_eq_true,IntWalk.i64_in,cw,Int.zero_add,f8_16e,f8_17e,f8_18e,f8_18l,f8_19e,f8_20e,f8_21e,f8_22e,f8_23e,f8_24e,f8_24l,f8_25e,f8_26e,f8_26l,f8_27e,f8_28e,f8_28l,f8_41e,f8_44e,f8_44l,iT]
  obtain ⟨q0,q1,q2,q3⟩:=get4 s1 eF dv gy eI
  have m0:Zq eF _ _:=.inr ⟨_,rfl,q0⟩
  have m1:Zq dv _ _:=.inr ⟨_,rfl,q1⟩
  have m2:Zq gy _ _:=.inr ⟨_,rfl,q2⟩
  have m3:Zq eI _ _:=.inr ⟨_,rfl,q3⟩
  refine ap rfl e_f50 (jE 1 _) rfl ?_
  simp (config:=KF) (disch:=omega) only [bZ,bM,aY,af,boxX,bf,ev_f,aB,aS,putS,Sf.set,Sf.reg,getR,setR,aa,Sf.disAt,Sf.newLoc,Sf.setLoc,look,bK,aZ,id,ak,ai,ag,ae,aj,ew,bR,aX,a8,List.length_cons,List.length_nil,List.all_cons,List.all_nil,List.set_cons_zero,List.set_cons_succ,↓reduceIte,Nat.reduceEqDiff,Nat.reduceAdd,Nat.reduceLeDiff,Bool.true_and,Bool.and_true,and_true,true_and,Nat.zero_add,aA,ao,f8_29e,f8_30e,f8_30l,rsAV,lAV]
  refine ap rfl e_f19 (kB (m3)) rfl ?_
  simp (config:=KF) (disch:=omega) only [bZ,bF,al,af,extV,ev_f,putS,Sf.set,Sf.reg,getR,setR,aa,Sf.disAt,look,id,a9,aU,List.getElem?_cons_zero,List.getElem?_cons_succ,↓reduceIte,Nat.reduceEqDiff,f8_31e,f8_32e,f8_32l]
  refine ap rfl e_f20 (iF (m3)) rfl ?_
  simp (config:=KF) (disch:=omega) only [bZ,List.contains_nil,dN,bG,dO,g_none_t,eH,gU,bF,al,extV,aw,ah,aq,aE,aV,ev_f,putS,Sf.set,Sf.reg,getR,setR,aa,Sf.disAt,look,bL,id,ak,a9,ai,aU,List.length_cons,List.length_nil,List.getElem?_cons_zero,List.getElem?_cons_succ,List.drop_zero,List.take_succ_cons,List.take_zero,↓reduceIte,Nat.reduceEqDiff,Nat.reduceAdd,Nat.reduceLeDiff,Bool.true_and,true_and,Nat.zero_add,decide_true,Bool.false_eq_true,f8_33e,f8_34e,f8_35e,f8_35h,f8_35l]
  refine gV rfl e_f41 (fun s hs _=>(hon (ny (Zq.sub (m0) hs) _) (Zq.sub (c:=eF) (m0) hs))) rfl ?_
  simp (config:=KF) (disch:=omega) only [bZ,bG,ic,dO,eH,ky,aw,ah,aq,aE,aV,ev_f,putS,Sf.set,Sf.reg,getR,setR,look,id,ak,ai,List.length_cons,List.length_nil,List.drop_zero,List.take_succ_cons,List.take_zero,↓reduceIte,Nat.reduceEqDiff,Nat.reduceAdd,Nat.reduceLeDiff,Nat.zero_add,decide_true]
  refine j9 rfl e_f28 (fun s _=>he s) rfl ?_
  simp (config:=KF) (disch:=omega) only [bZ,dN,nu,bG,dO,c7,fW,eH,gU,cH,AI.dst,aw,ah,aq,unA,aE,aV,ev_f,putS,Sf.set,Sf.reg,getR,setR,look,id,ak,ai,List.length_cons,List.length_nil,List.drop_zero,List.take_succ_cons,List.take_zero,↓reduceIte,Nat.reduceEqDiff,Nat.reduceAdd,Nat.reduceLeDiff,Nat.zero_add,decide_true,Bool.not_true]
  refine gV rfl e_f13 (fun s hs _=>(hon (kC (Zq.sub (m1) hs) _) (Zq.sub (c:=dv) (m1) hs))) rfl ?_
  simp (config:=KF) (disch:=omega) only [bZ,bG,ic,c7,eH,ky,cH,AI.dst,aw,ah,aq,aE,aV,ev_f,putS,Sf.set,Sf.reg,getR,setR,look,id,ak,ai,List.length_cons,List.length_nil,List.drop_zero,List.take_succ_cons,List.take_zero,↓reduceIte,Nat.reduceEqDiff,Nat.reduceAdd,Nat.reduceLeDiff,Nat.zero_add,decide_true]
  refine j9 rfl e_f28 (fun s _=>he s) rfl ?_
  simp (config:=KF) (disch:=omega) only [bZ,dN,kR,nu,bG,dO,c7,fW,eH,gU,cH,AI.dst,ba,aw,ah,aq,unA,aE,aV,ev_f,putS,Sf.set,Sf.reg,getR,setR,look,id,ak,ai,List.length_cons,List.length_nil,List.drop_zero,List.take_succ_cons,List.take_zero,↓reduceIte,Nat.reduceEqDiff,Nat.reduceAdd,Nat.reduceLeDiff,Nat.zero_add,decide_true,Bool.not_true]
  refine gV rfl e_f16 (fun s hs _=>(hon (zOnce_on (Zq.sub (m2) hs) _) (Zq.sub (c:=gy) (m2) hs))) rfl ?_
  simp (config:=KF) (disch:=omega) only [bZ,bG,ic,c7,eH,ky,cH,AI.dst,aw,ah,aq,aE,aV,ev_f,putS,Sf.set,Sf.reg,getR,setR,look,id,ak,ai,List.length_cons,List.length_nil,List.drop_zero,List.take_succ_cons,List.take_zero,↓reduceIte,Nat.reduceEqDiff,Nat.reduceAdd,Nat.reduceLeDiff,Nat.zero_add,decide_true]
  refine j9 rfl e_f28 (fun s _=>he s) rfl ?_
  simp (config:=KF) (disch:=omega) only [bZ,dN,kR,nu,bG,dO,c7,fW,eH,gU,cH,AI.dst,ba,aw,ah,aq,unA,aE,aV,ev_f,putS,Sf.set,Sf.reg,getR,setR,look,id,ak,ai,List.length_cons,List.length_nil,List.drop_zero,List.take_succ_cons,List.take_zero,↓reduceIte,Nat.reduceEqDiff,Nat.reduceAdd,Nat.reduceLeDiff,Nat.zero_add,decide_true,Bool.not_true]
  refine gV rfl e_f18 (fun s hs _=>(hon (zCond_on (Zq.sub (m3) hs) _) (Zq.sub (c:=eI) (m3) hs))) rfl ?_
  simp (config:=KF) (disch:=omega) only [bZ,bG,g_nil,c7,eH,ky,nv,cH,aF,AI.dst,aQ,af,aw,ah,aq,aE,aV,ev_f,putS,Sf.set,Sf.reg,getR,setR,look,id,ak,ai,List.length_cons,List.length_nil,List.drop_zero,List.take_succ_cons,List.take_zero,↓reduceIte,Nat.reduceEqDiff,Nat.reduceAdd,Nat.reduceLeDiff,Nat.zero_add,decide_true,Bool.false_eq_true,cw]
  intro s2 hs2 hl2
  refine ap rfl e_f28 (he _) rfl ?_
  simp (config:=KF) (disch:=omega) only [bZ,aF,AI.dst,aQ,bj,o_un,af,ba,unA,cp,ev_f,putS,Sf.set,Sf.reg,getR,setR,aa,look,id,↓reduceIte,Nat.reduceEqDiff,not_true_eq_false,decide_false,Bool.not_true,Bool.false_eq_true,f8_36e,f8_39e,f8_40e,f8_40l]
  refine ap rfl e_f42 (jF (m0.sub hs2)) rfl ?_
  simp (config:=KF) (disch:=omega) only [bZ,aF,AI.dst,aQ,af,cp,ev_f,putS,Sf.set,Sf.reg,getR,setR,id,↓reduceIte,Nat.reduceEqDiff,not_true_eq_false,decide_false,Bool.false_eq_true]
  refine ap rfl e_f43 (gY (m0.sub hs2)) rfl ?_
  simp (config:=KF) (disch:=omega) only [bZ,aF,AI.dst,aQ,bj,af,ba,cp,ev_f,putS,Sf.set,Sf.reg,getR,setR,id,↓reduceIte,Nat.reduceEqDiff,not_true_eq_false,decide_false,Bool.false_eq_true]
  refine ap rfl e_f36 (kA (m0.sub hs2)) rfl ?_
  simp (config:=KF) (disch:=omega) only [bZ,aF,AI.dst,aQ,bj,af,ba,fB,bT,bH,ev_f,putS,Sf.set,Sf.reg,getR,setR,id,↓reduceIte,Nat.reduceEqDiff,Bool.not_true,Bool.false_eq_true]
  refine ap rfl e_f15 (iC (m1.sub hs2)) rfl ?_
  simp (config:=KF) (disch:=omega) only [bZ,aF,AI.dst,aQ,bj,af,ba,cp,ev_f,putS,Sf.set,Sf.reg,getR,setR,id,↓reduceIte,Nat.reduceEqDiff,not_true_eq_false,decide_false,Bool.false_eq_true]
  refine ap rfl e_f14 (fZ (m1.sub hs2)) rfl ?_
  simp (config:=KF) (disch:=omega) only [bZ,aF,AI.dst,aQ,bj,af,ba,cp,ev_f,putS,Sf.set,Sf.reg,getR,setR,id,↓reduceIte,Nat.reduceEqDiff,not_true_eq_false,decide_false,Bool.false_eq_true]
  refine ap rfl e_f24 (iD (m1.sub hs2)) rfl ?_
  simp (config:=KF) (disch:=omega) only [bZ,aF,AI.dst,aQ,bj,af,ba,fB,bT,bH,ev_f,putS,Sf.set,Sf.reg,getR,setR,id,↓reduceIte,Nat.reduceEqDiff,Bool.not_true,Bool.false_eq_true]
  refine ap rfl e_f17 (l8 (m2.sub hs2)) rfl ?_
  simp (config:=KF) (disch:=omega) only [bZ,aF,AI.dst,aQ,bj,af,ba,ev_f,putS,Sf.set,Sf.reg,getR,setR,id,↓reduceIte,Nat.reduceEqDiff,Bool.false_eq_true]
  refine ap rfl e_f34 (iE (m2.sub hs2)) rfl ?_
  simp (config:=KF) (disch:=omega) only [bZ,aF,AI.dst,aQ,bj,af,ba,cp,ev_f,putS,Sf.set,Sf.reg,getR,setR,id,↓reduceIte,Nat.reduceEqDiff,not_true_eq_false,decide_false,Bool.false_eq_true]
  refine ap rfl e_f29 (l9 (m2.sub hs2)) rfl ?_
  simp (config:=KF) (disch:=omega) only [bZ,aF,AI.dst,aQ,bj,af,ba,fB,bT,bH,ev_f,putS,Sf.set,Sf.reg,getR,setR,id,↓reduceIte,Nat.reduceEqDiff,Bool.not_true,Bool.false_eq_true]
  refine ap rfl e_f44 (mc (m3.sub hs2)) rfl ?_
  simp (config:=KF) (disch:=omega) only [bZ,c9,aH,cn,en,aF,AI.dst,kx,unrQ_exit,aQ,bj,al,af,ba,fB,bT,bH,fT,cf,ev_f,putS,Sf.set,Sf.reg,getR,setR,aa,Sf.disAt,look,id,↓reduceIte,Nat.reduceEqDiff,Int.reduceLT,Int.reduceAdd,decide_false,Bool.not_true,Bool.false_eq_true,IntWalk.i64_in,f8_16e,f8_17e,f8_18e,f8_18l,f8_19e,f8_41e,f8_44e,f8_44l,f8_45e,f8_46e,f8_46l,iT]
  refine a7 rfl e_f10 (known39 _) rfl fun r st1 hr=>?_
  subst hr
  simp (config:=KF) (disch:=omega) only [bZ,retI,al,putS,Sf.set,Sf.reg,getR,setR,aa,Sf.disAt,↓reduceIte,Nat.reduceEqDiff,Bool.true_and,true_and]
  exact hQ _ _ rfl
end Go.Fx.YtphaaebhgggbaaaFx

