/- What the functions that the statement reaches compute: part 15. -/
import Derived.Test.YtphaaebhgggbaaaFxW14
namespace Go.Fx.YtphaaebhgggbaaaFx
open Go Go.Fx
attribute [local irreducible] aC runI bt cG

set_option maxRecDepth 100000
set_option maxHeartbeats 8000000

/-! Nil and zero onces and conditions: printed by wip/dev/gen_lt11.py. -/
theorem zOnce_Enter {st:St} {v:AV} (h:Zq gy st v) (t:Int):aM Go.Proofs.Try.prog n_f30 [v,.lit (.int .i64 t)] st (.tup [.lit (.bool false),.lit (.bool false),.lit (.int .i64 1)]):=by
  obtain ⟨h1,h2,_⟩:=h.facts
  refine aG hmix k_f30 rfl rfl fun Q hQ=>?_
  unfold aFun c_f30
  simp (config:=KF) (disch:=omega) only [bZ,af,ev_f,putS,Sf.set,Sf.reg,getR,setR,aa,aD,id,↓reduceIte,Nat.reduceEqDiff,reduceCtorEq,Nat.zero_add,f30_1e,f30_2e,f30_2l,f30_3e,f30_4e,f30_5e,f30_5l,h1]
  refine ap (vs:=[v]) (by simp [h1]) e_f57 (ek h) (by simp [h2]) ?_
  simp (config:=KF) (disch:=omega) only [bZ,retI,resI,resL,putS,Sf.set,Sf.reg,getR,setR,aa,aR,List.all_cons,List.all_nil,↓reduceIte,Nat.reduceEqDiff,Bool.true_and,Bool.and_true,and_true,true_and,reduceCtorEq,f30_6e,f30_7e,f30_8e,f30_8l]
  exact hQ _
theorem zOnce_Leave {st:St} {v:AV} (h:Zq gy st v) (t:Int) (s:Bool):aM Go.Proofs.Try.prog n_f31 [v,.lit (.int .i64 t),.lit (.bool s)] st (.tup [.lit (.slice none 0 0),.lit (.int .i64 1)]):=by
  obtain ⟨h1,h2,_⟩:=h.facts
  refine aG hmix k_f31 rfl rfl fun Q hQ=>?_
  unfold aFun c_f31
  simp (config:=KF) (disch:=omega) only [bZ,af,ev_f,putS,Sf.set,Sf.reg,getR,setR,aa,aD,id,↓reduceIte,Nat.reduceEqDiff,Nat.reduceAdd,reduceCtorEq,Nat.zero_add,f31_1e,f31_2e,f31_2l,f31_3e,f31_4e,f31_5e,f31_5l,h1]
  refine ap (vs:=[v]) (by simp [h1]) e_f57 (ek h) (by simp [h2]) ?_
  simp (config:=KF) (disch:=omega) only [bZ,retI,resI,resL,putS,Sf.set,Sf.reg,getR,setR,aa,aR,List.all_cons,List.all_nil,↓reduceIte,Nat.reduceEqDiff,Bool.true_and,Bool.and_true,and_true,true_and,reduceCtorEq,f31_6e,f31_7e,f31_8e,f31_8l]
  exact hQ _
theorem n9 {st:St} {v:AV} (h:Zq gy st v) (t:Int):aM Go.Proofs.Try.prog n_f56 [v,.lit (.int .i64 t)] st (.lit (.int .i64 1)):=by
  obtain ⟨h1,h2,_⟩:=h.facts
  refine aG hmix k_f56 rfl rfl fun Q hQ=>?_
  unfold aFun c_f56
  simp (config:=KF) (disch:=omega) only [bZ,af,ev_f,putS,Sf.set,Sf.reg,getR,setR,aa,aD,id,↓reduceIte,Nat.reduceEqDiff,reduceCtorEq,Nat.zero_add,f56_1e,f56_2e,f56_2l,f56_3e,f56_4e,f56_5e,f56_5l,h1]
  refine ap (vs:=[v]) (by simp [h1]) e_f57 (ek h) (by simp [h2]) ?_
  simp (config:=KF) (disch:=omega) only [bZ,retI,putS,Sf.set,Sf.reg,getR,setR,aa,↓reduceIte,Nat.reduceEqDiff,Bool.true_and,true_and,reduceCtorEq,f56_6e,f56_7e,f56_8e,f56_8l]
  exact hQ _
theorem l8 {st:St} {v:AV} (h:Zq gy st v):aM Go.Proofs.Try.prog n_f17 [v] st (.lit (.bool false)):=by
  obtain ⟨h1,h2,_⟩:=h.facts
  refine aG hmix k_f17 rfl rfl fun Q hQ=>?_
  unfold aFun c_f17
  simp (config:=KF) (disch:=omega) only [bZ,af,ev_f,putS,Sf.set,Sf.reg,getR,setR,aa,aD,id,↓reduceIte,reduceCtorEq,f17_1e,f17_2e,f17_2l,f17_3e,f17_4e,f17_4l,h1]
  refine ap (vs:=[v]) (by simp [h1]) e_f57 (ek h) (by simp [h2]) ?_
  simp (config:=KF) (disch:=omega) only [bZ,retI,aF,dq,AI.dst,aQ,bj,o_un,al,ba,unA,putS,Sf.set,Sf.reg,getR,setR,aa,Sf.disAt,↓reduceIte,Nat.reduceEqDiff,Bool.true_and,true_and,reduceCtorEq,Bool.not_true]
  exact hQ _
theorem iE {st:St} {v:AV} (h:Zq gy st v):aM Go.Proofs.Try.prog n_f34 [v] st (.lit (.int .i64 0)):=by
  obtain ⟨h1,h2,_⟩:=h.facts
  refine aG hmix k_f34 rfl rfl fun Q hQ=>?_
  unfold aFun c_f34
  simp (config:=KF) (disch:=omega) only [bZ,af,ev_f,putS,Sf.set,Sf.reg,getR,setR,aa,aD,id,↓reduceIte,reduceCtorEq,f34_1e,f34_2e,f34_2l,f34_3e,f34_4e,f34_5e,f34_5l,h1]
  refine ap (vs:=[v]) (by simp [h1]) e_f57 (ek h) (by simp [h2]) ?_
  simp (config:=KF) (disch:=omega) only [bZ,retI,putS,Sf.set,Sf.reg,getR,setR,aa,↓reduceIte,Nat.reduceEqDiff,Bool.true_and,true_and,reduceCtorEq,f34_6e,f34_7e,f34_8e,f34_8l]
  exact hQ _
theorem l9 {st:St} {v:AV} (h:Zq gy st v):aM Go.Proofs.Try.prog n_f29 [v] st (.lit (.pointer none)):=by
  obtain ⟨h1,h2,_⟩:=h.facts
  refine aG hmix k_f29 rfl rfl fun Q hQ=>?_
  unfold aFun c_f29
  simp (config:=KF) (disch:=omega) only [bZ,af,ev_f,putS,Sf.set,Sf.reg,getR,setR,aa,aD,id,↓reduceIte,reduceCtorEq,f29_1e,f29_2e,f29_2l,f29_3e,f29_4e,f29_5e,f29_5l,h1]
  refine ap (vs:=[v]) (by simp [h1]) e_f57 (ek h) (by simp [h2]) ?_
  simp (config:=KF) (disch:=omega) only [bZ,retI,putS,Sf.set,Sf.reg,getR,setR,aa,↓reduceIte,Nat.reduceEqDiff,Bool.true_and,true_and,reduceCtorEq,f29_6e,f29_7e,f29_8e,f29_8l]
  exact hQ _
theorem zCond_Lock {st:St} {v:AV} (h:Zq eI st v) (t:Int):aM Go.Proofs.Try.prog n_f45 [v,.lit (.int .i64 t)] st (.tup [.lit (.bool false),.lit (.int .i64 1)]):=by
  obtain ⟨h1,h2,_⟩:=h.facts
  refine aG hmix k_f45 rfl rfl fun Q hQ=>?_
  unfold aFun c_f45
  simp (config:=KF) (disch:=omega) only [bZ,af,ev_f,putS,Sf.set,Sf.reg,getR,setR,aa,aD,id,↓reduceIte,Nat.reduceEqDiff,reduceCtorEq,Nat.zero_add,f45_1e,f45_2e,f45_2l,f45_3e,f45_4e,f45_5e,f45_5l,h1]
  refine ap (vs:=[v]) (by simp [h1]) e_f62 (dU h) (by simp [h2]) ?_
  simp (config:=KF) (disch:=omega) only [bZ,retI,resI,resL,putS,Sf.set,Sf.reg,getR,setR,aa,aR,List.all_cons,List.all_nil,↓reduceIte,Nat.reduceEqDiff,Bool.true_and,Bool.and_true,and_true,true_and,reduceCtorEq,f45_6e,f45_7e,f45_8e,f45_8l]
  exact hQ _
theorem jG {st:St} {v:AV} (h:Zq eI st v) (t:Int):aM Go.Proofs.Try.prog n_f58 [v,.lit (.int .i64 t)] st (.tup [.lit (.slice none 0 0),.lit (.int .i64 1)]):=by
  obtain ⟨h1,h2,_⟩:=h.facts
  refine aG hmix k_f58 rfl rfl fun Q hQ=>?_
  unfold aFun c_f58
  simp (config:=KF) (disch:=omega) only [bZ,af,ev_f,putS,Sf.set,Sf.reg,getR,setR,aa,aD,id,↓reduceIte,Nat.reduceEqDiff,reduceCtorEq,Nat.zero_add,f58_1e,f58_2e,f58_2l,f58_3e,f58_4e,f58_5e,f58_5l,h1]
  refine ap (vs:=[v]) (by simp [h1]) e_f62 (dU h) (by simp [h2]) ?_
  simp (config:=KF) (disch:=omega) only [bZ,retI,resI,resL,putS,Sf.set,Sf.reg,getR,setR,aa,aR,List.all_cons,List.all_nil,↓reduceIte,Nat.reduceEqDiff,Bool.true_and,Bool.and_true,and_true,true_and,reduceCtorEq,f58_6e,f58_7e,f58_8e,f58_8l]
  exact hQ _
theorem zCond_Wait {st:St} {v:AV} (h:Zq eI st v) (t:Int):aM Go.Proofs.Try.prog n_f59 [v,.lit (.int .i64 t)] st (.tup [.lit (.slice none 0 0),.lit (.int .i64 1)]):=by
  obtain ⟨h1,h2,_⟩:=h.facts
  refine aG hmix k_f59 rfl rfl fun Q hQ=>?_
  unfold aFun c_f59
  simp (config:=KF) (disch:=omega) only [bZ,af,ev_f,putS,Sf.set,Sf.reg,getR,setR,aa,aD,id,↓reduceIte,Nat.reduceEqDiff,reduceCtorEq,Nat.zero_add,f59_1e,f59_2e,f59_2l,f59_3e,f59_4e,f59_4l,h1]
  refine ap (vs:=[v,.lit (.int .i64 t)]) (by simp [h1,cr]) e_f58 (jG h t) (by simp [h2,cy]) ?_
  simp (config:=KF) (disch:=omega) only [bZ,retI,resI,resL,bF,al,extV,bB,putS,Sf.set,Sf.reg,getR,setR,aa,Sf.disAt,a9,aU,aR,List.getElem?_cons_zero,List.getElem?_cons_succ,List.all_cons,List.all_nil,↓reduceIte,Nat.reduceEqDiff,Int.reduceEq,Bool.true_and,Bool.and_true,and_true,true_and,reduceCtorEq,decide_false,f59_5e,f59_6e,f59_7e,f59_7l,f59_8e,f59_10e,f59_11e,f59_11l]
  exact hQ _
theorem ma {st:St} {v:AV} (h:Zq eI st v) (n:Int):aM Go.Proofs.Try.prog n_f77 [v,.lit (.int .i64 n)] st (.tup [.lit (.slice none 0 0),.lit (.int .i64 1)]):=by
  obtain ⟨h1,h2,_⟩:=h.facts
  refine aG hmix k_f77 rfl rfl fun Q hQ=>?_
  unfold aFun c_f77
  simp (config:=KF) (disch:=omega) only [bZ,af,ev_f,putS,Sf.set,Sf.reg,getR,setR,aa,aD,id,↓reduceIte,Nat.reduceEqDiff,reduceCtorEq,Nat.zero_add,f77_1e,f77_2e,f77_2l,f77_3e,f77_4e,f77_5e,f77_5l,h1]
  refine ap (vs:=[v]) (by simp [h1]) e_f62 (dU h) (by simp [h2]) ?_
  simp (config:=KF) (disch:=omega) only [bZ,retI,resI,resL,putS,Sf.set,Sf.reg,getR,setR,aa,aR,List.all_cons,List.all_nil,↓reduceIte,Nat.reduceEqDiff,Bool.true_and,Bool.and_true,and_true,true_and,reduceCtorEq,f77_6e,f77_7e,f77_8e,f77_8l]
  exact hQ _
theorem oa {st:St} {v:AV} (h:Zq eI st v):aM Go.Proofs.Try.prog n_f60 [v] st (.tup [.lit (.slice none 0 0),.lit (.int .i64 1)]):=by
  obtain ⟨h1,h2,_⟩:=h.facts
  refine aG hmix k_f60 rfl rfl fun Q hQ=>?_
  unfold aFun c_f60
  simp (config:=KF) (disch:=omega) only [bZ,af,ev_f,putS,Sf.set,Sf.reg,getR,setR,aa,aD,id,↓reduceIte,Nat.reduceEqDiff,reduceCtorEq,f60_1e,f60_2e,f60_2l,f60_3e,f60_4e,f60_4l,h1]
  refine ap (vs:=[v,.lit (.int .i64 1)]) (by simp [h1,cr]) e_f77 (ma h 1) (by simp [h2,cy]) ?_
  simp (config:=KF) (disch:=omega) only [bZ,retI,resI,resL,bF,al,extV,putS,Sf.set,Sf.reg,getR,setR,aa,Sf.disAt,aR,List.getElem?_cons_zero,List.getElem?_cons_succ,List.all_cons,List.all_nil,↓reduceIte,Nat.reduceEqDiff,Bool.true_and,Bool.and_true,and_true,true_and,reduceCtorEq]
  exact hQ _
theorem kI {st:St} {v:AV} (h:Zq eI st v):aM Go.Proofs.Try.prog n_f46 [v] st (.tup [.lit (.slice none 0 0),.lit (.int .i64 1)]):=by
  obtain ⟨h1,h2,_⟩:=h.facts
  refine aG hmix k_f46 rfl rfl fun Q hQ=>?_
  unfold aFun c_f46
  simp (config:=KF) (disch:=omega) only [bZ,af,ev_f,putS,Sf.set,Sf.reg,getR,setR,aa,aD,id,↓reduceIte,Nat.reduceEqDiff,reduceCtorEq,f46_1e,f46_2e,f46_2l,f46_3e,f46_4e,f46_4l,h1]
  refine ap (vs:=[v,.lit (.int .i64 64)]) (by simp [h1,cr]) e_f77 (ma h 64) (by simp [h2,cy]) ?_
  simp (config:=KF) (disch:=omega) only [bZ,retI,resI,resL,bF,al,extV,putS,Sf.set,Sf.reg,getR,setR,aa,Sf.disAt,aR,List.getElem?_cons_zero,List.getElem?_cons_succ,List.all_cons,List.all_nil,↓reduceIte,Nat.reduceEqDiff,Bool.true_and,Bool.and_true,and_true,true_and,reduceCtorEq]
  exact hQ _
theorem oc {st:St} {v:AV} (h:Zq eI st v) (t:Int):aM Go.Proofs.Try.prog n_f61 [v,.lit (.int .i64 t)] st (.lit (.int .i64 1)):=by
  obtain ⟨h1,h2,_⟩:=h.facts
  refine aG hmix k_f61 rfl rfl fun Q hQ=>?_
  unfold aFun c_f61
  simp (config:=KF) (disch:=omega) only [bZ,af,ev_f,putS,Sf.set,Sf.reg,getR,setR,aa,aD,id,↓reduceIte,Nat.reduceEqDiff,reduceCtorEq,Nat.zero_add,f61_1e,f61_2e,f61_2l,f61_3e,f61_4e,f61_5e,f61_5l,h1]
  refine ap (vs:=[v]) (by simp [h1]) e_f62 (dU h) (by simp [h2]) ?_
  simp (config:=KF) (disch:=omega) only [bZ,retI,putS,Sf.set,Sf.reg,getR,setR,aa,↓reduceIte,Nat.reduceEqDiff,Bool.true_and,true_and,reduceCtorEq,f61_6e,f61_7e,f61_8e,f61_8l]
  exact hQ _
theorem kB {st:St} {v:AV} (h:Zq eI st v):aM Go.Proofs.Try.prog n_f19 [v] st (.tup [.lit (.int .i64 0),.lit (.bool false)]):=by
  obtain ⟨h1,h2,_⟩:=h.facts
  refine aG hmix k_f19 rfl rfl fun Q hQ=>?_
  unfold aFun c_f19
  simp (config:=KF) (disch:=omega) only [bZ,af,ev_f,putS,Sf.set,Sf.reg,getR,setR,aa,aD,id,↓reduceIte,Nat.reduceEqDiff,reduceCtorEq,f19_1e,f19_2e,f19_2l,f19_3e,f19_4e,f19_5e,f19_5l,h1]
  refine ap (vs:=[v]) (by simp [h1]) e_f62 (dU h) (by simp [h2]) ?_
  simp (config:=KF) (disch:=omega) only [bZ,retI,resI,resL,aF,dq,AI.dst,dt,bj,eo,putS,Sf.set,Sf.reg,getR,setR,aa,aR,List.all_cons,List.all_nil,↓reduceIte,Nat.reduceEqDiff,Bool.true_and,Bool.and_true,and_true,true_and,reduceCtorEq,Bool.false_eq_true,f19_6e,f19_7e,f19_8e,f19_8l]
  exact hQ _
theorem iF {st:St} {v:AV} (h:Zq eI st v):aM Go.Proofs.Try.prog n_f20 [v] st (.tup [.lit (.int .i64 0),.lit (.int .i64 0)]):=by
  obtain ⟨h1,h2,_⟩:=h.facts
  refine aG hmix k_f20 rfl rfl fun Q hQ=>?_
  unfold aFun c_f20
  simp (config:=KF) (disch:=omega) only [bZ,af,ev_f,putS,Sf.set,Sf.reg,getR,setR,aa,aD,id,↓reduceIte,Nat.reduceEqDiff,reduceCtorEq,f20_1e,f20_2e,f20_2l,f20_3e,f20_4e,f20_5e,f20_5l,h1]
  refine ap (vs:=[v]) (by simp [h1]) e_f62 (dU h) (by simp [h2]) ?_
  simp (config:=KF) (disch:=omega) only [bZ,retI,resI,resL,putS,Sf.set,Sf.reg,getR,setR,aa,aR,List.all_cons,List.all_nil,↓reduceIte,Nat.reduceEqDiff,Bool.true_and,Bool.and_true,and_true,true_and,reduceCtorEq,f20_6e,f20_7e,f20_8e,f20_8l]
  exact hQ _
theorem mc {st:St} {v:AV} (h:Zq eI st v):aM Go.Proofs.Try.prog n_f44 [v] st (.lit (.pointer none)):=by
  obtain ⟨h1,h2,_⟩:=h.facts
  refine aG hmix k_f44 rfl rfl fun Q hQ=>?_
  unfold aFun c_f44
  simp (config:=KF) (disch:=omega) only [bZ,af,ev_f,putS,Sf.set,Sf.reg,getR,setR,aa,aD,id,↓reduceIte,reduceCtorEq,f44_1e,f44_2e,f44_2l,f44_3e,f44_4e,f44_5e,f44_5l,h1]
  refine ap (vs:=[v]) (by simp [h1]) e_f62 (dU h) (by simp [h2]) ?_
  simp (config:=KF) (disch:=omega) only [bZ,retI,putS,Sf.set,Sf.reg,getR,setR,aa,↓reduceIte,Nat.reduceEqDiff,Bool.true_and,true_and,reduceCtorEq,f44_6e,f44_7e,f44_8e,f44_8l]
  exact hQ _
theorem ny {st:St} {v:AV} (h:Zq eF st v) (a:Ac):aM Go.Proofs.Try.prog n_f41 [v,acAV a] st (rsAV (false,false,[],1)):=by
  obtain ⟨w,t,n,s⟩:=a
  obtain ⟨h1,h2,h3⟩:=h.facts
  refine aG hmix k_f41 rfl rfl fun Q hQ=>?_
  unfold aFun c_f41
  unfold rsAV lAV at hQ
  simp only [if_true] at hQ
  by_cases c0:w = 0
  · subst c0
    simp (config:=KF) (disch:=omega) only [bZ,ar,au,al,bM,bN,af,aw,boxX,addA,ah,bB,ev_f,aB,putS,Sf.set,Sf.reg,getR,setR,aa,Sf.disAt,Sf.newLoc,look,bK,aZ,aD,id,ak,ai,ag,ae,aj,aX,a8,List.length_cons,List.length_nil,List.all_cons,List.all_nil,List.drop_zero,List.drop_succ_cons,↓reduceIte,Nat.reduceEqDiff,Nat.reduceAdd,Bool.true_and,Bool.and_true,and_true,true_and,reduceCtorEq,Nat.zero_add,Nat.add_zero,decide_true,f41_1e,f41_2e,f41_2l,f41_3e,f41_4e,f41_5e,f41_5l,f41_6e,f41_7e,f41_8e,f41_8l,f41_9e,f41_10e,f41_11e,f41_11l,acAV,h1,h3]
    refine ap (vs:=[v,.lit (.int .i64 t)]) (by simp [h1,cr]) e_f76 (zLatch_Wait h t) (by simp [h2,cy]) ?_
    simp (config:=KF) (disch:=omega) only [bZ,and_self,bE,retI,resI,bF,co,al,aY,extV,bstV,boxX,bf,ah,aq,bg,aE,aV,aB,aS,putS,Sf.set,Sf.reg,getR,setR,aa,Sf.disAt,Sf.setLoc,look,aZ,ak,a9,ai,aU,az,ag,ae,aj,bC,List.length_cons,List.length_nil,List.getElem?_cons_zero,List.getElem?_cons_succ,List.all_cons,List.all_nil,List.drop_zero,List.take_succ_cons,List.take_zero,List.set_cons_zero,List.set_cons_succ,↓reduceIte,Nat.reduceEqDiff,Nat.reduceAdd,Nat.reduceLeDiff,Bool.true_and,Bool.and_true,and_true,true_and,reduceCtorEq,Nat.zero_add,decide_true,aA,ao,f41_12e,f41_13e,f41_13l]
    exact hQ _
  by_cases c1:w = 1
  · subst c1
    simp (config:=KF) (disch:=omega) only [bZ,ar,au,al,bM,bN,af,aw,boxX,addA,ah,bB,ev_f,aB,putS,Sf.set,Sf.reg,getR,setR,aa,Sf.disAt,Sf.newLoc,look,bK,aZ,aD,id,ak,ai,ag,ae,aj,aX,a8,List.length_cons,List.length_nil,List.all_cons,List.all_nil,List.drop_zero,List.drop_succ_cons,↓reduceIte,Nat.reduceEqDiff,Nat.reduceAdd,Int.reduceEq,Bool.true_and,Bool.and_true,and_true,true_and,reduceCtorEq,Nat.zero_add,Nat.add_zero,decide_true,decide_false,f41_1e,f41_2e,f41_2l,f41_3e,f41_4e,f41_5e,f41_5l,f41_6e,f41_7e,f41_8e,f41_8l,f41_9e,f41_14e,f41_15e,f41_15l,f41_16e,f41_17e,f41_18e,f41_18l,acAV,h1,h3]
    refine ap (vs:=[v,.lit (.int .i64 n)]) (by simp [h1,cr]) e_f37 (zLatch_Down h n) (by simp [h2,cy]) ?_
    simp (config:=KF) (disch:=omega) only [bZ,and_self,bE,retI,resI,bF,co,al,aY,extV,bstV,boxX,bf,ah,aq,bg,aE,aV,aB,aS,putS,Sf.set,Sf.reg,getR,setR,aa,Sf.disAt,Sf.setLoc,look,aZ,ak,a9,ai,aU,az,ag,ae,aj,bC,List.length_cons,List.length_nil,List.getElem?_cons_zero,List.getElem?_cons_succ,List.all_cons,List.all_nil,List.drop_zero,List.take_succ_cons,List.take_zero,List.set_cons_zero,List.set_cons_succ,↓reduceIte,Nat.reduceEqDiff,Nat.reduceAdd,Nat.reduceLeDiff,Bool.true_and,Bool.and_true,and_true,true_and,reduceCtorEq,Nat.zero_add,decide_true,aA,ao,f41_19e,f41_20e,f41_20l]
    exact hQ _
  simp (config:=KF) (disch:=omega) only [bZ,aH,ar,au,al,bM,bN,af,aw,boxX,addA,ah,bB,ev_f,aB,putS,Sf.set,Sf.reg,getR,setR,aa,Sf.disAt,Sf.newLoc,look,bK,aZ,aD,id,ak,ai,ag,ae,aj,aX,a8,List.length_cons,List.length_nil,List.all_cons,List.all_nil,List.drop_zero,List.drop_succ_cons,↓reduceIte,Nat.reduceEqDiff,Nat.reduceAdd,Bool.true_and,Bool.and_true,and_true,true_and,reduceCtorEq,Nat.zero_add,Nat.add_zero,decide_false,f41_1e,f41_2e,f41_2l,f41_3e,f41_4e,f41_5e,f41_5l,f41_6e,f41_7e,f41_8e,f41_8l,f41_9e,f41_14e,f41_15e,f41_15l,f41_16e,f41_21e,f41_22e,f41_22l,acAV,h1,h3,c0,c1]
  refine ap (vs:=[v,.lit (.int .i64 t)]) (by simp [h1,cr]) e_f38 (mA h t) (by simp [h2,cy]) ?_
  simp (config:=KF) (disch:=omega) only [bZ,and_self,retI,resI,co,aY,bstV,boxX,bf,ah,aq,bg,aE,aV,aB,aS,putS,Sf.set,Sf.reg,getR,setR,aa,Sf.disAt,Sf.setLoc,look,aZ,ak,ai,az,ag,ae,aj,bC,List.length_cons,List.length_nil,List.getElem?_cons_zero,List.getElem?_cons_succ,List.all_cons,List.all_nil,List.drop_zero,List.take_succ_cons,List.take_zero,List.set_cons_zero,List.set_cons_succ,↓reduceIte,Nat.reduceEqDiff,Nat.reduceAdd,Nat.reduceLeDiff,Bool.true_and,Bool.and_true,and_true,true_and,reduceCtorEq,Nat.zero_add,decide_true,aA,ao]
  exact hQ _
theorem kC {st:St} {v:AV} (h:Zq dv st v) (a:Ac):aM Go.Proofs.Try.prog n_f13 [v,acAV a] st (rsAV (false,false,[],1)):=by
  obtain ⟨w,t,n,s⟩:=a
  obtain ⟨h1,h2,h3⟩:=h.facts
  refine aG hmix k_f13 rfl rfl fun Q hQ=>?_
  unfold aFun c_f13
  unfold rsAV lAV at hQ
  simp only [if_true] at hQ
  by_cases c0:w = 0
  · subst c0
    simp (config:=KF) (disch:=omega) only [bZ,ar,au,bM,bN,af,aw,boxX,addA,ah,bB,ev_f,aB,putS,Sf.set,Sf.reg,getR,setR,aa,Sf.newLoc,look,bK,aZ,aD,id,ak,ai,ag,ae,aj,aX,a8,List.length_cons,List.length_nil,List.all_cons,List.all_nil,List.drop_zero,List.drop_succ_cons,↓reduceIte,Nat.reduceEqDiff,Nat.reduceAdd,Bool.true_and,Bool.and_true,and_true,true_and,reduceCtorEq,Nat.zero_add,Nat.add_zero,decide_true,f13_1e,f13_2e,f13_2l,f13_3e,f13_4e,f13_5e,f13_5l,f13_6e,f13_7e,f13_8e,f13_8l,acAV,h1,h3]
    refine ap (vs:=[v,.lit (.int .i64 t)]) (by simp [h1,cr]) e_f25 (kG h t) (by simp [h2,cy]) ?_
    simp (config:=KF) (disch:=omega) only [bZ,and_self,retI,resI,bF,co,al,aY,extV,bstV,boxX,bf,ah,aq,bg,aE,aV,aB,aS,putS,Sf.set,Sf.reg,getR,setR,aa,Sf.disAt,Sf.setLoc,look,aZ,ak,a9,ai,aU,az,ag,ae,aj,bC,List.length_cons,List.length_nil,List.getElem?_cons_zero,List.getElem?_cons_succ,List.all_cons,List.all_nil,List.drop_zero,List.take_succ_cons,List.take_zero,List.set_cons_zero,List.set_cons_succ,↓reduceIte,Nat.reduceEqDiff,Nat.reduceAdd,Nat.reduceLeDiff,Bool.true_and,Bool.and_true,and_true,true_and,reduceCtorEq,Nat.zero_add,decide_true,aA,ao,f13_9e,f13_10e,f13_10l]
    exact hQ _
  simp (config:=KF) (disch:=omega) only [bZ,ar,au,bM,bN,af,aw,boxX,addA,ah,bB,ev_f,aB,putS,Sf.set,Sf.reg,getR,setR,aa,Sf.newLoc,look,bK,aZ,aD,id,ak,ai,ag,ae,aj,aX,a8,List.length_cons,List.length_nil,List.all_cons,List.all_nil,List.drop_zero,List.drop_succ_cons,↓reduceIte,Nat.reduceEqDiff,Nat.reduceAdd,Bool.true_and,Bool.and_true,and_true,true_and,reduceCtorEq,Nat.zero_add,Nat.add_zero,decide_false,f13_1e,f13_2e,f13_2l,f13_3e,f13_4e,f13_5e,f13_5l,f13_6e,f13_11e,f13_12e,f13_12l,acAV,h1,h3,c0]
  refine ap (vs:=[v,.lit (.int .i64 t)]) (by simp [h1,cr]) e_f53 (kH h t) (by simp [h2,cy]) ?_
  simp (config:=KF) (disch:=omega) only [bZ,and_self,retI,resI,co,aY,bstV,boxX,bf,ah,aq,bg,aE,aV,aB,aS,putS,Sf.set,Sf.reg,getR,setR,aa,Sf.disAt,Sf.setLoc,look,aZ,ak,ai,az,ag,ae,aj,bC,List.length_cons,List.length_nil,List.getElem?_cons_zero,List.getElem?_cons_succ,List.all_cons,List.all_nil,List.drop_zero,List.take_succ_cons,List.take_zero,List.set_cons_zero,List.set_cons_succ,↓reduceIte,Nat.reduceEqDiff,Nat.reduceAdd,Nat.reduceLeDiff,Bool.true_and,Bool.and_true,and_true,true_and,reduceCtorEq,Nat.zero_add,decide_true,aA,ao]
  exact hQ _
theorem zOnce_on {st:St} {v:AV} (h:Zq gy st v) (a:Ac):aM Go.Proofs.Try.prog n_f16 [v,acAV a] st (rsAV (false,false,[],1)):=by
  obtain ⟨w,t,n,s⟩:=a
  obtain ⟨h1,h2,h3⟩:=h.facts
  refine aG hmix k_f16 rfl rfl fun Q hQ=>?_
  unfold aFun c_f16
  unfold rsAV lAV at hQ
  simp only [if_true] at hQ
  by_cases c0:w = 0
  · subst c0
    simp (config:=KF) (disch:=omega) only [bZ,ar,au,al,bM,bN,af,aw,boxX,addA,ah,bB,ev_f,aB,putS,Sf.set,Sf.reg,getR,setR,aa,Sf.disAt,Sf.newLoc,look,bK,aZ,aD,id,ak,ai,ag,ae,aj,aX,a8,List.length_cons,List.length_nil,List.all_cons,List.all_nil,List.drop_zero,List.drop_succ_cons,↓reduceIte,Nat.reduceEqDiff,Nat.reduceAdd,Bool.true_and,Bool.and_true,and_true,true_and,reduceCtorEq,Nat.zero_add,Nat.add_zero,decide_true,f16_1e,f16_2e,f16_2l,f16_3e,f16_4e,f16_5e,f16_5l,f16_6e,f16_7e,f16_8e,f16_8l,f16_9e,f16_10e,f16_11e,f16_11l,acAV,h1,h3]
    refine ap (vs:=[v,.lit (.int .i64 t)]) (by simp [h1,cr]) e_f30 (zOnce_Enter h t) (by simp [h2,cy]) ?_
    simp (config:=KF) (disch:=omega) only [bZ,and_self,bE,retI,resI,bF,co,al,aY,extV,bstV,boxX,bf,ah,aq,bg,aE,aV,aB,aS,putS,Sf.set,Sf.reg,getR,setR,aa,Sf.disAt,Sf.setLoc,look,aZ,ak,a9,ai,aU,az,ag,ae,aj,bC,List.length_cons,List.length_nil,List.getElem?_cons_zero,List.getElem?_cons_succ,List.all_cons,List.all_nil,List.drop_zero,List.take_succ_cons,List.take_zero,List.set_cons_zero,List.set_cons_succ,↓reduceIte,Nat.reduceEqDiff,Nat.reduceAdd,Nat.reduceLeDiff,Bool.true_and,Bool.and_true,and_true,true_and,reduceCtorEq,Nat.zero_add,decide_true,aA,ao,f16_12e,f16_13e,f16_13l]
    exact hQ _
  by_cases c1:w = 1
  · subst c1
    simp (config:=KF) (disch:=omega) only [bZ,ar,au,al,bM,bN,af,aw,boxX,addA,ah,bB,ev_f,aB,putS,Sf.set,Sf.reg,getR,setR,aa,Sf.disAt,Sf.newLoc,look,bK,aZ,aD,id,ak,ai,ag,ae,aj,aX,a8,List.length_cons,List.length_nil,List.all_cons,List.all_nil,List.drop_zero,List.drop_succ_cons,↓reduceIte,Nat.reduceEqDiff,Nat.reduceAdd,Int.reduceEq,Bool.true_and,Bool.and_true,and_true,true_and,reduceCtorEq,Nat.zero_add,Nat.add_zero,decide_true,decide_false,f16_1e,f16_2e,f16_2l,f16_3e,f16_4e,f16_5e,f16_5l,f16_6e,f16_7e,f16_8e,f16_8l,f16_9e,f16_14e,f16_15e,f16_15l,f16_16e,f16_17e,f16_18e,f16_18l,acAV,h1,h3]
    refine ap (vs:=[v,.lit (.int .i64 t),.lit (.bool s)]) (by simp [h1,cr]) e_f31 (zOnce_Leave h t s) (by simp [h2,cy]) ?_
    simp (config:=KF) (disch:=omega) only [bZ,and_self,bE,retI,resI,bF,co,al,aY,extV,bstV,boxX,bf,ah,aq,bg,aE,aV,aB,aS,putS,Sf.set,Sf.reg,getR,setR,aa,Sf.disAt,Sf.setLoc,look,aZ,ak,a9,ai,aU,az,ag,ae,aj,bC,List.length_cons,List.length_nil,List.getElem?_cons_zero,List.getElem?_cons_succ,List.all_cons,List.all_nil,List.drop_zero,List.take_succ_cons,List.take_zero,List.set_cons_zero,List.set_cons_succ,↓reduceIte,Nat.reduceEqDiff,Nat.reduceAdd,Nat.reduceLeDiff,Bool.true_and,Bool.and_true,and_true,true_and,reduceCtorEq,Nat.zero_add,decide_true,aA,ao,f16_19e,f16_20e,f16_20l]
    exact hQ _
  simp (config:=KF) (disch:=omega) only [bZ,aH,ar,au,al,bM,bN,af,aw,boxX,addA,ah,bB,ev_f,aB,putS,Sf.set,Sf.reg,getR,setR,aa,Sf.disAt,Sf.newLoc,look,bK,aZ,aD,id,ak,ai,ag,ae,aj,aX,a8,List.length_cons,List.length_nil,List.all_cons,List.all_nil,List.drop_zero,List.drop_succ_cons,↓reduceIte,Nat.reduceEqDiff,Nat.reduceAdd,Bool.true_and,Bool.and_true,and_true,true_and,reduceCtorEq,Nat.zero_add,Nat.add_zero,decide_false,f16_1e,f16_2e,f16_2l,f16_3e,f16_4e,f16_5e,f16_5l,f16_6e,f16_7e,f16_8e,f16_8l,f16_9e,f16_14e,f16_15e,f16_15l,f16_16e,f16_21e,f16_22e,f16_22l,acAV,h1,h3,c0,c1]
  refine ap (vs:=[v,.lit (.int .i64 t)]) (by simp [h1,cr]) e_f56 (n9 h t) (by simp [h2,cy]) ?_
  simp (config:=KF) (disch:=omega) only [bZ,and_self,retI,resI,co,aY,bstV,boxX,bf,ah,aq,bg,aE,aV,aB,aS,putS,Sf.set,Sf.reg,getR,setR,aa,Sf.disAt,Sf.setLoc,look,aZ,ak,ai,az,ag,ae,aj,bC,List.length_cons,List.length_nil,List.getElem?_cons_zero,List.getElem?_cons_succ,List.all_cons,List.all_nil,List.drop_zero,List.take_succ_cons,List.take_zero,List.set_cons_zero,List.set_cons_succ,↓reduceIte,Nat.reduceEqDiff,Nat.reduceAdd,Nat.reduceLeDiff,Bool.true_and,Bool.and_true,and_true,true_and,reduceCtorEq,Nat.zero_add,decide_true,aA,ao]
  exact hQ _
theorem zCond_on {st:St} {v:AV} (h:Zq eI st v) (a:Ac):aM Go.Proofs.Try.prog n_f18 [v,acAV a] st (rsAV (false,false,[],1)):=by
  obtain ⟨w,t,n,s⟩:=a
  obtain ⟨h1,h2,h3⟩:=h.facts
  refine aG hmix k_f18 rfl rfl fun Q hQ=>?_
  unfold aFun c_f18
  unfold rsAV lAV at hQ
  simp only [if_true] at hQ
  by_cases c0:w = 0
  · subst c0
    simp (config:=KF) (disch:=omega) only [bZ,ar,au,al,bM,bN,af,aw,boxX,addA,ah,bB,ev_f,aB,putS,Sf.set,Sf.reg,getR,setR,aa,Sf.disAt,Sf.newLoc,look,bK,aZ,aD,id,ak,ai,ag,ae,aj,aX,a8,List.length_cons,List.length_nil,List.all_cons,List.all_nil,List.drop_zero,List.drop_succ_cons,↓reduceIte,Nat.reduceEqDiff,Nat.reduceAdd,Bool.true_and,Bool.and_true,and_true,true_and,reduceCtorEq,Nat.zero_add,Nat.add_zero,decide_true,f18_1e,f18_2e,f18_2l,f18_3e,f18_4e,f18_4l,f18_5e,f18_6e,f18_6l,f18_7e,f18_8e,f18_9e,f18_9l,f18_10e,f18_11e,f18_12e,f18_12l,f18_13e,f18_14e,f18_14l,acAV,h1,h3]
    refine ap (vs:=[v,.lit (.int .i64 t)]) (by simp [h1,cr]) e_f45 (zCond_Lock h t) (by simp [h2,cy]) ?_
    simp (config:=KF) (disch:=omega) only [bZ,aH,retI,resI,bF,ar,au,al,aY,extV,aw,boxX,bf,addA,ah,aq,aE,aV,aB,aS,putS,Sf.set,Sf.reg,getR,setR,aa,Sf.disAt,Sf.setLoc,look,aZ,ak,a9,ai,aU,az,ag,ae,aj,bC,List.length_cons,List.length_nil,List.getElem?_cons_zero,List.getElem?_cons_succ,List.all_cons,List.all_nil,List.drop_zero,List.take_succ_cons,List.take_zero,List.set_cons_zero,List.set_cons_succ,↓reduceIte,Nat.reduceEqDiff,Nat.reduceAdd,Nat.reduceLeDiff,Bool.true_and,Bool.and_true,and_true,true_and,reduceCtorEq,Nat.zero_add,decide_true,aA,ao,f18_32e,f18_33e,f18_33l,f18_34e,f18_35e,f18_35l]
    exact hQ _
  by_cases c1:w = 1
  · subst c1
    simp (config:=KF) (disch:=omega) only [bZ,ar,au,al,bM,bN,af,aw,boxX,addA,ah,bB,ev_f,aB,putS,Sf.set,Sf.reg,getR,setR,aa,Sf.disAt,Sf.newLoc,look,bK,aZ,aD,id,ak,ai,ag,ae,aj,aX,a8,List.length_cons,List.length_nil,List.all_cons,List.all_nil,List.drop_zero,List.drop_succ_cons,↓reduceIte,Nat.reduceEqDiff,Nat.reduceAdd,Int.reduceEq,Bool.true_and,Bool.and_true,and_true,true_and,reduceCtorEq,Nat.zero_add,Nat.add_zero,decide_true,decide_false,f18_1e,f18_2e,f18_2l,f18_3e,f18_4e,f18_4l,f18_5e,f18_6e,f18_6l,f18_7e,f18_8e,f18_9e,f18_9l,f18_10e,f18_11e,f18_12e,f18_12l,f18_13e,f18_15e,f18_16e,f18_16l,f18_17e,f18_18e,f18_18l,acAV,h1,h3]
    refine ap (vs:=[v,.lit (.int .i64 t)]) (by simp [h1,cr]) e_f58 (jG h t) (by simp [h2,cy]) ?_
    simp (config:=KF) (disch:=omega) only [bZ,aH,retI,resI,bF,ar,au,al,aY,extV,aw,boxX,bf,addA,ah,aq,aE,aV,aB,aS,putS,Sf.set,Sf.reg,getR,setR,aa,Sf.disAt,Sf.setLoc,look,aZ,ak,a9,ai,aU,az,ag,ae,aj,bC,List.length_cons,List.length_nil,List.getElem?_cons_zero,List.getElem?_cons_succ,List.all_cons,List.all_nil,List.drop_zero,List.take_succ_cons,List.take_zero,List.set_cons_zero,List.set_cons_succ,↓reduceIte,Nat.reduceEqDiff,Nat.reduceAdd,Nat.reduceLeDiff,Bool.true_and,Bool.and_true,and_true,true_and,reduceCtorEq,Nat.zero_add,decide_true,aA,ao,f18_32e,f18_33e,f18_33l,f18_34e,f18_35e,f18_35l]
    exact hQ _
  by_cases c2:w = 2
  · subst c2
    simp (config:=KF) (disch:=omega) only [bZ,ar,au,al,bM,bN,af,aw,boxX,addA,ah,bB,ev_f,aB,putS,Sf.set,Sf.reg,getR,setR,aa,Sf.disAt,Sf.newLoc,look,bK,aZ,aD,id,ak,ai,ag,ae,aj,aX,a8,List.length_cons,List.length_nil,List.all_cons,List.all_nil,List.drop_zero,List.drop_succ_cons,↓reduceIte,Nat.reduceEqDiff,Nat.reduceAdd,Int.reduceEq,Bool.true_and,Bool.and_true,and_true,true_and,reduceCtorEq,Nat.zero_add,Nat.add_zero,decide_true,decide_false,f18_1e,f18_2e,f18_2l,f18_3e,f18_4e,f18_4l,f18_5e,f18_6e,f18_6l,f18_7e,f18_8e,f18_9e,f18_9l,f18_10e,f18_11e,f18_12e,f18_12l,f18_13e,f18_15e,f18_16e,f18_16l,f18_17e,f18_19e,f18_20e,f18_20l,f18_21e,f18_22e,f18_22l,acAV,h1,h3]
    refine ap (vs:=[v,.lit (.int .i64 t)]) (by simp [h1,cr]) e_f59 (zCond_Wait h t) (by simp [h2,cy]) ?_
    simp (config:=KF) (disch:=omega) only [bZ,aH,retI,resI,bF,ar,au,al,aY,extV,aw,boxX,bf,addA,ah,aq,aE,aV,aB,aS,putS,Sf.set,Sf.reg,getR,setR,aa,Sf.disAt,Sf.setLoc,look,aZ,ak,a9,ai,aU,az,ag,ae,aj,bC,List.length_cons,List.length_nil,List.getElem?_cons_zero,List.getElem?_cons_succ,List.all_cons,List.all_nil,List.drop_zero,List.take_succ_cons,List.take_zero,List.set_cons_zero,List.set_cons_succ,↓reduceIte,Nat.reduceEqDiff,Nat.reduceAdd,Nat.reduceLeDiff,Bool.true_and,Bool.and_true,and_true,true_and,reduceCtorEq,Nat.zero_add,decide_true,aA,ao,f18_32e,f18_33e,f18_33l,f18_34e,f18_35e,f18_35l]
    exact hQ _
  by_cases c3:w = 3
  · subst c3
    simp (config:=KF) (disch:=omega) only [bZ,ar,au,al,bM,bN,af,aw,boxX,addA,ah,bB,ev_f,aB,putS,Sf.set,Sf.reg,getR,setR,aa,Sf.disAt,Sf.newLoc,look,bK,aZ,aD,id,ak,ai,ag,ae,aj,aX,a8,List.length_cons,List.length_nil,List.all_cons,List.all_nil,List.drop_zero,↓reduceIte,Nat.reduceEqDiff,Nat.reduceAdd,Int.reduceEq,Bool.true_and,Bool.and_true,and_true,true_and,reduceCtorEq,Nat.zero_add,Nat.add_zero,decide_true,decide_false,f18_1e,f18_2e,f18_2l,f18_3e,f18_4e,f18_4l,f18_5e,f18_6e,f18_6l,f18_7e,f18_8e,f18_9e,f18_9l,f18_10e,f18_11e,f18_12e,f18_12l,f18_13e,f18_15e,f18_16e,f18_16l,f18_17e,f18_19e,f18_20e,f18_20l,f18_21e,f18_23e,f18_24e,f18_24l,f18_25e,f18_26e,f18_26l,acAV,h1,h3]
    refine ap (vs:=[v]) (by simp [h1,cr]) e_f60 (oa h ) (by simp [h2,cy]) ?_
    simp (config:=KF) (disch:=omega) only [bZ,aH,retI,resI,bF,ar,au,al,aY,extV,aw,boxX,bf,addA,ah,aq,aE,aV,aB,aS,putS,Sf.set,Sf.reg,getR,setR,aa,Sf.disAt,Sf.setLoc,look,aZ,ak,a9,ai,aU,az,ag,ae,aj,bC,List.length_cons,List.length_nil,List.getElem?_cons_zero,List.getElem?_cons_succ,List.all_cons,List.all_nil,List.drop_zero,List.take_succ_cons,List.take_zero,List.set_cons_zero,List.set_cons_succ,↓reduceIte,Nat.reduceEqDiff,Nat.reduceAdd,Nat.reduceLeDiff,Bool.true_and,Bool.and_true,and_true,true_and,reduceCtorEq,Nat.zero_add,decide_true,aA,ao,f18_32e,f18_33e,f18_33l,f18_34e,f18_35e,f18_35l]
    exact hQ _
  by_cases c4:w = 4
  · subst c4
    simp (config:=KF) (disch:=omega) only [bZ,ar,au,al,bM,bN,af,aw,boxX,addA,ah,bB,ev_f,aB,putS,Sf.set,Sf.reg,getR,setR,aa,Sf.disAt,Sf.newLoc,look,bK,aZ,aD,id,ak,ai,ag,ae,aj,aX,a8,List.length_cons,List.length_nil,List.all_cons,List.all_nil,List.drop_zero,↓reduceIte,Nat.reduceEqDiff,Nat.reduceAdd,Int.reduceEq,Bool.true_and,Bool.and_true,and_true,true_and,reduceCtorEq,Nat.zero_add,Nat.add_zero,decide_true,decide_false,f18_1e,f18_2e,f18_2l,f18_3e,f18_4e,f18_4l,f18_5e,f18_6e,f18_6l,f18_7e,f18_8e,f18_9e,f18_9l,f18_10e,f18_11e,f18_12e,f18_12l,f18_13e,f18_15e,f18_16e,f18_16l,f18_17e,f18_19e,f18_20e,f18_20l,f18_21e,f18_23e,f18_24e,f18_24l,f18_25e,f18_27e,f18_28e,f18_28l,f18_29e,f18_30e,f18_30l,acAV,h1,h3]
    refine ap (vs:=[v]) (by simp [h1,cr]) e_f46 (kI h ) (by simp [h2,cy]) ?_
    simp (config:=KF) (disch:=omega) only [bZ,aH,retI,resI,bF,ar,au,al,aY,extV,aw,boxX,bf,addA,ah,aq,aE,aV,aB,aS,putS,Sf.set,Sf.reg,getR,setR,aa,Sf.disAt,Sf.setLoc,look,aZ,ak,a9,ai,aU,az,ag,ae,aj,bC,List.length_cons,List.length_nil,List.getElem?_cons_zero,List.getElem?_cons_succ,List.all_cons,List.all_nil,List.drop_zero,List.take_succ_cons,List.take_zero,List.set_cons_zero,List.set_cons_succ,↓reduceIte,Nat.reduceEqDiff,Nat.reduceAdd,Nat.reduceLeDiff,Bool.true_and,Bool.and_true,and_true,true_and,reduceCtorEq,Nat.zero_add,decide_true,aA,ao,f18_32e,f18_33e,f18_33l,f18_34e,f18_35e,f18_35l]
    exact hQ _
  simp (config:=KF) (disch:=omega) only [bZ,ar,au,al,bM,bN,af,aw,boxX,addA,ah,bB,ev_f,aB,putS,Sf.set,Sf.reg,getR,setR,aa,Sf.disAt,Sf.newLoc,look,bK,aZ,aD,id,ak,ai,ag,ae,aj,aX,a8,List.length_cons,List.length_nil,List.all_cons,List.all_nil,List.drop_zero,List.drop_succ_cons,↓reduceIte,Nat.reduceEqDiff,Nat.reduceAdd,Bool.true_and,Bool.and_true,and_true,true_and,reduceCtorEq,Nat.zero_add,Nat.add_zero,decide_false,f18_1e,f18_2e,f18_2l,f18_3e,f18_4e,f18_4l,f18_5e,f18_6e,f18_6l,f18_7e,f18_8e,f18_9e,f18_9l,f18_10e,f18_11e,f18_12e,f18_12l,f18_13e,f18_15e,f18_16e,f18_16l,f18_17e,f18_19e,f18_20e,f18_20l,f18_21e,f18_23e,f18_24e,f18_24l,f18_25e,f18_27e,f18_28e,f18_28l,f18_29e,f18_31e,f18_31l,acAV,h1,h3,c0,c1,c2,c3,c4]
  refine ap (vs:=[v,.lit (.int .i64 t)]) (by simp [h1,cr]) e_f61 (oc h t) (by simp [h2,cy]) ?_
  simp (config:=KF) (disch:=omega) only [bZ,aH,retI,resI,ar,au,al,aY,aw,boxX,bf,addA,ah,aq,aE,aV,aB,aS,putS,Sf.set,Sf.reg,getR,setR,aa,Sf.disAt,Sf.setLoc,look,aZ,ak,ai,az,ag,ae,aj,bC,List.length_cons,List.length_nil,List.all_cons,List.all_nil,List.drop_zero,List.take_succ_cons,List.take_zero,List.set_cons_zero,List.set_cons_succ,↓reduceIte,Nat.reduceEqDiff,Nat.reduceAdd,Nat.reduceLeDiff,Bool.true_and,Bool.and_true,and_true,true_and,reduceCtorEq,Nat.zero_add,decide_true,aA,ao,f18_32e,f18_33e,f18_33l,f18_34e,f18_35e,f18_35l]
  exact hQ _
end Go.Fx.YtphaaebhgggbaaaFx

