/- What the functions that the statement reaches compute: part 14. -/
import Derived.Test.YtphaaebhgggbaaaFxW13
namespace Go.Fx.YtphaaebhgggbaaaFx
open Go Go.Fx
attribute [local irreducible] aC runI bt cG

set_option maxRecDepth 100000
set_option maxHeartbeats 8000000

/-! Nil and zero things: printed by wip/dev/gen_lt11.py. -/
def Zq (c:List AV) (st:St) (v:AV):Prop:=v = .lit (.pointer none)∨∃ zi,v = .ptr zi 0∧st.get zi = some c
theorem Zq.facts {c:List AV} {st:St} {v:AV} (h:Zq c st v):v.dis = v∧v.noL = true∧∀ s,kill s v = v:=by
  rcases h with rfl | ⟨zi,rfl,_⟩ <;> exact ⟨rfl,rfl,fun _=>rfl⟩
theorem Zq.sub {c:List AV} {st s:St} {v:AV} (h:Zq c st v) (hs:St.sub st s):Zq c s v:=by
  rcases h with rfl | ⟨zi,rfl,hg⟩
  · exact .inl rfl
  · exact .inr ⟨zi,rfl,get_sub hs hg⟩
theorem aM.grow {P:Program} {q:FuncId} {vs:List AV} {s:St} {v:AV} (h:aM P q vs s v):aW P q vs s (Grow v s) :=
  h.acalls.mono fun r st' ⟨h1,h2⟩=>⟨h1,by rw [h2]; exact St.sub_refl _,by rw [h2]; exact Nat.le_refl _⟩
abbrev eF:List AV:=[.lit (.int .i64 0),.lit (.pointer none)]
theorem d1 {st:St} {v:AV} (h:Zq eF st v):aM Go.Proofs.Try.prog n_f74 [v] st (.lit (.bool true)):=by
  rcases h with rfl | ⟨zi,rfl,hg⟩
  · refine aG hmix k_f74 rfl rfl fun Q hQ=>?_
    unfold aFun c_f74
    simp (config:=KF) (disch:=omega) only [bZ,retI,aF,dq,AI.dst,dt,bj,al,eo,di,bT,bH,putS,Sf.set,Sf.reg,getR,setR,aa,Sf.disAt,aD,↓reduceIte,Nat.reduceEqDiff,Bool.true_and,true_and,reduceCtorEq,Bool.false_eq_true,f74_1e,f74_2e,f74_2l,f74_3e,f74_4e,f74_4l]
    exact hQ _
  · refine aG hmix k_f74 rfl rfl fun Q hQ=>?_
    unfold aFun c_f74
    simp (config:=KF) (disch:=omega) only [bZ,retI,aF,AI.dst,aQ,bj,ar,au,aJ,al,ba,aw,aO,di,bT,bH,addA,ah,putS,Sf.set,Sf.reg,getR,setR,aa,Sf.disAt,aD,List.drop_zero,List.drop_succ_cons,↓reduceIte,Nat.reduceEqDiff,Bool.true_and,true_and,reduceCtorEq,Nat.zero_add,Bool.false_eq_true,f74_1e,f74_2e,f74_2l,f74_3e,f74_4e,f74_4l,hg]
    exact hQ _
abbrev dv:List AV:=[.lit (.int .i64 0),.lit (.int .i64 0),.lit (.pointer none)]
theorem dQ {st:St} {v:AV} (h:Zq dv st v):aM Go.Proofs.Try.prog n_f54 [v] st (.lit (.bool true)):=by
  rcases h with rfl | ⟨zi,rfl,hg⟩
  · refine aG hmix k_f54 rfl rfl fun Q hQ=>?_
    unfold aFun c_f54
    simp (config:=KF) (disch:=omega) only [bZ,retI,aF,dq,AI.dst,dt,bj,al,eo,di,bT,bH,putS,Sf.set,Sf.reg,getR,setR,aa,Sf.disAt,aD,↓reduceIte,Nat.reduceEqDiff,Bool.true_and,true_and,reduceCtorEq,Bool.false_eq_true,f54_1e,f54_2e,f54_2l,f54_3e,f54_4e,f54_4l]
    exact hQ _
  · refine aG hmix k_f54 rfl rfl fun Q hQ=>?_
    unfold aFun c_f54
    simp (config:=KF) (disch:=omega) only [bZ,retI,aF,AI.dst,aQ,bj,ar,au,aJ,al,ba,aw,aO,di,bT,bH,addA,ah,putS,Sf.set,Sf.reg,getR,setR,aa,Sf.disAt,aD,List.drop_zero,List.drop_succ_cons,↓reduceIte,Nat.reduceEqDiff,Bool.true_and,true_and,reduceCtorEq,Nat.zero_add,Bool.false_eq_true,f54_1e,f54_2e,f54_2l,f54_3e,f54_4e,f54_4l,hg]
    exact hQ _
abbrev gy:List AV:=[.lit (.int .i64 0),.lit (.pointer none),.lit (.bool false)]
theorem ek {st:St} {v:AV} (h:Zq gy st v):aM Go.Proofs.Try.prog n_f57 [v] st (.lit (.bool true)):=by
  rcases h with rfl | ⟨zi,rfl,hg⟩
  · refine aG hmix k_f57 rfl rfl fun Q hQ=>?_
    unfold aFun c_f57
    simp (config:=KF) (disch:=omega) only [bZ,retI,aF,dq,AI.dst,dt,bj,al,eo,di,bT,bH,putS,Sf.set,Sf.reg,getR,setR,aa,Sf.disAt,aD,↓reduceIte,Nat.reduceEqDiff,Bool.true_and,true_and,reduceCtorEq,Bool.false_eq_true,f57_1e,f57_2e,f57_2l,f57_3e,f57_4e,f57_4l]
    exact hQ _
  · refine aG hmix k_f57 rfl rfl fun Q hQ=>?_
    unfold aFun c_f57
    simp (config:=KF) (disch:=omega) only [bZ,retI,aF,AI.dst,aQ,bj,ar,au,aJ,al,ba,aw,aO,di,bT,bH,addA,ah,putS,Sf.set,Sf.reg,getR,setR,aa,Sf.disAt,aD,List.drop_zero,List.drop_succ_cons,↓reduceIte,Nat.reduceEqDiff,Bool.true_and,true_and,reduceCtorEq,Nat.zero_add,Nat.add_zero,Bool.false_eq_true,f57_1e,f57_2e,f57_2l,f57_3e,f57_4e,f57_4l,hg]
    exact hQ _
abbrev eI:List AV:=[.lit (.int .i64 0),.lit (.pointer none),.lit (.pointer none)]
theorem dU {st:St} {v:AV} (h:Zq eI st v):aM Go.Proofs.Try.prog n_f62 [v] st (.lit (.bool true)):=by
  rcases h with rfl | ⟨zi,rfl,hg⟩
  · refine aG hmix k_f62 rfl rfl fun Q hQ=>?_
    unfold aFun c_f62
    simp (config:=KF) (disch:=omega) only [bZ,retI,aF,dq,AI.dst,dt,bj,al,eo,di,bT,bH,putS,Sf.set,Sf.reg,getR,setR,aa,Sf.disAt,aD,↓reduceIte,Nat.reduceEqDiff,Bool.true_and,true_and,reduceCtorEq,Bool.false_eq_true,f62_1e,f62_2e,f62_2l,f62_3e,f62_4e,f62_4l]
    exact hQ _
  · refine aG hmix k_f62 rfl rfl fun Q hQ=>?_
    unfold aFun c_f62
    simp (config:=KF) (disch:=omega) only [bZ,retI,aF,AI.dst,aQ,bj,ar,au,aJ,al,ba,aw,aO,di,bT,bH,addA,ah,putS,Sf.set,Sf.reg,getR,setR,aa,Sf.disAt,aD,List.drop_zero,List.drop_succ_cons,↓reduceIte,Nat.reduceEqDiff,Bool.true_and,true_and,reduceCtorEq,Nat.zero_add,Nat.add_zero,Bool.false_eq_true,f62_1e,f62_2e,f62_2l,f62_3e,f62_4e,f62_4l,hg]
    exact hQ _
theorem zLatch_Wait {st:St} {v:AV} (h:Zq eF st v) (t:Int):aM Go.Proofs.Try.prog n_f76 [v,.lit (.int .i64 t)] st (.tup [.lit (.bool false),.lit (.int .i64 1)]):=by
  obtain ⟨h1,h2,_⟩:=h.facts
  refine aG hmix k_f76 rfl rfl fun Q hQ=>?_
  unfold aFun c_f76
  simp (config:=KF) (disch:=omega) only [bZ,af,ev_f,putS,Sf.set,Sf.reg,getR,setR,aa,aD,id,↓reduceIte,Nat.reduceEqDiff,reduceCtorEq,Nat.zero_add,f76_1e,f76_2e,f76_2l,f76_3e,f76_4e,f76_5e,f76_5l,h1]
  refine ap (vs:=[v]) (by simp [h1]) e_f74 (d1 h) (by simp [h2]) ?_
  simp (config:=KF) (disch:=omega) only [bZ,retI,resI,resL,putS,Sf.set,Sf.reg,getR,setR,aa,aR,List.all_cons,List.all_nil,↓reduceIte,Nat.reduceEqDiff,Bool.true_and,Bool.and_true,and_true,true_and,reduceCtorEq,f76_6e,f76_7e,f76_8e,f76_8l]
  exact hQ _
theorem zLatch_Down {st:St} {v:AV} (h:Zq eF st v) (n:Int):aM Go.Proofs.Try.prog n_f37 [v,.lit (.int .i64 n)] st (.tup [.lit (.slice none 0 0),.lit (.int .i64 1)]):=by
  obtain ⟨h1,h2,_⟩:=h.facts
  refine aG hmix k_f37 rfl rfl fun Q hQ=>?_
  unfold aFun c_f37
  simp (config:=KF) (disch:=omega) only [bZ,af,ev_f,putS,Sf.set,Sf.reg,getR,setR,aa,aD,id,↓reduceIte,Nat.reduceEqDiff,reduceCtorEq,Nat.zero_add,f37_1e,f37_2e,f37_2l,f37_3e,f37_4e,f37_5e,f37_6e,f37_6l,h1]
  refine ap (vs:=[v]) (by simp [h1]) e_f74 (d1 h) (by simp [h2]) ?_
  simp (config:=KF) (disch:=omega) only [bZ,bE,retI,resI,resL,al,putS,Sf.set,Sf.reg,getR,setR,aa,Sf.disAt,aR,List.all_cons,List.all_nil,↓reduceIte,Nat.reduceEqDiff,Bool.true_and,Bool.and_true,and_true,true_and,reduceCtorEq,f37_7e,f37_8e,f37_9e,f37_9l]
  exact hQ _
theorem mA {st:St} {v:AV} (h:Zq eF st v) (t:Int):aM Go.Proofs.Try.prog n_f38 [v,.lit (.int .i64 t)] st (.lit (.int .i64 1)):=by
  obtain ⟨h1,h2,_⟩:=h.facts
  refine aG hmix k_f38 rfl rfl fun Q hQ=>?_
  unfold aFun c_f38
  simp (config:=KF) (disch:=omega) only [bZ,af,ev_f,putS,Sf.set,Sf.reg,getR,setR,aa,aD,id,↓reduceIte,Nat.reduceEqDiff,reduceCtorEq,Nat.zero_add,f38_1e,f38_2e,f38_2l,f38_3e,f38_4e,f38_5e,f38_5l,h1]
  refine ap (vs:=[v]) (by simp [h1]) e_f74 (d1 h) (by simp [h2]) ?_
  simp (config:=KF) (disch:=omega) only [bZ,retI,putS,Sf.set,Sf.reg,getR,setR,aa,↓reduceIte,Nat.reduceEqDiff,Bool.true_and,true_and,reduceCtorEq,f38_6e,f38_7e,f38_8e,f38_8l]
  exact hQ _
theorem jF {st:St} {v:AV} (h:Zq eF st v):aM Go.Proofs.Try.prog n_f42 [v] st (.lit (.int .i64 0)):=by
  obtain ⟨h1,h2,_⟩:=h.facts
  refine aG hmix k_f42 rfl rfl fun Q hQ=>?_
  unfold aFun c_f42
  simp (config:=KF) (disch:=omega) only [bZ,af,ev_f,putS,Sf.set,Sf.reg,getR,setR,aa,aD,id,↓reduceIte,reduceCtorEq,f42_1e,f42_2e,f42_2l,f42_3e,f42_4e,f42_5e,f42_5l,h1]
  refine ap (vs:=[v]) (by simp [h1]) e_f74 (d1 h) (by simp [h2]) ?_
  simp (config:=KF) (disch:=omega) only [bZ,retI,putS,Sf.set,Sf.reg,getR,setR,aa,↓reduceIte,Nat.reduceEqDiff,Bool.true_and,true_and,reduceCtorEq,f42_6e,f42_7e,f42_8e,f42_8l]
  exact hQ _
theorem gY {st:St} {v:AV} (h:Zq eF st v):aM Go.Proofs.Try.prog n_f43 [v] st (.lit (.int .i64 0)):=by
  obtain ⟨h1,h2,_⟩:=h.facts
  refine aG hmix k_f43 rfl rfl fun Q hQ=>?_
  unfold aFun c_f43
  simp (config:=KF) (disch:=omega) only [bZ,af,ev_f,putS,Sf.set,Sf.reg,getR,setR,aa,aD,id,↓reduceIte,reduceCtorEq,f43_1e,f43_2e,f43_2l,f43_3e,f43_4e,f43_5e,f43_5l,h1]
  refine ap (vs:=[v]) (by simp [h1]) e_f74 (d1 h) (by simp [h2]) ?_
  simp (config:=KF) (disch:=omega) only [bZ,retI,putS,Sf.set,Sf.reg,getR,setR,aa,↓reduceIte,Nat.reduceEqDiff,Bool.true_and,true_and,reduceCtorEq,f43_6e,f43_7e,f43_8e,f43_8l]
  exact hQ _
theorem kA {st:St} {v:AV} (h:Zq eF st v):aM Go.Proofs.Try.prog n_f36 [v] st (.lit (.pointer none)):=by
  obtain ⟨h1,h2,_⟩:=h.facts
  refine aG hmix k_f36 rfl rfl fun Q hQ=>?_
  unfold aFun c_f36
  simp (config:=KF) (disch:=omega) only [bZ,af,ev_f,putS,Sf.set,Sf.reg,getR,setR,aa,aD,id,↓reduceIte,reduceCtorEq,f36_1e,f36_2e,f36_2l,f36_3e,f36_4e,f36_5e,f36_5l,h1]
  refine ap (vs:=[v]) (by simp [h1]) e_f74 (d1 h) (by simp [h2]) ?_
  simp (config:=KF) (disch:=omega) only [bZ,retI,putS,Sf.set,Sf.reg,getR,setR,aa,↓reduceIte,Nat.reduceEqDiff,Bool.true_and,true_and,reduceCtorEq,f36_6e,f36_7e,f36_8e,f36_8l]
  exact hQ _
theorem kG {st:St} {v:AV} (h:Zq dv st v) (t:Int):aM Go.Proofs.Try.prog n_f25 [v,.lit (.int .i64 t)] st (.tup [.lit (.bool false),.lit (.slice none 0 0),.lit (.int .i64 1)]):=by
  obtain ⟨h1,h2,_⟩:=h.facts
  refine aG hmix k_f25 rfl rfl fun Q hQ=>?_
  unfold aFun c_f25
  simp (config:=KF) (disch:=omega) only [bZ,af,ev_f,putS,Sf.set,Sf.reg,getR,setR,aa,aD,id,↓reduceIte,Nat.reduceEqDiff,reduceCtorEq,Nat.zero_add,f25_1e,f25_2e,f25_2l,f25_3e,f25_4e,f25_5e,f25_5l,h1]
  refine ap (vs:=[v]) (by simp [h1]) e_f54 (dQ h) (by simp [h2]) ?_
  simp (config:=KF) (disch:=omega) only [bZ,retI,resI,resL,putS,Sf.set,Sf.reg,getR,setR,aa,aR,List.all_cons,List.all_nil,↓reduceIte,Nat.reduceEqDiff,Bool.true_and,Bool.and_true,and_true,true_and,reduceCtorEq,f25_6e,f25_7e,f25_8e,f25_8l]
  exact hQ _
theorem kH {st:St} {v:AV} (h:Zq dv st v) (t:Int):aM Go.Proofs.Try.prog n_f53 [v,.lit (.int .i64 t)] st (.lit (.int .i64 1)):=by
  obtain ⟨h1,h2,_⟩:=h.facts
  refine aG hmix k_f53 rfl rfl fun Q hQ=>?_
  unfold aFun c_f53
  simp (config:=KF) (disch:=omega) only [bZ,af,ev_f,putS,Sf.set,Sf.reg,getR,setR,aa,aD,id,↓reduceIte,Nat.reduceEqDiff,reduceCtorEq,Nat.zero_add,f53_1e,f53_2e,f53_2l,f53_3e,f53_4e,f53_5e,f53_5l,h1]
  refine ap (vs:=[v]) (by simp [h1]) e_f54 (dQ h) (by simp [h2]) ?_
  simp (config:=KF) (disch:=omega) only [bZ,retI,putS,Sf.set,Sf.reg,getR,setR,aa,↓reduceIte,Nat.reduceEqDiff,Bool.true_and,true_and,reduceCtorEq,f53_6e,f53_7e,f53_8e,f53_8l]
  exact hQ _
theorem iC {st:St} {v:AV} (h:Zq dv st v):aM Go.Proofs.Try.prog n_f15 [v] st (.lit (.int .i64 0)):=by
  obtain ⟨h1,h2,_⟩:=h.facts
  refine aG hmix k_f15 rfl rfl fun Q hQ=>?_
  unfold aFun c_f15
  simp (config:=KF) (disch:=omega) only [bZ,af,ev_f,putS,Sf.set,Sf.reg,getR,setR,aa,aD,id,↓reduceIte,reduceCtorEq,f15_1e,f15_2e,f15_2l,f15_3e,f15_4e,f15_5e,f15_5l,h1]
  refine ap (vs:=[v]) (by simp [h1]) e_f54 (dQ h) (by simp [h2]) ?_
  simp (config:=KF) (disch:=omega) only [bZ,retI,putS,Sf.set,Sf.reg,getR,setR,aa,↓reduceIte,Nat.reduceEqDiff,Bool.true_and,true_and,reduceCtorEq,f15_6e,f15_7e,f15_8e,f15_8l]
  exact hQ _
theorem fZ {st:St} {v:AV} (h:Zq dv st v):aM Go.Proofs.Try.prog n_f14 [v] st (.lit (.int .i64 0)):=by
  obtain ⟨h1,h2,_⟩:=h.facts
  refine aG hmix k_f14 rfl rfl fun Q hQ=>?_
  unfold aFun c_f14
  simp (config:=KF) (disch:=omega) only [bZ,af,ev_f,putS,Sf.set,Sf.reg,getR,setR,aa,aD,id,↓reduceIte,reduceCtorEq,f14_1e,f14_2e,f14_2l,f14_3e,f14_4e,f14_5e,f14_5l,h1]
  refine ap (vs:=[v]) (by simp [h1]) e_f54 (dQ h) (by simp [h2]) ?_
  simp (config:=KF) (disch:=omega) only [bZ,retI,putS,Sf.set,Sf.reg,getR,setR,aa,↓reduceIte,Nat.reduceEqDiff,Bool.true_and,true_and,reduceCtorEq,f14_6e,f14_7e,f14_8e,f14_8l]
  exact hQ _
theorem iD {st:St} {v:AV} (h:Zq dv st v):aM Go.Proofs.Try.prog n_f24 [v] st (.lit (.pointer none)):=by
  obtain ⟨h1,h2,_⟩:=h.facts
  refine aG hmix k_f24 rfl rfl fun Q hQ=>?_
  unfold aFun c_f24
  simp (config:=KF) (disch:=omega) only [bZ,af,ev_f,putS,Sf.set,Sf.reg,getR,setR,aa,aD,id,↓reduceIte,reduceCtorEq,f24_1e,f24_2e,f24_2l,f24_3e,f24_4e,f24_5e,f24_5l,h1]
  refine ap (vs:=[v]) (by simp [h1]) e_f54 (dQ h) (by simp [h2]) ?_
  simp (config:=KF) (disch:=omega) only [bZ,retI,putS,Sf.set,Sf.reg,getR,setR,aa,↓reduceIte,Nat.reduceEqDiff,Bool.true_and,true_and,reduceCtorEq,f24_6e,f24_7e,f24_8e,f24_8l]
  exact hQ _
end Go.Fx.YtphaaebhgggbaaaFx

