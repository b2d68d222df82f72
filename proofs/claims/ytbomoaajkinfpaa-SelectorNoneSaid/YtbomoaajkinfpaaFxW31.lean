/- What the functions that the statement reaches compute: part 31. -/
import Derived.Test.YtbomoaajkinfpaaFxW30
namespace Go.Fx.YtbomoaajkinfpaaFx
open Go Go.Fx
attribute [local irreducible] aC runI aT bM

set_option maxRecDepth 100000
set_option maxHeartbeats 4000000

/-- A nil or zero selector. -/
def ZS (st:St) (x:AV):Prop:=x = .lit (.pointer none)∨∃ z,x = .ptr z 0∧st.get z = some [.lit (.slice none 0 0),.lit (.slice none 0 0),.lit (.map none)]
section
variable {st:St} {x:AV}

theorem gf (h:ZS st x):bh Go.Proofs.Try.prog n_f51 [x] st (.lit (.bool true)):=by
  refine aR hmix k_f51 rfl rfl fun Q hQ=>?_
  unfold aFun c_f51
  rcases h with rfl | ⟨z,rfl,hg⟩
  · simp (config:=KF) (disch:=omega) only [bZ,retI,ai,bX,AI.dst,bP,a9,ao,cm,ep,di,cA,putS,Sf.set,Sf.reg,getR,setR,aa,Sf.disAt,aY,↓reduceIte,Nat.reduceEqDiff,Bool.true_and,true_and,reduceCtorEq,Bool.false_eq_true,f51_1e,f51_2e,f51_2l,f51_3e,f51_4e,f51_4l]
    exact hQ _
  · simp (config:=KF) (disch:=omega) only [bZ,retI,ai,AI.dst,aL,a9,az,aw,aQ,ao,bA,aA,aM,ep,di,cA,addA,ag,putS,Sf.set,Sf.reg,getR,setR,aa,Sf.disAt,aY,List.drop_zero,List.drop_succ_cons,↓reduceIte,Nat.reduceEqDiff,Bool.true_and,true_and,reduceCtorEq,Nat.zero_add,Bool.false_eq_true,f51_1e,f51_2e,f51_2l,f51_3e,f51_4e,f51_4l,hg]
    exact hQ _
theorem zs_at (h:ZS st x) (i:Int):bh Go.Proofs.Try.prog n_f46 [x,.lit (.int .i64 i)] st (.lit (.pointer none)):=by
  refine aR hmix k_f46 rfl rfl fun Q hQ=>?_
  unfold aFun c_f46
  have hc:=gf h
  rcases h with rfl | ⟨z,rfl,hg⟩
  all_goals
    simp (config:=KF) (disch:=omega) only [bZ,ak,ev_f,putS,Sf.set,Sf.reg,getR,setR,aa,aY,id,↓reduceIte,Nat.reduceEqDiff,reduceCtorEq,Nat.zero_add,f46_1e,f46_2e,f46_2l,f46_3e,f46_4e,f46_5e,f46_5l]
    refine aG rfl e_f51 hc rfl ?_
    simp (config:=KF) (disch:=omega) only [bZ,retI,ai,bX,AI.dst,bP,a9,cm,putS,Sf.set,Sf.reg,getR,setR,aa,↓reduceIte,Nat.reduceEqDiff,Bool.true_and,true_and,reduceCtorEq,Bool.false_eq_true,f46_6e,f46_7e,f46_8e,f46_8l]
    exact hQ _
theorem zs_Channels (h:ZS st x) :bh Go.Proofs.Try.prog n_f31 [x] st (.lit (.int .i64 0)):=by
  refine aR hmix k_f31 rfl rfl fun Q hQ=>?_
  unfold aFun c_f31
  have hc:=gf h
  rcases h with rfl | ⟨z,rfl,hg⟩
  all_goals
    simp (config:=KF) (disch:=omega) only [bZ,ak,ev_f,putS,Sf.set,Sf.reg,getR,setR,aa,aY,id,↓reduceIte,reduceCtorEq,f31_1e,f31_2e,f31_2l,f31_3e,f31_4e,f31_5e,f31_5l]
    refine aG rfl e_f51 hc rfl ?_
    simp (config:=KF) (disch:=omega) only [bZ,retI,putS,Sf.set,Sf.reg,getR,setR,aa,↓reduceIte,Nat.reduceEqDiff,Bool.true_and,true_and,reduceCtorEq,f31_6e,f31_7e,f31_8e,f31_8l]
    exact hQ _
theorem zs_Waiting (h:ZS st x) :bh Go.Proofs.Try.prog n_f26 [x] st (.lit (.slice none 0 0)):=by
  refine aR hmix k_f26 rfl rfl fun Q hQ=>?_
  unfold aFun c_f26
  have hc:=gf h
  rcases h with rfl | ⟨z,rfl,hg⟩
  all_goals
    simp (config:=KF) (disch:=omega) only [bZ,ak,ev_f,putS,Sf.set,Sf.reg,getR,setR,aa,aY,id,↓reduceIte,reduceCtorEq,f26_1e,f26_2e,f26_2l,f26_3e,f26_4e,f26_5e,f26_5l]
    refine aG rfl e_f51 hc rfl ?_
    simp (config:=KF) (disch:=omega) only [bZ,retI,putS,Sf.set,Sf.reg,getR,setR,aa,↓reduceIte,Nat.reduceEqDiff,Bool.true_and,true_and,reduceCtorEq,f26_6e,f26_7e,f26_8e,f26_8l]
    exact hQ _
theorem zs_Copy (h:ZS st x) :bh Go.Proofs.Try.prog n_f29 [x] st (.lit (.pointer none)):=by
  refine aR hmix k_f29 rfl rfl fun Q hQ=>?_
  unfold aFun c_f29
  have hc:=gf h
  rcases h with rfl | ⟨z,rfl,hg⟩
  all_goals
    simp (config:=KF) (disch:=omega) only [bZ,ak,ev_f,putS,Sf.set,Sf.reg,getR,setR,aa,aY,id,↓reduceIte,reduceCtorEq,f29_1e,f29_2e,f29_2l,f29_3e,f29_4e,f29_5e,f29_5l]
    refine aG rfl e_f51 hc rfl ?_
    simp (config:=KF) (disch:=omega) only [bZ,retI,putS,Sf.set,Sf.reg,getR,setR,aa,↓reduceIte,Nat.reduceEqDiff,Bool.true_and,true_and,reduceCtorEq,f29_6e,f29_7e,f29_8e,f29_8l]
    exact hQ _
theorem zs_Ready (h:ZS st x) {v:AV} (v1:v.dis = v) (v5:v.noL = true):bh Go.Proofs.Try.prog n_f27 [x,v] st (.tup [.lit (.slice none 0 0),.lit (.int .i64 1)]):=by
  refine aR hmix k_f27 rfl rfl fun Q hQ=>?_
  unfold aFun c_f27
  have hc:=gf h
  rcases h with rfl | ⟨z,rfl,hg⟩
  all_goals
    simp (config:=KF) (disch:=omega) only [bZ,ak,ev_f,putS,Sf.set,Sf.reg,getR,setR,aa,aY,id,↓reduceIte,Nat.reduceEqDiff,reduceCtorEq,Nat.zero_add,f27_1e,f27_2e,f27_2l,f27_3e,f27_4e,f27_5e,f27_5l,v1]
    refine aG rfl e_f51 hc rfl ?_
    simp (config:=KF) (disch:=omega) only [bZ,retI,resI,resL,putS,Sf.set,Sf.reg,getR,setR,aa,aU,List.all_cons,List.all_nil,↓reduceIte,Nat.reduceEqDiff,Bool.true_and,Bool.and_true,and_true,true_and,reduceCtorEq,f27_6e,f27_7e,f27_8e,f27_8l]
    exact hQ _
theorem zs_Select (h:ZS st x) (t p:Int) (w:Bool) {v:AV} (v1:v.dis = v) (v5:v.noL = true):bh Go.Proofs.Try.prog n_f30 [x,.lit (.int .i64 t),v,.lit (.int .i64 p),.lit (.bool w)] st (.tup [.agg [.lit (.int .i64 0),.lit (.int .i64 0),.lit (.int .i64 0),.lit (.int .i64 0)],.lit (.bool false),.lit (.slice none 0 0),.lit (.int .i64 1)]):=by
  refine aR hmix k_f30 rfl rfl fun Q hQ=>?_
  unfold aFun c_f30
  have hc:=gf h
  rcases h with rfl | ⟨z,rfl,hg⟩
  all_goals
    simp (config:=KF) (disch:=omega) only [bZ,c9,ak,ev_f,putS,Sf.set,Sf.reg,getR,setR,aa,Sf.newLoc,look,cD,bF,aY,id,bU,bN,↓reduceIte,Nat.reduceEqDiff,Nat.reduceAdd,reduceCtorEq,Nat.zero_add,f30_1e,f30_2e,f30_2l,f30_3e,f30_4e,f30_5e,f30_5l,v1]
    refine aG rfl e_f51 hc rfl ?_
    simp (config:=KF) (disch:=omega) only [bZ,retI,resI,resL,cP,aW,bstV,boxX,bj,ag,aK,bt,aq,bg,aO,aS,putS,Sf.set,Sf.reg,getR,setR,aa,Sf.disAt,Sf.setLoc,look,bF,aE,ar,al,ae,ah,cW,aU,List.length_cons,List.length_nil,List.all_cons,List.all_nil,List.drop_zero,List.take_succ_cons,List.take_zero,List.set_cons_zero,List.set_cons_succ,↓reduceIte,Nat.reduceEqDiff,Nat.reduceAdd,Nat.reduceLeDiff,Bool.true_and,Bool.and_true,and_true,true_and,reduceCtorEq,Nat.zero_add,decide_true,am,af,f30_6e,f30_7e,f30_8e,f30_8l]
    exact hQ _
theorem zs_Cancel (h:ZS st x) (t:Int):bh Go.Proofs.Try.prog n_f37 [x,.lit (.int .i64 t)] st (.lit (.int .i64 1)):=by
  refine aR hmix k_f37 rfl rfl fun Q hQ=>?_
  unfold aFun c_f37
  have hc:=gf h
  rcases h with rfl | ⟨z,rfl,hg⟩
  all_goals
    simp (config:=KF) (disch:=omega) only [bZ,ak,ev_f,putS,Sf.set,Sf.reg,getR,setR,aa,aY,id,↓reduceIte,Nat.reduceEqDiff,reduceCtorEq,Nat.zero_add,f37_1e,f37_2e,f37_2l,f37_3e,f37_4e,f37_5e,f37_5l]
    refine aG rfl e_f51 hc rfl ?_
    simp (config:=KF) (disch:=omega) only [bZ,retI,putS,Sf.set,Sf.reg,getR,setR,aa,↓reduceIte,Nat.reduceEqDiff,Bool.true_and,true_and,reduceCtorEq,f37_6e,f37_7e,f37_8e,f37_8l]
    exact hQ _
theorem zs_Close (h:ZS st x) (t:Int):bh Go.Proofs.Try.prog n_f38 [x,.lit (.int .i64 t)] st (.tup [.lit (.slice none 0 0),.lit (.int .i64 1)]):=by
  refine aR hmix k_f38 rfl rfl fun Q hQ=>?_
  unfold aFun c_f38
  have hc:=gf h
  rcases h with rfl | ⟨z,rfl,hg⟩
  all_goals
    simp (config:=KF) (disch:=omega) only [bZ,ak,ev_f,putS,Sf.set,Sf.reg,getR,setR,aa,aY,id,↓reduceIte,Nat.reduceEqDiff,reduceCtorEq,Nat.zero_add,f38_1e,f38_2e,f38_2l,f38_3e,f38_4e,f38_5e,f38_5l]
    refine aG rfl e_f51 hc rfl ?_
    simp (config:=KF) (disch:=omega) only [bZ,retI,resI,resL,putS,Sf.set,Sf.reg,getR,setR,aa,aU,List.all_cons,List.all_nil,↓reduceIte,Nat.reduceEqDiff,Bool.true_and,Bool.and_true,and_true,true_and,reduceCtorEq,f38_6e,f38_7e,f38_8e,f38_8l]
    exact hQ _
theorem zs_Len (h:ZS st x) (i:Int):bh Go.Proofs.Try.prog n_f19 [x,.lit (.int .i64 i)] st (.lit (.int .i64 0)):=by
  refine aR hmix k_f19 rfl rfl fun Q hQ=>?_
  unfold aFun c_f19
  have hc:=zs_at h i
  rcases h with rfl | ⟨z,rfl,hg⟩
  all_goals
    simp (config:=KF) (disch:=omega) only [bZ,ak,ev_f,putS,Sf.set,Sf.reg,getR,setR,aa,aY,id,↓reduceIte,Nat.reduceEqDiff,reduceCtorEq,Nat.zero_add,f19_1e,f19_2e,f19_2l,f19_3e,f19_4e,f19_4l]
    refine aG rfl e_f46 hc rfl ?_
    simp (config:=KF) (disch:=omega) only [bZ,ak,ev_f,putS,Sf.set,Sf.reg,getR,setR,id,↓reduceIte,Nat.reduceEqDiff,reduceCtorEq]
    refine aG rfl e_f20 (clen_nil st) rfl ?_
    simp (config:=KF) (disch:=omega) only [bZ,retI,ao,putS,Sf.set,Sf.reg,getR,setR,aa,Sf.disAt,↓reduceIte,Nat.reduceEqDiff,Bool.true_and,true_and,reduceCtorEq]
    exact hQ _
theorem zs_Closed (h:ZS st x) (i:Int):bh Go.Proofs.Try.prog n_f21 [x,.lit (.int .i64 i)] st (.lit (.bool false)):=by
  refine aR hmix k_f21 rfl rfl fun Q hQ=>?_
  unfold aFun c_f21
  have hc:=zs_at h i
  rcases h with rfl | ⟨z,rfl,hg⟩
  all_goals
    simp (config:=KF) (disch:=omega) only [bZ,ak,ev_f,putS,Sf.set,Sf.reg,getR,setR,aa,aY,id,↓reduceIte,Nat.reduceEqDiff,reduceCtorEq,Nat.zero_add,f21_1e,f21_2e,f21_2l,f21_3e,f21_4e,f21_4l]
    refine aG rfl e_f46 hc rfl ?_
    simp (config:=KF) (disch:=omega) only [bZ,ak,ev_f,putS,Sf.set,Sf.reg,getR,setR,id,↓reduceIte,Nat.reduceEqDiff,reduceCtorEq]
    refine aG rfl e_f22 (cclosed_nil st) rfl ?_
    simp (config:=KF) (disch:=omega) only [bZ,retI,ao,putS,Sf.set,Sf.reg,getR,setR,aa,Sf.disAt,↓reduceIte,Nat.reduceEqDiff,Bool.true_and,true_and,reduceCtorEq]
    exact hQ _

theorem zs_do (h:ZS st x) (a:A7) {v:AV} (v1:v.dis = v) (v2:v.own1 = v) (v4:v.solid1 = true) (v5:v.noL = true) (v6:v.cells = [v]) (v7:∀ s,kill s v = v):bh Go.Proofs.Try.prog n_f13 [x,a7AV a v] st (rrA ((0,0,0,0),false,[],1)):=by
  obtain ⟨w,t,p,l,wt⟩:=a
  refine aR hmix k_f13 rfl rfl fun Q hQ=>?_
  unfold aFun c_f13
  have hs:=zs_Select h t p wt v1 v5
  have hc:=zs_Cancel h t
  have hl:=zs_Close h p
  have hx:x.dis = x∧x.noL = true∧x.cells = [x]∧x.own1 = x∧∀ s,kill s x = x:=by
    rcases h with rfl | ⟨z,rfl,hg⟩ <;> exact ⟨rfl,rfl,rfl,rfl,fun _=>rfl⟩
  obtain ⟨x1,x2,x3,x4,x5⟩:=hx
  simp (config:=KF) (disch:=omega) only [bZ,az,aw,ao,c9,kE,aA,boxX,addA,ag,ce,aO,putS,Sf.set,Sf.reg,getR,setR,aa,Sf.disAt,Sf.newLoc,look,cD,bF,aY,aE,ar,al,ae,ah,da,bO,List.length_cons,List.length_nil,List.all_cons,List.all_nil,List.drop_zero,↓reduceIte,Nat.reduceEqDiff,Nat.reduceAdd,Bool.true_and,Bool.and_true,and_true,true_and,reduceCtorEq,Nat.zero_add,Nat.add_zero,f13_1e,f13_2e,f13_2l,f13_3e,f13_4e,f13_4l,f13_5e,f13_6e,f13_6l,f13_7e,f13_8e,f13_9e,f13_9l,f13_10e,f13_11e,f13_12e,f13_12l,f13_13e,a7AV,v2,v4,x1,x5]
  refine bY (fun h0=>?_) (fun h0=>?_)
  · simp (config:=KF) (disch:=omega) only [bZ,az,aw,ak,aA,addA,ag,ev_f,putS,Sf.set,Sf.reg,getR,setR,look,id,List.drop_zero,List.drop_succ_cons,↓reduceIte,Nat.reduceEqDiff,reduceCtorEq,Nat.zero_add,f13_14e,f13_14l,v1,x1]
    refine aG (vs:=[x,.lit (.int .i64 t),v,.lit (.int .i64 p),.lit (.bool wt)]) (by simp [v1,x1]; exact ⟨rfl,rfl,rfl⟩) e_f30 hs (by simp [v5,x2]; exact ⟨rfl,rfl,rfl⟩) ?_
    simp (config:=KF) (disch:=omega) only [bZ,au,retI,resI,cd,az,aw,ao,aW,extV,aA,boxX,bj,addA,ag,aK,aq,bg,aO,aS,putS,Sf.set,Sf.reg,getR,setR,aa,Sf.disAt,Sf.setLoc,look,bF,aE,bq,ar,aX,ir,aB,al,ae,ah,cW,List.length_cons,List.length_nil,List.getElem?_cons_zero,List.getElem?_cons_succ,List.all_cons,List.all_nil,List.drop_zero,List.take_succ_cons,List.take_zero,List.set_cons_zero,List.set_cons_succ,↓reduceIte,Nat.reduceEqDiff,Nat.reduceAdd,Nat.reduceLeDiff,Bool.true_and,Bool.and_true,and_true,true_and,reduceCtorEq,Nat.zero_add,Nat.add_zero,decide_true,am,af,f13_20e,f13_21e,f13_21l,f13_22e,f13_23e,f13_23l]
    exact hQ _
  · simp (config:=KF) (disch:=omega) only [bZ,ao,ce,putS,Sf.set,Sf.reg,getR,setR,aa,Sf.disAt,look,↓reduceIte,Nat.reduceEqDiff,reduceCtorEq,f13_15e,f13_16e,f13_16l,f13_17e]
    refine bY (fun h1=>?_) (fun h1=>?_)
    · simp (config:=KF) (disch:=omega) only [bZ,az,aw,ak,aA,addA,ag,ev_f,putS,Sf.set,Sf.reg,getR,setR,look,id,List.drop_zero,List.drop_succ_cons,↓reduceIte,Nat.reduceEqDiff,reduceCtorEq,Nat.zero_add,f13_18e,f13_18l,x1]
      refine aG (vs:=[x,.lit (.int .i64 t)]) (by simp [x1]; rfl) e_f37 hc (by simp [x2]; rfl) ?_
      simp (config:=KF) (disch:=omega) only [bZ,au,retI,resI,az,aw,ao,aW,aA,boxX,bj,addA,ag,aK,aq,bg,aO,aS,putS,Sf.set,Sf.reg,getR,setR,aa,Sf.disAt,Sf.setLoc,look,bF,aE,ar,aB,al,ae,ah,cW,List.length_cons,List.length_nil,List.all_cons,List.all_nil,List.drop_zero,List.take_succ_cons,List.take_zero,List.set_cons_zero,List.set_cons_succ,↓reduceIte,Nat.reduceEqDiff,Nat.reduceAdd,Nat.reduceLeDiff,Bool.true_and,Bool.and_true,and_true,true_and,reduceCtorEq,Nat.zero_add,decide_true,am,af,f13_20e,f13_21e,f13_21l,f13_22e,f13_23e,f13_23l]
      exact hQ _
    · simp (config:=KF) (disch:=omega) only [bZ,az,aw,ak,aA,addA,ag,ev_f,putS,Sf.set,Sf.reg,getR,setR,look,id,List.drop_zero,List.drop_succ_cons,↓reduceIte,Nat.reduceEqDiff,reduceCtorEq,Nat.zero_add,f13_19e,f13_19l,x1]
      refine aG (vs:=[x,.lit (.int .i64 p)]) (by simp [x1]; rfl) e_f38 hl (by simp [x2]; rfl) ?_
      simp (config:=KF) (disch:=omega) only [bZ,au,retI,resI,cd,az,aw,ao,aW,extV,aA,boxX,bj,addA,ag,aK,aq,bg,aO,aS,putS,Sf.set,Sf.reg,getR,setR,aa,Sf.disAt,Sf.setLoc,look,bF,aE,bq,ar,aX,aB,al,ae,ah,cW,List.length_cons,List.length_nil,List.getElem?_cons_zero,List.getElem?_cons_succ,List.all_cons,List.all_nil,List.drop_zero,List.take_succ_cons,List.take_zero,List.set_cons_zero,List.set_cons_succ,↓reduceIte,Nat.reduceEqDiff,Nat.reduceAdd,Nat.reduceLeDiff,Bool.true_and,Bool.and_true,and_true,true_and,reduceCtorEq,Nat.zero_add,decide_true,am,af,f13_20e,f13_21e,f13_21l,f13_22e,f13_23e,f13_23l]
      exact hQ _
end

theorem kV (a:A7):bf Go.Proofs.Try.prog n_f8 [a7AV a (.sl false 3 (a.2.2.2.1.map csAV))] ⟨[]⟩ (fun v _=>v = .lit (.bool true)):=by
  obtain ⟨w,t,p,l,wt⟩:=a
  refine aZ hmix k_f8 rfl rfl fun Q hQ=>?_
  unfold aFun c_f8
  have hz0:∀ st,ZS st (.lit (.pointer none)):=fun st=>.inl rfl
  have heq:∀ st,bh Go.Proofs.Try.prog n_f18 [rrA ((0,0,0,0),false,[],1),rrA ((0,0,0,0),false,[],1)] st (.lit (.bool true)):=fun st=>iw _ _ (by decide) (by decide) st
  simp (config:=KF) (disch:=omega) only [bZ,cP,ao,kE,kF,bstV,boxX,bt,aO,aS,putS,Sf.set,Sf.reg,getR,setR,aa,Sf.disAt,Sf.newLoc,look,cD,bF,aY,aE,ar,own1_sl,al,ae,kI,ah,bO,List.length_cons,List.length_nil,List.all_cons,List.all_nil,↓reduceIte,Nat.reduceEqDiff,Nat.reduceAdd,Bool.true_and,Bool.and_true,and_true,true_and,reduceCtorEq,Nat.zero_add,f8_1e,f8_2e,f8_2l,f8_3e,f8_4e,f8_4l,f8_5e,f8_6e,f8_6l,f8_7e,f8_8e,f8_9e,f8_9l,f8_10e,a7AV]
  obtain ⟨z,hz⟩:∃ z,z = (⟨[]⟩:St).boxes.length:=⟨_,rfl⟩
  obtain ⟨st1,hs1⟩:∃ s,s = (⟨[]⟩:St).push (.cells [.lit (.slice none 0 0),.lit (.slice none 0 0),.lit (.map none)]):=⟨_,rfl⟩
  have hg:st1.get z = some [.lit (.slice none 0 0),.lit (.slice none 0 0),.lit (.map none)]:=by rw [hs1,hz]; exact dg _ _
  have hz1:ZS st1 (.ptr z 0):=.inr ⟨z,rfl,hg⟩
  simp only [← hs1]
  have hz2:z = 0:=hz
  clear hz
  subst hz2
  rw [f8_11w]
  have key:∀ (x:AV),ZS st1 x→True:=fun _ _=>trivial
  refine d8 (A:=Nat) (fun k=>2 - k) (fun k=>⟨[(1,.lptr 1 0),(3,.lit (.pointer none)),(4,.ptr 0 0),(5,.lit (.int .i64 (k:Nat)))],[(1,[.lit (.int .i64 w),.lit (.int .i64 t),.lit (.int .i64 p),.sl false 3 (l.map csAV),.lit (.bool wt)])]⟩) (fun _=>st1)
    (fun k=>k≤2) 0 (by decide) (Sf.le_refl _) rfl ?_
  rintro k h1 K hK hKe hKr
  try dsimp only
  have hfin:∀ (x:AV) (e:List (Nat×AV)),e = []∨e = [(17,.lit (.bool false))]→ZS st1 x→x.dis = x→x.noL = true→k < 2→aC Go.Proofs.Try.prog id false f8_25 ⟨[(1,.lptr 1 0),(3,.lit (.pointer none)),(4,.ptr 0 0),(5,.lit (.int .i64 (k:Nat))),(6,x)]++e,[(1,[.lit (.int .i64 w),.lit (.int .i64 t),.lit (.int .i64 p),.sl false 3 (l.map csAV),.lit (.bool wt)])]⟩ st1 (il 1 (seqQ (aC Go.Proofs.Try.prog id false f8_32) K)):=fun x e he hx x1 x2 hk=>by
    have hd:=zs_do hx (w,t,p,l,wt) (v:=.sl false 3 (l.map csAV)) rfl rfl rfl rfl rfl fun _=>rfl
    have hq:=heq st1
    simp only [a7AV,rrA,it4s,if_true] at hd hq
    rcases he with rfl | rfl
    all_goals
      simp (config:=KF) (disch:=omega) only [bZ,az,aw,ak,aA,addA,ag,ev_f,putS,Sf.set,Sf.reg,getR,setR,look,id,cV,List.append_nil,List.nil_append,List.cons_append,List.drop_zero,List.drop_succ_cons,↓reduceIte,Nat.reduceEqDiff,Nat.zero_add,f8_25e,f8_26e,f8_26l,x1]
      refine aG (vs:=[x,.sl false 3 (l.map csAV)]) (by simp [x1]; rfl) e_f27 (zs_Ready hx rfl rfl) (by simp [x2]; rfl) ?_
      simp (config:=KF) (disch:=omega) only [bZ,cd,aw,ao,ak,extV,aA,ag,aK,aq,bg,ev_f,putS,Sf.set,Sf.reg,getR,setR,aa,Sf.disAt,look,id,aE,bq,ar,own1_sl,aX,List.length_cons,List.length_nil,List.getElem?_cons_zero,List.getElem?_cons_succ,List.drop_zero,List.take_succ_cons,List.take_zero,↓reduceIte,Nat.reduceEqDiff,Nat.reduceAdd,Nat.reduceLeDiff,Nat.zero_add,decide_true,f8_27e,f8_28e,f8_28l,x1]
      refine aG (vs:=[x,.agg [.lit (.int .i64 w),.lit (.int .i64 t),.lit (.int .i64 p),.sl false 3 (l.map csAV),.lit (.bool wt)]]) (by simp [x1]; rfl) e_f13 hd (by simp [x2]; rfl) ?_
      simp (config:=KF) (disch:=omega) only [bZ,and_self,cP,ak,bstV,bt,ev_f,putS,Sf.set,Sf.reg,getR,setR,id,aB,al,ae,ah,List.length_cons,List.length_nil,List.getElem?_cons_zero,List.getElem?_cons_succ,List.all_cons,List.all_nil,List.set_cons_zero,List.set_cons_succ,↓reduceIte,Nat.reduceEqDiff,Nat.reduceAdd,Nat.reduceLeDiff,Bool.and_true,and_true,Nat.zero_add,am,af]
      refine aG rfl e_f18 hq rfl ?_
      simp (config:=KF) (disch:=omega) only [bZ,ai,AI.dst,aL,a9,o_un,cF,ak,bA,lenI,unA,dO,ev_f,putS,Sf.set,Sf.reg,getR,setR,id,↓reduceIte,Nat.reduceEqDiff,not_true_eq_false,decide_false,Bool.not_true,Bool.false_eq_true,x1]
      refine aG (vs:=[x]) (by simp [x1]) e_f31 (zs_Channels hx) (by simp [x2]) ?_
      simp (config:=KF) (disch:=omega) only [bZ,ai,AI.dst,aL,a9,az,aw,ak,bA,aA,addA,ag,dO,ev_f,putS,Sf.set,Sf.reg,getR,setR,look,id,List.drop_zero,List.drop_succ_cons,↓reduceIte,Nat.reduceEqDiff,Nat.zero_add,not_true_eq_false,decide_false,Bool.false_eq_true,x1]
      refine aG (vs:=[x,.lit (.int .i64 p)]) (by simp [x1]; rfl) e_f19 (zs_Len hx p) (by simp [x2]; rfl) ?_
      simp (config:=KF) (disch:=omega) only [bZ,ai,AI.dst,aL,a9,az,aw,ak,bA,aA,addA,ag,dO,ev_f,putS,Sf.set,Sf.reg,getR,setR,look,id,List.drop_zero,List.drop_succ_cons,↓reduceIte,Nat.reduceEqDiff,Nat.zero_add,not_true_eq_false,decide_false,Bool.false_eq_true,x1]
      refine aG (vs:=[x,.lit (.int .i64 p)]) (by simp [x1]; rfl) e_f21 (zs_Closed hx p) (by simp [x2]; rfl) ?_
      simp (config:=KF) (disch:=omega) only [bZ,ai,AI.dst,aL,a9,ak,bA,ev_f,putS,Sf.set,Sf.reg,getR,setR,id,↓reduceIte,Nat.reduceEqDiff,Bool.false_eq_true,x1]
      refine aG (vs:=[x]) (by simp [x1]) e_f26 (zs_Waiting hx) (by simp [x2]) ?_
      simp (config:=KF) (disch:=omega) only [bZ,ai,AI.dst,aL,a9,cF,ak,bA,lenI,dO,ev_f,putS,Sf.set,Sf.reg,getR,setR,id,↓reduceIte,Nat.reduceEqDiff,not_true_eq_false,decide_false,Bool.false_eq_true,x1]
      refine aG (vs:=[x]) (by simp [x1]) e_f29 (zs_Copy hx) (by simp [x2]) ?_
      simp (config:=KF) (disch:=omega) only [bZ,au,ai,AI.dst,aL,a9,ao,bA,n_nilne,di,cA,du,putS,Sf.set,Sf.reg,getR,setR,aa,Sf.disAt,look,↓reduceIte,Nat.reduceEqDiff,Bool.not_true,Bool.false_eq_true,IntWalk.i64_in,bW,f8_29e,f8_32e,f8_32l]
      exact hK (k + 1) _ (by omega) (by omega) (Sf.le_refl _)
  by_cases e0:k = 0
  · subst e0
    simp (config:=KF) (disch:=omega) only [bZ,ao,ce,cn,putS,Sf.set,Sf.reg,getR,setR,aa,Sf.disAt,look,Int.cast_ofNat_Int,↓reduceIte,Nat.reduceEqDiff,Int.reduceLT,Int.reduceEq,decide_true,decide_false,f8_12e,f8_13e,f8_14e,f8_14l,f8_15e,f8_16e,f8_17e,f8_18e,f8_19e,f8_19l,f8_20e,f8_21e,f8_22e,f8_22l,f8_23e]
    exact hfin _ _ (.inr rfl) (hz0 _) rfl rfl (by decide)
  by_cases e1:k = 1
  · subst e1
    simp (config:=KF) (disch:=omega) only [bZ,ao,ce,cn,putS,Sf.set,Sf.reg,getR,setR,aa,Sf.disAt,look,Int.cast_ofNat_Int,↓reduceIte,Nat.reduceEqDiff,Int.reduceLT,decide_true,f8_12e,f8_13e,f8_14e,f8_14l,f8_15e,f8_16e,f8_17e,f8_18e,f8_19e,f8_19l,f8_20e,f8_21e,f8_22e,f8_22l,f8_23e,f8_24e,f8_24l]
    exact hfin _ _ (.inl rfl) hz1 rfl rfl (by decide)
  obtain rfl:k = 2:=by omega
  simp (config:=KF) (disch:=omega) only [bZ,cL,dN,cn,putS,Sf.set,Sf.reg,getR,setR,aa,look,Int.cast_ofNat_Int,↓reduceIte,Nat.reduceEqDiff,Int.reduceLT,decide_false,f8_12e,f8_13e,f8_14e,f8_14l,f8_15e]
  refine hKe _ _ _ ?_
  simp (config:=KF) (disch:=omega) only [bZ,cc,ak,ev_f,id,↓reduceIte,f8_33e,f8_34e,f8_34l]
  refine bw rfl e_f10 (known37 _) rfl fun r st2 hr=>?_
  subst hr
  simp (config:=KF) (disch:=omega) only [bZ,retI,ao,putS,Sf.set,Sf.reg,getR,setR,aa,Sf.disAt,↓reduceIte,Nat.reduceEqDiff,Bool.true_and,true_and]
  exact hQ _ _ rfl
end Go.Fx.YtbomoaajkinfpaaFx

