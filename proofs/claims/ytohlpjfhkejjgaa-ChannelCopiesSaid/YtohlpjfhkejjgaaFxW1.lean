/- What the functions that the statement reaches compute: part 1. -/
import Derived.Test.YtohlpjfhkejjgaaFxT
namespace Go.Fx.YtohlpjfhkejjgaaFx
open Go Go.Fx
attribute [local irreducible] aC runI aY cF

set_option maxRecDepth 100000
set_option maxHeartbeats 4000000

theorem eU {q mid:Nat} {a b c:AV} {st:St} (hg:st.get q = some [a,b,c,.map mid]):bF Go.Proofs.Try.prog n_f41 [.ptr q 0] st (.lit (.bool false)):=by
  refine cC hmix k_f41 rfl rfl fun Q hQ=>?_
  unfold aFun c_f41
  simp (config:=KF) (disch:=omega) only [bZ,retI,aw,AI.dst,a9,a7,aD,aq,a8,aA,bN,au,aZ,fZ,ec,cZ,addA,ak,putS,Sf.set,Sf.reg,getR,setR,ae,Sf.disAt,bt,cb,List.drop_zero,List.drop_succ_cons,↓reduceIte,Nat.reduceEqDiff,Bool.true_and,true_and,reduceCtorEq,Nat.zero_add,Bool.false_eq_true,f41_1e,f41_2e,f41_2l,f41_3e,f41_4e,f41_4l,hg]
  exact hQ _

theorem mz (st:St):bj Go.Proofs.Try.prog n_f24 [] st (fun v st'=>v = .ptr (st.boxes.length + 1) 0∧QIs st' (st.boxes.length + 1) st.boxes.length [] 0∧st'.boxes.length = st.boxes.length + 2∧∀ id,id < st.boxes.length→st'.boxes[id]? = st.boxes[id]?):=by
  refine bf hmix k_f24 rfl rfl fun Q hQ=>?_
  unfold aFun c_f24
  simp (config:=KF) (disch:=omega) only [bZ,and_self,retI,bT,aA,o_boxB,oD,bstV,boxX,aQ,ap,aE,putS,Sf.set,Sf.reg,getR,setR,ae,Sf.disAt,bt,cb,ao,aj,jO,iE,ag,aa,eR,ai,lx,List.length_cons,List.length_nil,List.getElem?_cons_zero,List.getElem?_cons_succ,List.all_cons,List.all_nil,List.set_cons_zero,List.set_cons_succ,↓reduceIte,Nat.reduceEqDiff,Nat.reduceAdd,Nat.reduceLeDiff,Bool.true_and,Bool.and_true,and_true,true_and,reduceCtorEq,Nat.zero_add,cr,ah,af,f24_1e,f24_2e,f24_2l,f24_3e,f24_4e,f24_4l]
  refine hQ _ _ ⟨by simp [cr],⟨?_,⟨[],?_,fun _=>rfl,rfl⟩,by simp [bL],by simp [bL]⟩,by simp [cr],fun id hid=>?_⟩
  · have:=dj (st.push (.mp [] [] 0)) [.lit (.int .u64 0),.lit (.int .u64 0),.lit (.int .u64 0),.map st.boxes.length]
    rw [cr] at this
    exact this
  · exact (MapIs.new st .u64 ndAV).push _
  · rw [dK (by rw [cr]; omega),dK hid]

theorem nV {q mid g:Nat} {L:Qu} {st:St} (h:QIs st q mid L g):bF Go.Proofs.Try.prog n_f30 [.ptr q 0] st (.lit (.int .i64 (L.length:Nat))):=by
  refine cC hmix k_f30 rfl rfl fun Q hQ=>?_
  unfold aFun c_f30
  obtain ⟨m,hm,hl,hlen⟩:=h.mp
  have hg:=h.get
  simp (config:=KF) (disch:=omega) only [bZ,az,ev_f,putS,Sf.set,Sf.reg,getR,setR,ae,bt,id,↓reduceIte,reduceCtorEq,f30_1e,f30_2e,f30_2l,f30_3e,f30_4e,f30_5e,f30_5l]
  refine bA rfl e_f41 (eU hg) rfl ?_
  simp (config:=KF) (disch:=omega) only [bZ,retI,aD,aq,a8,cM,aA,au,aZ,addA,ak,putS,Sf.set,Sf.reg,getR,setR,ae,Sf.disAt,cb,List.drop_zero,List.drop_succ_cons,↓reduceIte,Nat.reduceEqDiff,Bool.true_and,true_and,reduceCtorEq,Nat.zero_add,f30_6e,f30_9e,f30_10e,f30_10l,hg,my,hlen]
  exact hQ _

theorem k9 {q mid g:Nat} {L:Qu} {st:St} (h:QIs st q mid L g):bF Go.Proofs.Try.prog n_f52 [.ptr q 0] st
    (match L with | []=>.tup [.lit (.int .i64 0),.lit (.int .u64 0),.lit (.int .i64 9)] | (t,v)::_=>.tup [.lit (.int .i64 v),.lit (.int .u64 (t:Nat)),.lit (.int .i64 0)]):=by
  refine cC hmix k_f52 rfl rfl fun Q hQ=>?_
  unfold aFun c_f52
  obtain ⟨m,hm,hl,hlen⟩:=h.mp
  have hg:=h.get
  cases L with
  | nil =>
    simp (config:=KF) (disch:=omega) only [bZ,az,ev_f,putS,Sf.set,Sf.reg,getR,setR,ae,bt,id,↓reduceIte,Nat.reduceEqDiff,reduceCtorEq,f52_1e,f52_2e,f52_2l,f52_3e,f52_4e,f52_5e,f52_6e,f52_6l]
    refine bA rfl e_f41 (eU hg) rfl ?_
    simp (config:=KF) (disch:=omega) only [bZ,bU,retI,resI,resL,aD,aq,a8,aA,au,aZ,addA,ak,bR,putS,Sf.set,Sf.reg,getR,setR,ae,Sf.disAt,aJ,List.all_cons,List.all_nil,List.drop_zero,Int.cast_ofNat_Int,↓reduceIte,Nat.reduceEqDiff,Bool.true_and,Bool.and_true,and_true,true_and,reduceCtorEq,Nat.add_zero,decide_true,f52_7e,f52_10e,f52_11e,f52_11l,f52_12e,f52_13e,f52_14e,f52_14l,hg,bH]
    exact hQ _
  | cons x r =>
    obtain ⟨t,v⟩:=x
    have hp:=h.pos t (by simp [bL])
    have hk:∀ z,cW (.int .u64) z false st (.map mid) (.lit (.int .u64 (t:Nat))) = .ok (ndAV (v,0,bH r 0)):=fun z=>by
      rw [dl hm,hl t]; simp [ca,ndAV_dis]
    have hn:((t:Int) = 0) = False:=by simp; omega
    simp (config:=KF) (disch:=omega) only [bZ,az,ev_f,putS,Sf.set,Sf.reg,getR,setR,ae,bt,id,↓reduceIte,Nat.reduceEqDiff,reduceCtorEq,f52_1e,f52_2e,f52_2l,f52_3e,f52_4e,f52_5e,f52_6e,f52_6l]
    refine bA rfl e_f41 (eU hg) rfl ?_
    simp (config:=KF) (disch:=omega) only [bZ,da,cd,cX,hh_field,cJ,cc,dz,gy,bp,tail_nil,aV,retI,resI,resL,aD,aq,a8,aA,mf,au,aZ,addA,ak,bR,putS,Sf.set,Sf.reg,getR,setR,ae,Sf.disAt,bk,cb,aJ,List.all_cons,List.all_nil,List.drop_zero,List.drop_succ_cons,Int.cast_ofNat_Int,↓reduceIte,Nat.reduceEqDiff,Bool.true_and,Bool.and_true,and_true,true_and,reduceCtorEq,Nat.zero_add,Nat.add_zero,decide_false,f52_7e,f52_10e,f52_11e,f52_11l,f52_12e,f52_15e,f52_16e,f52_16h,f52_16l,hg,bH,hk,hn,ndAV]
    exact hQ _
end Go.Fx.YtohlpjfhkejjgaaFx

