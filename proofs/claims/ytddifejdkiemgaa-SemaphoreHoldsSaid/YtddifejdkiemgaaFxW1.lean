/- What the functions that the statement reaches compute: part 1. -/
import Derived.Test.YtddifejdkiemgaaFxT
namespace Go.Fx.YtddifejdkiemgaaFx
open Go Go.Fx
attribute [local irreducible] aC runI dg ep

set_option maxRecDepth 100000
set_option maxHeartbeats 4000000

theorem iD {q mid:Nat} {a b c:AV} {st:St} (hg:st.get q = some [a,b,c,.map mid]):dJ Go.Proofs.Try.prog n_f68 [.ptr q 0] st (.lit (.bool false)):=by
  refine eo hmix k_f68 rfl rfl fun Q hQ=>?_
  unfold aFun c_f68
  simp (config:=KF) (disch:=omega) only [bZ,retI,aS,AI.dst,ck,c8,cf,ca,ce,bH,cV,bK,cB,lx,iw,fv,addA,a8,putS,Sf.set,Sf.reg,getR,setR,aD,Sf.disAt,da,dK,List.drop_zero,List.drop_succ_cons,↓reduceIte,Nat.reduceEqDiff,Bool.true_and,true_and,reduceCtorEq,Nat.zero_add,Bool.false_eq_true,f68_1e,f68_2e,f68_2l,f68_3e,f68_4e,f68_4l,hg]
  exact hQ _

theorem qnew_calls (st:St):dt Go.Proofs.Try.prog n_f45 [] st (fun v st'=>v = .ptr (st.boxes.length + 1) 0∧QIs st' (st.boxes.length + 1) st.boxes.length [] 0∧st'.boxes.length = st.boxes.length + 2∧∀ id,id < st.boxes.length→st'.boxes[id]? = st.boxes[id]?):=by
  refine dN hmix k_f45 rfl rfl fun Q hQ=>?_
  unfold aFun c_f45
  simp (config:=KF) (disch:=omega) only [bZ,and_self,retI,oF,bH,o_boxB,o_mkmap,bstV,boxX,eF,dG,dH,putS,Sf.set,Sf.reg,getR,setR,aD,Sf.disAt,da,dK,dD,dk,pY,n4,cP,bU,kr,cR,ng,List.length_cons,List.length_nil,List.getElem?_cons_zero,List.getElem?_cons_succ,List.all_cons,List.all_nil,List.set_cons_zero,List.set_cons_succ,↓reduceIte,Nat.reduceEqDiff,Nat.reduceAdd,Nat.reduceLeDiff,Bool.true_and,Bool.and_true,and_true,true_and,reduceCtorEq,Nat.zero_add,eB,cD,b4,f45_1e,f45_2e,f45_2l,f45_3e,f45_4e,f45_4l]
  refine hQ _ _ ⟨by simp [eB],⟨?_,⟨[],?_,fun _=>rfl,rfl⟩,by simp [dw],by simp [dw]⟩,by simp [eB],fun id hid=>?_⟩
  · have:=gp (st.push (.mp [] [] 0)) [.lit (.int .u64 0),.lit (.int .u64 0),.lit (.int .u64 0),.map st.boxes.length]
    rw [eB] at this
    exact this
  · exact (MapIs.new st .u64 ndAV).push _
  · rw [e9 (by rw [eB]; omega),e9 hid]

theorem oe {q mid g:Nat} {L:Qu} {st:St} (h:QIs st q mid L g):dJ Go.Proofs.Try.prog n_f47 [.ptr q 0] st (.lit (.int .i64 (L.length:Nat))):=by
  refine eo hmix k_f47 rfl rfl fun Q hQ=>?_
  unfold aFun c_f47
  obtain ⟨m,hm,hl,hlen⟩:=h.mp
  have hg:=h.get
  simp (config:=KF) (disch:=omega) only [bZ,aI,ev_f,putS,Sf.set,Sf.reg,getR,setR,aD,da,id,↓reduceIte,reduceCtorEq,f47_1e,f47_2e,f47_2l,f47_3e,f47_4e,f47_5e,f47_5l]
  refine cF rfl e_f68 (iD hg) rfl ?_
  simp (config:=KF) (disch:=omega) only [bZ,retI,cf,ca,ce,er,bH,bK,cB,addA,a8,putS,Sf.set,Sf.reg,getR,setR,aD,Sf.disAt,dK,List.drop_zero,List.drop_succ_cons,↓reduceIte,Nat.reduceEqDiff,Bool.true_and,true_and,reduceCtorEq,Nat.zero_add,f47_6e,f47_9e,f47_10e,f47_10l,hg,qe,hlen]
  exact hQ _

theorem qfront_pure {q mid g:Nat} {L:Qu} {st:St} (h:QIs st q mid L g):dJ Go.Proofs.Try.prog n_f70 [.ptr q 0] st
    (match L with | []=>.tup [.lit (.int .i64 0),.lit (.int .u64 0),.lit (.int .i64 9)] | (t,v)::_=>.tup [.lit (.int .i64 v),.lit (.int .u64 (t:Nat)),.lit (.int .i64 0)]):=by
  refine eo hmix k_f70 rfl rfl fun Q hQ=>?_
  unfold aFun c_f70
  obtain ⟨m,hm,hl,hlen⟩:=h.mp
  have hg:=h.get
  cases L with
  | nil =>
    simp (config:=KF) (disch:=omega) only [bZ,aI,ev_f,putS,Sf.set,Sf.reg,getR,setR,aD,da,id,↓reduceIte,Nat.reduceEqDiff,reduceCtorEq,f70_1e,f70_2e,f70_2l,f70_3e,f70_4e,f70_5e,f70_6e,f70_6l]
    refine cF rfl e_f68 (iD hg) rfl ?_
    simp (config:=KF) (disch:=omega) only [bZ,eh,retI,resI,resL,cf,ca,ce,bH,bK,cB,addA,a8,fa,putS,Sf.set,Sf.reg,getR,setR,aD,Sf.disAt,dE,List.all_cons,List.all_nil,List.drop_zero,Int.cast_ofNat_Int,↓reduceIte,Nat.reduceEqDiff,Bool.true_and,Bool.and_true,and_true,true_and,reduceCtorEq,Nat.add_zero,decide_true,f70_7e,f70_10e,f70_11e,f70_11l,f70_12e,f70_13e,f70_14e,f70_14l,hg,dh]
    exact hQ _
  | cons x r =>
    obtain ⟨t,v⟩:=x
    have hp:=h.pos t (by simp [dw])
    have hk:∀ z,e6 (.int .u64) z false st (.map mid) (.lit (.int .u64 (t:Nat))) = .ok (ndAV (v,0,dh r 0)):=fun z=>by
      rw [fC hm,hl t]; simp [dS,ndAV_dis]
    have hn:((t:Int) = 0) = False:=by simp; omega
    simp (config:=KF) (disch:=omega) only [bZ,aI,ev_f,putS,Sf.set,Sf.reg,getR,setR,aD,da,id,↓reduceIte,Nat.reduceEqDiff,reduceCtorEq,f70_1e,f70_2e,f70_2l,f70_3e,f70_4e,f70_5e,f70_6e,f70_6l]
    refine cF rfl e_f68 (iD hg) rfl ?_
    simp (config:=KF) (disch:=omega) only [bZ,fp,ek,fq,hh_field,e7,dU,eJ,i7,dz,dA,bG,retI,resI,resL,cf,ca,ce,bH,kU,bK,cB,addA,a8,fa,putS,Sf.set,Sf.reg,getR,setR,aD,Sf.disAt,dn,dK,dE,List.all_cons,List.all_nil,List.drop_zero,List.drop_succ_cons,Int.cast_ofNat_Int,↓reduceIte,Nat.reduceEqDiff,Bool.true_and,Bool.and_true,and_true,true_and,reduceCtorEq,Nat.zero_add,Nat.add_zero,decide_false,f70_7e,f70_10e,f70_11e,f70_11l,f70_12e,f70_15e,f70_16e,f70_16h,f70_16l,hg,dh,hk,hn,ndAV]
    exact hQ _
end Go.Fx.YtddifejdkiemgaaFx

