/- What the functions that the statement reaches compute: part 1. -/
import Derived.Test.YtphaaebhgggbaaaFxT
namespace Go.Fx.YtphaaebhgggbaaaFx
open Go Go.Fx
attribute [local irreducible] aC runI bD cS

set_option maxRecDepth 100000
set_option maxHeartbeats 4000000

theorem fR {q mid:Nat} {a b c:AV} {st:St} (hg:st.get q = some [a,b,c,.map mid]):bt Go.Proofs.Try.prog n_f79 [.ptr q 0] st (.lit (.bool false)):=by
  refine b8 hmix k_f79 rfl rfl fun Q hQ=>?_
  unfold aFun c_f79
  simp (config:=KF) (disch:=omega) only [bZ,retI,aj,AI.dst,aw,aK,ag,af,aI,al,aG,am,aO,gL,eE,di,addA,ae,putS,Sf.set,Sf.reg,getR,setR,aa,Sf.disAt,aS,cZ,List.drop_zero,List.drop_succ_cons,↓reduceIte,Nat.reduceEqDiff,Bool.true_and,true_and,reduceCtorEq,Nat.zero_add,Bool.false_eq_true,f79_1e,f79_2e,f79_2l,f79_3e,f79_4e,f79_4l,hg]
  exact hQ _

theorem qnew_calls (st:St):bf Go.Proofs.Try.prog n_f78 [] st (fun v st'=>v = .ptr (st.boxes.length + 1) 0∧QIs st' (st.boxes.length + 1) st.boxes.length [] 0∧st'.boxes.length = st.boxes.length + 2∧∀ id,id < st.boxes.length→st'.boxes[id]? = st.boxes[id]?):=by
  refine aV hmix k_f78 rfl rfl fun Q hQ=>?_
  unfold aFun c_f78
  simp (config:=KF) (disch:=omega) only [bZ,and_self,retI,dm,al,kj,o_mkmap,bstV,boxX,bL,aM,bg,putS,Sf.set,Sf.reg,getR,setR,aa,Sf.disAt,aS,cZ,aF,au,own1_map,nw,ap,ah,l4,ao,iw,List.length_cons,List.length_nil,List.getElem?_cons_zero,List.getElem?_cons_succ,List.all_cons,List.all_nil,List.set_cons_zero,List.set_cons_succ,↓reduceIte,Nat.reduceEqDiff,Nat.reduceAdd,Nat.reduceLeDiff,Bool.true_and,Bool.and_true,and_true,true_and,reduceCtorEq,Nat.zero_add,df,aD,aq,f78_1e,f78_2e,f78_2l,f78_3e,f78_4e,f78_4l]
  refine hQ _ _ ⟨by simp [df],⟨?_,⟨[],?_,fun _=>rfl,rfl⟩,by simp [bS],by simp [bS]⟩,by simp [df],fun id hid=>?_⟩
  · have:=eH (st.push (.mp [] [] 0)) [.lit (.int .u64 0),.lit (.int .u64 0),.lit (.int .u64 0),.map st.boxes.length]
    rw [df] at this
    exact this
  · exact (MapIs.new st .u64 ndAV).push _
  · rw [fo (by rw [df]; omega),fo hid]

theorem kp {q mid g:Nat} {L:Qu} {st:St} (h:QIs st q mid L g):bt Go.Proofs.Try.prog n_f55 [.ptr q 0] st (.lit (.int .i64 (L.length:Nat))):=by
  refine b8 hmix k_f55 rfl rfl fun Q hQ=>?_
  unfold aFun c_f55
  obtain ⟨m,hm,hl,hlen⟩:=h.mp
  have hg:=h.get
  simp (config:=KF) (disch:=omega) only [bZ,ai,ev_f,putS,Sf.set,Sf.reg,getR,setR,aa,aS,id,↓reduceIte,reduceCtorEq,f55_1e,f55_2e,f55_2l,f55_3e,f55_4e,f55_5e,f55_5l]
  refine aE rfl e_f79 (fR hg) rfl ?_
  simp (config:=KF) (disch:=omega) only [bZ,retI,ag,af,aI,bd,al,am,aO,addA,ae,putS,Sf.set,Sf.reg,getR,setR,aa,Sf.disAt,cZ,List.drop_zero,List.drop_succ_cons,↓reduceIte,Nat.reduceEqDiff,Bool.true_and,true_and,reduceCtorEq,Nat.zero_add,f55_6e,f55_9e,f55_10e,f55_10l,hg,me,hlen]
  exact hQ _

theorem kI {q mid g:Nat} {L:Qu} {st:St} (h:QIs st q mid L g):bt Go.Proofs.Try.prog n_f88 [.ptr q 0] st
    (match L with | []=>.tup [.lit (.int .i64 0),.lit (.int .u64 0),.lit (.int .i64 9)] | (t,v)::_=>.tup [.lit (.int .i64 v),.lit (.int .u64 (t:Nat)),.lit (.int .i64 0)]):=by
  refine b8 hmix k_f88 rfl rfl fun Q hQ=>?_
  unfold aFun c_f88
  obtain ⟨m,hm,hl,hlen⟩:=h.mp
  have hg:=h.get
  cases L with
  | nil =>
    simp (config:=KF) (disch:=omega) only [bZ,ai,ev_f,putS,Sf.set,Sf.reg,getR,setR,aa,aS,id,↓reduceIte,Nat.reduceEqDiff,reduceCtorEq,f88_1e,f88_2e,f88_2l,f88_3e,f88_4e,f88_5e,f88_6e,f88_6l]
    refine aE rfl e_f79 (fR hg) rfl ?_
    simp (config:=KF) (disch:=omega) only [bZ,cq,retI,resI,resL,ag,af,aI,al,am,aO,addA,ae,bz,putS,Sf.set,Sf.reg,getR,setR,aa,Sf.disAt,bq,List.all_cons,List.all_nil,List.drop_zero,Int.cast_ofNat_Int,↓reduceIte,Nat.reduceEqDiff,Bool.true_and,Bool.and_true,and_true,true_and,reduceCtorEq,Nat.add_zero,decide_true,f88_7e,f88_10e,f88_11e,f88_11l,f88_12e,f88_13e,f88_14e,f88_14l,hg,bM]
    exact hQ _
  | cons x r =>
    obtain ⟨t,v⟩:=x
    have hp:=h.pos t (by simp [bS])
    have hk:∀ z,dn (.int .u64) z false st (.map mid) (.lit (.int .u64 (t:Nat))) = .ok (ndAV (v,0,bM r 0)):=fun z=>by
      rw [ea hm,hl t]; simp [b9,ndAV_dis]
    have hn:((t:Int) = 0) = False:=by simp; omega
    simp (config:=KF) (disch:=omega) only [bZ,ai,ev_f,putS,Sf.set,Sf.reg,getR,setR,aa,aS,id,↓reduceIte,Nat.reduceEqDiff,reduceCtorEq,f88_1e,f88_2e,f88_2l,f88_3e,f88_4e,f88_5e,f88_6e,f88_6l]
    refine aE rfl e_f79 (fR hg) rfl ?_
    simp (config:=KF) (disch:=omega) only [bZ,dR,ca,cQ,hh_field,cf,ce,dg,fv,bw,bY,aA,retI,resI,resL,ag,af,aI,al,fieldV,am,aO,addA,ae,bz,putS,Sf.set,Sf.reg,getR,setR,aa,Sf.disAt,bO,cZ,bq,List.all_cons,List.all_nil,List.drop_zero,List.drop_succ_cons,Int.cast_ofNat_Int,↓reduceIte,Nat.reduceEqDiff,Bool.true_and,Bool.and_true,and_true,true_and,reduceCtorEq,Nat.zero_add,Nat.add_zero,decide_false,f88_7e,f88_10e,f88_11e,f88_11l,f88_12e,f88_15e,f88_16e,f88_16h,f88_16l,hg,bM,hk,hn,ndAV]
    exact hQ _
end Go.Fx.YtphaaebhgggbaaaFx

