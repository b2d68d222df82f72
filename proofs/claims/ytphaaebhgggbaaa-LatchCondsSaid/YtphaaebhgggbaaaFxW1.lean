/- What the functions that the statement reaches compute: part 1. -/
import Derived.Test.YtphaaebhgggbaaaFxT
namespace Go.Fx.YtphaaebhgggbaaaFx
open Go Go.Fx
attribute [local irreducible] aC runI bD cO

set_option maxRecDepth 100000
set_option maxHeartbeats 4000000

theorem eV {q mid:Nat} {a b c:AV} {st:St} (hg:st.get q = some [a,b,c,.map mid]):bg Go.Proofs.Try.prog n_f79 [.ptr q 0] st (.lit (.bool false)):=by
  refine cc hmix k_f79 rfl rfl fun Q hQ=>?_
  unfold aFun c_f79
  simp (config:=KF) (disch:=omega) only [bZ,retI,aL,AI.dst,bh,bu,aw,aq,aM,az,bA,ar,aS,fB,d7,cV,addA,ag,putS,Sf.set,Sf.reg,getR,setR,aa,Sf.disAt,aO,cr,List.drop_zero,List.drop_succ_cons,↓reduceIte,Nat.reduceEqDiff,Bool.true_and,true_and,reduceCtorEq,Nat.zero_add,Bool.false_eq_true,f79_1e,f79_2e,f79_2l,f79_3e,f79_4e,f79_4l,hg]
  exact hQ _

theorem qnew_calls (st:St):aZ Go.Proofs.Try.prog n_f78 [] st (fun v st'=>v = .ptr (st.boxes.length + 1) 0∧QIs st' (st.boxes.length + 1) st.boxes.length [] 0∧st'.boxes.length = st.boxes.length + 2∧∀ id,id < st.boxes.length→st'.boxes[id]? = st.boxes[id]?):=by
  refine aX hmix k_f78 rfl rfl fun Q hQ=>?_
  unfold aFun c_f78
  simp (config:=KF) (disch:=omega) only [bZ,and_self,retI,cv,az,g9,oF,bstV,boxX,bf,au,aE,putS,Sf.set,Sf.reg,getR,setR,aa,Sf.disAt,aO,cr,al,ah,j4,iT,ai,ae,f0,af,fw,List.length_cons,List.length_nil,List.getElem?_cons_zero,List.getElem?_cons_succ,List.all_cons,List.all_nil,List.set_cons_zero,List.set_cons_succ,↓reduceIte,Nat.reduceEqDiff,Nat.reduceAdd,Nat.reduceLeDiff,Bool.true_and,Bool.and_true,and_true,true_and,reduceCtorEq,Nat.zero_add,bU,am,aj,f78_1e,f78_2e,f78_2l,f78_3e,f78_4e,f78_4l]
  refine hQ _ _ ⟨by simp [bU],⟨?_,⟨[],?_,fun _=>rfl,rfl⟩,by simp [bQ],by simp [bQ]⟩,by simp [bU],fun id hid=>?_⟩
  · have:=dx (st.push (.mp [] [] 0)) [.lit (.int .u64 0),.lit (.int .u64 0),.lit (.int .u64 0),.map st.boxes.length]
    rw [bU] at this
    exact this
  · exact (MapIs.new st .u64 ndAV).push _
  · rw [dh (by rw [bU]; omega),dh hid]

theorem nY {q mid g:Nat} {L:Qu} {st:St} (h:QIs st q mid L g):bg Go.Proofs.Try.prog n_f55 [.ptr q 0] st (.lit (.int .i64 (L.length:Nat))):=by
  refine cc hmix k_f55 rfl rfl fun Q hQ=>?_
  unfold aFun c_f55
  obtain ⟨m,hm,hl,hlen⟩:=h.mp
  have hg:=h.get
  simp (config:=KF) (disch:=omega) only [bZ,ao,ev_f,putS,Sf.set,Sf.reg,getR,setR,aa,aO,id,↓reduceIte,reduceCtorEq,f55_1e,f55_2e,f55_2l,f55_3e,f55_4e,f55_5e,f55_5l]
  refine aF rfl e_f79 (eV hg) rfl ?_
  simp (config:=KF) (disch:=omega) only [bZ,retI,aw,aq,aM,cw,az,ar,aS,addA,ag,putS,Sf.set,Sf.reg,getR,setR,aa,Sf.disAt,cr,List.drop_zero,List.drop_succ_cons,↓reduceIte,Nat.reduceEqDiff,Bool.true_and,true_and,reduceCtorEq,Nat.zero_add,f55_6e,f55_9e,f55_10e,f55_10l,hg,mO,hlen]
  exact hQ _

theorem lw {q mid g:Nat} {L:Qu} {st:St} (h:QIs st q mid L g):bg Go.Proofs.Try.prog n_f88 [.ptr q 0] st
    (match L with | []=>.tup [.lit (.int .i64 0),.lit (.int .u64 0),.lit (.int .i64 9)] | (t,v)::_=>.tup [.lit (.int .i64 v),.lit (.int .u64 (t:Nat)),.lit (.int .i64 0)]):=by
  refine cc hmix k_f88 rfl rfl fun Q hQ=>?_
  unfold aFun c_f88
  obtain ⟨m,hm,hl,hlen⟩:=h.mp
  have hg:=h.get
  cases L with
  | nil =>
    simp (config:=KF) (disch:=omega) only [bZ,ao,ev_f,putS,Sf.set,Sf.reg,getR,setR,aa,aO,id,↓reduceIte,Nat.reduceEqDiff,reduceCtorEq,f88_1e,f88_2e,f88_2l,f88_3e,f88_4e,f88_5e,f88_6e,f88_6l]
    refine aF rfl e_f79 (eV hg) rfl ?_
    simp (config:=KF) (disch:=omega) only [bZ,cx,retI,resI,resL,aw,aq,aM,az,ar,aS,addA,ag,bW,putS,Sf.set,Sf.reg,getR,setR,aa,Sf.disAt,aT,List.all_cons,List.all_nil,List.drop_zero,Int.cast_ofNat_Int,↓reduceIte,Nat.reduceEqDiff,Bool.true_and,Bool.and_true,and_true,true_and,reduceCtorEq,Nat.add_zero,decide_true,f88_7e,f88_10e,f88_11e,f88_11l,f88_12e,f88_13e,f88_14e,f88_14l,hg,bF]
    exact hQ _
  | cons x r =>
    obtain ⟨t,v⟩:=x
    have hp:=h.pos t (by simp [bQ])
    have hk:∀ z,de (.int .u64) z false st (.map mid) (.lit (.int .u64 (t:Nat))) = .ok (ndAV (v,0,bF r 0)):=fun z=>by
      rw [d1 hm,hl t]; simp [cd,ndAV_dis]
    have hn:((t:Int) = 0) = False:=by simp; omega
    simp (config:=KF) (disch:=omega) only [bZ,ao,ev_f,putS,Sf.set,Sf.reg,getR,setR,aa,aO,id,↓reduceIte,Nat.reduceEqDiff,reduceCtorEq,f88_1e,f88_2e,f88_2l,f88_3e,f88_4e,f88_5e,f88_6e,f88_6l]
    refine aF rfl e_f79 (eV hg) rfl ?_
    simp (config:=KF) (disch:=omega) only [bZ,dy,cp,dc,hh_field,bV,bY,c8,fK,bC,cf,aD,retI,resI,resL,aw,aq,aM,az,fieldV,ar,aS,addA,ag,bW,putS,Sf.set,Sf.reg,getR,setR,aa,Sf.disAt,br,cr,aT,List.all_cons,List.all_nil,List.drop_zero,List.drop_succ_cons,Int.cast_ofNat_Int,↓reduceIte,Nat.reduceEqDiff,Bool.true_and,Bool.and_true,and_true,true_and,reduceCtorEq,Nat.zero_add,Nat.add_zero,decide_false,f88_7e,f88_10e,f88_11e,f88_11l,f88_12e,f88_15e,f88_16e,f88_16h,f88_16l,hg,bF,hk,hn,ndAV]
    exact hQ _
end Go.Fx.YtphaaebhgggbaaaFx

