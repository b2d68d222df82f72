/- What the functions that the statement reaches compute: part 1. -/
import Derived.Test.YtphaaebhgggbaaaFxT
namespace Go.Fx.YtphaaebhgggbaaaFx
open Go Go.Fx
attribute [local irreducible] aC runI bA cS

set_option maxRecDepth 100000
set_option maxHeartbeats 4000000

theorem eN {q mid:Nat} {a b c:AV} {st:St} (hg:st.get q = some [a,b,c,.map mid]):aY Go.Proofs.Try.prog n_f79 [.ptr q 0] st (.lit (.bool false)):=by
  refine bN hmix k_f79 rfl rfl fun Q hQ=>?_
  unfold aFun c_f79
  simp (config:=KF) (disch:=omega) only [bZ,retI,aE,AI.dst,a7,bf,ar,am,aG,al,bu,ap,aL,dG,c5,cA,addA,af,putS,Sf.set,Sf.reg,getR,setR,aa,Sf.disAt,aI,cd,List.drop_zero,List.drop_succ_cons,↓reduceIte,Nat.reduceEqDiff,Bool.true_and,true_and,reduceCtorEq,Nat.zero_add,Bool.false_eq_true,f79_1e,f79_2e,f79_2l,f79_3e,f79_4e,f79_4l,hg]
  exact hQ _

theorem qnew_calls (st:St):aU Go.Proofs.Try.prog n_f78 [] st (fun v st'=>v = .ptr (st.boxes.length + 1) 0∧QIs st' (st.boxes.length + 1) st.boxes.length [] 0∧st'.boxes.length = st.boxes.length + 2∧∀ id,id < st.boxes.length→st'.boxes[id]? = st.boxes[id]?):=by
  refine aO hmix k_f78 rfl rfl fun Q hQ=>?_
  unfold aFun c_f78
  simp (config:=KF) (disch:=omega) only [bZ,and_self,retI,co,al,gC,nT,bstV,boxX,a8,aA,aP,putS,Sf.set,Sf.reg,getR,setR,aa,Sf.disAt,aI,cd,ao,ai,jK,iB,ag,ae,fG,ah,fc,List.length_cons,List.length_nil,List.getElem?_cons_zero,List.getElem?_cons_succ,List.all_cons,List.all_nil,List.set_cons_zero,List.set_cons_succ,↓reduceIte,Nat.reduceEqDiff,Nat.reduceAdd,Nat.reduceLeDiff,Bool.true_and,Bool.and_true,and_true,true_and,reduceCtorEq,Nat.zero_add,bL,au,ak,f78_1e,f78_2e,f78_2l,f78_3e,f78_4e,f78_4l]
  refine hQ _ _ ⟨by simp [bL],⟨?_,⟨[],?_,fun _=>rfl,rfl⟩,by simp [bF],by simp [bF]⟩,by simp [bL],fun id hid=>?_⟩
  · have:=dp (st.push (.mp [] [] 0)) [.lit (.int .u64 0),.lit (.int .u64 0),.lit (.int .u64 0),.map st.boxes.length]
    rw [bL] at this
    exact this
  · exact (MapIs.new st .u64 ndAV).push _
  · rw [dm (by rw [bL]; omega),dm hid]

theorem nu {q mid g:Nat} {L:Qu} {st:St} (h:QIs st q mid L g):aY Go.Proofs.Try.prog n_f55 [.ptr q 0] st (.lit (.int .i64 (L.length:Nat))):=by
  refine bN hmix k_f55 rfl rfl fun Q hQ=>?_
  unfold aFun c_f55
  obtain ⟨m,hm,hl,hlen⟩:=h.mp
  have hg:=h.get
  simp (config:=KF) (disch:=omega) only [bZ,aj,ev_f,putS,Sf.set,Sf.reg,getR,setR,aa,aI,id,↓reduceIte,reduceCtorEq,f55_1e,f55_2e,f55_2l,f55_3e,f55_4e,f55_5e,f55_5l]
  refine aM rfl e_f79 (eN hg) rfl ?_
  simp (config:=KF) (disch:=omega) only [bZ,retI,ar,am,aG,cL,al,ap,aL,addA,af,putS,Sf.set,Sf.reg,getR,setR,aa,Sf.disAt,cd,List.drop_zero,List.drop_succ_cons,↓reduceIte,Nat.reduceEqDiff,Bool.true_and,true_and,reduceCtorEq,Nat.zero_add,f55_6e,f55_9e,f55_10e,f55_10l,hg,l9,hlen]
  exact hQ _

theorem kL {q mid g:Nat} {L:Qu} {st:St} (h:QIs st q mid L g):aY Go.Proofs.Try.prog n_f88 [.ptr q 0] st
    (match L with | []=>.tup [.lit (.int .i64 0),.lit (.int .u64 0),.lit (.int .i64 9)] | (t,v)::_=>.tup [.lit (.int .i64 v),.lit (.int .u64 (t:Nat)),.lit (.int .i64 0)]):=by
  refine bN hmix k_f88 rfl rfl fun Q hQ=>?_
  unfold aFun c_f88
  obtain ⟨m,hm,hl,hlen⟩:=h.mp
  have hg:=h.get
  cases L with
  | nil =>
    simp (config:=KF) (disch:=omega) only [bZ,aj,ev_f,putS,Sf.set,Sf.reg,getR,setR,aa,aI,id,↓reduceIte,Nat.reduceEqDiff,reduceCtorEq,f88_1e,f88_2e,f88_2l,f88_3e,f88_4e,f88_5e,f88_6e,f88_6l]
    refine aM rfl e_f79 (eN hg) rfl ?_
    simp (config:=KF) (disch:=omega) only [bZ,cm,retI,resI,resL,ar,am,aG,al,ap,aL,addA,af,bJ,putS,Sf.set,Sf.reg,getR,setR,aa,Sf.disAt,aR,List.all_cons,List.all_nil,List.drop_zero,Int.cast_ofNat_Int,↓reduceIte,Nat.reduceEqDiff,Bool.true_and,Bool.and_true,and_true,true_and,reduceCtorEq,Nat.add_zero,decide_true,f88_7e,f88_10e,f88_11e,f88_11l,f88_12e,f88_13e,f88_14e,f88_14l,hg,bB]
    exact hQ _
  | cons x r =>
    obtain ⟨t,v⟩:=x
    have hp:=h.pos t (by simp [bF])
    have hk:∀ z,c7 (.int .u64) z false st (.map mid) (.lit (.int .u64 (t:Nat))) = .ok (ndAV (v,0,bB r 0)):=fun z=>by
      rw [dV hm,hl t]; simp [bR,ndAV_dis]
    have hn:((t:Int) = 0) = False:=by simp; omega
    simp (config:=KF) (disch:=omega) only [bZ,aj,ev_f,putS,Sf.set,Sf.reg,getR,setR,aa,aI,id,↓reduceIte,Nat.reduceEqDiff,reduceCtorEq,f88_1e,f88_2e,f88_2l,f88_3e,f88_4e,f88_5e,f88_6e,f88_6l]
    refine aM rfl e_f79 (eN hg) rfl ?_
    simp (config:=KF) (disch:=omega) only [bZ,eS,cF,dq,hh_field,b8,ci,dt,fm,bw,cK,aD,retI,resI,resL,ar,am,aG,al,fieldV,ap,aL,addA,af,bJ,putS,Sf.set,Sf.reg,getR,setR,aa,Sf.disAt,bE,cd,aR,List.all_cons,List.all_nil,List.drop_zero,List.drop_succ_cons,Int.cast_ofNat_Int,↓reduceIte,Nat.reduceEqDiff,Bool.true_and,Bool.and_true,and_true,true_and,reduceCtorEq,Nat.zero_add,Nat.add_zero,decide_false,f88_7e,f88_10e,f88_11e,f88_11l,f88_12e,f88_15e,f88_16e,f88_16h,f88_16l,hg,bB,hk,hn,ndAV]
    exact hQ _
end Go.Fx.YtphaaebhgggbaaaFx

