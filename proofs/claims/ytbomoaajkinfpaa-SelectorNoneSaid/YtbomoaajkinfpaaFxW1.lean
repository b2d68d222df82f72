/- What the functions that the statement reaches compute: part 1. -/
import Derived.Test.YtbomoaajkinfpaaFxT
namespace Go.Fx.YtbomoaajkinfpaaFx
open Go Go.Fx
attribute [local irreducible] aC runI aT bM

set_option maxRecDepth 100000
set_option maxHeartbeats 4000000

theorem fX {q mid:Nat} {a b c:AV} {st:St} (hg:st.get q = some [a,b,c,.map mid]):bh Go.Proofs.Try.prog n_f62 [.ptr q 0] st (.lit (.bool false)):=by
  refine aR hmix k_f62 rfl rfl fun Q hQ=>?_
  unfold aFun c_f62
  simp (config:=KF) (disch:=omega) only [bZ,retI,ai,AI.dst,aL,a9,az,aw,aQ,ao,bA,aA,aM,ep,di,cA,addA,ag,putS,Sf.set,Sf.reg,getR,setR,aa,Sf.disAt,aY,bJ,List.drop_zero,List.drop_succ_cons,↓reduceIte,Nat.reduceEqDiff,Bool.true_and,true_and,reduceCtorEq,Nat.zero_add,Bool.false_eq_true,f62_1e,f62_2e,f62_2l,f62_3e,f62_4e,f62_4l,hg]
  exact hQ _

theorem mT (st:St):bf Go.Proofs.Try.prog n_f36 [] st (fun v st'=>v = .ptr (st.boxes.length + 1) 0∧QIs st' (st.boxes.length + 1) st.boxes.length [] 0∧st'.boxes.length = st.boxes.length + 2∧∀ id,id < st.boxes.length→st'.boxes[id]? = st.boxes[id]?):=by
  refine aZ hmix k_f36 rfl rfl fun Q hQ=>?_
  unfold aFun c_f36
  simp (config:=KF) (disch:=omega) only [bZ,and_self,retI,cP,ao,kF,pf,bstV,boxX,bt,aO,aS,putS,Sf.set,Sf.reg,getR,setR,aa,Sf.disAt,aY,bJ,aE,ar,mK,kH,al,ae,jm,ah,lL,List.length_cons,List.length_nil,List.getElem?_cons_zero,List.getElem?_cons_succ,List.all_cons,List.all_nil,List.set_cons_zero,List.set_cons_succ,↓reduceIte,Nat.reduceEqDiff,Nat.reduceAdd,Nat.reduceLeDiff,Bool.true_and,Bool.and_true,and_true,true_and,reduceCtorEq,Nat.zero_add,cu,am,af,f36_1e,f36_2e,f36_2l,f36_3e,f36_4e,f36_4l]
  refine hQ _ _ ⟨by simp [cu],⟨?_,⟨[],?_,fun _=>rfl,rfl⟩,by simp [bI],by simp [bI]⟩,by simp [cu],fun id hid=>?_⟩
  · have:=dg (st.push (.mp [] [] 0)) [.lit (.int .u64 0),.lit (.int .u64 0),.lit (.int .u64 0),.map st.boxes.length]
    rw [cu] at this
    exact this
  · exact (MapIs.new st .u64 ndAV).push _
  · rw [dA (by rw [cu]; omega),dA hid]

theorem oA {q mid g:Nat} {L:Qu} {st:St} (h:QIs st q mid L g):bh Go.Proofs.Try.prog n_f81 [.ptr q 0] st (.lit (.int .i64 (L.length:Nat))):=by
  refine aR hmix k_f81 rfl rfl fun Q hQ=>?_
  unfold aFun c_f81
  obtain ⟨m,hm,hl,hlen⟩:=h.mp
  have hg:=h.get
  simp (config:=KF) (disch:=omega) only [bZ,ak,ev_f,putS,Sf.set,Sf.reg,getR,setR,aa,aY,id,↓reduceIte,reduceCtorEq,f81_1e,f81_2e,f81_2l,f81_3e,f81_4e,f81_5e,f81_5l]
  refine aG rfl e_f62 (fX hg) rfl ?_
  simp (config:=KF) (disch:=omega) only [bZ,retI,az,aw,aQ,cF,ao,aA,aM,addA,ag,putS,Sf.set,Sf.reg,getR,setR,aa,Sf.disAt,bJ,List.drop_zero,List.drop_succ_cons,↓reduceIte,Nat.reduceEqDiff,Bool.true_and,true_and,reduceCtorEq,Nat.zero_add,f81_6e,f81_9e,f81_10e,f81_10l,hg,mS,hlen]
  exact hQ _

theorem lq {q mid g:Nat} {L:Qu} {st:St} (h:QIs st q mid L g):bh Go.Proofs.Try.prog n_f75 [.ptr q 0] st
    (match L with | []=>.tup [.lit (.int .i64 0),.lit (.int .u64 0),.lit (.int .i64 9)] | (t,v)::_=>.tup [.lit (.int .i64 v),.lit (.int .u64 (t:Nat)),.lit (.int .i64 0)]):=by
  refine aR hmix k_f75 rfl rfl fun Q hQ=>?_
  unfold aFun c_f75
  obtain ⟨m,hm,hl,hlen⟩:=h.mp
  have hg:=h.get
  cases L with
  | nil =>
    simp (config:=KF) (disch:=omega) only [bZ,ak,ev_f,putS,Sf.set,Sf.reg,getR,setR,aa,aY,id,↓reduceIte,Nat.reduceEqDiff,reduceCtorEq,f75_1e,f75_2e,f75_2l,f75_3e,f75_4e,f75_5e,f75_6e,f75_6l]
    refine aG rfl e_f62 (fX hg) rfl ?_
    simp (config:=KF) (disch:=omega) only [bZ,bE,retI,resI,resL,az,aw,aQ,ao,aA,aM,addA,ag,ce,putS,Sf.set,Sf.reg,getR,setR,aa,Sf.disAt,aU,List.all_cons,List.all_nil,List.drop_zero,Int.cast_ofNat_Int,↓reduceIte,Nat.reduceEqDiff,Bool.true_and,Bool.and_true,and_true,true_and,reduceCtorEq,Nat.add_zero,decide_true,f75_7e,f75_10e,f75_11e,f75_11l,f75_12e,f75_13e,f75_14e,f75_14l,hg,bG]
    exact hQ _
  | cons x r =>
    obtain ⟨t,v⟩:=x
    have hp:=h.pos t (by simp [bI])
    have hk:∀ z,cz (.int .u64) z false st (.map mid) (.lit (.int .u64 (t:Nat))) = .ok (ndAV (v,0,bG r 0)):=fun z=>by
      rw [cC hm,hl t]; simp [bV,ndAV_dis]
    have hn:((t:Int) = 0) = False:=by simp; omega
    simp (config:=KF) (disch:=omega) only [bZ,ak,ev_f,putS,Sf.set,Sf.reg,getR,setR,aa,aY,id,↓reduceIte,Nat.reduceEqDiff,reduceCtorEq,f75_1e,f75_2e,f75_2l,f75_3e,f75_4e,f75_5e,f75_6e,f75_6l]
    refine aG rfl e_f62 (fX hg) rfl ?_
    simp (config:=KF) (disch:=omega) only [bZ,cX,ci,cR,hh_field,cg,bQ,b8,eW,bB,tail_nil,au,retI,resI,resL,az,aw,aQ,ao,mH,aA,aM,addA,ag,ce,putS,Sf.set,Sf.reg,getR,setR,aa,Sf.disAt,bp,bJ,aU,List.all_cons,List.all_nil,List.drop_zero,List.drop_succ_cons,Int.cast_ofNat_Int,↓reduceIte,Nat.reduceEqDiff,Bool.true_and,Bool.and_true,and_true,true_and,reduceCtorEq,Nat.zero_add,Nat.add_zero,decide_false,f75_7e,f75_10e,f75_11e,f75_11l,f75_12e,f75_15e,f75_16e,f75_16h,f75_16l,hg,bG,hk,hn,ndAV]
    exact hQ _
end Go.Fx.YtbomoaajkinfpaaFx

