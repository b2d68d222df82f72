/- What the functions that the statement reaches compute: part 1. -/
import Derived.Test.YtbomoaajkinfpaaFxT
namespace Go.Fx.YtbomoaajkinfpaaFx
open Go Go.Fx
attribute [local irreducible] aC runI aw aB

set_option maxRecDepth 100000
set_option maxHeartbeats 4000000

theorem dU {q mid:Nat} {a b c:AV} {st:St} (hg:st.get q = some [a,b,c,.map mid]):aL Go.Proofs.Try.prog n_f62 [.ptr q 0] st (.lit (.bool false)):=by
  refine aD hmix k_f62 rfl rfl fun Q hQ=>?_
  unfold aFun c_f62
  simp (config:=KF) (disch:=omega) only [bZ,retI,AI.dst,ai,cT,cb,bz,addA,aa,↓reduceIte,Nat.reduceEqDiff,reduceCtorEq,hg]
  exact hQ _

theorem mg (st:St):aA Go.Proofs.Try.prog n_f36 [] st (fun v st'=>v = .ptr (st.boxes.length + 1) 0∧QIs st' (st.boxes.length + 1) st.boxes.length [] 0∧st'.boxes.length = st.boxes.length + 2∧∀ id,id < st.boxes.length→st'.boxes[id]? = st.boxes[id]?):=by
  refine ap hmix k_f36 rfl rfl fun Q hQ=>?_
  unfold aFun c_f36
  simp (config:=KF) (disch:=omega) only [bZ,retI,iD,gO,fv,ep,cZ,fU,↓reduceIte,Nat.reduceEqDiff,Nat.reduceAdd,Nat.reduceLeDiff,reduceCtorEq,aK]
  refine hQ _ _ ⟨by simp [aK],⟨?_,⟨[],?_,fun _=>rfl,rfl⟩,by simp [aO],by simp [aO]⟩,by simp [aK],fun id hid=>?_⟩
  · have:=bI (st.push (.mp [] [] 0)) [.lit (.int .u64 0),.lit (.int .u64 0),.lit (.int .u64 0),.map st.boxes.length]
    rw [aK] at this
    exact this
  · exact (MapIs.new st .u64 ndAV).push _
  · rw [bu (by rw [aK]; omega),bu hid]

theorem nF {q mid g:Nat} {L:Qu} {st:St} (h:QIs st q mid L g):aL Go.Proofs.Try.prog n_f81 [.ptr q 0] st (.lit (.int .i64 (L.length:Nat))):=by
  refine aD hmix k_f81 rfl rfl fun Q hQ=>?_
  unfold aFun c_f81
  obtain ⟨m,hm,hl,hlen⟩:=h.mp
  have hg:=h.get
  simp (config:=KF) (disch:=omega) only [bZ,id,↓reduceIte,reduceCtorEq]
  refine ao rfl e_f62 (dU hg) rfl ?_
  simp (config:=KF) (disch:=omega) only [bZ,retI,ai,addA,aa,↓reduceIte,Nat.reduceEqDiff,reduceCtorEq,hg,mf,hlen]
  exact hQ _

theorem kl {q mid g:Nat} {L:Qu} {st:St} (h:QIs st q mid L g):aL Go.Proofs.Try.prog n_f75 [.ptr q 0] st
    (match L with | []=>.tup [.lit (.int .i64 0),.lit (.int .u64 0),.lit (.int .i64 9)] | (t,v)::_=>.tup [.lit (.int .i64 v),.lit (.int .u64 (t:Nat)),.lit (.int .i64 0)]):=by
  refine aD hmix k_f75 rfl rfl fun Q hQ=>?_
  unfold aFun c_f75
  obtain ⟨m,hm,hl,hlen⟩:=h.mp
  have hg:=h.get
  cases L with
  | nil =>
    simp (config:=KF) (disch:=omega) only [bZ,id,↓reduceIte,Nat.reduceEqDiff,reduceCtorEq]
    refine ao rfl e_f62 (dU hg) rfl ?_
    simp (config:=KF) (disch:=omega) only [bZ,retI,ai,addA,aa,↓reduceIte,Nat.reduceEqDiff,reduceCtorEq,hg,aI]
    exact hQ _
  | cons x r =>
    obtain ⟨t,v⟩:=x
    have hp:=h.pos t (by simp [aO])
    have hk:∀ z,aZ (.int .u64) z false st (.map mid) (.lit (.int .u64 (t:Nat))) = .ok (ndAV (v,0,aI r 0)):=fun z=>by
      rw [aW hm,hl t]; simp [aX,ndAV_dis]
    have hn:((t:Int) = 0) = False:=by simp; omega
    simp (config:=KF) (disch:=omega) only [bZ,id,↓reduceIte,Nat.reduceEqDiff,reduceCtorEq]
    refine ao rfl e_f62 (dU hg) rfl ?_
    simp (config:=KF) (disch:=omega) only [bZ,hh_field,aU,dT,retI,lO,ai,addA,aa,↓reduceIte,Nat.reduceEqDiff,reduceCtorEq,hg,aI,hk,hn,ndAV]
    exact hQ _
end Go.Fx.YtbomoaajkinfpaaFx

