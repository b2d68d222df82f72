/- What the functions that the statement reaches compute: part 1. -/
import Derived.Test.YtbdjfccgkdgbfaaFxT
namespace Go.Fx.YtbdjfccgkdgbfaaFx
open Go Go.Fx
attribute [local irreducible] aC runI au aw

set_option maxRecDepth 100000
set_option maxHeartbeats 4000000

theorem fD {q mid:Nat} {a b c:AV} {st:St} (hg:st.get q = some [a,b,c,.map mid]):az Go.Proofs.Try.prog n_f59 [.ptr q 0] st (.lit (.bool false)):=by
  refine aB hmix k_f59 rfl rfl fun Q hQ=>?_
  unfold aFun c_f59
  simp (config:=KF) (disch:=omega) only [bZ,retI,AI.dst,ak,cJ,bt,aY,addA,aa,bF,↓reduceIte,Nat.reduceEqDiff,reduceCtorEq,hg]
  exact hQ _

theorem qnew_calls (st:St):aj Go.Proofs.Try.prog n_f23 [] st (fun v st'=>v = .ptr (st.boxes.length + 1) 0∧QIs st' (st.boxes.length + 1) st.boxes.length [] 0∧st'.boxes.length = st.boxes.length + 2∧∀ id,id < st.boxes.length→st'.boxes[id]? = st.boxes[id]?):=by
  refine ao hmix k_f23 rfl rfl fun Q hQ=>?_
  unfold aFun c_f23
  simp (config:=KF) (disch:=omega) only [bZ,retI,ei,mZ,o_mkmap,bstV,aS,bF,own1_map,oV,nf,dl,↓reduceIte,Nat.reduceEqDiff,Nat.reduceAdd,Nat.reduceLeDiff,reduceCtorEq,aU]
  refine hQ _ _ ⟨by simp [aU],⟨?_,⟨[],?_,fun _=>rfl,rfl⟩,by simp [aR],by simp [aR]⟩,by simp [aU],fun id hid=>?_⟩
  · have:=bG (st.push (.mp [] [] 0)) [.lit (.int .u64 0),.lit (.int .u64 0),.lit (.int .u64 0),.map st.boxes.length]
    rw [aU] at this
    exact this
  · exact (MapIs.new st .u64 ndAV).push _
  · rw [bY (by rw [aU]; omega),bY hid]

theorem o9 {q mid g:Nat} {L:Qu} {st:St} (h:QIs st q mid L g):az Go.Proofs.Try.prog n_f44 [.ptr q 0] st (.lit (.int .i64 (L.length:Nat))):=by
  refine aB hmix k_f44 rfl rfl fun Q hQ=>?_
  unfold aFun c_f44
  obtain ⟨m,hm,hl,hlen⟩:=h.mp
  have hg:=h.get
  simp (config:=KF) (disch:=omega) only [bZ,id,↓reduceIte,reduceCtorEq]
  refine ai rfl e_f59 (fD hg) rfl ?_
  simp (config:=KF) (disch:=omega) only [bZ,retI,ak,addA,aa,bF,↓reduceIte,Nat.reduceEqDiff,reduceCtorEq,hg,nF,hlen]
  exact hQ _

theorem ij {q mid g:Nat} {L:Qu} {st:St} (h:QIs st q mid L g):az Go.Proofs.Try.prog n_f48 [.ptr q 0] st
    (match L with | []=>.tup [.lit (.int .i64 0),.lit (.int .u64 0),.lit (.int .i64 9)] | (t,v)::_=>.tup [.lit (.int .i64 v),.lit (.int .u64 (t:Nat)),.lit (.int .i64 0)]):=by
  refine aB hmix k_f48 rfl rfl fun Q hQ=>?_
  unfold aFun c_f48
  obtain ⟨m,hm,hl,hlen⟩:=h.mp
  have hg:=h.get
  cases L with
  | nil =>
    simp (config:=KF) (disch:=omega) only [bZ,id,↓reduceIte,Nat.reduceEqDiff,reduceCtorEq]
    refine ai rfl e_f59 (fD hg) rfl ?_
    simp (config:=KF) (disch:=omega) only [bZ,retI,ak,addA,aa,↓reduceIte,Nat.reduceEqDiff,reduceCtorEq,hg,aO]
    exact hQ _
  | cons x r =>
    obtain ⟨t,v⟩:=x
    have hp:=h.pos t (by simp [aR])
    have hk:∀ z,bX (.int .u64) z false st (.map mid) (.lit (.int .u64 (t:Nat))) = .ok (ndAV (v,0,aO r 0)):=fun z=>by
      rw [cm hm,hl t]; simp [a8,ndAV_dis]
    have hn:((t:Int) = 0) = False:=by simp; omega
    simp (config:=KF) (disch:=omega) only [bZ,id,↓reduceIte,Nat.reduceEqDiff,reduceCtorEq]
    refine ai rfl e_f59 (fD hg) rfl ?_
    simp (config:=KF) (disch:=omega) only [bZ,hh_field,ce,gj,retI,mY,ak,addA,aa,bF,↓reduceIte,Nat.reduceEqDiff,reduceCtorEq,hg,aO,hk,hn,ndAV]
    exact hQ _
end Go.Fx.YtbdjfccgkdgbfaaFx

