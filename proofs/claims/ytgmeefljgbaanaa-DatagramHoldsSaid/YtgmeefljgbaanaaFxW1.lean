/- What the functions that the statement reaches compute: part 1. -/
import Derived.Test.YtgmeefljgbaanaaFxT
namespace Go.Fx.YtgmeefljgbaanaaFx
open Go Go.Fx
attribute [local irreducible] aC runI aF a9

set_option maxRecDepth 100000
set_option maxHeartbeats 4000000

theorem eB {q mid:Nat} {a b c:AV} {st:St} (hg:st.get q = some [a,b,c,.map mid]):az Go.Proofs.Try.prog n_f58 [.ptr q 0] st (.lit (.bool false)):=by
  refine aB hmix k_f58 rfl rfl fun Q hQ=>?_
  unfold aFun c_f58
  simp (config:=KF) (disch:=omega) only [bZ,retI,AI.dst,aj,br,aJ,addA,aa,↓reduceIte,Nat.reduceEqDiff,reduceCtorEq,hg]
  exact hQ _

theorem qnew_calls (st:St):ao Go.Proofs.Try.prog n_f29 [] st (fun v st'=>v = .ptr (st.boxes.length + 1) 0∧QIs st' (st.boxes.length + 1) st.boxes.length [] 0∧st'.boxes.length = st.boxes.length + 2∧∀ id,id < st.boxes.length→st'.boxes[id]? = st.boxes[id]?):=by
  refine aA hmix k_f29 rfl rfl fun Q hQ=>?_
  unfold aFun c_f29
  simp (config:=KF) (disch:=omega) only [bZ,retI,d5,p8,o_mkmap,bstV,aP,nf,la,gx,gy,↓reduceIte,Nat.reduceEqDiff,Nat.reduceAdd,Nat.reduceLeDiff,reduceCtorEq,aI]
  refine hQ _ _ ⟨by simp [aI],⟨?_,⟨[],?_,fun _=>rfl,rfl⟩,by simp [aG],by simp [aG]⟩,by simp [aI],fun id hid=>?_⟩
  · have:=bL (st.push (.mp [] [] 0)) [.lit (.int .u64 0),.lit (.int .u64 0),.lit (.int .u64 0),.map st.boxes.length]
    rw [aI] at this
    exact this
  · exact (MapIs.new st .u64 ndAV).push _
  · rw [bE (by rw [aI]; omega),bE hid]

theorem qlen_pure {q mid g:Nat} {L:Qu} {st:St} (h:QIs st q mid L g):az Go.Proofs.Try.prog n_f40 [.ptr q 0] st (.lit (.int .i64 (L.length:Nat))):=by
  refine aB hmix k_f40 rfl rfl fun Q hQ=>?_
  unfold aFun c_f40
  obtain ⟨m,hm,hl,hlen⟩:=h.mp
  have hg:=h.get
  simp (config:=KF) (disch:=omega) only [bZ,id,↓reduceIte,reduceCtorEq]
  refine am rfl e_f58 (eB hg) rfl ?_
  simp (config:=KF) (disch:=omega) only [bZ,retI,aj,addA,aa,↓reduceIte,Nat.reduceEqDiff,reduceCtorEq,hg,km,hlen]
  exact hQ _

theorem lW {q mid g:Nat} {L:Qu} {st:St} (h:QIs st q mid L g):az Go.Proofs.Try.prog n_f72 [.ptr q 0] st
    (match L with | []=>.tup [.lit (.int .i64 0),.lit (.int .u64 0),.lit (.int .i64 9)] | (t,v)::_=>.tup [.lit (.int .i64 v),.lit (.int .u64 (t:Nat)),.lit (.int .i64 0)]):=by
  refine aB hmix k_f72 rfl rfl fun Q hQ=>?_
  unfold aFun c_f72
  obtain ⟨m,hm,hl,hlen⟩:=h.mp
  have hg:=h.get
  cases L with
  | nil =>
    simp (config:=KF) (disch:=omega) only [bZ,id,↓reduceIte,Nat.reduceEqDiff,reduceCtorEq]
    refine am rfl e_f58 (eB hg) rfl ?_
    simp (config:=KF) (disch:=omega) only [bZ,aE,retI,aj,addA,aa,↓reduceIte,Nat.reduceEqDiff,reduceCtorEq,hg,aw]
    exact hQ _
  | cons x r =>
    obtain ⟨t,v⟩:=x
    have hp:=h.pos t (by simp [aG])
    have hk:∀ z,cd (.int .u64) z false st (.map mid) (.lit (.int .u64 (t:Nat))) = .ok (ndAV (v,0,aw r 0)):=fun z=>by
      rw [cH hm,hl t]; simp [aX,ndAV_dis]
    have hn:((t:Int) = 0) = False:=by simp; omega
    simp (config:=KF) (disch:=omega) only [bZ,id,↓reduceIte,Nat.reduceEqDiff,reduceCtorEq]
    refine am rfl e_f58 (eB hg) rfl ?_
    simp (config:=KF) (disch:=omega) only [bZ,hh_field,bf,bd,bj,ez,aM,retI,ew,aj,addA,aa,↓reduceIte,Nat.reduceEqDiff,reduceCtorEq,hg,aw,hk,hn,ndAV]
    exact hQ _
end Go.Fx.YtgmeefljgbaanaaFx

