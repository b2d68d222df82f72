/- What the functions that the statement reaches compute: part 1. -/
import Derived.Test.YtgmeefljgbaanaaFxT
namespace Go.Fx.YtgmeefljgbaanaaFx
open Go Go.Fx
attribute [local irreducible] aC runI aD bJ

set_option maxRecDepth 100000
set_option maxHeartbeats 4000000

theorem fa {q mid:Nat} {a b c:AV} {st:St} (hg:st.get q = some [a,b,c,.map mid]):aB Go.Proofs.Try.prog n_f58 [.ptr q 0] st (.lit (.bool false)):=by
  refine aL hmix k_f58 rfl rfl fun Q hQ=>?_
  unfold aFun c_f58
  simp (config:=KF) (disch:=omega) only [bZ,retI,AI.dst,ak,bB,aZ,aG,addA,aa,↓reduceIte,Nat.reduceEqDiff,reduceCtorEq,hg]
  exact hQ _

theorem qnew_calls (st:St):am Go.Proofs.Try.prog n_f29 [] st (fun v st'=>v = .ptr (st.boxes.length + 1) 0∧QIs st' (st.boxes.length + 1) st.boxes.length [] 0∧st'.boxes.length = st.boxes.length + 2∧∀ id,id < st.boxes.length→st'.boxes[id]? = st.boxes[id]?):=by
  refine au hmix k_f29 rfl rfl fun Q hQ=>?_
  unfold aFun c_f29
  simp (config:=KF) (disch:=omega) only [bZ,and_self,retI,dJ,pw,o_mkmap,bstV,aM,mF,kE,gm,jL,↓reduceIte,Nat.reduceEqDiff,Nat.reduceAdd,Nat.reduceLeDiff,reduceCtorEq,aF]
  refine hQ _ _ ⟨by simp [aF],⟨?_,⟨[],?_,fun _=>rfl,rfl⟩,by simp [aw],by simp [aw]⟩,by simp [aF],fun id hid=>?_⟩
  · have:=bM (st.push (.mp [] [] 0)) [.lit (.int .u64 0),.lit (.int .u64 0),.lit (.int .u64 0),.map st.boxes.length]
    rw [aF] at this
    exact this
  · exact (MapIs.new st .u64 ndAV).push _
  · rw [bD (by rw [aF]; omega),bD hid]

theorem lq {q mid g:Nat} {L:Qu} {st:St} (h:QIs st q mid L g):aB Go.Proofs.Try.prog n_f72 [.ptr q 0] st
    (match L with | []=>.tup [.lit (.int .i64 0),.lit (.int .u64 0),.lit (.int .i64 9)] | (t,v)::_=>.tup [.lit (.int .i64 v),.lit (.int .u64 (t:Nat)),.lit (.int .i64 0)]):=by
  refine aL hmix k_f72 rfl rfl fun Q hQ=>?_
  unfold aFun c_f72
  obtain ⟨m,hm,hl,hlen⟩:=h.mp
  have hg:=h.get
  cases L with
  | nil =>
    simp (config:=KF) (disch:=omega) only [bZ,id,↓reduceIte,Nat.reduceEqDiff,reduceCtorEq]
    refine aE rfl e_f58 (fa hg) rfl ?_
    simp (config:=KF) (disch:=omega) only [bZ,aH,retI,ak,addA,aa,↓reduceIte,Nat.reduceEqDiff,reduceCtorEq,hg,aq]
    exact hQ _
  | cons x r =>
    obtain ⟨t,v⟩:=x
    have hp:=h.pos t (by simp [aw])
    have hk:∀ z,cd (.int .u64) z false st (.map mid) (.lit (.int .u64 (t:Nat))) = .ok (ndAV (v,0,aq r 0)):=fun z=>by
      rw [cz hm,hl t]; simp [aX,ndAV_dis]
    have hn:((t:Int) = 0) = False:=by simp; omega
    simp (config:=KF) (disch:=omega) only [bZ,id,↓reduceIte,Nat.reduceEqDiff,reduceCtorEq]
    refine aE rfl e_f58 (fa hg) rfl ?_
    simp (config:=KF) (disch:=omega) only [bZ,cZ,bW,cV,hh_field,bF,bC,br,eD,aJ,bd,al,retI,eS,ak,addA,aa,aU,↓reduceIte,Nat.reduceEqDiff,reduceCtorEq,decide_false,hg,aq,hk,hn,ndAV]
    exact hQ _
end Go.Fx.YtgmeefljgbaanaaFx

