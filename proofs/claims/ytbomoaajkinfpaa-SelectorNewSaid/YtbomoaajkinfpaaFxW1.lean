/- What the functions that the statement reaches compute: part 1. -/
import Derived.Test.YtbomoaajkinfpaaFxT
namespace Go.Fx.YtbomoaajkinfpaaFx
open Go Go.Fx
attribute [local irreducible] aC runI ap aO

set_option maxRecDepth 100000
set_option maxHeartbeats 4000000

theorem fc {q mid:Nat} {a b c:AV} {st:St} (hg:st.get q = some [a,b,c,.map mid]):aG Go.Proofs.Try.prog n_f62 [.ptr q 0] st (.lit (.bool false)):=by
  refine au hmix k_f62 rfl rfl fun Q hQ=>?_
  unfold aFun c_f62
  simp (config:=KF) (disch:=omega) only [bZ,retI,AI.dst,ak,di,ca,bE,addA,aa,↓reduceIte,Nat.reduceEqDiff,reduceCtorEq,f62_1e,f62_2l,f62_3e,f62_4l,hg]
  exact hQ _

theorem mr (st:St):aA Go.Proofs.Try.prog n_f36 [] st (fun v st'=>v = .ptr (st.boxes.length + 1) 0∧QIs st' (st.boxes.length + 1) st.boxes.length [] 0∧st'.boxes.length = st.boxes.length + 2∧∀ id,id < st.boxes.length→st'.boxes[id]? = st.boxes[id]?):=by
  refine aw hmix k_f36 rfl rfl fun Q hQ=>?_
  unfold aFun c_f36
  simp (config:=KF) (disch:=omega) only [bZ,retI,l5,oU,l8,j0,iC,jm,↓reduceIte,Nat.reduceEqDiff,Nat.reduceAdd,Nat.reduceLeDiff,reduceCtorEq,bz,f36_1e,f36_2l,f36_3e,f36_4l]
  refine hQ _ _ ⟨by simp [bz],⟨?_,⟨[],?_,fun _=>rfl,rfl⟩,by simp [aM],by simp [aM]⟩,by simp [bz],fun id hid=>?_⟩
  · have:=cx (st.push (.mp [] [] 0)) [.lit (.int .u64 0),.lit (.int .u64 0),.lit (.int .u64 0),.map st.boxes.length]
    rw [bz] at this
    exact this
  · exact (MapIs.new st .u64 ndAV).push _
  · rw [cG (by rw [bz]; omega),cG hid]

theorem nX {q mid g:Nat} {L:Qu} {st:St} (h:QIs st q mid L g):aG Go.Proofs.Try.prog n_f81 [.ptr q 0] st (.lit (.int .i64 (L.length:Nat))):=by
  refine au hmix k_f81 rfl rfl fun Q hQ=>?_
  unfold aFun c_f81
  obtain ⟨m,hm,hl,hlen⟩:=h.mp
  have hg:=h.get
  simp (config:=KF) (disch:=omega) only [bZ,id,↓reduceIte,reduceCtorEq,f81_1e,f81_2l,f81_3e,f81_4e,f81_5l]
  refine ao rfl e_f62 (fc hg) rfl ?_
  simp (config:=KF) (disch:=omega) only [bZ,retI,ak,addA,aa,↓reduceIte,Nat.reduceEqDiff,reduceCtorEq,f81_6e,f81_9e,f81_10l,hg,mq,hlen]
  exact hQ _

theorem kF {q mid g:Nat} {L:Qu} {st:St} (h:QIs st q mid L g):aG Go.Proofs.Try.prog n_f75 [.ptr q 0] st
    (match L with | []=>.tup [.lit (.int .i64 0),.lit (.int .u64 0),.lit (.int .i64 9)] | (t,v)::_=>.tup [.lit (.int .i64 v),.lit (.int .u64 (t:Nat)),.lit (.int .i64 0)]):=by
  refine au hmix k_f75 rfl rfl fun Q hQ=>?_
  unfold aFun c_f75
  obtain ⟨m,hm,hl,hlen⟩:=h.mp
  have hg:=h.get
  cases L with
  | nil =>
    simp (config:=KF) (disch:=omega) only [bZ,id,↓reduceIte,Nat.reduceEqDiff,reduceCtorEq,f75_1e,f75_2l,f75_3e,f75_4e,f75_5e,f75_6l]
    refine ao rfl e_f62 (fc hg) rfl ?_
    simp (config:=KF) (disch:=omega) only [bZ,aE,retI,ak,addA,aa,↓reduceIte,Nat.reduceEqDiff,reduceCtorEq,f75_7e,f75_10e,f75_11l,f75_12e,f75_13e,f75_14l,hg,aK]
    exact hQ _
  | cons x r =>
    obtain ⟨t,v⟩:=x
    have hp:=h.pos t (by simp [aM])
    have hk:∀ z,bF (.int .u64) z false st (.map mid) (.lit (.int .u64 (t:Nat))) = .ok (ndAV (v,0,aK r 0)):=fun z=>by
      rw [bH hm,hl t]; simp [a9,ndAV_dis]
    have hn:((t:Int) = 0) = False:=by simp; omega
    simp (config:=KF) (disch:=omega) only [bZ,id,↓reduceIte,Nat.reduceEqDiff,reduceCtorEq,f75_1e,f75_2l,f75_3e,f75_4e,f75_5e,f75_6l]
    refine ao rfl e_f62 (fc hg) rfl ?_
    simp (config:=KF) (disch:=omega) only [bZ,hh_field,bf,d9,retI,l0,ak,addA,aa,↓reduceIte,Nat.reduceEqDiff,reduceCtorEq,f75_7e,f75_10e,f75_11l,f75_12e,f75_15e,f75_16e,f75_16h,f75_16l,hg,aK,hk,hn,ndAV]
    exact hQ _
end Go.Fx.YtbomoaajkinfpaaFx

