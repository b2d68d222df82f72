/- What the functions that the statement reaches compute: part 1. -/
import Derived.Test.YtbdjfccgkdgbfaaFxT
namespace Go.Fx.YtbdjfccgkdgbfaaFx
open Go Go.Fx
attribute [local irreducible] aC runI az aA

set_option maxRecDepth 100000
set_option maxHeartbeats 4000000

theorem fF {q mid:Nat} {a b c:AV} {st:St} (hg:st.get q = some [a,b,c,.map mid]):aB Go.Proofs.Try.prog n_f59 [.ptr q 0] st (.lit (.bool false)):=by
  refine aE hmix k_f59 rfl rfl fun Q hQ=>?_
  unfold aFun c_f59
  simp (config:=KF) (disch:=omega) only [bZ,retI,AI.dst,am,cL,bw,a8,addA,aa,bH,↓reduceIte,Nat.reduceEqDiff,reduceCtorEq,hg]
  exact hQ _

theorem qnew_calls (st:St):al Go.Proofs.Try.prog n_f23 [] st (fun v st'=>v = .ptr (st.boxes.length + 1) 0∧QIs st' (st.boxes.length + 1) st.boxes.length [] 0∧st'.boxes.length = st.boxes.length + 2∧∀ id,id < st.boxes.length→st'.boxes[id]? = st.boxes[id]?):=by
  refine aq hmix k_f23 rfl rfl fun Q hQ=>?_
  unfold aFun c_f23
  simp (config:=KF) (disch:=omega) only [bZ,retI,ek,m9,o_mkmap,bstV,aU,bH,own1_map,oV,ng,dn,↓reduceIte,Nat.reduceEqDiff,Nat.reduceAdd,Nat.reduceLeDiff,reduceCtorEq,aW,af,ae]
  refine hQ _ _ ⟨by simp [aW],⟨?_,⟨[],?_,fun _=>rfl,rfl⟩,by simp [aT],by simp [aT]⟩,by simp [aW],fun id hid=>?_⟩
  · have:=bI (st.push (.mp [] [] 0)) [.lit (.int .u64 0),.lit (.int .u64 0),.lit (.int .u64 0),.map st.boxes.length]
    rw [aW] at this
    exact this
  · exact (MapIs.new st .u64 ndAV).push _
  · rw [b9 (by rw [aW]; omega),b9 hid]

theorem o9 {q mid g:Nat} {L:Qu} {st:St} (h:QIs st q mid L g):aB Go.Proofs.Try.prog n_f44 [.ptr q 0] st (.lit (.int .i64 (L.length:Nat))):=by
  refine aE hmix k_f44 rfl rfl fun Q hQ=>?_
  unfold aFun c_f44
  obtain ⟨m,hm,hl,hlen⟩:=h.mp
  have hg:=h.get
  simp (config:=KF) (disch:=omega) only [bZ,id,↓reduceIte,reduceCtorEq]
  refine ak rfl e_f59 (fF hg) rfl ?_
  simp (config:=KF) (disch:=omega) only [bZ,retI,am,addA,aa,bH,↓reduceIte,Nat.reduceEqDiff,reduceCtorEq,hg,nF,hlen]
  exact hQ _

theorem il {q mid g:Nat} {L:Qu} {st:St} (h:QIs st q mid L g):aB Go.Proofs.Try.prog n_f48 [.ptr q 0] st
    (match L with | []=>.tup [.lit (.int .i64 0),.lit (.int .u64 0),.lit (.int .i64 9)] | (t,v)::_=>.tup [.lit (.int .i64 v),.lit (.int .u64 (t:Nat)),.lit (.int .i64 0)]):=by
  refine aE hmix k_f48 rfl rfl fun Q hQ=>?_
  unfold aFun c_f48
  obtain ⟨m,hm,hl,hlen⟩:=h.mp
  have hg:=h.get
  cases L with
  | nil =>
    simp (config:=KF) (disch:=omega) only [bZ,id,↓reduceIte,Nat.reduceEqDiff,reduceCtorEq]
    refine ak rfl e_f59 (fF hg) rfl ?_
    simp (config:=KF) (disch:=omega) only [bZ,retI,am,addA,aa,↓reduceIte,Nat.reduceEqDiff,reduceCtorEq,hg,aQ]
    exact hQ _
  | cons x r =>
    obtain ⟨t,v⟩:=x
    have hp:=h.pos t (by simp [aT])
    have hk:∀ z,b8 (.int .u64) z false st (.map mid) (.lit (.int .u64 (t:Nat))) = .ok (ndAV (v,0,aQ r 0)):=fun z=>by
      rw [co hm,hl t]; simp [ba,ndAV_dis]
    have hn:((t:Int) = 0) = False:=by simp; omega
    simp (config:=KF) (disch:=omega) only [bZ,id,↓reduceIte,Nat.reduceEqDiff,reduceCtorEq]
    refine ak rfl e_f59 (fF hg) rfl ?_
    simp (config:=KF) (disch:=omega) only [bZ,hh_field,cg,gm,retI,mZ,am,addA,aa,bH,↓reduceIte,Nat.reduceEqDiff,reduceCtorEq,hg,aQ,hk,hn,ndAV]
    exact hQ _
end Go.Fx.YtbdjfccgkdgbfaaFx

