/- What the functions that the statement reaches compute: part 1. -/
import Derived.Test.YtbdjfccgkdgbfaaFxT
namespace Go.Fx.YtbdjfccgkdgbfaaFx
open Go Go.Fx
attribute [local irreducible] aC runI aE aY

set_option maxRecDepth 100000
set_option maxHeartbeats 4000000

theorem eT {q mid:Nat} {a b c:AV} {st:St} (hg:st.get q = some [a,b,c,.map mid]):ao Go.Proofs.Try.prog n_f59 [.ptr q 0] st (.lit (.bool false)):=by
  refine al hmix k_f59 rfl rfl fun Q hQ=>?_
  unfold aFun c_f59
  simp (config:=KF) (disch:=omega) only [bZ,retI,AI.dst,aj,cU,aW,aH,addA,ae,bJ,↓reduceIte,Nat.reduceEqDiff,reduceCtorEq,hg]
  exact hQ _

theorem qnew_calls (st:St):am Go.Proofs.Try.prog n_f23 [] st (fun v st'=>v = .ptr (st.boxes.length + 1) 0∧QIs st' (st.boxes.length + 1) st.boxes.length [] 0∧st'.boxes.length = st.boxes.length + 2∧∀ id,id < st.boxes.length→st'.boxes[id]? = st.boxes[id]?):=by
  refine ar hmix k_f23 rfl rfl fun Q hQ=>?_
  unfold aFun c_f23
  simp (config:=KF) (disch:=omega) only [bZ,retI,iu,j7,o_mkmap,bstV,aU,bJ,own1_map,nM,me,ej,↓reduceIte,Nat.reduceEqDiff,Nat.reduceAdd,Nat.reduceLeDiff,reduceCtorEq,aD]
  refine hQ _ _ ⟨by simp [aD],⟨?_,⟨[],?_,fun _=>rfl,rfl⟩,by simp [aB],by simp [aB]⟩,by simp [aD],fun id hid=>?_⟩
  · have:=bI (st.push (.mp [] [] 0)) [.lit (.int .u64 0),.lit (.int .u64 0),.lit (.int .u64 0),.map st.boxes.length]
    rw [aD] at this
    exact this
  · exact (MapIs.new st .u64 ndAV).push _
  · rw [cp (by rw [aD]; omega),cp hid]

theorem qlen_pure {q mid g:Nat} {L:Qu} {st:St} (h:QIs st q mid L g):ao Go.Proofs.Try.prog n_f44 [.ptr q 0] st (.lit (.int .i64 (L.length:Nat))):=by
  refine al hmix k_f44 rfl rfl fun Q hQ=>?_
  unfold aFun c_f44
  obtain ⟨m,hm,hl,hlen⟩:=h.mp
  have hg:=h.get
  simp (config:=KF) (disch:=omega) only [bZ,id,↓reduceIte,reduceCtorEq]
  refine ah rfl e_f59 (eT hg) rfl ?_
  simp (config:=KF) (disch:=omega) only [bZ,retI,cw,aj,addA,ae,bJ,↓reduceIte,Nat.reduceEqDiff,reduceCtorEq,hg,mA,hlen]
  exact hQ _

theorem gO {q mid g:Nat} {L:Qu} {st:St} (h:QIs st q mid L g):ao Go.Proofs.Try.prog n_f48 [.ptr q 0] st
    (match L with | []=>.tup [.lit (.int .i64 0),.lit (.int .u64 0),.lit (.int .i64 9)] | (t,v)::_=>.tup [.lit (.int .i64 v),.lit (.int .u64 (t:Nat)),.lit (.int .i64 0)]):=by
  refine al hmix k_f48 rfl rfl fun Q hQ=>?_
  unfold aFun c_f48
  obtain ⟨m,hm,hl,hlen⟩:=h.mp
  have hg:=h.get
  cases L with
  | nil =>
    simp (config:=KF) (disch:=omega) only [bZ,id,↓reduceIte,Nat.reduceEqDiff,reduceCtorEq]
    refine ah rfl e_f59 (eT hg) rfl ?_
    simp (config:=KF) (disch:=omega) only [bZ,aF,retI,aj,addA,ae,↓reduceIte,Nat.reduceEqDiff,reduceCtorEq,hg,au]
    exact hQ _
  | cons x r =>
    obtain ⟨t,v⟩:=x
    have hp:=h.pos t (by simp [aB])
    have hk:∀ z,cc (.int .u64) z false st (.map mid) (.lit (.int .u64 (t:Nat))) = .ok (ndAV (v,0,au r 0)):=fun z=>by
      rw [cN hm,hl t]; simp [aQ,ndAV_dis]
    have hn:((t:Int) = 0) = False:=by simp; omega
    simp (config:=KF) (disch:=omega) only [bZ,id,↓reduceIte,Nat.reduceEqDiff,reduceCtorEq]
    refine ah rfl e_f59 (eT hg) rfl ?_
    simp (config:=KF) (disch:=omega) only [bZ,eO,cP,d6,hh_field,cV,co,cg,fH,bp,bR,retI,l4,aj,addA,ae,bF,bJ,↓reduceIte,Nat.reduceEqDiff,reduceCtorEq,hg,au,hk,hn,ndAV]
    exact hQ _
end Go.Fx.YtbdjfccgkdgbfaaFx

