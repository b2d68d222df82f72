/- What the functions that the statement reaches compute: part 1. -/
import Derived.Test.YtgmeefljgbaanaaFxT
namespace Go.Fx.YtgmeefljgbaanaaFx
open Go Go.Fx
attribute [local irreducible] aC runI aE bz

set_option maxRecDepth 100000
set_option maxHeartbeats 4000000

theorem fZ {q mid:Nat} {a b c:AV} {st:St} (hg:st.get q = some [a,b,c,.map mid]):ao Go.Proofs.Try.prog n_f58 [.ptr q 0] st (.lit (.bool false)):=by
  refine al hmix k_f58 rfl rfl fun Q hQ=>?_
  unfold aFun c_f58
  simp (config:=KF) (disch:=omega) only [bZ,retI,AI.dst,ap,bH,aV,aH,addA,aa,↓reduceIte,Nat.reduceEqDiff,reduceCtorEq,hg]
  exact hQ _

theorem qnew_calls (st:St):aw Go.Proofs.Try.prog n_f29 [] st (fun v st'=>v = .ptr (st.boxes.length + 1) 0∧QIs st' (st.boxes.length + 1) st.boxes.length [] 0∧st'.boxes.length = st.boxes.length + 2∧∀ id,id < st.boxes.length→st'.boxes[id]? = st.boxes[id]?):=by
  refine aJ hmix k_f29 rfl rfl fun Q hQ=>?_
  unfold aFun c_f29
  simp (config:=KF) (disch:=omega) only [bZ,and_self,retI,dn,oG,o_mkmap,bstV,aK,own1_map,nD,l0,noL_ptr,↓reduceIte,Nat.reduceEqDiff,Nat.reduceAdd,Nat.reduceLeDiff,reduceCtorEq,bt]
  refine hQ _ _ ⟨by simp [bt],⟨?_,⟨[],?_,fun _=>rfl,rfl⟩,by simp [aG],by simp [aG]⟩,by simp [bt],fun id hid=>?_⟩
  · have:=cd (st.push (.mp [] [] 0)) [.lit (.int .u64 0),.lit (.int .u64 0),.lit (.int .u64 0),.map st.boxes.length]
    rw [bt] at this
    exact this
  · exact (MapIs.new st .u64 ndAV).push _
  · rw [cz (by rw [bt]; omega),cz hid]

theorem kG {q mid g:Nat} {L:Qu} {st:St} (h:QIs st q mid L g):ao Go.Proofs.Try.prog n_f72 [.ptr q 0] st
    (match L with | []=>.tup [.lit (.int .i64 0),.lit (.int .u64 0),.lit (.int .i64 9)] | (t,v)::_=>.tup [.lit (.int .i64 v),.lit (.int .u64 (t:Nat)),.lit (.int .i64 0)]):=by
  refine al hmix k_f72 rfl rfl fun Q hQ=>?_
  unfold aFun c_f72
  obtain ⟨m,hm,hl,hlen⟩:=h.mp
  have hg:=h.get
  cases L with
  | nil =>
    simp (config:=KF) (disch:=omega) only [bZ,id,↓reduceIte,Nat.reduceEqDiff,reduceCtorEq]
    refine aj rfl e_f58 (fZ hg) rfl ?_
    simp (config:=KF) (disch:=omega) only [bZ,aI,retI,ap,addA,aa,↓reduceIte,Nat.reduceEqDiff,reduceCtorEq,hg,aB]
    exact hQ _
  | cons x r =>
    obtain ⟨t,v⟩:=x
    have hp:=h.pos t (by simp [aG])
    have hk:∀ z,cm (.int .u64) z false st (.map mid) (.lit (.int .u64 (t:Nat))) = .ok (ndAV (v,0,aB r 0)):=fun z=>by
      rw [dg hm,hl t]; simp [aT,ndAV_dis]
    have hn:((t:Int) = 0) = False:=by simp; omega
    simp (config:=KF) (disch:=omega) only [bZ,id,↓reduceIte,Nat.reduceEqDiff,reduceCtorEq]
    refine aj rfl e_f58 (fZ hg) rfl ?_
    simp (config:=KF) (disch:=omega) only [bZ,cX,bO,cT,hh_field,bC,bu,bh,ey,aM,ba,ak,retI,dY,ap,addA,aa,aW,↓reduceIte,Nat.reduceEqDiff,reduceCtorEq,hg,aB,hk,hn,ndAV]
    exact hQ _
end Go.Fx.YtgmeefljgbaanaaFx

