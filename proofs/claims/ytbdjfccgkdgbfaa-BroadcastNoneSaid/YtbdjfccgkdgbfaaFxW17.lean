/- What the functions that the statement reaches compute: part 17. -/
import Derived.Test.YtbdjfccgkdgbfaaFxW16
namespace Go.Fx.YtbdjfccgkdgbfaaFx
open Go Go.Fx
attribute [local irreducible] aC runI aE aY

set_option maxRecDepth 100000
set_option maxHeartbeats 4000000

/-! What is seen of a hub. -/
def lenR (n:Int) (R:HR):Nat:=match atR n R.subs with | none=>0 | some S=>S.msgs.length
def mD (n:Int) (R:HR):Nat:=match atR n R.subs with | none=>0 | some S=>S.lost
section
variable {st:St} {h wid n:Nat} {R:HR} {F:List Nat}
theorem len_pure (hh:HubR st h wid n R F) (m:Int):ao Go.Proofs.Try.prog n_f15 [.ptr h 0,.lit (.int .i64 m)] st (.lit (.int .i64 (lenR m R:Nat))):=by
  obtain ⟨L,Qs,M,W,j1,j2,j3,j4,j5⟩:=hh.ex
  refine al hmix k_f15 rfl rfl fun Q hQ=>?_
  unfold aFun c_f15
  unfold lenR at hQ
  simp (config:=KF) (disch:=omega) only [bZ,id,↓reduceIte,Nat.reduceEqDiff,reduceCtorEq]
  refine ah rfl e_f31 (mI j1 m) rfl ?_
  rcases at_rel j1.l64 j2 m with ⟨a1,a2⟩ | ⟨k,x,rfl,hk,hx,hxs,a1,a2⟩
  · rw [a1]
    rw [a2] at hQ
    have hp:ptrO none = .lit (.pointer none):=rfl
    simp (config:=KF) (disch:=omega) only [bZ,retI,dZ,aW,aH,↓reduceIte,Nat.reduceEqDiff,reduceCtorEq,hp]
    exact hQ _
  · rw [a1]
    rw [a2] at hQ
    have hp:ptrO (some x) = .ptr x.s 0:=rfl
    have hg:=SbIs.get (j1.sub k x hx)
    simp (config:=KF) (disch:=omega) only [bZ,retI,aj,dZ,aW,aH,addA,ae,↓reduceIte,Nat.reduceEqDiff,reduceCtorEq,hp,hg]
    exact hQ _
theorem lost_pure (hh:HubR st h wid n R F) (m:Int):ao Go.Proofs.Try.prog n_f14 [.ptr h 0,.lit (.int .i64 m)] st (.lit (.int .i64 (mD m R:Nat))):=by
  obtain ⟨L,Qs,M,W,j1,j2,j3,j4,j5⟩:=hh.ex
  refine al hmix k_f14 rfl rfl fun Q hQ=>?_
  unfold aFun c_f14
  unfold mD at hQ
  simp (config:=KF) (disch:=omega) only [bZ,id,↓reduceIte,Nat.reduceEqDiff,reduceCtorEq]
  refine ah rfl e_f31 (mI j1 m) rfl ?_
  rcases at_rel j1.l64 j2 m with ⟨a1,a2⟩ | ⟨k,x,rfl,hk,hx,hxs,a1,a2⟩
  · rw [a1]
    rw [a2] at hQ
    have hp:ptrO none = .lit (.pointer none):=rfl
    simp (config:=KF) (disch:=omega) only [bZ,retI,dZ,aW,aH,↓reduceIte,Nat.reduceEqDiff,reduceCtorEq,hp]
    exact hQ _
  · rw [a1]
    rw [a2] at hQ
    have hp:ptrO (some x) = .ptr x.s 0:=rfl
    have hg:=SbIs.get (j1.sub k x hx)
    simp (config:=KF) (disch:=omega) only [bZ,retI,aj,dZ,aW,aH,addA,ae,↓reduceIte,Nat.reduceEqDiff,reduceCtorEq,hp,hg]
    exact hQ _
end
end Go.Fx.YtbdjfccgkdgbfaaFx

