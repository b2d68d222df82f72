/- What the functions that the statement reaches compute: part 4. -/
import Derived.Test.YtenijlfcfmhmkaaFxW3
namespace Go.Fx.YtenijlfcfmhmkaaFx
open Go Go.Fx
attribute [local irreducible] aC runI ap br

set_option maxRecDepth 100000
set_option maxHeartbeats 4000000

/-- The check sum. -/
def sumB:Nat→List UInt8→Nat
  | s,[]=>s
  | s,x::r=>sumB ((31 * s + x.toNat) % 65521) r
theorem sumB_lt:∀ {s:Nat} (l:List UInt8),s < 65521→sumB s l < 65521
  | s,[],h=>h
  | s,x::r,_=>sumB_lt r (Nat.mod_lt _ (by omega))

theorem sum_pure (l:List UInt8) (hl:l.length≤1000000) (st:St):aw Go.Proofs.Try.prog n_f48 [.sl false 1 (BB l)] st (.lit (.int .i64 (sumB 1 l:Nat))):=by
  refine gq ?_ (.lit _) (by simp [ff]) st
  refine aW hmix k_f48 rfl rfl ?_
  unfold aFun c_f48
  simp (config:=KF) (disch:=omega) only [bZ,lenI,↓reduceIte,Nat.reduceEqDiff,reduceCtorEq]
  rw [f48_9w]
  refine fW (A:=Nat×Nat) (fun a=>l.length - a.1) (fun a=>⟨[(3,.lit (.int .i64 (a.2:Nat))),(6,.sl false 1 (BB l)),(7,.lit (.int .i64 l.length)),(8,.lit (.int .i64 (a.1:Nat)))],[]⟩) (fun _=>⟨[]⟩)
    (fun a=>a.1≤l.length∧a.2 < 65521∧sumB a.2 (l.drop a.1) = sumB 1 l) (0,1) ⟨by omega,by omega,rfl⟩ (Sf.le_refl _) rfl ?_
  rintro ⟨i,s⟩ ⟨h1,h2,h3⟩
  simp only at h1 h2 h3
  have hx:=(l.getD i 0).toNat_lt
  simp (config:=KF) (disch:=omega) only [bZ,cr,↓reduceIte,Nat.reduceEqDiff]
  refine aG (fun h=>?_) (fun h=>?_)
  · simp (config:=KF) (disch:=omega) only [bZ,dN,gS,bX,ixSV,d2,af,bQ,n_mul,ai,↓reduceIte,Nat.reduceEqDiff,dz,n_rem,IntWalk.rem_in,cB]
    have hi:i < l.length:=by omega
    refine ⟨(i + 1,(31 * s + (l.getD i 0).toNat) % 65521),⟨⟨by omega,Nat.mod_lt _ (by omega),?_⟩,by simp only; omega⟩,?_⟩
    · rw [← h3,List.drop_eq_getElem_cons hi]
      simp [sumB,List.getD,hi]
    · exact Sf.le_refl _
  · simp (config:=KF) (disch:=omega) only [bZ,fd,aV,ar,bT,retI,↓reduceIte,Nat.reduceEqDiff]
    have:i = l.length:=by omega
    subst this
    simp only [List.drop_length,sumB] at h3
    rw [h3]
    exact .refl _
end Go.Fx.YtenijlfcfmhmkaaFx

