/- What the functions that the statement reaches compute: part 39. -/
import Derived.Test.YtbdjfccgkdgbfaaFxW38
namespace Go.Fx.YtbdjfccgkdgbfaaFx
open Go Go.Fx
attribute [local irreducible] aC runI az aA

set_option maxRecDepth 100000
set_option maxHeartbeats 4000000

theorem jr (l:List Nat):(ci l).dis = ci l∧(ci l).own2 = ci l∧(ci l).own1 = ci l∧(ci l).noL = true:=by
  unfold ci; split <;> exact ⟨rfl,rfl,rfl,rfl⟩
theorem kR (l:List Nat) (st:St):lenI .sl st (ci l) = .ok (.lit (.int .i64 (l.length:Nat))):=by
  unfold ci
  split
  · rename_i h; rw [h]; rfl
  · rw [ik,List.length_map]
theorem ob (a b:List Nat) (ha:a.length≤1000) (st:St):aB Go.Proofs.Try.prog n_f37 [ci a,ci b] st (.lit (.bool (decide (a = b)))):=by
  obtain ⟨a1,a2,a3,a4⟩:=jr a
  obtain ⟨b1,b2,b3,b4⟩:=jr b
  refine aE hmix k_f37 rfl rfl fun Q hQ=>?_
  unfold aFun c_f37
  by_cases hl:a.length = b.length
  · simp (config:=KF) (disch:=omega) only [bZ,↓reduceIte,Nat.reduceEqDiff,reduceCtorEq,kR,a1,b1]
    rw [f37_13w]
    refine bf (A:=Nat) (fun i=>a.length - i) (fun i=>⟨[(0,ci a),(1,ci b),(5,.lit (.int .i64 (i:Nat)))],[]⟩) (fun _=>st)
      (fun i=>i≤a.length∧a.take i = b.take i) 0 ⟨Nat.zero_le _,rfl⟩ (Sf.le_refl _) rfl ?_
    intro i hi K hK hKe hKr
    obtain ⟨h1,h2⟩:=hi
    by_cases h3:i < a.length
    · have hia:ci a = .sl false 1 (a.map intA):=by unfold ci; rw [if_neg (fun e=>by rw [e] at h3; simp at h3)]
      have hib:ci b = .sl false 1 (b.map intA):=by unfold ci; rw [if_neg (fun e=>by rw [hl,e] at h3; simp at h3)]
      have hga:(a.map intA).getD i .any = .lit (.int .i64 (a[i]:Nat)):=by
        rw [List.getD_eq_getElem?_getD,List.getElem?_map,List.getElem?_eq_getElem h3]; rfl
      have hgb:(b.map intA).getD i .any = .lit (.int .i64 (b[i]'(by omega):Nat)):=by
        rw [List.getD_eq_getElem?_getD,List.getElem?_map,List.getElem?_eq_getElem (by omega)]; rfl
      rw [hia,hib]
      have htk:a.take (i + 1) = a.take i++[a[i]]∧b.take (i + 1) = b.take i++[b[i]'(by omega)]:=⟨List.take_succ_eq_append_getElem h3,List.take_succ_eq_append_getElem (by omega)⟩
      have hcat:a[i] = b[i]'(by omega)→a.take (i + 1) = b.take (i + 1):=fun e=>by rw [htk.1,htk.2,h2,e]
      have hne:a[i]≠b[i]'(by omega)→a≠b:=fun e q=>e (by subst q; rfl)
      generalize a[i] = x at hga hcat hne
      generalize b[i]'(by omega) = y at hgb hcat hne
      by_cases hxy:x = y
      · skip
        simp (config:=KF) (disch:=omega) only [bZ,jn,ixSV,lenI,aa,↓reduceIte,Nat.reduceEqDiff,reduceCtorEq,hga,hgb]
        rw [← hia,← hib]
        exact hK (i + 1) _ ⟨by omega,hcat hxy⟩ (by omega) (Sf.le_refl _)
      · skip
        rw [decide_eq_false (hne hxy)] at hQ
        simp (config:=KF) (disch:=omega) only [bZ,jn,ixSV,lenI,aa,↓reduceIte,Nat.reduceEqDiff,reduceCtorEq,hga,hgb]
        refine hKr _ _ ?_
        simp (config:=KF) (disch:=omega) only [bZ,retI,↓reduceIte]
        exact hQ _
    · obtain rfl:i = a.length:=by omega
      have he:a = b:=by rw [List.take_length,hl,List.take_length] at h2; exact h2
      rw [decide_eq_true he] at hQ
      simp (config:=KF) (disch:=omega) only [bZ,↓reduceIte,Nat.reduceEqDiff,reduceCtorEq,kR,a1]
      refine hKe _ _ _ ?_
      simp (config:=KF) (disch:=omega) only [bZ,retI,↓reduceIte]
      exact hQ _
  · have he:a≠b:=fun e=>hl (by rw [e])
    rw [decide_eq_false he] at hQ
    simp (config:=KF) (disch:=omega) only [bZ,retI,↓reduceIte,Nat.reduceEqDiff,reduceCtorEq,kR,a1,b1]
    exact hQ _

end Go.Fx.YtbdjfccgkdgbfaaFx

