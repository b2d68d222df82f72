/- What the functions that the statement reaches compute: part 6. -/
import Derived.Test.YtbomoaajkinfpaaFxW5
namespace Go.Fx.YtbomoaajkinfpaaFx
open Go Go.Fx
attribute [local irreducible] aC runI aw aB

set_option maxRecDepth 100000
set_option maxHeartbeats 4000000

section
variable {st:St} {c q0 m0 q1 m1 wid:Nat} {bv:AV} {P:ChP}

theorem chk_11 {t:Int} (h:chk P t = 0):t ∉ az (entC P.S P.V)∧0≤t∧t < 64:=by
  unfold chk at h
  split at h
  · simp at h
  · split at h
    · simp at h
    · rename_i h2; exact ⟨h2,by omega⟩

theorem csend_calls {n:Nat} (h:ChIs st c P q0 m0 q1 m1 wid bv) (t v:Int) (hb:Bd P n∧n < 3000) :
    aA Go.Proofs.Try.prog n_f14 [.ptr c 0,.lit (.int .i64 t),.lit (.int .i64 v)] st (fun r st'=>r = .tup [.lit (.bool (jl P t v).2.1),bJ (jl P t v).2.2.1,.lit (.int .i64 (jl P t v).2.2.2)]∧cf st c (jl P t v).1 q0 m0 q1 m1 wid bv st'):=by
  have hg:=h.get
  unfold Bd at hb
  refine ap hmix k_f14 rfl rfl fun Q hQ=>?_
  unfold aFun c_f14
  generalize hR:jl P t v = R at hQ
  unfold jl at hR
  simp (config:=KF) (disch:=omega) only [bZ,id,↓reduceIte,Nat.reduceEqDiff,Nat.reduceAdd,reduceCtorEq]
  refine ao rfl e_f39 (eb h t) rfl ?_
  by_cases hc:chk P t = 0
  · rw [if_neg (by simp [hc])] at hR
    rw [hc]
    simp (config:=KF) (disch:=omega) only [bZ,id,↓reduceIte,Nat.reduceEqDiff,reduceCtorEq,not_true_eq_false]
    refine au rfl e_f40 (gF h v (by omega)) rfl fun r st1 hr=>?_
    obtain ⟨rfl,h1⟩:=hr
    have ht:=chk_11 hc
    by_cases h16:(aG P v).2.2 = 16
    · rw [if_pos h16] at hR
      subst hR
      obtain ⟨e1,e2⟩:=try_16 h16
      rw [e1] at h1
      rw [h16]
      obtain ⟨bv',h2,hk,hbb⟩:=h1
      simp (config:=KF) (disch:=omega) only [bZ,id,↓reduceIte,Nat.reduceEqDiff,reduceCtorEq]
      refine au rfl e_f41 (oW h2 (by omega) (by omega) ht.1 ht.2) rfl fun r st2 hr=>?_
      obtain ⟨rfl,h3,ho⟩:=hr
      simp (config:=KF) (disch:=omega) only [bZ,retI,↓reduceIte,Nat.reduceEqDiff,reduceCtorEq]
      exact hQ _ _ ⟨rfl,cf.trans hk hbb (h3.post (ho.kp (by simp [foot])))⟩
    · rw [if_neg h16] at hR
      subst hR
      obtain ⟨w1,w2,w3,w4,w5,w6,w7⟩:=ca (aG P v).2.1
      simp (config:=KF) (disch:=omega) only [bZ,retI,↓reduceIte,Nat.reduceEqDiff,reduceCtorEq,h16,w1,w3,w5]
      exact hQ _ _ ⟨rfl,h1⟩
  · rw [if_pos hc] at hR
    subst hR
    simp (config:=KF) (disch:=omega) only [bZ,retI,↓reduceIte,Nat.reduceEqDiff,reduceCtorEq,not_false_eq_true,hc]
    exact hQ _ _ ⟨rfl,h.post (Kp.refl _ _)⟩
end
end Go.Fx.YtbomoaajkinfpaaFx

