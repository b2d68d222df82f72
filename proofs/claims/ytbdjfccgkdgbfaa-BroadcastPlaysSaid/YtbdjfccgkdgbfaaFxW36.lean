/- What the functions that the statement reaches compute: part 36. -/
import Derived.Test.YtbdjfccgkdgbfaaFxW35
namespace Go.Fx.YtbdjfccgkdgbfaaFx
open Go Go.Fx
attribute [local irreducible] aC runI az aA

set_option maxRecDepth 100000
set_option maxHeartbeats 4000000

theorem nN (t:Int):∀ (l:List Sb) (k:Nat),(atR t l = none∧fstI (fun S:Sb=>decide ((S.num:Int) = t)) l k = -1)∨∃ (i:Nat) (h:i < l.length),atR t l = some l[i]∧fH t l = wo l i∧(∀ f,modR t f l = l.set i (f l[i]))∧fstI (fun S:Sb=>decide ((S.num:Int) = t)) l k = ((k + i:Nat):Int)
  | [],_=>.inl ⟨rfl,rfl⟩
  | w :: r, k => by
    by_cases h:(w.num:Int) = t
    · refine .inr ⟨0,Nat.zero_lt_succ _,?_,?_,fun f=>?_,?_⟩
      · simp [atR,h]
      · simp [fH,h,wo]
      · simp [modR,h]
      · unfold fstI; rw [if_pos (decide_eq_true h)]; rfl
    · rcases nN t r (k + 1) with ⟨h1,h2⟩ | ⟨i,hi,h1,h2,h3,h4⟩
      · refine .inl ⟨by simp [atR,h,h1],?_⟩
        unfold fstI; rw [if_neg (by simpa using h)]
        rw [show (k:Int) + 1 = ((k + 1:Nat):Int) by omega]; exact h2
      · refine .inr ⟨i + 1,Nat.succ_lt_succ hi,?_,?_,fun f=>?_,?_⟩
        · simp [atR,h,h1]
        · simp [fH,h,h2,wo]
        · simp [modR,h,h3]
        · unfold fstI; rw [if_neg (by simpa using h)]
          rw [show (k:Int) + 1 = ((k + 1:Nat):Int) by omega,h4]; omega
theorem Es.wo {es:List AV} {subs:List Sb} (h:Es es subs) {i:Nat} (hi:i < subs.length):Es (wo es i) (wo subs i):=by
  obtain ⟨h1,h2⟩:=h
  refine ⟨by unfold Go.Fx.YtbdjfccgkdgbfaaFx.wo; simp [h1],fun j e S he hS=>?_⟩
  unfold Go.Fx.YtbdjfccgkdgbfaaFx.wo at he hS
  by_cases hj:j < i
  · rw [List.getElem?_append_left (by rw [List.length_take]; omega),List.getElem?_take,if_pos hj] at he hS
    exact h2 j e S he hS
  · rw [List.getElem?_append_right (by rw [List.length_take]; omega),List.length_take,Nat.min_eq_left (by omega),List.getElem?_drop] at he hS
    exact h2 _ e S he hS
end Go.Fx.YtbdjfccgkdgbfaaFx

