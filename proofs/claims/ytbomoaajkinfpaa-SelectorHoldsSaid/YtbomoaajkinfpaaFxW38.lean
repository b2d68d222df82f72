/- What the functions that the statement reaches compute: part 38. -/
import Derived.Test.YtbomoaajkinfpaaFxW37
namespace Go.Fx.YtbomoaajkinfpaaFx
open Go Go.Fx
attribute [local irreducible] aC runI aw aB

set_option maxRecDepth 100000
set_option maxHeartbeats 4000000

section
variable {st:St} {s mid n:Nat} {cv ov rv:AV} {L:List CL} {R:RS} {F:List Nat}
end

theorem few_pure (l:List A7) (hl:l.length < 100000) (hll:∀ a ∈ l,a.2.2.2.1.length≤9223372036854775807) (st:St):aL Go.Proofs.Try.prog n_f9 [cr l] st (.lit (.bool (l.all fun a=>decide (a.2.2.2.1.length≤20)))):=by
  refine aD hmix k_f9 rfl rfl fun Q hQ=>?_
  unfold aFun c_f9 cr
  have hgl:=oY l
  simp (config:=KF) (disch:=omega) only [bZ,↓reduceIte,reduceCtorEq]
  rw [f9_7w]
  refine bj (A:=Nat) (fun a=>l.length - a) (fun a=>⟨[(0,.sl false 5 (a7s l)),(3,.lit (.int .i64 (a:Nat)))],[]⟩) (fun _=>st)
    (fun a=>a≤l.length∧∀ j (h:j < l.length),j < a→l[j].2.2.2.1.length≤20) 0 ⟨Nat.zero_le _,fun _ _ h=>by omega⟩ (Sf.le_refl _) rfl ?_
  rintro i ⟨h1,h2⟩ K hK hKe hKr
  try dsimp only
  by_cases hi:i < l.length
  · have hgd:=a7s_get hi
    simp (config:=KF) (disch:=omega) only [bZ,ixSV,lenI,addA,aa,dZ,↓reduceIte,Nat.reduceEqDiff,reduceCtorEq,aM,hgd,hgl]
    refine aP (fun h3=>?_) (fun h3=>?_)
    · simp (config:=KF) (disch:=omega) only [bZ,↓reduceIte,Nat.reduceEqDiff,reduceCtorEq]
      refine hKr _ _ ?_
      simp (config:=KF) (disch:=omega) only [bZ,retI,↓reduceIte]
      have:(l.all fun a=>decide (a.2.2.2.1.length≤20)) = false:=by
        rw [List.all_eq_false]
        exact ⟨l[i],List.getElem_mem hi,by simp; omega⟩
      rw [this] at hQ
      exact hQ _
    · simp (config:=KF) (disch:=omega) only [bZ,↓reduceIte,Nat.reduceEqDiff,reduceCtorEq]
      refine hK (i + 1) _ ⟨by omega,fun j hj hja=>?_⟩ (by omega) (Sf.le_refl _)
      by_cases e:j = i
      · subst e; omega
      · exact h2 j hj (by omega)
  · simp (config:=KF) (disch:=omega) only [bZ,aH,bf,lenI,↓reduceIte,Nat.reduceEqDiff,reduceCtorEq,aY,hgl]
    refine hKe _ _ _ ?_
    simp (config:=KF) (disch:=omega) only [bZ,retI,↓reduceIte]
    have:(l.all fun a=>decide (a.2.2.2.1.length≤20)) = true:=by
      rw [List.all_eq_true]
      intro a ha
      obtain ⟨j,hj,rfl⟩:=List.getElem_of_mem ha
      simpa using h2 j hj (by omega)
    rw [this] at hQ
    exact hQ _
theorem few_all {l:List A7} (h:(l.all fun a=>decide (a.2.2.2.1.length≤20)) = true):∀ a ∈ l,a.2.2.2.1.length≤20:=fun a ha=>by
  have:=List.all_eq_true.1 h a ha
  simpa using this
theorem acts_arg (l:List A7T):AV.sl false 5 (l.map fun x=>.agg [.lit (.int .i64 x.1),.lit (.int .i64 x.2.1),.lit (.int .i64 x.2.2.1),.sl false 3 (x.2.2.2.1.map fun y=>.agg [.lit (.int .i64 y.1),.lit (.bool y.2.1),.lit (.int .i64 y.2.2.1)]),.lit (.bool x.2.2.2.2.1)]) = cr (l.map a7Of):=by
  unfold cr a7s
  rw [List.map_map]
  congr 1
  refine List.map_congr_left fun x _=>?_
  exact a7_arg x
end Go.Fx.YtbomoaajkinfpaaFx

