/- What the functions that the statement reaches compute: part 47. -/
import Derived.Test.YtbomoaajkinfpaaFxW46
namespace Go.Fx.YtbomoaajkinfpaaFx
open Go Go.Fx
attribute [local irreducible] aC runI aB aE

set_option maxRecDepth 100000
set_option maxHeartbeats 4000000

section
variable {st:St} {s mid n:Nat} {cv ov rv:AV} {L:List CL} {R:RS} {F:List Nat}
theorem iy {l:List A7} (hl:l.length≤100) (hfew:∀ a ∈ l,a.2.2.2.1.length≤20) (h:Pl st s mid cv ov rv L R n F) (hn:n + l.length < 1900) :
    aA Go.Proofs.Try.prog n_f25 [.ptr s 0,rfA rv R.ws,cg l] st
      (fun r st'=>∃ cv' ov' rv' L' F',r = .tup [rfA rv' (fK R l).ws,.lit (.bool true)]∧Pl st' s mid cv' ov' rv' L' (fK R l) (n + l.length) F'∧Kp st st' (ah s mid cv ov L)∧(∀ x ∈ ah s mid cv' ov' L',x ∈ ah s mid cv ov L∨st.boxes.length≤x)∧∀ x ∈ F',x ∈ F∨st.boxes.length≤x):=by
  obtain ⟨c1,c2,c3,c4,c5,c6,c7⟩:=h.ref.isCh
  obtain ⟨w1,w2,w3,w4,w5,w6,w7,w8⟩:=aw R.ws
  refine aq hmix k_f25 rfl rfl fun Q hQ=>?_
  unfold aFun c_f25
  simp only [rfA] at hQ
  have hl2:=fun (K:Exit→Sf→St→Prop)=>plays_loop hl hfew h hn (K:=K)
  unfold cg at hl2
  simp (config:=KF) (disch:=omega) only [bZ,cC,bS,↓reduceIte,Nat.reduceEqDiff,Nat.reduceAdd,reduceCtorEq,cg,rfA,c2,c4,w2,w4]
  refine hl2 _ fun st' cv' ov' rv' L' F' a1 a2 a3 a4=>?_
  obtain ⟨n1,n2,n3,n4,n5,n6,n7⟩:=a1.ref.isCh
  obtain ⟨x1,x2,x3,x4,x5,x6,x7,x8⟩:=aw (fK R l).ws
  simp (config:=KF) (disch:=omega) only [bZ,retI,ag,aa,↓reduceIte,Nat.reduceEqDiff,Nat.reduceAdd,Nat.reduceLeDiff,n2,n4,x2,x4]
  exact hQ _ _ ⟨cv',ov',rv',L',F',rfl,a1,a2,a3,a4⟩
end

theorem nN (l:List A7) (hl:l.length < 100000) (hll:∀ a ∈ l,a.2.2.2.1.length≤9223372036854775807) (st:St):aD Go.Proofs.Try.prog n_f9 [cg l] st (.lit (.bool (l.all fun a=>decide (a.2.2.2.1.length≤20)))):=by
  refine am hmix k_f9 rfl rfl fun Q hQ=>?_
  unfold aFun c_f9 cg
  have hgl:=iP l
  simp (config:=KF) (disch:=omega) only [bZ,↓reduceIte,reduceCtorEq]
  rw [f9_7w]
  refine aX (A:=Nat) (fun a=>l.length - a) (fun a=>⟨[(0,.sl false 5 (a7s l)),(3,.lit (.int .i64 (a:Nat)))],[]⟩) (fun _=>st)
    (fun a=>a≤l.length∧∀ j (h:j < l.length),j < a→l[j].2.2.2.1.length≤20) 0 ⟨Nat.zero_le _,fun _ _ h=>by omega⟩ (Sf.le_refl _) rfl ?_
  rintro i ⟨h1,h2⟩ K hK hKe hKr
  try dsimp only
  by_cases hi:i < l.length
  · have hgd:=a7s_get hi
    simp (config:=KF) (disch:=omega) only [bZ,ixSV,lenI,addA,aa,dA,↓reduceIte,Nat.reduceEqDiff,reduceCtorEq,hgd,hgl]
    refine aH (fun h3=>?_) (fun h3=>?_)
    · simp (config:=KF) (disch:=omega) only [bZ,↓reduceIte,Nat.reduceEqDiff,reduceCtorEq]
      refine hKr _ _ ?_
      simp (config:=KF) (disch:=omega) only [bZ,retI,↓reduceIte]
      have:(l.all fun a=>decide (a.2.2.2.1.length≤20)) = false:=by
        rw [List.all_eq_false]
        exact ⟨l[i],List.getElem_mem hi,by simp; omega⟩
      rw [this] at hQ
      exact hQ _
    · simp (config:=KF) (disch:=omega) only [bZ,↓reduceIte,Nat.reduceEqDiff,reduceCtorEq]
      refine hK (i + 1) _ ⟨by omega,fun j hj hja=>?_⟩ (by omega) (Sf.le_refl _)
      by_cases e:j = i
      · subst e; omega
      · exact h2 j hj (by omega)
  · simp (config:=KF) (disch:=omega) only [bZ,lenI,↓reduceIte,Nat.reduceEqDiff,reduceCtorEq,hgl]
    refine hKe _ _ _ ?_
    simp (config:=KF) (disch:=omega) only [bZ,retI,↓reduceIte]
    have:(l.all fun a=>decide (a.2.2.2.1.length≤20)) = true:=by
      rw [List.all_eq_true]
      intro a ha
      obtain ⟨j,hj,rfl⟩:=List.getElem_of_mem ha
      simpa using h2 j hj (by omega)
    rw [this] at hQ
    exact hQ _
theorem qm {l:List A7} (h:(l.all fun a=>decide (a.2.2.2.1.length≤20)) = true):∀ a ∈ l,a.2.2.2.1.length≤20:=fun a ha=>by
  have:=List.all_eq_true.1 h a ha
  simpa using this
/-- The program's and the reference's selector, both new. -/
theorem pl_new {l:List Int} {st0 st1 st2:St} {s mid:Nat} {cv ov rv:AV} {L:List CL} {F:List Nat} (h:SelR st1 s mid cv ov L (newR l) 0) (hk2:Kp st1 st2 []) (hrc:RefC rv st2 (newR l).ch F) (hF:∀ x ∈ F,st1.boxes.length≤x∧x < st2.boxes.length):Pl st2 s mid cv ov rv L (newR l) 0 F:=by
  have hlts:=h.is.lts
  exact ⟨h.kp hk2 (fun _ _ e=>by cases e),hrc,(fun w hw=>by cases hw),fun x hx=>(hF x hx).2,fun x hx e=>by have:=(hF x hx).1; have:=hlts x e; omega⟩

theorem nO (l:List A7T):AV.sl false 5 (l.map fun x=>.agg [.lit (.int .i64 x.1),.lit (.int .i64 x.2.1),.lit (.int .i64 x.2.2.1),.sl false 3 (x.2.2.2.1.map fun y=>.agg [.lit (.int .i64 y.1),.lit (.bool y.2.1),.lit (.int .i64 y.2.2.1)]),.lit (.bool x.2.2.2.2.1)]) = cg (l.map a7Of):=by
  unfold cg a7s
  rw [List.map_map]
  congr 1
  refine List.map_congr_left fun x _=>?_
  exact a7_arg x
end Go.Fx.YtbomoaajkinfpaaFx

