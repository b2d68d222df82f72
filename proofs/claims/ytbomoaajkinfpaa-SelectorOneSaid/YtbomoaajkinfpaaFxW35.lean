/- What the functions that the statement reaches compute: part 35. -/
import Derived.Test.YtbomoaajkinfpaaFxW34
namespace Go.Fx.YtbomoaajkinfpaaFx
open Go Go.Fx
attribute [local irreducible] aC runI aD aL

set_option maxRecDepth 100000
set_option maxHeartbeats 4000000

theorem few1_pure (l:List A7) (hl:l.length < 100000) (hll:∀ a ∈ l,a.2.2.2.1.length≤9223372036854775807) (st:St):aH Go.Proofs.Try.prog n_f9 [.sl false 5 (a7s1 l)] st (.lit (.bool (l.all fun a=>decide (a.2.2.2.1.length≤20)))):=by
  refine aw hmix k_f9 rfl rfl fun Q hQ=>?_
  unfold aFun c_f9
  have hgl:=iG l
  simp (config:=KF) (disch:=omega) only [bZ,↓reduceIte,reduceCtorEq]
  rw [f9_7w]
  refine cH (A:=Nat) (fun a=>l.length - a) (fun a=>⟨[(0,.sl false 5 (a7s1 l)),(3,.lit (.int .i64 (a:Nat)))],[]⟩) (fun _=>st)
    (fun a=>a≤l.length∧∀ j (h:j < l.length),j < a→l[j].2.2.2.1.length≤20) 0 ⟨Nat.zero_le _,fun _ _ h=>by omega⟩ (Sf.le_refl _) rfl ?_
  rintro i ⟨h1,h2⟩ K hK hKe hKr
  try dsimp only
  by_cases hi:i < l.length
  · have hgd:=a7s1_get hi
    simp (config:=KF) (disch:=omega) only [bZ,ixSV,lenI,addA,aa,cW,↓reduceIte,Nat.reduceEqDiff,reduceCtorEq,aK,hgd,hgl]
    refine aY (fun h3=>?_) (fun h3=>?_)
    · simp (config:=KF) (disch:=omega) only [bZ,aE,↓reduceIte,Nat.reduceEqDiff,reduceCtorEq]
      refine hKr _ _ ?_
      simp (config:=KF) (disch:=omega) only [bZ,aE,retI,↓reduceIte]
      have:(l.all fun a=>decide (a.2.2.2.1.length≤20)) = false:=by
        rw [List.all_eq_false]
        exact ⟨l[i],List.getElem_mem hi,by simp; omega⟩
      rw [this] at hQ
      exact hQ _
    · simp (config:=KF) (disch:=omega) only [bZ,↓reduceIte,Nat.reduceEqDiff,reduceCtorEq]
      refine hK (i + 1) _ ⟨by omega,fun j hj hja=>?_⟩ (by omega) (Sf.le_refl _)
      by_cases e:j = i
      · subst e; omega
      · exact h2 j hj (by omega)
  · simp (config:=KF) (disch:=omega) only [bZ,aO,bz,lenI,↓reduceIte,Nat.reduceEqDiff,reduceCtorEq,bQ,hgl]
    refine hKe _ _ _ ?_
    simp (config:=KF) (disch:=omega) only [bZ,aF,retI,↓reduceIte]
    have:(l.all fun a=>decide (a.2.2.2.1.length≤20)) = true:=by
      rw [List.all_eq_true]
      intro a ha
      obtain ⟨j,hj,rfl⟩:=List.getElem_of_mem ha
      simpa using h2 j hj (by omega)
    rw [this] at hQ
    exact hQ _

theorem jT (n:Int) (acts:List A7) (hll:∀ a ∈ acts,a.2.2.2.1.length≤9223372036854775807):aB Go.Proofs.Try.prog n_f3 [.lit (.int .i64 n),.sl false 5 (a7s1 acts)] ⟨[]⟩ (fun v _=>v = .lit (.bool true)):=by
  refine ar hmix k_f3 rfl rfl fun Q hQ=>?_
  unfold aFun c_f3
  have hgl:=iG acts
  by_cases h0:n < 0
  · simp (config:=KF) (disch:=omega) only [bZ,AI.dst,id,↓reduceIte,Nat.reduceEqDiff,reduceCtorEq,bO]
    refine ap rfl e_f10 (iE _) rfl fun r st1 hr=>?_
    subst hr
    simp (config:=KF) (disch:=omega) only [bZ,retI,↓reduceIte,Nat.reduceEqDiff,reduceCtorEq]
    exact hQ _ _ rfl
  by_cases h1:100 < n
  · simp (config:=KF) (disch:=omega) only [bZ,AI.dst,cW,id,↓reduceIte,Nat.reduceEqDiff,reduceCtorEq,bO,bo]
    refine ap rfl e_f10 (iE _) rfl fun r st1 hr=>?_
    subst hr
    simp (config:=KF) (disch:=omega) only [bZ,retI,↓reduceIte,Nat.reduceEqDiff,reduceCtorEq]
    exact hQ _ _ rfl
  by_cases h2:40 < acts.length
  · simp (config:=KF) (disch:=omega) only [bZ,AI.dst,lenI,cW,id,↓reduceIte,Nat.reduceEqDiff,reduceCtorEq,bO,bo,hgl]
    refine ap rfl e_f10 (iE _) rfl fun r st1 hr=>?_
    subst hr
    simp (config:=KF) (disch:=omega) only [bZ,retI,↓reduceIte,Nat.reduceEqDiff,reduceCtorEq]
    exact hQ _ _ rfl
  have hfw:=few1_pure acts (by omega) hll ⟨[]⟩
  simp (config:=KF) (disch:=omega) only [bZ,AI.dst,lenI,cW,id,↓reduceIte,Nat.reduceEqDiff,reduceCtorEq,bo,hgl]
  refine al rfl e_f9 hfw rfl ?_
  cases hfl:acts.all fun a=>decide (a.2.2.2.1.length≤20) with
  | false =>
    simp (config:=KF) (disch:=omega) only [bZ,AI.dst,o_un,unA,id,↓reduceIte,Nat.reduceEqDiff,reduceCtorEq]
    refine ap rfl e_f10 (iE _) rfl fun r st1 hr=>?_
    subst hr
    simp (config:=KF) (disch:=omega) only [bZ,retI,↓reduceIte,Nat.reduceEqDiff,reduceCtorEq]
    exact hQ _ _ rfl
  | true =>
  have hfa:∀ a ∈ acts,a.2.2.2.1.length≤20:=fun a ha=>by
    have:=List.all_eq_true.1 hfl a ha
    simpa using this
  obtain ⟨k,rfl⟩:∃ k:Nat,n = (k:Int):=⟨n.toNat,by omega⟩
  have hok:okL [(k:Int)] = true:=by
    unfold okL
    simp [okC]
    omega
  have hnew:=lM (l:=[(k:Int)]) (.inr rfl) (by simp) (⟨[]⟩:St)
  simp only [ints,List.map_cons,List.map_nil] at hnew
  simp (config:=KF) (disch:=omega) only [bZ,AI.dst,o_un,cM,bslV,List.reduceReplicate,bJ,unA,id,dS,↓reduceIte,Nat.reduceEqDiff,Nat.reduceLT,reduceCtorEq]
  refine ap rfl e_f11 hnew rfl fun r st1 hr=>?_
  obtain ⟨_,hr⟩:=hr
  rw [hok,if_pos rfl] at hr
  obtain ⟨s,rfl,mid,cv,ov,L,h,_⟩:=hr
  simp (config:=KF) (disch:=omega) only [bZ,id,io,↓reduceIte,Nat.reduceEqDiff,reduceCtorEq]
  refine ap rfl e_f12 (lC (n:=k) (by omega) _) rfl fun r st2 hr=>?_
  obtain ⟨rfl,hc,hk⟩:=hr
  have hlt:=h.is.lts
  have hpq:PQ st2 s mid _ _ _ _ _ _ cv ov _ L (newR [(k:Int)]) (newP k) 0:=⟨h.kp hk (fun _ _ e=>by cases e),hc,⟨rfl,rfl,rfl,List.nodup_nil,fun w hw=>by cases hw⟩,⟨by simp [newP],by simp [newP],by simp [newP],by simp [newP],by simp [newP],by show k≤4096; omega⟩,fun x hx e=>by
    have:=hlt x e
    simp [ae] at hx
    omega⟩
  simp (config:=KF) (disch:=omega) only [bZ,AI.dst,dy,cB,bG,io,↓reduceIte,Nat.reduceEqDiff,reduceCtorEq,not_true_eq_false]
  refine one_loop (by omega) hfa hpq (by omega) fun st'=>?_
  simp (config:=KF) (disch:=omega) only [bZ,aF,id,↓reduceIte]
  refine ap rfl e_f10 (iE _) rfl fun r st1 hr=>?_
  subst hr
  simp (config:=KF) (disch:=omega) only [bZ,retI,↓reduceIte,Nat.reduceEqDiff]
  exact hQ _ _ rfl

theorem acts1_arg (l:List A7T):(l.map fun x=>AV.agg [.lit (.int .i64 x.1),.lit (.int .i64 x.2.1),.lit (.int .i64 x.2.2.1),.sl false 3 (x.2.2.2.1.map fun y=>.agg [.lit (.int .i64 y.1),.lit (.bool y.2.1),.lit (.int .i64 y.2.2.1)]),.lit (.bool x.2.2.2.2.1)]) = a7s1 (l.map a7Of):=by
  unfold a7s1
  rw [List.map_map]
  refine List.map_congr_left fun x _=>?_
  exact a7_arg x
theorem jU {n:Int} {acts:List A7T} (hx:∀ x ∈ acts,x.2.2.2.1.length≤maxLen):aB Go.Proofs.Try.prog n_f3 [.lit (.int .i64 n),.sl false 5 (acts.map fun x=>.agg [.lit (.int .i64 x.1),.lit (.int .i64 x.2.1),.lit (.int .i64 x.2.2.1),.sl false 3 (x.2.2.2.1.map fun y=>.agg [.lit (.int .i64 y.1),.lit (.bool y.2.1),.lit (.int .i64 y.2.2.1)]),.lit (.bool x.2.2.2.2.1)])] ⟨[]⟩ (fun v _=>v = .lit (.bool true)):=by
  rw [acts1_arg]
  refine jT n _ fun a ha=>?_
  obtain ⟨x,hxm,rfl⟩:=List.mem_map.1 ha
  have:=hx x hxm
  simp only [a7Of,List.length_map]
  unfold maxLen at this
  omega
end Go.Fx.YtbomoaajkinfpaaFx

