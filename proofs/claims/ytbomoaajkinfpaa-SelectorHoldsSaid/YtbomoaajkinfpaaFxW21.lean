/- What the functions that the statement reaches compute: part 21. -/
import Derived.Test.YtbomoaajkinfpaaFxW20
namespace Go.Fx.YtbomoaajkinfpaaFx
open Go Go.Fx
attribute [local irreducible] aC runI aw aB

set_option maxRecDepth 100000
set_option maxHeartbeats 4000000

theorem csC_len (l:List Cs):(l.flatMap csC).length = l.length * 3:=by
  induction l with
  | nil=>rfl
  | cons x l ih=>simp only [List.flatMap_cons,List.length_append,ih,List.length_cons,csC,List.length_nil]; omega
theorem csC_grp (r:List AV):∀ l:List Cs,grp 3 l.length (l.flatMap csC++r) = l.map csAV
  | []=>rfl
  | x :: l => by
    have ih:=csC_grp r l
    simp only [List.flatMap_cons,List.length_cons,csC,List.cons_append,List.nil_append,grp,List.map_cons]
    rw [← ih]
    rfl
theorem csAV_dis (l:List Cs):(l.map csAV).map AV.dis = l.map csAV:=by simp [csAV,AV.dis,AV.own1]
theorem kx {st:St} {v:AV} {l:List Cs} (hv:CV v st l) (hne:l≠[]) (hll:l.length < 100000):aL Go.Proofs.Try.prog n_f56 [v] st (.sl true 3 (l.map csAV)):=by
  obtain ⟨v1,v2,v3,v4,v5,v6,v7,v8⟩:=hv.facts
  refine aD hmix k_f56 rfl rfl fun Q hQ=>?_
  unfold aFun c_f56
  have hd:(l.map csAV).map AV.dis = l.map csAV:=by simp [csAV,AV.dis,AV.own1]
  rcases hv.ne hne with rfl | ⟨_,_,e⟩ | ⟨bi,cap,r,rfl,hgb,h3,h4,h5⟩
  · have hvv:csSl l = .sl false 3 (l.map csAV):=if_neg hne
    rw [hvv]
    obtain ⟨x,l',rfl⟩:=List.exists_cons_of_ne_nil hne
    have hl2:l'.length + 1 < 100000:=hll
    simp only [List.map_cons,csAV] at hQ ⊢
    simp (config:=KF) (disch:=omega) only [bZ,retI,bB,iB,cY,iC,o_x,bslV,i0,bb,nilX_cons,cT,cb,bz,List.isEmpty_cons,List.replicate_zero,dC,srcA,bL,lS,gv,List.nil_append,↓reduceIte,Nat.reduceEqDiff,reduceCtorEq,cy,csAV_dis]
    exact hQ _
  · exact absurd (List.eq_nil_of_length_eq_zero e) hne
  · have hb:cQ st bi 3 0 l.length = .req true (.ok (l.map csAV)):=by
      unfold cQ
      rw [hgb]
      simp only [Res.ofOpt,Res.bind,List.drop_zero,csC_grp]
      congr 1
      simp only [List.length_append,csC_len]
      exact decide_eq_true (by omega)
    simp (config:=KF) (disch:=omega) only [bZ,retI,bB,iB,cY,iC,o_x,bslV,i0,bb,oG,cT,cb,bz,List.replicate_zero,dC,srcA,bL,lS,bY,gv,List.nil_append,↓reduceIte,Nat.reduceEqDiff,reduceCtorEq,cy,hb,hd]
    exact hQ _
end Go.Fx.YtbomoaajkinfpaaFx

