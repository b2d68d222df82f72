/- What the functions that the statement reaches compute: part 33. -/
import Derived.Test.YtbomoaajkinfpaaFxW32
namespace Go.Fx.YtbomoaajkinfpaaFx
open Go Go.Fx
attribute [local irreducible] aC runI ap aO

set_option maxRecDepth 100000
set_option maxHeartbeats 4000000

/-! A clone that is frozen. -/
theorem ints_dis (l:List Int):(ints l).map AV.dis = ints l:=by simp [ints,AV.dis]
def oIV (r:AV) (l:List Int):Prop:=r = .sl true 1 (ints l)∨r = .lit (.slice none 0 0)∧l = []
theorem clonef_pure {bv:AV} {st:St} {l:List Int} (h:MB bv st (ints l)) (hl:l.length≤100000):∃ r,oIV r l∧aG Go.Proofs.Try.prog n_f52 [bv] st r:=by
  have ll:=aq l
  rcases h with ⟨rfl,e⟩ | ⟨bi,cap,r,rfl,hg,h1,h2⟩
  · have hl0:l = []:=by cases l with | nil=>rfl | cons a l=>simp [ints] at e
    refine ⟨_,.inr ⟨rfl,hl0⟩,au hmix k_f1052 rfl rfl fun Q hQ=>?_⟩
    unfold aFun c_f1052
    simp (config:=KF) (disch:=omega) only [bZ,retI,cD,jW,o_x,aX,nilX_nil,di,ca,bE,↓reduceIte,Nat.reduceEqDiff,reduceCtorEq,f1052_1e,f1052_2l,f1052_3e,f1052_4e,f1052_5l,f1052_6e,f1052_7e,f1052_8l]
    exact hQ _
  · simp only [List.length_append,ll] at h1 h2 ⊢
    have hd:=ints_dis l
    have hb:cn st bi 1 0 l.length = .req true (.ok (ints l)):=by
      unfold cn
      rw [hg]
      simp only [Res.ofOpt,Res.bind,List.drop_zero]
      congr 1
      · exact decide_eq_true (by simp only [List.length_append,ll]; omega)
      · have key:∀ (l:List Int) (r:List AV),grp 1 l.length (ints l++r) = ints l:=fun l=>by
          induction l with
          | nil=>intro r; rfl
          | cons a l ih=>intro r; have:=ih r; simp only [ints,List.map_cons,List.length_cons,List.cons_append,grp] at this ⊢; simp [this]
        rw [key]
    refine ⟨_,.inl rfl,au hmix k_f1052 rfl rfl fun Q hQ=>?_⟩
    unfold aFun c_f1052
    simp (config:=KF) (disch:=omega) only [bZ,retI,cD,jW,cU,gF,o_x,bslV,il,aX,oZ,di,ca,bE,List.replicate_zero,dy,srcA,bP,l7,bN,f8,List.nil_append,↓reduceIte,Nat.reduceEqDiff,reduceCtorEq,cE,f1052_1e,f1052_2l,f1052_3e,f1052_4e,f1052_5l,f1052_6e,f1052_9e,f1052_10l,hb,hd,ll]
    exact hQ _

section
variable {st:St} {s mid n:Nat} {cv ov:AV} {L:List CL} {R:RS}
theorem swaitingP (h:SelR st s mid cv ov L R n):∃ r,oIV r (R.ws.map (·.1))∧aG Go.Proofs.Try.prog n_f26 [.ptr s 0] st r:=by
  have hg:=h.is.get
  obtain ⟨u1,u2,u3,u4,u5,u6,u7,u8⟩:=h.is.ord.facts
  have hfew:=h.few
  obtain ⟨r,hr,hp⟩:=clonef_pure h.is.ord (by rw [List.length_map]; omega)
  refine ⟨r,hr,au hmix k_f26 rfl rfl fun Q hQ=>?_⟩
  unfold aFun c_f26
  simp (config:=KF) (disch:=omega) only [bZ,id,↓reduceIte,reduceCtorEq,f26_1e,f26_2l,f26_3e,f26_4e,f26_5l]
  refine ao rfl e_f51 (da h.is) rfl ?_
  simp (config:=KF) (disch:=omega) only [bZ,ak,addA,aa,id,↓reduceIte,Nat.reduceEqDiff,reduceCtorEq,f26_6e,f26_9e,f26_10l,hg,u1]
  refine ao (vs:=[ov]) (by simp [u1]) e_f52 hp (by simp [u5]) ?_
  rcases hr with rfl | ⟨rfl,e⟩
  all_goals
    simp (config:=KF) (disch:=omega) only [bZ,retI,f8,↓reduceIte,Nat.reduceEqDiff,reduceCtorEq]
    exact hQ _
end

/-! Valid lists, in the reference's way. -/
end Go.Fx.YtbomoaajkinfpaaFx

