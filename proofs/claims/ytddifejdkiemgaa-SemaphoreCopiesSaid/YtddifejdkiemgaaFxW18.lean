/- What the functions that the statement reaches compute: part 18. -/
import Derived.Test.YtddifejdkiemgaaFxW17
namespace Go.Fx.YtddifejdkiemgaaFx
open Go Go.Fx
attribute [local irreducible] aC runI a9 cd

set_option maxRecDepth 100000
set_option maxHeartbeats 8000000

/-- Those that were served. -/
def srvd (l:List Gt):List Int:=(l.filter fun x=>x.2 = 0).map fun x=>x.1
theorem srvd_app (a b:List Gt):srvd (a++b) = srvd a++srvd b:=by simp [srvd]
theorem jC (sz:Int):∀ (V:List Vt) (H:List Int),vtk V = srvd (aP sz H V).2.2++vtk (aP sz H V).2.1
  | [],H=>rfl
  | v :: V, H => by
    unfold aP
    split
    · rfl
    · have:=jC sz V (addH H v.1 v.2.1)
      simp only [srvd,List.filter_cons,decide_true,if_true,List.map_cons,List.cons_append] at this ⊢
      rw [← this]; rfl
theorem srvd_exp (d:Int) (V:List Vt):srvd (expD d V) = []:=by
  unfold srvd expD
  rw [List.map_eq_nil_iff,List.filter_eq_nil_iff]
  intro x hx
  obtain ⟨v,_,rfl⟩:=List.mem_map.1 hx
  simp
theorem vtk_sub {A B:List Vt} (h:A.Sublist B):(vtk A).Sublist (vtk B):=h.map _
theorem srvd_adv (sz to:Int):∀ (k:Nat) (H:List Int) (V:List Vt),(srvd (advV sz to k H V).2.2).Sublist (vtk V)
  | 0,H,V=>by simp [advV,srvd]
  | k + 1, H, V => by
    unfold advV
    split
    · simp [srvd]
    · simp only [srvd_app,srvd_exp,List.nil_append]
      have h1:=jC sz (bV (bf V) V) H
      have h2:=srvd_adv sz to k (aP sz H (bV (bf V) V)).1 (aP sz H (bV (bf V) V)).2.1
      have h3:(vtk (bV (bf V) V)).Sublist (vtk V):=vtk_sub List.filter_sublist
      refine List.Sublist.trans ?_ h3
      rw [h1]
      exact List.Sublist.append (List.Sublist.refl _) h2
theorem srvd_pre (sz:Int) (H:List Int) (V:List Vt):(srvd (aP sz H V).2.2).Sublist (vtk V):=by
  rw [jC sz V H]; exact List.sublist_append_left _ _
theorem adv_len (sz to:Int) (hto:to < nev):∀ (k:Nat) (H:List Int) (V:List Vt),(advV sz to k H V).2.1.length + (advV sz to k H V).2.2.length = V.length
  | 0,H,V=>by simp [advV]
  | k + 1, H, V => by
    unfold advV
    split
    · simp
    · rename_i hc
      have h1:=eN sz (bV (bf V) V) H
      have h2:=adv_len sz to hto k (aP sz H (bV (bf V) V)).1 (aP sz H (bV (bf V) V)).2.1
      have h3:=(mV hto hc).1
      simp only [List.length_append]; omega

abbrev St5:=Int×Int×Int×Int
section
variable {st:St} {b q mid wid g:Nat} {sz nw:Int} {H:List Int} {V:List Vt}

end
end Go.Fx.YtddifejdkiemgaaFx

