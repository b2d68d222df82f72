/- What the functions that the statement reaches compute: part 20. -/
import Derived.Test.YtddifejdkiemgaaFxW19
namespace Go.Fx.YtddifejdkiemgaaFx
open Go Go.Fx
attribute [local irreducible] aC runI a9 cd

set_option maxRecDepth 100000
set_option maxHeartbeats 8000000

def saAV (a:St5):AV:=.agg [.lit (.int .i64 a.1),.lit (.int .i64 a.2.1),.lit (.int .i64 a.2.2.1),.lit (.int .u64 a.2.2.2)]
def ssAV (l:List St5):AV:=.sl false 4 (l.map saAV)

theorem sRel_facts (sz:Int) (H:List Int) (V:List Vt) (t n:Int):(srvd (sRel sz H V t n).2.2.1).Sublist (vtk V)∧(sRel sz H V t n).2.2.1.length≤V.length:=by
  unfold sRel
  simp only
  split
  · exact ⟨by simp [srvd],by simp⟩
  split
  · exact ⟨by simp [srvd],by simp⟩
  · have:=eN sz V (addH H t (0 - n))
    exact ⟨srvd_pre _ _ _,by simp only; omega⟩
theorem sCan_facts (sz:Int) (H:List Int) (V:List Vt) (t:Int):(srvd (sCan sz H V t).2.2.1).Sublist (vtk V)∧(sCan sz H V t).2.2.1.length≤V.length:=by
  unfold sCan
  split
  · exact ⟨by simp [srvd],by simp⟩
  split
  · exact ⟨by simp [srvd],by simp⟩
  · have:=eN sz (dS V t) H
    have h2:(dS V t).length≤V.length:=List.length_filter_le _ _
    exact ⟨(srvd_pre _ _ _).trans (vtk_sub List.filter_sublist),by simp only; omega⟩
theorem sAdv_facts (sz nw:Int) (H:List Int) (V:List Vt) (to:Int) (hto:to≤nev):(srvd (sAdv sz nw H V to).1.2.2.1).Sublist (vtk V)∧(sAdv sz nw H V to).1.2.2.1.length≤V.length:=by
  unfold sAdv
  split
  · exact ⟨by simp [srvd],by simp⟩
  · rename_i hc
    have:=adv_len sz to (by omega) (V.length + 1) H V
    exact ⟨srvd_adv _ _ _ _ _,by simp only; omega⟩
theorem sAcq_facts (sz nw:Int) (H:List Int) (V:List Vt) (g:Nat) (t n d:Int):((sAcq sz nw H V g t n d).1.2.1 = V∨(sAcq sz nw H V g t n d).1.2.1 = V++[(t,n,d)])∧(sAcq sz nw H V g t n d).1.2.2≤g + 1:=by
  unfold sAcq
  simp only
  split
  · exact ⟨.inl rfl,by simp⟩
  split
  · exact ⟨.inl rfl,by simp⟩
  split
  · exact ⟨.inl rfl,by simp⟩
  split
  · exact ⟨.inl rfl,by simp⟩
  · exact ⟨.inr rfl,by simp⟩

theorem ss_lit (l:List (Int×Int×Int×Int×Unit)):AV.sl false 4 (l.map fun x=>.agg [.lit (.int .i64 x.1),.lit (.int .i64 x.2.1),.lit (.int .i64 x.2.2.1),.lit (.int .u64 x.2.2.2.1)]) = ssAV (l.map fun x=>(x.1,x.2.1,x.2.2.1,x.2.2.2.1)):=by
  simp only [ssAV,List.map_map]; rfl
end Go.Fx.YtddifejdkiemgaaFx

