/- What the functions that the statement reaches compute: part 17. -/
import Derived.Test.YtddifejdkiemgaaFxW16
namespace Go.Fx.YtddifejdkiemgaaFx
open Go Go.Fx
attribute [local irreducible] aC runI dg ep

set_option maxRecDepth 100000
set_option maxHeartbeats 4000000

section
variable {st:St} {b q mid wid g:Nat} {sz nw:Int} {H:List Int} {V:List Vt}
theorem SmIs.sub (h:SmIs st b q mid wid sz nw H V g) {s:St} (hs:St.sub st s):SmIs s b q mid wid sz nw H V g:=by
  have hlt:=h.lts
  have key:∀ i cs,st.get i = some cs→s.boxes[i]? = st.boxes[i]?:=fun i cs hg=>by
    have hb:st.boxes[i]? = some (some (.cells cs)):=by
      unfold St.get at hg
      split at hg
      · rename_i hb; cases hg; exact hb
      · cases hg
    rw [hs i _ hb,hb]
  have keym:∀ i es,st.getM i = some es→s.boxes[i]? = st.boxes[i]?:=fun i es hg=>by
    unfold St.getM at hg
    split at hg
    · rename_i hb; rw [hs i _ hb,hb]
    · cases hg
  obtain ⟨W,h1,h2,m,hm,hl⟩:=h.qi
  obtain ⟨m2,hm2,_⟩:=h2.mp
  refine h.at fun i hi=>?_
  simp only [List.mem_cons,List.not_mem_nil,or_false] at hi
  rcases hi with rfl | rfl | rfl | rfl
  · exact key _ _ h.get
  · exact key _ _ h2.get
  · exact keym _ _ hm2.get
  · exact keym _ _ hm.get

theorem qj (h:SmIs st b q mid wid sz nw H V g) (s:St) (hs:St.sub st s) (_:st.boxes.length≤s.boxes.length):dt Go.Proofs.Try.prog n_f34 [.ptr b 0] s (Grow (.sl false 1 (ints (vtk V))) s) :=
  (io (h.sub hs)).mono fun r st' ⟨h1,h2,h3⟩=>⟨h1,St.sub_of h3,h2⟩

end

end Go.Fx.YtddifejdkiemgaaFx

