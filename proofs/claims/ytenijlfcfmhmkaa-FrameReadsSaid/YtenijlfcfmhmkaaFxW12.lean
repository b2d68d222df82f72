/- What the functions that the statement reaches compute: part 12. -/
import Derived.Test.YtenijlfcfmhmkaaFxW11
namespace Go.Fx.YtenijlfcfmhmkaaFx
open Go Go.Fx
attribute [local irreducible] aC runI ap br

set_option maxRecDepth 100000
set_option maxHeartbeats 8000000

theorem Rd.lt {st:St} {r:Nat} {L:List UInt8} {e:Nat} (h:Rd st r L e):r < st.boxes.length:=by
  obtain ⟨_,_,h⟩:=h; exact cv h
theorem Rd.of {st st':St} {r:Nat} {L:List UInt8} {e:Nat} (h:Rd st r L e) (hs:st'.get r = st.get r):Rd st' r L e:=by
  obtain ⟨rb,h1,h2⟩:=h; exact ⟨rb,h1,hs.trans h2⟩

/-- The law's frame behind the checks. -/
def rSf2 (l:List Ac) (r:Nat) (w:AV) (e i:Nat):Sf:=⟨[(0,cN l),(3,.ptr r 0),(4,w),(5,.lit (.int .i64 (e:Nat))),(6,.lit (.int .i64 (i:Nat))),(137,.lit (.bool false))],[]⟩

/-- The checks after each call. -/
theorem f7 {l:List Ac} {i r:Nat} {w:AV} {L:List UInt8} {e:Nat} {st:St} {X:List (Nat×AV)} (hX:X = []∨X = [(80,.lit (.bool false))]) (hw:Own1 w L) (hr:Rd st r L e) {K:Exit→Sf→St→Prop}
    (hK:K .normal (rSf2 l r w e i) st) :
    aC Go.Proofs.Try.prog id false f12_102 ⟨(0,cN l)::(3,.ptr r 0)::(4,w)::(5,.lit (.int .i64 (e:Nat)))::(6,.lit (.int .i64 (i:Nat)))::X,[]⟩ st K:=by
  have hp:=pending_any hr
  have he:=err_any hr
  have hbL:=cd L
  rcases hX with rfl | rfl <;> rcases hw with rfl | ⟨rfl,rfl⟩
  all_goals
    simp (config:=KF) (disch:=omega) only [bZ,bj,id,↓reduceIte,Nat.reduceEqDiff,reduceCtorEq,f12_102e,cN]
    refine eA rfl e_f39 hp rfl fun v st' hv=>?_
    obtain ⟨hv1,hv2⟩:=hv
    subst hv1 hv2
    simp (config:=KF) (disch:=omega) only [bZ,a9,AI.dst,di,bj,lenI,id,↓reduceIte,Nat.reduceEqDiff,reduceCtorEq,not_true_eq_false]
    refine eA rfl e_f44 he rfl fun v st' hv=>?_
    obtain ⟨hv1,hv2⟩:=hv
    subst hv1 hv2
    simp (config:=KF) (disch:=omega) only [bZ,a9,AI.dst,di,e9,fc,↓reduceIte,Nat.reduceEqDiff,reduceCtorEq,not_true_eq_false]
    exact hK
end Go.Fx.YtenijlfcfmhmkaaFx

