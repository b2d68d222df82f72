/- What the functions that the statement reaches compute: part 11. -/
import Derived.Test.YtenijlfcfmhmkaaFxW10
namespace Go.Fx.YtenijlfcfmhmkaaFx
open Go Go.Fx
attribute [local irreducible] aC runI ap br

set_option maxRecDepth 100000
set_option maxHeartbeats 8000000

/-- A call of the law's. -/
abbrev Ac:=Int×List UInt8
def acAV (a:Ac):AV:=.agg [.lit (.int .i64 a.1),.sl false 1 (BB a.2)]
def cN (l:List Ac):AV:=.sl false 2 (l.map acAV)

theorem reads_flip (x0 x4 x5 x6 x8:AV) (r:Nat) (own:AV) (L:List UInt8) (hL:L.length≤2000) (st:St) (hm:MB own st (BB L)) (Q:Exit→Sf→St→Prop)
    (hQ:∀ st',(st.boxes.length≤st'.boxes.length∧∀ id cs,st.get id = some cs→(∀ k o l c,own≠.bs id k o l c)→st'.get id = some cs)→Q (.exit 3) ⟨[(0,x0),(3,.ptr r 0),(4,x4),(5,x5),(6,x6),(8,x8)],[]⟩ st') :
    aC Go.Proofs.Try.prog id false f12_47 ⟨[(0,x0),(3,.ptr r 0),(4,x4),(5,x5),(6,x6),(7,own),(8,x8),(9,.lit (.int .i64 0))],[]⟩ st Q:=by
  rw [f12_47w]
  rcases hm with ⟨rfl,h0⟩ | ⟨q,c,e,rfl,hg,h1,h2⟩
  · refine dC 1 ?_
    simp (config:=KF) (disch:=omega) only [bZ,aV,bT,cA,lenI,cr,↓reduceIte,Nat.reduceEqDiff,Int.reduceLT,reduceCtorEq,bV]
    exact hQ st ⟨Nat.le_refl _,fun _ _ h _=>h⟩
  · rw [cd] at h1 ⊢
    refine loop_op (A:=Nat×List UInt8×St) (fun a=>L.length - a.1) (fun a=>⟨[(0,x0),(3,.ptr r 0),(4,x4),(5,x5),(6,x6),(7,.bs q 1 0 L.length c),(8,x8),(9,.lit (.int .i64 (a.1:Nat)))],[]⟩) (fun a=>a.2.2)
      (fun a=>a.1≤L.length∧a.2.1.length = L.length∧a.2.2.get q = some (BB a.2.1++e)∧a.2.2.boxes.length = st.boxes.length∧∀ id,id≠q→a.2.2.get id = st.get id) (0,L,st) ⟨by simp,rfl,hg,rfl,fun _ _=>rfl⟩ (Sf.le_refl _) rfl ?_
    rintro ⟨k,B,st2⟩ ⟨h1,h2,h3,h4,h5⟩ K hK hKe _
    simp only at h1 h2 h3 h4 h5
    by_cases hk:k < L.length
    · have hld:(BB B++e).drop k = .lit (.int .u8 (B.getD k 0).toNat)::(BB B++e).drop (k + 1):=by
        have hkb:k < B.length:=by omega
        rw [List.drop_eq_getElem_cons (by simp [cd]; omega)]
        congr 1
        simp [BB,List.getElem_append,hkb,bF,List.getD]
      simp (config:=KF) (disch:=omega) only [bZ,o_un,bX,ixSV,aD,lenI,af,unA,bQ,cr,eC,ai,↓reduceIte,Nat.reduceEqDiff,Int.reduceNeg,reduceCtorEq,dh,cB,Nat.mul_one,h3,hld]
      rw [w_u8]
      generalize UInt8.ofNat (BitVec.ofInt IntKind.u8.bits (if IntKind.u8.signed = true then -1 else IntKind.u8.max) ^^^ BitVec.ofInt IntKind.u8.bits ((B.getD k 0).toNat:Int)).toNat = z
      refine hK (k + 1,B.set k z,st2.set q ((BB B++e).set k (.lit (.int .u8 z.toNat)))) _ ⟨by simp only; omega,by simpa using h2,?_,by simp only [m4]; exact h4,fun id hid=>by simp only; rw [ea (fun e=>hid e.symm)]; exact h5 id hid⟩ (by simp only; omega) (Sf.le_refl _)
      simp only
      rw [bE (cv h3),← BB_set,List.set_append_left _ _ (by rw [cd]; omega)]
    · simp (config:=KF) (disch:=omega) only [bZ,aV,bT,lenI,cr,eC,↓reduceIte,Nat.reduceEqDiff,reduceCtorEq,bU]
      exact hKe _ _ _ (hQ st2 ⟨by omega,fun id cs hc hne=>by
        rw [h5 id (fun e=>hne 1 0 L.length c (by rw [e,cd]))]; exact hc⟩)
end Go.Fx.YtenijlfcfmhmkaaFx

