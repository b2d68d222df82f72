/- What the functions that the statement reaches compute: part 12. -/
import Derived.Test.YtbomoaajkinfpaaFxW11
namespace Go.Fx.YtbomoaajkinfpaaFx
open Go Go.Fx
attribute [local irreducible] aC runI aD aL

set_option maxRecDepth 100000
set_option maxHeartbeats 8000000

/-- A clone of a buffer: new boxes only. -/
theorem nO {bv:AV} {st:St} {l:List Int} (h:MB bv st (ints l)) (hl:l.length≤100000):aB Go.Proofs.Try.prog n_f52 [bv] st
    (fun r st'=>MB r st' (ints l)∧st.boxes.length≤st'.boxes.length∧(∀ i,i < st.boxes.length→st'.boxes[i]? = st.boxes[i]?)∧∀ x ∈ ae r,st.boxes.length≤x):=by
  have ll:=au l
  refine ar hmix k_f52 rfl rfl fun Q hQ=>?_
  unfold aFun c_f52
  have hh:=h
  rcases hh with ⟨rfl,e⟩ | ⟨bi,cap,r,rfl,hg,h1,h2⟩
  · simp (config:=KF) (disch:=omega) only [bZ,retI,db,nz,o_x,cD,nilX_nil,dy,cB,bG,↓reduceIte,Nat.reduceEqDiff,reduceCtorEq]
    exact hQ _ _ ⟨.inl ⟨rfl,e⟩,Nat.le_refl _,fun _ _=>rfl,by simp [ae]⟩
  · have hp:MB (.bs bi 1 0 (ints l).length cap) (st.push (.cells [])) (ints l):=h.at fun x hx=>cf (by
      simp only [ae,List.mem_singleton] at hx
      subst hx; exact bj hg)
    have hb:MB (.bs st.boxes.length 1 0 0 0) (st.push (.cells [])) []:=.inr ⟨st.boxes.length,0,[],rfl,cb st [],Nat.le_refl _,by omega⟩
    obtain ⟨r0,hr0,hr1⟩:=hp.src
    have hroom:dQ (([]:List AV).length + (ints l).length) 8 = true:=by
      unfold dQ; simp [ll]; omega
    have hfin:∀ v' st',MB v' st' ([]++ints l)→Kp (st.push (.cells [])) st' (ae (.bs st.boxes.length 1 0 0 0))→(∀ x ∈ ae v',x ∈ ae (.bs st.boxes.length 1 0 0 0)∨(st.push (.cells [])).boxes.length≤x)→Q v' st':=fun v' st' m1 m2 m3=>by
      refine hQ v' st' ⟨m1,by have:=m2.1; rw [bh] at this; omega,fun i hi=>?_,fun x hx=>?_⟩
      · rw [m2.2 i (by rw [bh]; omega) (by simp [ae]; omega)]
        exact cf hi
      · rcases m3 x hx with m | m
        · simp only [ae,List.mem_singleton] at m
          omega
        · rw [bh] at m; omega
    rw [ll] at hr0
    have hsrc:∀ K:List AV→Prop,K (ints l)→(c9 (st.push (.cells [])) bi 1 0 l.length).wp K:=fun K hK=>by
      have:=hr1 K hK
      rw [← hr0] at this
      exact this
    simp (config:=KF) (disch:=omega) only [bZ,db,nz,o_x,cD,nilX_bs,dy,cB,bG,List.replicate_zero,srcA,bM,↓reduceIte,Nat.reduceEqDiff,Int.reduceLE,Int.reduceMul,reduceCtorEq,ll,mksBX,List.flatMap_nil]
    refine hsrc _ ?_
    refine MB.grow hb (fun x hx=>by simp at hx) (dl l) hroom fun v' st' m1 m2 m3=>?_
    have hf:=hfin v' st' m1 m2 m3
    obtain ⟨w1,w2,w3,w4,w5,w6,w7,w8⟩:=m1.facts
    simp (config:=KF) (disch:=omega) only [bZ,retI,db,↓reduceIte,Nat.reduceEqDiff,reduceCtorEq,w1,w5]
    exact hf
/-! Ranges over maps. -/
section
variable {β:Type} {st:St} {id:Nat} {k:IntKind} {ev:β→AV} {m:List (Int×β)}

/-- What has not been visited. -/
def left (bs seen:List Nat):Nat:=(bs.filter fun b=>!seen.contains b).length
end

theorem jl {β:Type} {t:Int} {b:β}:∀ {m:List (Int×β)},(az m).Nodup→(t,b) ∈ m→aj t m = some b
  | (k, c) :: r, hn, hm => by
    simp only [az,List.map_cons,List.nodup_cons] at hn
    simp only [aj]
    rcases List.mem_cons.1 hm with e | hm
    · cases e; simp
    · have:t≠k:=fun e=>hn.1 (e ▸ List.mem_map.2 ⟨(t,b),hm,rfl⟩)
      rw [if_neg this]; exact jl hn.2 hm
theorem gk {β:Type} {t:Int} {b:β}:∀ {m:List (Int×β)},aj t m = some b→(t,b) ∈ m
  | (k, c) :: r, h => by
    simp only [aj] at h
    split at h
    · rename_i e; subst e; cases h; simp
    · exact List.mem_cons_of_mem _ (gk h)

/-! Copies. -/
structure Cpd {B:Type} (m M:List (Int×B)) (bs seen:List Nat):Prop where
  le:∀ c v,aj c M = some v→aj c m = some v
  has:∀ (i:Nat) (hi:i < m.length) (b:Nat),bs[i]? = some b→b ∈ seen→aj m[i].1 M = some m[i].2
theorem Cpd.nil {B:Type} (m:List (Int×B)) (bs:List Nat):Cpd m [] bs []:=⟨fun c v h=>by simp [aj] at h,fun i hi b _ h=>by simp at h⟩
theorem Cpd.all {B:Type} {m M:List (Int×B)} {bs seen:List Nat} (h:Cpd m M bs seen) (hn:(az m).Nodup) (hl:bs.length = m.length) (ha:∀ b ∈ bs,b ∈ seen) (c:Int):aj c M = aj c m:=by
  cases hm:aj c m with
  | none =>
    cases hM:aj c M with
    | none=>rfl
    | some v=>have:=h.le c v hM; rw [hm] at this; cases this
  | some v =>
    obtain ⟨i,hi,e⟩:=List.getElem_of_mem (gk hm)
    have hb:bs[i]? = some bs[i]:=List.getElem?_eq_getElem (by omega)
    have:=h.has i hi _ hb (ha _ (List.getElem_mem (by omega)))
    rw [e] at this
    exact this

section
variable {st:St} {c q0 m0 q1 m1 wid:Nat} {bv:AV} {P:ChP}
end
end Go.Fx.YtbomoaajkinfpaaFx

