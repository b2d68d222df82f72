/- What the functions that the statement reaches compute: part 45. -/
import Derived.Test.YtbdjfccgkdgbfaaFxW44
namespace Go.Fx.YtbdjfccgkdgbfaaFx
open Go Go.Fx
attribute [local irreducible] aC runI az aA

set_option maxRecDepth 100000
set_option maxHeartbeats 4000000

/-! The law's plays: what all calls do; bytes that are wiped. -/
def pAll (R:HR) (l:List Act):HR:=l.foldl (fun R a=>(rDo a.w a.t a.p a.n a.o a.d R).1) R
theorem rDo_len (w t p k o:Int) (d:List UInt8) (R:HR):(rDo w t p k o d R).2.items.length≤R.ws.length:=by
  unfold rDo
  split
  · exact Nat.zero_le _
  split
  · exact Nat.zero_le _
  split
  · exact Nat.zero_le _
  split
  · exact pe k R
  split
  · unfold cm
    split
    · exact Nat.zero_le _
    · exact lQ _ _ _
  · unfold bA
    split
    · exact Nat.zero_le _
    · rcases lV t R.ws 0 with ⟨p1,_⟩ | ⟨i,hi,p1,_⟩
      · rw [p1]; exact Nat.zero_le _
      · rw [p1]
        have:=ql hi
        have:=lQ R.ws[i].2.1 (wo R.ws i).length ⟨R.subs,wo R.ws i⟩
        simp only
        omega

/-- A byte of a box. -/
def ByB (cs:List AV) (m:Nat):Prop:=m≤cs.length∧∀ j,j < m→∃ z:Int,cs[j]? = some (.lit (.int .u8 z))
theorem ByB.bb (p:List UInt8) (r:List AV):ByB (BB p++r) p.length:=by
  refine ⟨by rw [List.length_append,aJ]; omega,fun j hj=>⟨((p[j]).toNat:Int),?_⟩⟩
  rw [List.getElem?_append_left (by rw [aJ]; exact hj)]
  simp [BB,hj,bY]
theorem ByB.set {cs:List AV} {m j:Nat} (h:ByB cs m) (z:Int):ByB (cs.set j (.lit (.int .u8 z))) m:=by
  refine ⟨by rw [List.length_set]; exact h.1,fun i hi=>?_⟩
  rw [List.getElem?_set]
  by_cases e:j = i
  · subst e
    rw [if_pos rfl,if_pos (Nat.lt_of_lt_of_le hi h.1)]
    exact ⟨z,rfl⟩
  · rw [if_neg e]; exact h.2 i hi
theorem ByB.drop {cs:List AV} {m j:Nat} (h:ByB cs m) (hj:j < m):∃ (z:Int) (r:List AV),cs.drop j = .lit (.int .u8 z)::r:=by
  obtain ⟨z,hz⟩:=h.2 j hj
  obtain ⟨h1,h2⟩:=List.getElem?_eq_some_iff.1 hz
  exact ⟨z,cs.drop (j + 1),by rw [List.drop_eq_getElem_cons h1,h2]⟩
def WB (v:AV) (st:St) (m:Nat):Prop:=m = 0∨∃ bx cap cs,v = .bs bx 1 0 m cap∧st.get bx = some cs∧ByB cs m
theorem WB.of {v:AV} {st:St} {p:List UInt8} (h:MB v st (BB p)):WB v st p.length:=by
  rcases h with ⟨_,e⟩ | ⟨bx,cap,r,e,hg,_,_⟩
  · left
    have:=congrArg List.length e
    rw [aJ] at this
    simpa using this
  · rw [aJ] at e
    exact .inr ⟨bx,cap,_,e,hg,ByB.bb p r⟩

theorem wipe1 {v:AV} {s0:St} {p:List UInt8} (hp:p.length≤100000) (hv:MB v s0 (BB p)) {w t q n o:Int} {h i:Nat} {acts:List AV} {z4 z6 z10 z11 z12:List AV} {K:Exit→Sf→St→Prop}
    (hK:∀ s',Kp s0 s' (ap v)→K (.exit 2) ⟨[(0,.ptr h 0),(2,.sl false 6 acts),(4,.lptr 4 0),(6,.lptr 6 0),(8,.lit (.int .i64 (i:Nat))),(10,.lptr 10 0),(11,.lptr 11 0),(12,.lptr 12 0)],[(4,z4),(6,z6),(10,z10),(11,z11),(12,z12)]⟩ s') :
    aC Go.Proofs.Try.prog id false f18_26 ⟨[(0,.ptr h 0),(2,.sl false 6 acts),(4,.lptr 4 0),(6,.lptr 6 0),(8,.lit (.int .i64 (i:Nat))),(9,.lptr 9 0),(10,.lptr 10 0),(11,.lptr 11 0),(12,.lptr 12 0),(13,.lit (.int .i64 0))],[(4,z4),(6,z6),(9,[.lit (.int .i64 w),.lit (.int .i64 t),.lit (.int .i64 q),.lit (.int .i64 n),.lit (.int .i64 o),v]),(10,z10),(11,z11),(12,z12)]⟩ s0 K:=by
  obtain ⟨v1,v2,v3,v4,v5,v6,v7,v8⟩:=hv.facts
  have hwb:=WB.of hv
  rw [aJ] at v8
  rw [f18_26w]
  refine bf (A:=Nat×St) (fun a=>p.length - a.1) (fun a=>⟨[(0,.ptr h 0),(2,.sl false 6 acts),(4,.lptr 4 0),(6,.lptr 6 0),(8,.lit (.int .i64 (i:Nat))),(9,.lptr 9 0),(10,.lptr 10 0),(11,.lptr 11 0),(12,.lptr 12 0),(13,.lit (.int .i64 (a.1:Nat)))],[(4,z4),(6,z6),(9,[.lit (.int .i64 w),.lit (.int .i64 t),.lit (.int .i64 q),.lit (.int .i64 n),.lit (.int .i64 o),v]),(10,z10),(11,z11),(12,z12)]⟩) (fun a=>a.2)
    (fun a=>a.1≤p.length∧Kp s0 a.2 (ap v)∧WB v a.2 p.length) (0,s0) ⟨Nat.zero_le _,Kp.refl _ _,hwb⟩ (Sf.le_refl _) rfl ?_
  rintro ⟨k,s⟩ ⟨h1,h2,h3⟩ K2 hK2 hKe hKr
  simp only at h1 h2 h3
  try dsimp only
  by_cases hk:k < p.length
  · rcases h3 with e | ⟨bx,cap,cs,e,hg,hl⟩
    · omega
    obtain ⟨z,r,hd⟩:=hl.drop hk
    have hcl:=hl.1
    have hnx:=fun (z:Int) (sf:Sf)=>hK2 (k + 1,s.set bx (cs.set k (.lit (.int .u8 z)))) sf ⟨by simp only; omega,h2.trans ⟨by rw [eN]; exact Nat.le_refl _,fun x hx hn=>bT fun q=>hn (by rw [e,q]; simp [ap])⟩ fun _ hx=>.inl hx,.inr ⟨bx,cap,_,e,aF (bh hg),hl.set z⟩⟩ (by simp only; omega)
    subst e
    simp (config:=KF) (disch:=omega) only [bZ,ixSV,ah,lenI,addA,aa,↓reduceIte,Nat.reduceEqDiff,reduceCtorEq,af,ae,hg,hd]
    exact hnx _ _ (Sf.le_refl _)
  · simp (config:=KF) (disch:=omega) only [bZ,addA,aa,↓reduceIte,Nat.reduceEqDiff,reduceCtorEq,v1,v8]
    exact hKe _ _ _ (hK s h2)

theorem wipe2 {v:AV} {s0:St} {p:List UInt8} (hp:p.length≤100000) (hv:MB v s0 (BB p)) {n e:Int} {b:Bool} {its:AV} {h i:Nat} {acts:List AV} {z4 z6 z10:List AV} {K:Exit→Sf→St→Prop}
    (hK:∀ s',Kp s0 s' (ap v)→K (.exit 4) ⟨[(0,.ptr h 0),(2,.sl false 6 acts),(4,.lptr 4 0),(6,.lptr 6 0),(8,.lit (.int .i64 (i:Nat))),(10,.lptr 10 0)],[(4,z4),(6,z6),(10,z10)]⟩ s') :
    aC Go.Proofs.Try.prog id false f18_45 ⟨[(0,.ptr h 0),(2,.sl false 6 acts),(4,.lptr 4 0),(6,.lptr 6 0),(8,.lit (.int .i64 (i:Nat))),(10,.lptr 10 0),(12,.lptr 12 0),(14,.lit (.int .i64 0))],[(4,z4),(6,z6),(10,z10),(12,[.lit (.int .i64 n),.lit (.bool b),v,its,.lit (.int .i64 e)])]⟩ s0 K:=by
  obtain ⟨v1,v2,v3,v4,v5,v6,v7,v8⟩:=hv.facts
  have hwb:=WB.of hv
  rw [aJ] at v8
  rw [f18_45w]
  refine bf (A:=Nat×St) (fun a=>p.length - a.1) (fun a=>⟨[(0,.ptr h 0),(2,.sl false 6 acts),(4,.lptr 4 0),(6,.lptr 6 0),(8,.lit (.int .i64 (i:Nat))),(10,.lptr 10 0),(12,.lptr 12 0),(14,.lit (.int .i64 (a.1:Nat)))],[(4,z4),(6,z6),(10,z10),(12,[.lit (.int .i64 n),.lit (.bool b),v,its,.lit (.int .i64 e)])]⟩) (fun a=>a.2)
    (fun a=>a.1≤p.length∧Kp s0 a.2 (ap v)∧WB v a.2 p.length) (0,s0) ⟨Nat.zero_le _,Kp.refl _ _,hwb⟩ (Sf.le_refl _) rfl ?_
  rintro ⟨k,s⟩ ⟨h1,h2,h3⟩ K2 hK2 hKe hKr
  simp only at h1 h2 h3
  try dsimp only
  by_cases hk:k < p.length
  · rcases h3 with e | ⟨bx,cap,cs,e,hg,hl⟩
    · omega
    obtain ⟨z,r,hd⟩:=hl.drop hk
    have hcl:=hl.1
    have hnx:=fun (z:Int) (sf:Sf)=>hK2 (k + 1,s.set bx (cs.set k (.lit (.int .u8 z)))) sf ⟨by simp only; omega,h2.trans ⟨by rw [eN]; exact Nat.le_refl _,fun x hx hn=>bT fun q=>hn (by rw [e,q]; simp [ap])⟩ fun _ hx=>.inl hx,.inr ⟨bx,cap,_,e,aF (bh hg),hl.set z⟩⟩ (by simp only; omega)
    subst e
    simp (config:=KF) (disch:=omega) only [bZ,ixSV,ah,lenI,addA,aa,↓reduceIte,Nat.reduceEqDiff,reduceCtorEq,af,ae,hg,hd]
    exact hnx _ _ (Sf.le_refl _)
  · simp (config:=KF) (disch:=omega) only [bZ,addA,aa,↓reduceIte,Nat.reduceEqDiff,reduceCtorEq,v1,v8]
    exact hKe _ _ _ (hK s h2)
end Go.Fx.YtbdjfccgkdgbfaaFx

