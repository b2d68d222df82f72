/- What the functions that the statement reaches compute: part 30. -/
import Derived.Test.YtbdjfccgkdgbfaaFxW29
namespace Go.Fx.YtbdjfccgkdgbfaaFx
open Go Go.Fx
attribute [local irreducible] aC runI az ar

set_option maxRecDepth 100000
set_option maxHeartbeats 4000000

/-! A hub looks like the reference's. -/
section
variable {st:St} {h wid n:Nat} {R:HR} {F:List Nat}
theorem gT (hh:HubR st h wid n R F) (hn:n < 900000):aB Go.Proofs.Try.prog n_f17 [.ptr h 0,rV R] st (.lit (.bool true)):=by
 have hrk:=hh.rok
 have hsl:=hrk.ok.len
 have hwl:=hrk.wl
 obtain ⟨w1,w2,w3,w4,w5,w6,w7,w8⟩:=aw R.ws
 have hes:=Es.canon R.subs
 have hel:=hes.1
 unfold rV
 generalize R.subs.map sbC = es at hes hel
 have hdis:(AV.agg [.sl false 6 es,wsV R.ws]).dis = .agg [.sl false 6 es,wsV R.ws]:=by simp [w2,aH,bN]
 have hnl:(AV.agg [.sl false 6 es,wsV R.ws]).noL = true:=by simp [w5,aI,ci]
 refine aF hmix k_f17 rfl rfl fun Q hQ=>?_
 unfold aFun c_f17
 simp (config:=KF) (disch:=omega) only [bZ,bA,↓reduceIte,Nat.reduceEqDiff,Nat.reduceAdd,Int.reduceNeg,reduceCtorEq,w2,w4]
 rw [f17_7w]
 refine a8 (A:=Int) (fun i=>(65 - i).toNat) (fun i=>⟨[(0,.ptr h 0),(3,.lptr 3 0),(5,.lit (.int .i64 i))],[(3,[.sl false 6 es,wsV R.ws])]⟩) (fun _=>st)
  (fun i=>-1≤i∧i≤65) (-1) ⟨by omega,by omega⟩ (Sf.le_refl _) rfl ?_
 rintro i ⟨i1,i2⟩ K hK hKe hKr
 by_cases h3:i≤64
 ·have hat:=mF (ws:=R.ws) hes hsl i st
  have hfin:=hK (i + 1) ⟨[(0,.ptr h 0),(3,.lptr 3 0),(5,.lit (.int .i64 (i + 1)))],[(3,[.sl false 6 es,wsV R.ws])]⟩ ⟨by omega,by omega⟩ (by omega) (Sf.le_refl _)
  have hle:=len_pure hh i
  have hlo:=pz hh i
  simp (config:=KF) (disch:=omega) only [bZ,ae,iA,id,↓reduceIte,Nat.reduceEqDiff,Nat.reduceAdd,Nat.reduceLeDiff,reduceCtorEq,w2]
  refine ak (vs:=[.agg [.sl false 6 es,wsV R.ws],.lit (.int .i64 i)]) (by simp [hdis,aL]) e_f35 hat (by simp [hnl,aD]) ?_
  rcases ob i R.subs 0 with ⟨p1,p2⟩ | ⟨k,hk,p1,_,_,p2⟩
  ·rw [show ((0:Nat):Int) = 0 from rfl] at p2
   rw [p2]
   have e1:lenR i R = 0:=by unfold lenR; rw [p1]
   have e2:iI i R = 0:=by unfold iI; rw [p1]
   rw [e1] at hle
   rw [e2] at hlo
   simp (config:=KF) (disch:=omega) only [bZ,dt,id,↓reduceIte,Nat.reduceEqDiff,Int.reduceNeg,reduceCtorEq]
   refine ak rfl e_f15 hle rfl ?_
   simp (config:=KF) (disch:=omega) only [bZ,AI.dst,id,↓reduceIte,Nat.reduceEqDiff,Int.reduceNeg,reduceCtorEq,not_true_eq_false]
   refine ak rfl e_f14 hlo rfl ?_
   simp (config:=KF) (disch:=omega) only [bZ,AI.dst,↓reduceIte,Nat.reduceEqDiff,Int.reduceNeg,reduceCtorEq,not_true_eq_false]
   exact hfin
  ·rw [show ((0:Nat):Int) = 0 from rfl,Nat.zero_add] at p2
   rw [p2]
   obtain ⟨rv,hrv,hg⟩:=hes.at hk
   have e1:lenR i R = R.subs[k].msgs.length:=by unfold lenR; rw [p1]
   have e2:iI i R = R.subs[k].lost:=by unfold iI; rw [p1]
   have hkl:k < es.length:=by omega
   rw [e1] at hle
   rw [e2] at hlo
   unfold sbV at hg
   obtain ⟨r1,r2,r3,r4,r5,r6,r7,r8⟩:=hrv.facts
   generalize R.subs[k] = S at hg hle hlo r8
   simp (config:=KF) (disch:=omega) only [bZ,jP,nT,ixSV,addA,ae,dt,id,↓reduceIte,Nat.reduceEqDiff,reduceCtorEq,hg,r1,r8]
   refine ak rfl e_f15 hle rfl ?_
   simp (config:=KF) (disch:=omega) only [bZ,AI.dst,id,↓reduceIte,Nat.reduceEqDiff,reduceCtorEq,not_true_eq_false]
   refine ak rfl e_f14 hlo rfl ?_
   simp (config:=KF) (disch:=omega) only [bZ,AI.dst,↓reduceIte,Nat.reduceEqDiff,reduceCtorEq,not_true_eq_false]
   exact hfin
 ·obtain rfl:i = 65:=by omega
  clear hK
  simp (config:=KF) (disch:=omega) only [bZ,iA,↓reduceIte,Nat.reduceEqDiff,Int.reduceLE,reduceCtorEq]
  refine hKe _ _ _ ?_
  clear hKe hKr
  simp (config:=KF) (disch:=omega) only [bZ,↓reduceIte,Nat.reduceEqDiff,Int.reduceNeg,reduceCtorEq]
  rw [f17_33w]
  refine a8 (A:=Int) (fun i=>(17 - i).toNat) (fun i=>⟨[(0,.ptr h 0),(3,.lptr 3 0),(9,.lit (.int .i64 i))],[(3,[.sl false 6 es,wsV R.ws])]⟩) (fun _=>st)
   (fun i=>-1≤i∧i≤17) (-1) ⟨by omega,by omega⟩ (Sf.le_refl _) rfl ?_
  rintro i ⟨j1,j2⟩ K hK hKe hKr
  by_cases h3:i≤16
  ·have hfin:=hK (i + 1) ⟨[(0,.ptr h 0),(3,.lptr 3 0),(9,.lit (.int .i64 (i + 1)))],[(3,[.sl false 6 es,wsV R.ws])]⟩ ⟨by omega,by omega⟩ (by omega) (Sf.le_refl _)
   have hwa:=qB hh i
   have hsu:=lz hh i
   have hrw:=oH (es:=es) (ws:=R.ws) (by omega) (by omega) i st
   have hrs:=rSubs_pure (ws:=R.ws) hes hsl i st
   have hnl2:=qK i R.subs
   have hsi:=oI (numR i R.subs) (numR i R.subs) (by omega) st
   rw [decide_eq_true rfl] at hsi
   obtain ⟨y1,y2,y3,y4⟩:=jT (numR i R.subs)
   simp (config:=KF) (disch:=omega) only [bZ,dH,iA,id,↓reduceIte,Nat.reduceEqDiff,reduceCtorEq]
   refine eN rfl e_f21 hwa rfl ?_
   simp (config:=KF) (disch:=omega) only [bZ,dH,cx,ae,id,↓reduceIte,Nat.reduceEqDiff,Nat.reduceAdd,Nat.reduceLeDiff,reduceCtorEq,w2]
   refine eN (vs:=[.agg [.sl false 6 es,wsV R.ws],.lit (.int .i64 i)]) (by simp [hdis,aL]) e_f36 hrw (by simp [hnl,aD]) ?_
   simp (config:=KF) (disch:=omega) only [bZ,dz,dH,dc,cx,AI.dst,id,↓reduceIte,Nat.reduceEqDiff,reduceCtorEq,not_true_eq_false]
   refine eN rfl e_f22 hsu rfl ?_
   simp (config:=KF) (disch:=omega) only [bZ,dz,dc,cx,AI.dst,ae,id,↓reduceIte,Nat.reduceEqDiff,Nat.reduceAdd,Nat.reduceLeDiff,reduceCtorEq,w2]
   refine ak (vs:=[.agg [.sl false 6 es,wsV R.ws],.lit (.int .i64 i)]) (by simp [hdis,aL]) e_f38 hrs (by simp [hnl,aD]) ?_
   simp (config:=KF) (disch:=omega) only [bZ,AI.dst,id,↓reduceIte,Nat.reduceEqDiff,reduceCtorEq]
   refine ak (vs:=[cy (numR i R.subs),cy (numR i R.subs)]) (by simp [y1]) e_f37 hsi (by simp [y4]) ?_
   simp (config:=KF) (disch:=omega) only [bZ,AI.dst,unA,↓reduceIte,Nat.reduceEqDiff,reduceCtorEq]
   exact hfin
  ·obtain rfl:i = 17:=by omega
   simp (config:=KF) (disch:=omega) only [bZ,iA,↓reduceIte,Nat.reduceEqDiff,Int.reduceLE,reduceCtorEq]
   refine hKe _ _ _ ?_
   simp (config:=KF) (disch:=omega) only [bZ,retI,↓reduceIte]
   exact hQ _
end
end Go.Fx.YtbdjfccgkdgbfaaFx

namespace Go.Fx.YtbdjfccgkdgbfaaFx
open Go Go.Fx
attribute [local irreducible] aC runI az ar

set_option maxRecDepth 100000
set_option maxHeartbeats 4000000

/-! The law's plays: what all calls do; bytes that are wiped. -/
def pAll (R:HR) (l:List Act):HR:=l.foldl (fun R a=>(rDo a.w a.t a.p a.n a.o a.d R).1) R
theorem rDo_len (w t p k o:Int) (d:List UInt8) (R:HR):(rDo w t p k o d R).2.items.length≤R.ws.length:=by
 unfold rDo
 split
 ·exact Nat.zero_le _
 split
 ·exact Nat.zero_le _
 split
 ·exact Nat.zero_le _
 split
 ·exact pA k R
 split
 ·unfold cC
  split
  ·exact Nat.zero_le _
  ·exact mC _ _ _
 ·unfold bI
  split
  ·exact Nat.zero_le _
  ·rcases mH t R.ws 0 with ⟨p1,_⟩ | ⟨i,hi,p1,_⟩
   ·rw [p1]; exact Nat.zero_le _
   ·rw [p1]
    have:=qI hi
    have:=mC R.ws[i].2.1 (wo R.ws i).length ⟨R.subs,wo R.ws i⟩
    simp only
    omega

/-- A byte of a box. -/
def ByB (cs:List AV) (m:Nat):Prop:=m≤cs.length∧∀ j,j < m→∃ z:Int,cs[j]? = some (.lit (.int .u8 z))
theorem ByB.bb (p:List UInt8) (r:List AV):ByB (BB p++r) p.length:=by
 refine ⟨by rw [List.length_append,aO]; omega,fun j hj=>⟨((p[j]).toNat:Int),?_⟩⟩
 rw [List.getElem?_append_left (by rw [aO]; exact hj)]
 simp [BB,hj,dx]
theorem ByB.set {cs:List AV} {m j:Nat} (h:ByB cs m) (z:Int):ByB (cs.set j (.lit (.int .u8 z))) m:=by
 refine ⟨by rw [List.length_set]; exact h.1,fun i hi=>?_⟩
 rw [List.getElem?_set]
 by_cases e:j = i
 ·subst e
  rw [if_pos rfl,if_pos (Nat.lt_of_lt_of_le hi h.1)]
  exact ⟨z,rfl⟩
 ·rw [if_neg e]; exact h.2 i hi
theorem ByB.drop {cs:List AV} {m j:Nat} (h:ByB cs m) (hj:j < m):∃ (z:Int) (r:List AV),cs.drop j = .lit (.int .u8 z)::r:=by
 obtain ⟨z,hz⟩:=h.2 j hj
 obtain ⟨h1,h2⟩:=List.getElem?_eq_some_iff.1 hz
 exact ⟨z,cs.drop (j + 1),by rw [List.drop_eq_getElem_cons h1,h2]⟩
def WB (v:AV) (st:St) (m:Nat):Prop:=m = 0∨∃ bx cap cs,v = .bs bx 1 0 m cap∧st.get bx = some cs∧ByB cs m
theorem WB.of {v:AV} {st:St} {p:List UInt8} (h:MB v st (BB p)):WB v st p.length:=by
 rcases h with ⟨_,e⟩ | ⟨bx,cap,r,e,hg,_,_⟩
 ·left
  have:=congrArg List.length e
  rw [aO] at this
  simpa using this
 ·rw [aO] at e
  exact .inr ⟨bx,cap,_,e,hg,ByB.bb p r⟩

theorem wipe1 {v:AV} {s0:St} {p:List UInt8} (hp:p.length≤100000) (hv:MB v s0 (BB p)) {w t q n o:Int} {h i:Nat} {acts:List AV} {z4 z6 z10 z11 z12:List AV} {K:Exit→Sf→St→Prop}
  (hK:∀ s',Kp s0 s' (au v)→K (.exit 2) ⟨[(0,.ptr h 0),(2,.sl false 6 acts),(4,.lptr 4 0),(6,.lptr 6 0),(8,.lit (.int .i64 (i:Nat))),(10,.lptr 10 0),(11,.lptr 11 0),(12,.lptr 12 0)],[(4,z4),(6,z6),(10,z10),(11,z11),(12,z12)]⟩ s') :
  aC Go.Proofs.Try.prog id false f18_26 ⟨[(0,.ptr h 0),(2,.sl false 6 acts),(4,.lptr 4 0),(6,.lptr 6 0),(8,.lit (.int .i64 (i:Nat))),(9,.lptr 9 0),(10,.lptr 10 0),(11,.lptr 11 0),(12,.lptr 12 0),(13,.lit (.int .i64 0))],[(4,z4),(6,z6),(9,[.lit (.int .i64 w),.lit (.int .i64 t),.lit (.int .i64 q),.lit (.int .i64 n),.lit (.int .i64 o),v]),(10,z10),(11,z11),(12,z12)]⟩ s0 K:=by
 obtain ⟨v1,v2,v3,v4,v5,v6,v7,v8⟩:=hv.facts
 have hwb:=WB.of hv
 rw [aO] at v8
 rw [f18_26w]
 refine a8 (A:=Nat×St) (fun a=>p.length - a.1) (fun a=>⟨[(0,.ptr h 0),(2,.sl false 6 acts),(4,.lptr 4 0),(6,.lptr 6 0),(8,.lit (.int .i64 (i:Nat))),(9,.lptr 9 0),(10,.lptr 10 0),(11,.lptr 11 0),(12,.lptr 12 0),(13,.lit (.int .i64 (a.1:Nat)))],[(4,z4),(6,z6),(9,[.lit (.int .i64 w),.lit (.int .i64 t),.lit (.int .i64 q),.lit (.int .i64 n),.lit (.int .i64 o),v]),(10,z10),(11,z11),(12,z12)]⟩) (fun a=>a.2)
  (fun a=>a.1≤p.length∧Kp s0 a.2 (au v)∧WB v a.2 p.length) (0,s0) ⟨Nat.zero_le _,Kp.refl _ _,hwb⟩ (Sf.le_refl _) rfl ?_
 rintro ⟨k,s⟩ ⟨h1,h2,h3⟩ K2 hK2 hKe hKr
 simp only at h1 h2 h3
 try dsimp only
 by_cases hk:k < p.length
 ·rcases h3 with e | ⟨bx,cap,cs,e,hg,hl⟩
  ·omega
  obtain ⟨z,r,hd⟩:=hl.drop hk
  have hcl:=hl.1
  have hnx:=fun (z:Int) (sf:Sf)=>hK2 (k + 1,s.set bx (cs.set k (.lit (.int .u8 z)))) sf ⟨by simp only; omega,h2.trans ⟨by rw [du]; exact Nat.le_refl _,fun x hx hn=>bP fun q=>hn (by rw [e,q]; simp [au])⟩ fun _ hx=>.inl hx,.inr ⟨bx,cap,_,e,aG (bw hg),hl.set z⟩⟩ (by simp only; omega)
  subst e
  simp (config:=KF) (disch:=omega) only [bZ,ixSV,ah,lenI,addA,ae,↓reduceIte,Nat.reduceEqDiff,reduceCtorEq,af,aa,hg,hd]
  exact hnx _ _ (Sf.le_refl _)
 ·simp (config:=KF) (disch:=omega) only [bZ,addA,ae,↓reduceIte,Nat.reduceEqDiff,reduceCtorEq,v1,v8]
  exact hKe _ _ _ (hK s h2)

theorem wipe2 {v:AV} {s0:St} {p:List UInt8} (hp:p.length≤100000) (hv:MB v s0 (BB p)) {n e:Int} {b:Bool} {its:AV} {h i:Nat} {acts:List AV} {z4 z6 z10:List AV} {K:Exit→Sf→St→Prop}
  (hK:∀ s',Kp s0 s' (au v)→K (.exit 4) ⟨[(0,.ptr h 0),(2,.sl false 6 acts),(4,.lptr 4 0),(6,.lptr 6 0),(8,.lit (.int .i64 (i:Nat))),(10,.lptr 10 0)],[(4,z4),(6,z6),(10,z10)]⟩ s') :
  aC Go.Proofs.Try.prog id false f18_45 ⟨[(0,.ptr h 0),(2,.sl false 6 acts),(4,.lptr 4 0),(6,.lptr 6 0),(8,.lit (.int .i64 (i:Nat))),(10,.lptr 10 0),(12,.lptr 12 0),(14,.lit (.int .i64 0))],[(4,z4),(6,z6),(10,z10),(12,[.lit (.int .i64 n),.lit (.bool b),v,its,.lit (.int .i64 e)])]⟩ s0 K:=by
 obtain ⟨v1,v2,v3,v4,v5,v6,v7,v8⟩:=hv.facts
 have hwb:=WB.of hv
 rw [aO] at v8
 rw [f18_45w]
 refine a8 (A:=Nat×St) (fun a=>p.length - a.1) (fun a=>⟨[(0,.ptr h 0),(2,.sl false 6 acts),(4,.lptr 4 0),(6,.lptr 6 0),(8,.lit (.int .i64 (i:Nat))),(10,.lptr 10 0),(12,.lptr 12 0),(14,.lit (.int .i64 (a.1:Nat)))],[(4,z4),(6,z6),(10,z10),(12,[.lit (.int .i64 n),.lit (.bool b),v,its,.lit (.int .i64 e)])]⟩) (fun a=>a.2)
  (fun a=>a.1≤p.length∧Kp s0 a.2 (au v)∧WB v a.2 p.length) (0,s0) ⟨Nat.zero_le _,Kp.refl _ _,hwb⟩ (Sf.le_refl _) rfl ?_
 rintro ⟨k,s⟩ ⟨h1,h2,h3⟩ K2 hK2 hKe hKr
 simp only at h1 h2 h3
 try dsimp only
 by_cases hk:k < p.length
 ·rcases h3 with e | ⟨bx,cap,cs,e,hg,hl⟩
  ·omega
  obtain ⟨z,r,hd⟩:=hl.drop hk
  have hcl:=hl.1
  have hnx:=fun (z:Int) (sf:Sf)=>hK2 (k + 1,s.set bx (cs.set k (.lit (.int .u8 z)))) sf ⟨by simp only; omega,h2.trans ⟨by rw [du]; exact Nat.le_refl _,fun x hx hn=>bP fun q=>hn (by rw [e,q]; simp [au])⟩ fun _ hx=>.inl hx,.inr ⟨bx,cap,_,e,aG (bw hg),hl.set z⟩⟩ (by simp only; omega)
  subst e
  simp (config:=KF) (disch:=omega) only [bZ,ixSV,ah,lenI,addA,ae,↓reduceIte,Nat.reduceEqDiff,reduceCtorEq,af,aa,hg,hd]
  exact hnx _ _ (Sf.le_refl _)
 ·simp (config:=KF) (disch:=omega) only [bZ,addA,ae,↓reduceIte,Nat.reduceEqDiff,reduceCtorEq,v1,v8]
  exact hKe _ _ _ (hK s h2)
end Go.Fx.YtbdjfccgkdgbfaaFx

