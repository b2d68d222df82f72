/- What the functions that the statement reaches compute: part 7. -/
import Derived.Test.YtbomoaajkinfpaaFxW6
namespace Go.Fx.YtbomoaajkinfpaaFx
open Go Go.Fx
attribute [local irreducible] aC runI aw aB

set_option maxRecDepth 100000
set_option maxHeartbeats 4000000

section
variable {st:St} {c q0 m0 q1 m1 wid:Nat} {bv:AV} {P:ChP}

/-- What all ways to that place leave. -/
def ctrR (c:Nat) (t:Int) (is:Bool) (r:List (Nat×AV)):Prop:=r = [(0,.ptr c 0),(5,.lit (.int .i64 t)),(7,.lit (.bool is))] ∨
  r = [(0,.ptr c 0),(5,.lit (.int .i64 t)),(6,.lit (.int .i64 0)),(7,.lit (.bool is)),(16,.lit (.bool is))]
/-- The front of the buffer is taken out. -/
theorem ctr_tail (h:ChIs st c P q0 m0 q1 m1 wid bv) {x:Int} {b:List Int} (hB:P.buf = x::b) (hb:b.length < 100000) (t:Int) (is:Bool) {rg:List (Nat×AV)} (hrg:ctrR c t is rg) {Q:Exit→Sf→St→Prop}
    (hQ:∀ st',cf st c { P with buf:=b } q0 m0 q1 m1 wid bv st'→Q .ret ⟨[(2,.lit (.int .i64 x)),(3,bJ (if is = true then [(t,0,0)] else [])),(4,.lit (.int .i64 0))],[]⟩ st') :
    aC Go.Proofs.Try.prog id false f42_16 ⟨rg,[]⟩ st Q:=by
  have hg:=h.get
  have hbuf:=h.buf
  have hnb:c ∉ ae bv:=fun e=>h.bid c e (by simp)
  have hlc:=bq hg
  rw [hB] at hbuf
  have hbuf':=hbuf
  rcases hbuf with ⟨_,e⟩ | ⟨bi,cap,r0,hbv,hgb,h1,h2⟩
  · simp [ints] at e
  have hl:(ints (x::b)).length = b.length + 1:=by simp [ints]
  rw [hl] at hbv
  have hcs:(ints (x::b)++r0) = .lit (.int .i64 x)::(ints b++r0):=rfl
  rw [hcs] at hgb
  have hne:((b.length:Int) + 1 = 0) = False:=by simp; omega
  have hd:=mO x b hbuf' hb
  subst hbv
  rcases hrg with rfl | rfl
  all_goals
    simp (config:=KF) (disch:=omega) only [bZ,ixSV,ai,lenI,addA,aa,id,bY,↓reduceIte,Nat.reduceEqDiff,Int.reduceLE,reduceCtorEq,aY,f42_16e,hg,hgb]
    refine au rfl e_f61 hd rfl fun r st1 hr=>?_
    obtain ⟨hm1,hb1,ho1⟩:=hr
    have hg1:st1.get c = _:=(ho1.get hnb).trans hg
    obtain ⟨w1,w2,w3,w4,w5,w6,w7,w8⟩:=hm1.facts
    simp (config:=KF) (disch:=omega) only [bZ,ai,am,addA,↓reduceIte,Nat.reduceEqDiff,Nat.reduceAdd,Nat.reduceLeDiff,reduceCtorEq,hg1,w1,w6,w4]
    have hfin:=h.rebuf (cl:=P.closed) (b':=b) hm1 (ho1.kp fun x h=>h) (fun x hx=>.inl (by rw [← hb1]; exact hx))
    generalize St.set st1 c _ = st2 at *
    cases is with
    | true =>
      simp (config:=KF) (disch:=omega) only [bZ,cY,bslV,List.reduceReplicate,bL,id,bV,↓reduceIte,Nat.reduceEqDiff,Nat.reduceAdd,Nat.reduceLT,Nat.reduceLeDiff]
      refine ao rfl e_f59 (mB (.sl false 4 [itAV (t,0,0)]) rfl rfl _) rfl ?_
      simp (config:=KF) (disch:=omega) only [bZ,↓reduceIte,Nat.reduceEqDiff]
      exact hQ _ hfin
    | false =>
      simp (config:=KF) (disch:=omega) only [bZ,↓reduceIte,Nat.reduceEqDiff]
      exact hQ _ hfin

theorem fc (h:ChIs st c P q0 m0 q1 m1 wid bv) {n:Nat} (hb:Bd P n∧n < 3000) :
    aA Go.Proofs.Try.prog n_f42 [.ptr c 0] st (fun r st'=>r = .tup [.lit (.int .i64 (ak P).2.1),bJ (ak P).2.2.1,.lit (.int .i64 (ak P).2.2.2)]∧cf st c (ak P).1 q0 m0 q1 m1 wid bv st'):=by
  have hg:=h.get
  unfold Bd at hb
  refine ap hmix k_f42 rfl rfl fun Q hQ=>?_
  unfold aFun c_f42
  generalize hR:ak P = R at hQ
  unfold ak at hR
  simp (config:=KF) (disch:=omega) only [bZ,id,↓reduceIte,Nat.reduceEqDiff,reduceCtorEq]
  refine ao rfl e_f44 (cC h) rfl ?_
  cases hS:P.S with
  | nil =>
    rw [hS] at hR
    simp only at hR
    simp (config:=KF) (disch:=omega) only [bZ,id,↓reduceIte,Nat.reduceEqDiff,reduceCtorEq]
    refine au rfl e_f45 (kz h hS) rfl fun r st1 hr=>?_
    obtain ⟨rfl,hst⟩:=hr
    subst st1
    cases hB:P.buf with
    | nil =>
      rw [hB] at hR
      simp only at hR
      obtain ⟨v1,v2,v3,v4,v5,v6,v7,v8⟩:=h.buf.facts
      rw [hB] at v8
      cases hcl:P.closed with
      | true =>
        rw [hcl] at hR
        simp only [if_true] at hR
        subst hR
        simp (config:=KF) (disch:=omega) only [bZ,retI,ai,addA,aa,↓reduceIte,Nat.reduceEqDiff,reduceCtorEq,f42_16e,hg,v1,v8,al,hcl]
        exact hQ _ _ ⟨rfl,h.post (Kp.refl _ _)⟩
      | false =>
        rw [hcl] at hR
        simp only [Bool.false_eq_true,if_false] at hR
        subst hR
        simp (config:=KF) (disch:=omega) only [bZ,retI,ai,addA,aa,↓reduceIte,Nat.reduceEqDiff,reduceCtorEq,f42_16e,hg,v1,v8,al,hcl]
        exact hQ _ _ ⟨rfl,h.post (Kp.refl _ _)⟩
    | cons x b =>
      rw [hB] at hR
      simp only at hR
      subst hR
      have hbl:P.buf.length = b.length + 1:=by rw [hB]; rfl
      simp (config:=KF) (disch:=omega) only [bZ,↓reduceIte,Nat.reduceEqDiff,reduceCtorEq]
      refine ctr_tail h hB (by omega) 0 false (.inr rfl) fun st' hp=>?_
      obtain ⟨w1,w2,w3,w4,w5,w6,w7⟩:=ca []
      simp (config:=KF) (disch:=omega) only [bZ,retI,↓reduceIte,Nat.reduceEqDiff,w1,w5]
      rw [hS] at hp
      exact hQ _ _ ⟨rfl,hp⟩
  | cons y l =>
    obtain ⟨k,t,v0⟩:=y
    rw [hS] at hR
    simp only at hR
    subst hR
    simp (config:=KF) (disch:=omega) only [bZ,id,↓reduceIte,Nat.reduceEqDiff,reduceCtorEq]
    refine au rfl e_f45 (jo h hS (by omega)) rfl fun r st1 hr=>?_
    obtain ⟨rfl,h1,ho⟩:=hr
    have hg1:=h1.get
    simp only at hg1
    have hb1:=h1.buf
    simp only at hb1
    obtain ⟨v1,v2,v3,v4,v5,v6,v7,v8⟩:=hb1.facts
    have hroom:dW ((ints P.buf).length + (ints [v0]).length) 8 = true:=cy (by simp [al]; omega)
    have hlc:=bq hg1
    have hnb:c ∉ ae bv:=fun e=>h1.bid c e (by simp)
    obtain ⟨x,b,hxb⟩:∃ x b,P.buf++[v0] = x::b:=by
      cases P.buf with
      | nil=>exact ⟨v0,[],rfl⟩
      | cons x b=>exact ⟨x,b++[v0],rfl⟩
    have hbl:(P.buf++[v0]).length = b.length + 1:=by rw [hxb]; rfl
    simp only [List.length_append,List.length_singleton] at hbl
    have fin:∀ v' st',MB v' st' (ints P.buf++ints [v0])→Kp st1 st' (ae bv)→(∀ x ∈ ae v',x ∈ ae bv∨st1.boxes.length≤x) →
        st'.get c = some [.lit (.bool true),.lit (.bool P.closed),.lit (.int .i64 (P.cap:Nat)),bv,.ptr q0 0,.ptr q1 0,.map wid]∧∀ (Q2:Exit→Sf→St→Prop),
          (∀ st'',cf st c { P with S:=l,buf:=b } q0 m0 q1 m1 wid bv st''→Q2 .ret ⟨[(2,.lit (.int .i64 x)),(3,bJ [(t,0,0)]),(4,.lit (.int .i64 0))],[]⟩ st'') →
          aC Go.Proofs.Try.prog id false f42_16 ⟨[(0,.ptr c 0),(5,.lit (.int .i64 t)),(7,.lit (.bool true))],[]⟩ (st'.set c [.lit (.bool true),.lit (.bool P.closed),.lit (.int .i64 (P.cap:Nat)),v',.ptr q0 0,.ptr q1 0,.map wid]) Q2:=by
      intro v' st' hm' hk' hb'
      obtain ⟨h2,hk2⟩:=h1.rebufC (cl:=P.closed) (b':=P.buf++[v0]) (by rw [gC]; exact hm') hk' hb'
      refine ⟨(bt (hk'.2 c hlc hnb)).trans hg1,fun Q2 hQ2=>?_⟩
      refine ctr_tail h2 hxb (by omega) t true (.inl rfl) fun st'' hp=>hQ2 _ ?_
      refine cf.trans (bv1:=v') ((ho.kp (F:=foot c q0 m0 q1 m1 wid bv) (by simp [foot])).trans hk2 fun x hx=>.inl hx) (fun x hx=>?_) hp
      rw [ho.1] at hb'
      exact hb' x hx
    simp only [hxb,List.tail_cons,List.headD_cons] at hQ
    rcases hb1 with ⟨hb0,_⟩ | ⟨bi,bcap,br,hb0,_⟩
    all_goals
      subst hb0
      simp (config:=KF) (disch:=omega) only [bZ,cY,gM,o_x,ai,bslV,ft,bb,List.reduceReplicate,addA,aa,srcA,bL,eM,↓reduceIte,Nat.reduceEqDiff,Nat.reduceLT,reduceCtorEq,hg1,v1]
      refine MB.grow h1.buf (dz _) (dz [v0]) hroom fun v' st' hm' hk' hb'=>?_
      obtain ⟨hg',hq⟩:=fin v' st' hm' hk' hb'
      obtain ⟨w1,w2,w3,w4,w5,w6,w7,w8⟩:=hm'.facts
      simp (config:=KF) (disch:=omega) only [bZ,bB,ai,am,addA,↓reduceIte,Nat.reduceEqDiff,Nat.reduceAdd,Nat.reduceLeDiff,reduceCtorEq,hg',w6,w4]
      refine hq _ fun st'' hp=>?_
      obtain ⟨w1,w2,w3,w4,w5,w6,w7⟩:=ca [(t,0,0)]
      simp (config:=KF) (disch:=omega) only [bZ,retI,↓reduceIte,Nat.reduceEqDiff,w1,w5]
      exact hQ _ _ ⟨rfl,hp⟩

theorem mC {n:Nat} (h:ChIs st c P q0 m0 q1 m1 wid bv) (t:Int) (hb:Bd P n∧n < 3000) :
    aA Go.Proofs.Try.prog n_f15 [.ptr c 0,.lit (.int .i64 t)] st (fun r st'=>r = .tup [.lit (.int .i64 (dp P t).2.1),.lit (.bool (dp P t).2.2.1),bJ (dp P t).2.2.2.1,.lit (.int .i64 (dp P t).2.2.2.2)]∧cf st c (dp P t).1 q0 m0 q1 m1 wid bv st'):=by
  have hg:=h.get
  have hbd:=hb
  unfold Bd at hb
  refine ap hmix k_f15 rfl rfl fun Q hQ=>?_
  unfold aFun c_f15
  generalize hR:dp P t = R at hQ
  unfold dp at hR
  simp (config:=KF) (disch:=omega) only [bZ,id,↓reduceIte,Nat.reduceEqDiff,reduceCtorEq]
  refine ao rfl e_f39 (eb h t) rfl ?_
  by_cases hc:chk P t = 0
  · rw [if_neg (by simp [hc])] at hR
    rw [hc]
    simp (config:=KF) (disch:=omega) only [bZ,id,↓reduceIte,Nat.reduceEqDiff,reduceCtorEq,not_true_eq_false]
    refine au rfl e_f42 (fc h hbd) rfl fun r st1 hr=>?_
    obtain ⟨rfl,h1⟩:=hr
    have ht:=chk_11 hc
    obtain ⟨w1,w2,w3,w4,w5,w6,w7⟩:=ca (ak P).2.2.1
    by_cases h16:(ak P).2.2.2 = 16
    · rw [if_pos h16] at hR
      subst hR
      obtain ⟨e1,e2,e3⟩:=tryr_16 h16
      rw [e1] at h1
      rw [h16]
      obtain ⟨bv',h2,hk,hbb⟩:=h1
      simp (config:=KF) (disch:=omega) only [bZ,id,↓reduceIte,Nat.reduceEqDiff,reduceCtorEq,w1,w3]
      refine au rfl e_f41 (oX h2 (by omega) (by omega) ht.1 ht.2 rfl) rfl fun r st2 hr=>?_
      obtain ⟨rfl,h3,ho⟩:=hr
      simp (config:=KF) (disch:=omega) only [bZ,retI,↓reduceIte,Nat.reduceEqDiff,reduceCtorEq]
      exact hQ _ _ ⟨rfl,cf.trans hk hbb (h3.post (ho.kp (by simp [foot])))⟩
    · rw [if_neg h16] at hR
      subst hR
      simp (config:=KF) (disch:=omega) only [bZ,retI,↓reduceIte,Nat.reduceEqDiff,reduceCtorEq,h16,w1,w3,w5]
      exact hQ _ _ ⟨rfl,h1⟩
  · rw [if_pos hc] at hR
    subst hR
    simp (config:=KF) (disch:=omega) only [bZ,retI,↓reduceIte,Nat.reduceEqDiff,reduceCtorEq,not_false_eq_true,hc]
    exact hQ _ _ ⟨rfl,h.post (Kp.refl _ _)⟩
end
end Go.Fx.YtbomoaajkinfpaaFx

