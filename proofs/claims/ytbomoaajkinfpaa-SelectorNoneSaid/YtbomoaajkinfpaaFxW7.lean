/- What the functions that the statement reaches compute: part 7. -/
import Derived.Test.YtbomoaajkinfpaaFxW6
namespace Go.Fx.YtbomoaajkinfpaaFx
open Go Go.Fx
attribute [local irreducible] aC runI aT bM

set_option maxRecDepth 100000
set_option maxHeartbeats 4000000

section
variable {st:St} {c q0 m0 q1 m1 wid:Nat} {bv:AV} {P:ChP}

/-- What all ways to that place leave. -/
def ctrR (c:Nat) (t:Int) (is:Bool) (r:List (Nat×AV)):Prop:=r = [(0,.ptr c 0),(5,.lit (.int .i64 t)),(7,.lit (.bool is))] ∨
  r = [(0,.ptr c 0),(5,.lit (.int .i64 t)),(6,.lit (.int .i64 0)),(7,.lit (.bool is)),(16,.lit (.bool is))]
/-- The front of the buffer is taken out. -/
theorem ctr_tail (h:ChIs st c P q0 m0 q1 m1 wid bv) {x:Int} {b:List Int} (hB:P.buf = x::b) (hb:b.length < 100000) (t:Int) (is:Bool) {rg:List (Nat×AV)} (hrg:ctrR c t is rg) {Q:Exit→Sf→St→Prop}
    (hQ:∀ st',dl st c { P with buf:=b } q0 m0 q1 m1 wid bv st'→Q .ret ⟨[(2,.lit (.int .i64 x)),(3,cK (if is = true then [(t,0,0)] else [])),(4,.lit (.int .i64 0))],[]⟩ st') :
    aC Go.Proofs.Try.prog id false f42_16 ⟨rg,[]⟩ st Q:=by
  have hg:=h.get
  have hbuf:=h.buf
  have hnb:c ∉ aj bv:=fun e=>h.bid c e (by simp)
  have hlc:=cw hg
  rw [hB] at hbuf
  have hbuf':=hbuf
  rcases hbuf with ⟨_,e⟩ | ⟨bi,cap,r0,hbv,hgb,h1,h2⟩
  · simp [ints] at e
  have hl:(ints (x::b)).length = b.length + 1:=by simp [ints]
  rw [hl] at hbv
  have hcs:(ints (x::b)++r0) = .lit (.int .i64 x)::(ints b++r0):=rfl
  rw [hcs] at hgb
  have hne:((b.length:Int) + 1 = 0) = False:=by simp; omega
  have hd:=nt x b hbuf' hb
  subst hbv
  rcases hrg with rfl | rfl
  all_goals
    simp (config:=KF) (disch:=omega) only [bZ,az,eM,aw,aQ,cF,ao,ak,ixSV,aA,aM,ixA,lenI,addA,ag,ce,aq,ev_f,putS,Sf.set,Sf.reg,getR,setR,aa,Sf.disAt,id,dj,List.drop_zero,List.drop_succ_cons,Int.toNat_zero,↓reduceIte,Nat.reduceEqDiff,Int.reduceLE,Bool.true_and,true_and,reduceCtorEq,Nat.zero_add,bK,d7,Nat.mul_one,f42_16e,f42_17e,f42_18e,f42_18l,f42_19e,f42_28e,f42_29e,f42_29l,f42_30e,f42_31e,f42_31l,hg,hgb]
    refine bw rfl e_f61 hd rfl fun r st1 hr=>?_
    obtain ⟨hm1,hb1,ho1⟩:=hr
    have hg1:st1.get c = _:=(ho1.get hnb).trans hg
    obtain ⟨w1,w2,w3,w4,w5,w6,w7,w8⟩:=hm1.facts
    simp (config:=KF) (disch:=omega) only [bZ,az,aQ,aW,aM,boxX,bj,addA,aO,aS,putS,Sf.set,Sf.reg,getR,setR,aa,Sf.disAt,ah,List.length_cons,List.length_nil,List.all_cons,List.all_nil,List.set_cons_zero,List.set_cons_succ,↓reduceIte,Nat.reduceEqDiff,Nat.reduceAdd,Nat.reduceLeDiff,Bool.true_and,Bool.and_true,and_true,true_and,reduceCtorEq,Nat.zero_add,am,af,f42_32e,f42_33e,f42_34e,f42_34l,f42_35e,hg1,w1,w6,w4]
    have hfin:=h.rebuf (cl:=P.closed) (b':=b) hm1 (ho1.kp fun x h=>h) (fun x hx=>.inl (by rw [← hb1]; exact hx))
    generalize St.set st1 c _ = st2 at *
    cases is with
    | true =>
      simp (config:=KF) (disch:=omega) only [bZ,and_self,ec,cP,ak,bslV,bstV,List.reduceReplicate,cT,bt,ev_f,putS,Sf.set,Sf.reg,getR,setR,id,de,aE,ar,aB,al,ae,ah,List.length_cons,List.length_nil,List.getElem?_cons_zero,List.all_cons,List.all_nil,List.set_cons_zero,↓reduceIte,Nat.reduceEqDiff,Nat.reduceAdd,Nat.reduceLT,Nat.reduceLeDiff,Bool.and_true,and_true,Nat.zero_add,am,af,f42_36e,f42_37e,f42_37l]
      refine aG rfl e_f59 (m7 (.sl false 4 [itAV (t,0,0)]) rfl rfl _) rfl ?_
      simp (config:=KF) (disch:=omega) only [bZ,ao,putS,Sf.set,Sf.reg,getR,setR,aa,Sf.disAt,cV,↓reduceIte,Nat.reduceEqDiff]
      exact hQ _ hfin
    | false =>
      simp (config:=KF) (disch:=omega) only [bZ,ao,putS,Sf.set,Sf.reg,getR,setR,aa,Sf.disAt,↓reduceIte,Nat.reduceEqDiff,f42_38e,f42_39e,f42_39l]
      exact hQ _ hfin

theorem gg (h:ChIs st c P q0 m0 q1 m1 wid bv) {n:Nat} (hb:Bd P n∧n < 3000) :
    bf Go.Proofs.Try.prog n_f42 [.ptr c 0] st (fun r st'=>r = .tup [.lit (.int .i64 (aH P).2.1),cK (aH P).2.2.1,.lit (.int .i64 (aH P).2.2.2)]∧dl st c (aH P).1 q0 m0 q1 m1 wid bv st'):=by
  have hg:=h.get
  unfold Bd at hb
  refine aZ hmix k_f42 rfl rfl fun Q hQ=>?_
  unfold aFun c_f42
  generalize hR:aH P = R at hQ
  unfold aH at hR
  simp (config:=KF) (disch:=omega) only [bZ,ak,ev_f,putS,Sf.set,Sf.reg,getR,setR,aa,aY,id,↓reduceIte,Nat.reduceEqDiff,reduceCtorEq,f42_1e,f42_2e,f42_2l,f42_3e,f42_4e,f42_5e,f42_5l]
  refine aG rfl e_f44 (dU h) rfl ?_
  cases hS:P.S with
  | nil =>
    rw [hS] at hR
    simp only at hR
    simp (config:=KF) (disch:=omega) only [bZ,ak,ev_f,putS,Sf.set,Sf.reg,getR,setR,aa,id,↓reduceIte,Nat.reduceEqDiff,reduceCtorEq,f42_6e,f42_9e,f42_10e,f42_10l]
    refine bw rfl e_f45 (lB h hS) rfl fun r st1 hr=>?_
    obtain ⟨rfl,hst⟩:=hr
    subst st1
    cases hB:P.buf with
    | nil =>
      rw [hB] at hR
      simp only at hR
      obtain ⟨v1,v2,v3,v4,v5,v6,v7,v8⟩:=h.buf.facts
      rw [hB] at v8
      cases hcl:P.closed with
      | true =>
        rw [hcl] at hR
        simp only [if_true] at hR
        subst hR
        simp (config:=KF) (disch:=omega) only [bZ,retI,resI,resL,cd,az,aw,aQ,cF,ao,extV,aA,aM,addA,ag,ce,putS,Sf.set,Sf.reg,getR,setR,aa,Sf.disAt,bq,aX,aU,List.length_nil,List.getElem?_cons_zero,List.getElem?_cons_succ,List.all_cons,List.all_nil,List.drop_zero,List.drop_succ_cons,Int.cast_ofNat_Int,↓reduceIte,Nat.reduceEqDiff,Bool.true_and,Bool.and_true,and_true,true_and,reduceCtorEq,Nat.zero_add,decide_true,f42_11e,f42_12e,f42_13e,f42_13l,f42_14e,f42_16e,f42_17e,f42_18e,f42_18l,f42_19e,f42_20e,f42_21e,f42_22e,f42_22l,f42_23e,f42_24e,f42_25e,f42_25l,hg,v1,v8,ba,hcl]
        exact hQ _ _ ⟨rfl,h.post (Kp.refl _ _)⟩
      | false =>
        rw [hcl] at hR
        simp only [Bool.false_eq_true,if_false] at hR
        subst hR
        simp (config:=KF) (disch:=omega) only [bZ,retI,resI,resL,cd,az,aw,aQ,cF,ao,extV,aA,aM,addA,ag,ce,putS,Sf.set,Sf.reg,getR,setR,aa,Sf.disAt,bq,aX,aU,List.length_nil,List.getElem?_cons_zero,List.getElem?_cons_succ,List.all_cons,List.all_nil,List.drop_zero,List.drop_succ_cons,Int.cast_ofNat_Int,↓reduceIte,Nat.reduceEqDiff,Bool.true_and,Bool.and_true,and_true,true_and,reduceCtorEq,Nat.zero_add,decide_true,f42_11e,f42_12e,f42_13e,f42_13l,f42_14e,f42_16e,f42_17e,f42_18e,f42_18l,f42_19e,f42_20e,f42_21e,f42_22e,f42_22l,f42_23e,f42_26e,f42_27e,f42_27l,hg,v1,v8,ba,hcl]
        exact hQ _ _ ⟨rfl,h.post (Kp.refl _ _)⟩
    | cons x b =>
      rw [hB] at hR
      simp only at hR
      subst hR
      have hbl:P.buf.length = b.length + 1:=by rw [hB]; rfl
      simp (config:=KF) (disch:=omega) only [bZ,cd,ao,extV,putS,Sf.set,Sf.reg,getR,setR,aa,Sf.disAt,bq,aX,List.getElem?_cons_zero,List.getElem?_cons_succ,↓reduceIte,Nat.reduceEqDiff,reduceCtorEq,f42_11e,f42_12e,f42_13e,f42_13l,f42_14e]
      refine ctr_tail h hB (by omega) 0 false (.inr rfl) fun st' hp=>?_
      obtain ⟨w1,w2,w3,w4,w5,w6,w7⟩:=dh []
      simp (config:=KF) (disch:=omega) only [bZ,retI,resI,resL,Sf.reg,getR,aU,List.all_cons,List.all_nil,↓reduceIte,Nat.reduceEqDiff,Bool.true_and,Bool.and_true,and_true,true_and,Bool.false_eq_true,w1,w5]
      rw [hS] at hp
      exact hQ _ _ ⟨rfl,hp⟩
  | cons y l =>
    obtain ⟨k,t,v0⟩:=y
    rw [hS] at hR
    simp only at hR
    subst hR
    simp (config:=KF) (disch:=omega) only [bZ,ak,ev_f,putS,Sf.set,Sf.reg,getR,setR,aa,id,↓reduceIte,Nat.reduceEqDiff,reduceCtorEq,f42_6e,f42_9e,f42_10e,f42_10l]
    refine bw rfl e_f45 (j5 h hS (by omega)) rfl fun r st1 hr=>?_
    obtain ⟨rfl,h1,ho⟩:=hr
    have hg1:=h1.get
    simp only at hg1
    have hb1:=h1.buf
    simp only at hb1
    obtain ⟨v1,v2,v3,v4,v5,v6,v7,v8⟩:=hb1.facts
    have hroom:e9 ((ints P.buf).length + (ints [v0]).length) 8 = true:=eo (by simp [ba]; omega)
    have hlc:=cw hg1
    have hnb:c ∉ aj bv:=fun e=>h1.bid c e (by simp)
    obtain ⟨x,b,hxb⟩:∃ x b,P.buf++[v0] = x::b:=by
      cases P.buf with
      | nil=>exact ⟨v0,[],rfl⟩
      | cons x b=>exact ⟨x,b++[v0],rfl⟩
    have hbl:(P.buf++[v0]).length = b.length + 1:=by rw [hxb]; rfl
    simp only [List.length_append,List.length_singleton] at hbl
    have fin:∀ v' st',MB v' st' (ints P.buf++ints [v0])→Kp st1 st' (aj bv)→(∀ x ∈ aj v',x ∈ aj bv∨st1.boxes.length≤x) →
        st'.get c = some [.lit (.bool true),.lit (.bool P.closed),.lit (.int .i64 (P.cap:Nat)),bv,.ptr q0 0,.ptr q1 0,.map wid]∧∀ (Q2:Exit→Sf→St→Prop),
          (∀ st'',dl st c { P with S:=l,buf:=b } q0 m0 q1 m1 wid bv st''→Q2 .ret ⟨[(2,.lit (.int .i64 x)),(3,cK [(t,0,0)]),(4,.lit (.int .i64 0))],[]⟩ st'') →
          aC Go.Proofs.Try.prog id false f42_16 ⟨[(0,.ptr c 0),(5,.lit (.int .i64 t)),(7,.lit (.bool true))],[]⟩ (st'.set c [.lit (.bool true),.lit (.bool P.closed),.lit (.int .i64 (P.cap:Nat)),v',.ptr q0 0,.ptr q1 0,.map wid]) Q2:=by
      intro v' st' hm' hk' hb'
      obtain ⟨h2,hk2⟩:=h1.rebufC (cl:=P.closed) (b':=P.buf++[v0]) (by rw [iv]; exact hm') hk' hb'
      refine ⟨(ew (hk'.2 c hlc hnb)).trans hg1,fun Q2 hQ2=>?_⟩
      refine ctr_tail h2 hxb (by omega) t true (.inl rfl) fun st'' hp=>hQ2 _ ?_
      refine dl.trans (bv1:=v') ((ho.kp (F:=foot c q0 m0 q1 m1 wid bv) (by simp [foot])).trans hk2 fun x hx=>.inl hx) (fun x hx=>?_) hp
      rw [ho.1] at hb'
      exact hb' x hx
    simp only [hxb,List.tail_cons,List.headD_cons] at hQ
    rcases hb1 with ⟨hb0,_⟩ | ⟨bi,bcap,br,hb0,_⟩
    all_goals
      subst hb0
      simp (config:=KF) (disch:=omega) only [bZ,and_self,cd,az,aQ,ec,iG,ao,o_x,extV,aA,aM,bslV,gz,cb,List.reduceReplicate,addA,ag,srcA,cT,putS,Sf.set,Sf.reg,getR,setR,aa,Sf.disAt,fR,bq,aX,aB,ae,ah,List.length_cons,List.length_nil,List.getElem?_cons_zero,List.getElem?_cons_succ,List.all_cons,List.all_nil,List.drop_zero,List.drop_succ_cons,List.set_cons_zero,↓reduceIte,Nat.reduceEqDiff,Nat.reduceLT,Bool.and_true,and_true,reduceCtorEq,Nat.zero_add,Bool.false_eq_true,f42_11e,f42_12e,f42_13e,f42_13l,f42_14e,f42_15e,f42_15l,hg1,v1]
      refine MB.grow h1.buf (eF _) (eF [v0]) hroom fun v' st' hm' hk' hb'=>?_
      obtain ⟨hg',hq⟩:=fin v' st' hm' hk' hb'
      obtain ⟨w1,w2,w3,w4,w5,w6,w7,w8⟩:=hm'.facts
      simp (config:=KF) (disch:=omega) only [bZ,en,az,aQ,aW,aM,boxX,bj,addA,aO,aS,putS,Sf.set,Sf.reg,getR,setR,aa,Sf.disAt,ah,List.length_cons,List.length_nil,List.all_cons,List.all_nil,List.set_cons_zero,List.set_cons_succ,↓reduceIte,Nat.reduceEqDiff,Nat.reduceAdd,Nat.reduceLeDiff,Bool.true_and,Bool.and_true,and_true,true_and,reduceCtorEq,Nat.zero_add,am,af,hg',w6,w4]
      refine hq _ fun st'' hp=>?_
      obtain ⟨w1,w2,w3,w4,w5,w6,w7⟩:=dh [(t,0,0)]
      simp (config:=KF) (disch:=omega) only [bZ,retI,resI,resL,Sf.reg,getR,aU,List.all_cons,List.all_nil,↓reduceIte,Nat.reduceEqDiff,Bool.true_and,Bool.and_true,and_true,true_and,w1,w5]
      exact hQ _ _ ⟨rfl,hp⟩

theorem m8 {n:Nat} (h:ChIs st c P q0 m0 q1 m1 wid bv) (t:Int) (hb:Bd P n∧n < 3000) :
    bf Go.Proofs.Try.prog n_f15 [.ptr c 0,.lit (.int .i64 t)] st (fun r st'=>r = .tup [.lit (.int .i64 (el P t).2.1),.lit (.bool (el P t).2.2.1),cK (el P t).2.2.2.1,.lit (.int .i64 (el P t).2.2.2.2)]∧dl st c (el P t).1 q0 m0 q1 m1 wid bv st'):=by
  have hg:=h.get
  have hbd:=hb
  unfold Bd at hb
  refine aZ hmix k_f15 rfl rfl fun Q hQ=>?_
  unfold aFun c_f15
  generalize hR:el P t = R at hQ
  unfold el at hR
  simp (config:=KF) (disch:=omega) only [bZ,ak,ev_f,putS,Sf.set,Sf.reg,getR,setR,aa,aY,id,↓reduceIte,Nat.reduceEqDiff,reduceCtorEq,Nat.zero_add,f15_1e,f15_2e,f15_2l,f15_3e,f15_4e,f15_5e,f15_5l]
  refine aG rfl e_f39 (ff h t) rfl ?_
  by_cases hc:chk P t = 0
  · rw [if_neg (by simp [hc])] at hR
    rw [hc]
    simp (config:=KF) (disch:=omega) only [bZ,ao,ak,dO,ev_f,putS,Sf.set,Sf.reg,getR,setR,aa,Sf.disAt,id,↓reduceIte,Nat.reduceEqDiff,reduceCtorEq,not_true_eq_false,decide_false,f15_6e,f15_7e,f15_7l,f15_8e,f15_11e,f15_12e,f15_12l]
    refine bw rfl e_f42 (gg h hbd) rfl fun r st1 hr=>?_
    obtain ⟨rfl,h1⟩:=hr
    have ht:=chk_11 hc
    obtain ⟨w1,w2,w3,w4,w5,w6,w7⟩:=dh (aH P).2.2.1
    by_cases h16:(aH P).2.2.2 = 16
    · rw [if_pos h16] at hR
      subst hR
      obtain ⟨e1,e2,e3⟩:=tryr_16 h16
      rw [e1] at h1
      rw [h16]
      obtain ⟨bv',h2,hk,hbb⟩:=h1
      simp (config:=KF) (disch:=omega) only [bZ,cd,ao,ak,extV,ce,ev_f,putS,Sf.set,Sf.reg,getR,setR,aa,Sf.disAt,id,bq,aX,List.getElem?_cons_zero,List.getElem?_cons_succ,↓reduceIte,Nat.reduceEqDiff,reduceCtorEq,decide_true,f15_13e,f15_14e,f15_15e,f15_15l,f15_16e,f15_17e,f15_18e,f15_18l,w1,w3]
      refine bw rfl e_f41 (pz h2 (by omega) (by omega) ht.1 ht.2 rfl) rfl fun r st2 hr=>?_
      obtain ⟨rfl,h3,ho⟩:=hr
      simp (config:=KF) (disch:=omega) only [bZ,retI,resI,resL,ao,putS,Sf.set,Sf.reg,getR,setR,aa,Sf.disAt,aU,List.all_cons,List.all_nil,↓reduceIte,Nat.reduceEqDiff,Bool.true_and,Bool.and_true,and_true,true_and,reduceCtorEq]
      exact hQ _ _ ⟨rfl,dl.trans hk hbb (h3.post (ho.kp (by simp [foot])))⟩
    · rw [if_neg h16] at hR
      subst hR
      simp (config:=KF) (disch:=omega) only [bZ,retI,resI,resL,cd,ao,extV,ce,putS,Sf.set,Sf.reg,getR,setR,aa,Sf.disAt,bq,aX,aU,List.getElem?_cons_zero,List.getElem?_cons_succ,List.all_cons,List.all_nil,↓reduceIte,Nat.reduceEqDiff,Bool.true_and,Bool.and_true,and_true,true_and,reduceCtorEq,decide_false,f15_13e,f15_14e,f15_15e,f15_15l,f15_16e,f15_19e,f15_20e,f15_20l,h16,w1,w3,w5]
      exact hQ _ _ ⟨rfl,h1⟩
  · rw [if_pos hc] at hR
    subst hR
    simp (config:=KF) (disch:=omega) only [bZ,retI,resI,resL,ao,dO,putS,Sf.set,Sf.reg,getR,setR,aa,Sf.disAt,aU,List.all_cons,List.all_nil,↓reduceIte,Nat.reduceEqDiff,Bool.true_and,Bool.and_true,and_true,true_and,reduceCtorEq,not_false_eq_true,decide_true,f15_6e,f15_7e,f15_7l,f15_8e,f15_9e,f15_10e,f15_10l,hc]
    exact hQ _ _ ⟨rfl,h.post (Kp.refl _ _)⟩
end
end Go.Fx.YtbomoaajkinfpaaFx

