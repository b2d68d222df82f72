/- What the functions that the statement reaches compute: part 8. -/
import Derived.Test.YtohlpjfhkejjgaaFxW7
namespace Go.Fx.YtohlpjfhkejjgaaFx
open Go Go.Fx
attribute [local irreducible] aC runI aY cF

set_option maxRecDepth 100000
set_option maxHeartbeats 4000000

section
variable {st:St} {c q0 m0 q1 m1 wid:Nat} {bv:AV} {P:ChP}

/-- What all ways to that place leave. -/
def ctrR (c:Nat) (t:Int) (is:Bool) (r:List (Nat×AV)):Prop:=r = [(0,.ptr c 0),(5,.lit (.int .i64 t)),(7,.lit (.bool is))] ∨
  r = [(0,.ptr c 0),(5,.lit (.int .i64 t)),(6,.lit (.int .i64 0)),(7,.lit (.bool is)),(16,.lit (.bool is))]
/-- The front of the buffer is taken out. -/
theorem ctr_tail (h:ChIs st c P q0 m0 q1 m1 wid bv) {x:Int} {b:List Int} (hB:P.buf = x::b) (hb:b.length < 100000) (t:Int) (is:Bool) {rg:List (Nat×AV)} (hrg:ctrR c t is rg) {Q:Exit→Sf→St→Prop}
    (hQ:∀ st',cV st c { P with buf:=b } q0 m0 q1 m1 wid bv st'→Q .ret ⟨[(2,.lit (.int .i64 x)),(3,cD (if is = true then [(t,0,0)] else [])),(4,.lit (.int .i64 0))],[]⟩ st') :
    aC Go.Proofs.Try.prog id false f20_16 ⟨rg,[]⟩ st Q:=by
  have hg:=h.get
  have hbuf:=h.buf
  have hnb:c ∉ bh bv:=fun e=>h.bid c e (by simp)
  have hlc:=db hg
  rw [hB] at hbuf
  have hbuf':=hbuf
  rcases hbuf with ⟨_,e⟩ | ⟨bi,cap,r0,hbv,hgb,h1,h2⟩
  · simp [ints] at e
  have hl:(ints (x::b)).length = b.length + 1:=by simp [ints]
  rw [hl] at hbv
  have hcs:(ints (x::b)++r0) = .lit (.int .i64 x)::(ints b++r0):=rfl
  rw [hcs] at hgb
  have hne:((b.length:Int) + 1 = 0) = False:=by simp; omega
  have hd:=mY x b hbuf' hb
  subst hbv
  rcases hrg with rfl | rfl
  all_goals
    simp (config:=KF) (disch:=omega) only [bZ,aD,nK,aq,a8,cM,aA,az,ixSV,au,aZ,ixA,lenI,addA,ak,bR,am,ev_f,putS,Sf.set,Sf.reg,getR,setR,ae,Sf.disAt,id,kA,List.drop_zero,List.drop_succ_cons,Int.toNat_zero,↓reduceIte,Nat.reduceEqDiff,Int.reduceLE,Bool.true_and,true_and,reduceCtorEq,Nat.zero_add,du,cB,Nat.mul_one,f20_16e,f20_17e,f20_18e,f20_18l,f20_19e,f20_28e,f20_29e,f20_29l,f20_30e,f20_31e,f20_31l,hg,hgb]
    refine ba rfl e_f33 hd rfl fun r st1 hr=>?_
    obtain ⟨hm1,hb1,ho1⟩:=hr
    have hg1:st1.get c = _:=(ho1.get hnb).trans hg
    obtain ⟨w1,w2,w3,w4,w5,w6,w7,w8⟩:=hm1.facts
    simp (config:=KF) (disch:=omega) only [bZ,aD,a8,aF,aZ,boxX,aM,addA,ap,aE,putS,Sf.set,Sf.reg,getR,setR,ae,Sf.disAt,ai,List.length_cons,List.length_nil,List.all_cons,List.all_nil,List.set_cons_zero,List.set_cons_succ,↓reduceIte,Nat.reduceEqDiff,Nat.reduceAdd,Nat.reduceLeDiff,Bool.true_and,Bool.and_true,and_true,true_and,reduceCtorEq,Nat.zero_add,ah,af,f20_32e,f20_33e,f20_34e,f20_34l,f20_35e,hg1,w1,w6,w4]
    have hfin:=h.rebuf (cl:=P.closed) (b':=b) hm1 (ho1.kp fun x h=>h) (fun x hx=>.inl (by rw [← hb1]; exact hx))
    generalize St.set st1 c _ = st2 at *
    cases is with
    | true =>
      simp (config:=KF) (disch:=omega) only [bZ,and_self,gp,bT,az,bslV,bstV,List.reduceReplicate,dg,aQ,ev_f,putS,Sf.set,Sf.reg,getR,setR,id,c5,ao,aj,ar,ag,aa,ai,List.length_cons,List.length_nil,List.getElem?_cons_zero,List.all_cons,List.all_nil,List.set_cons_zero,↓reduceIte,Nat.reduceEqDiff,Nat.reduceAdd,Nat.reduceLT,Nat.reduceLeDiff,Bool.and_true,and_true,Nat.zero_add,ah,af,f20_36e,f20_37e,f20_37l]
      refine bA rfl e_f34 (mJ (.sl false 4 [itAV (t,0,0)]) rfl rfl _) rfl ?_
      simp (config:=KF) (disch:=omega) only [bZ,aA,putS,Sf.set,Sf.reg,getR,setR,ae,Sf.disAt,aW,↓reduceIte,Nat.reduceEqDiff]
      exact hQ _ hfin
    | false =>
      simp (config:=KF) (disch:=omega) only [bZ,aA,putS,Sf.set,Sf.reg,getR,setR,ae,Sf.disAt,↓reduceIte,Nat.reduceEqDiff,f20_38e,f20_39e,f20_39l]
      exact hQ _ hfin

theorem ga (h:ChIs st c P q0 m0 q1 m1 wid bv) {n:Nat} (hb:Bd P n∧n < 3000) :
    bj Go.Proofs.Try.prog n_f20 [.ptr c 0] st (fun r st'=>r = .tup [.lit (.int .i64 (aO P).2.1),cD (aO P).2.2.1,.lit (.int .i64 (aO P).2.2.2)]∧cV st c (aO P).1 q0 m0 q1 m1 wid bv st'):=by
  have hg:=h.get
  unfold Bd at hb
  refine bf hmix k_f20 rfl rfl fun Q hQ=>?_
  unfold aFun c_f20
  generalize hR:aO P = R at hQ
  unfold aO at hR
  simp (config:=KF) (disch:=omega) only [bZ,az,ev_f,putS,Sf.set,Sf.reg,getR,setR,ae,bt,id,↓reduceIte,Nat.reduceEqDiff,reduceCtorEq,f20_1e,f20_2e,f20_2l,f20_3e,f20_4e,f20_5e,f20_5l]
  refine bA rfl e_f29 (dx h) rfl ?_
  cases hS:P.S with
  | nil =>
    rw [hS] at hR
    simp only at hR
    simp (config:=KF) (disch:=omega) only [bZ,az,ev_f,putS,Sf.set,Sf.reg,getR,setR,ae,id,↓reduceIte,Nat.reduceEqDiff,reduceCtorEq,f20_6e,f20_9e,f20_10e,f20_10l]
    refine ba rfl e_f32 (lg h hS) rfl fun r st1 hr=>?_
    obtain ⟨rfl,hst⟩:=hr
    subst st1
    cases hB:P.buf with
    | nil =>
      rw [hB] at hR
      simp only at hR
      obtain ⟨v1,v2,v3,v4,v5,v6,v7,v8⟩:=h.buf.facts
      rw [hB] at v8
      cases hcl:P.closed with
      | true =>
        rw [hcl] at hR
        simp only [if_true] at hR
        subst hR
        simp (config:=KF) (disch:=omega) only [bZ,retI,resI,resL,bP,aD,aq,a8,cM,aA,extV,au,aZ,addA,ak,bR,putS,Sf.set,Sf.reg,getR,setR,ae,Sf.disAt,bg,aU,aJ,List.length_nil,List.getElem?_cons_zero,List.getElem?_cons_succ,List.all_cons,List.all_nil,List.drop_zero,List.drop_succ_cons,Int.cast_ofNat_Int,↓reduceIte,Nat.reduceEqDiff,Bool.true_and,Bool.and_true,and_true,true_and,reduceCtorEq,Nat.zero_add,decide_true,f20_11e,f20_12e,f20_13e,f20_13l,f20_14e,f20_16e,f20_17e,f20_18e,f20_18l,f20_19e,f20_20e,f20_21e,f20_22e,f20_22l,f20_23e,f20_24e,f20_25e,f20_25l,hg,v1,v8,cg,hcl]
        exact hQ _ _ ⟨rfl,h.post (Kp.refl _ _)⟩
      | false =>
        rw [hcl] at hR
        simp only [Bool.false_eq_true,if_false] at hR
        subst hR
        simp (config:=KF) (disch:=omega) only [bZ,retI,resI,resL,bP,aD,aq,a8,cM,aA,extV,au,aZ,addA,ak,bR,putS,Sf.set,Sf.reg,getR,setR,ae,Sf.disAt,bg,aU,aJ,List.length_nil,List.getElem?_cons_zero,List.getElem?_cons_succ,List.all_cons,List.all_nil,List.drop_zero,List.drop_succ_cons,Int.cast_ofNat_Int,↓reduceIte,Nat.reduceEqDiff,Bool.true_and,Bool.and_true,and_true,true_and,reduceCtorEq,Nat.zero_add,decide_true,f20_11e,f20_12e,f20_13e,f20_13l,f20_14e,f20_16e,f20_17e,f20_18e,f20_18l,f20_19e,f20_20e,f20_21e,f20_22e,f20_22l,f20_23e,f20_26e,f20_27e,f20_27l,hg,v1,v8,cg,hcl]
        exact hQ _ _ ⟨rfl,h.post (Kp.refl _ _)⟩
    | cons x b =>
      rw [hB] at hR
      simp only at hR
      subst hR
      have hbl:P.buf.length = b.length + 1:=by rw [hB]; rfl
      simp (config:=KF) (disch:=omega) only [bZ,bP,aA,extV,putS,Sf.set,Sf.reg,getR,setR,ae,Sf.disAt,bg,aU,List.getElem?_cons_zero,List.getElem?_cons_succ,↓reduceIte,Nat.reduceEqDiff,reduceCtorEq,f20_11e,f20_12e,f20_13e,f20_13l,f20_14e]
      refine ctr_tail h hB (by omega) 0 false (.inr rfl) fun st' hp=>?_
      obtain ⟨w1,w2,w3,w4,w5,w6,w7⟩:=bE []
      simp (config:=KF) (disch:=omega) only [bZ,retI,resI,resL,Sf.reg,getR,aJ,List.all_cons,List.all_nil,↓reduceIte,Nat.reduceEqDiff,Bool.true_and,Bool.and_true,and_true,true_and,Bool.false_eq_true,w1,w5]
      rw [hS] at hp
      exact hQ _ _ ⟨rfl,hp⟩
  | cons y l =>
    obtain ⟨k,t,v0⟩:=y
    rw [hS] at hR
    simp only at hR
    subst hR
    simp (config:=KF) (disch:=omega) only [bZ,az,ev_f,putS,Sf.set,Sf.reg,getR,setR,ae,id,↓reduceIte,Nat.reduceEqDiff,reduceCtorEq,f20_6e,f20_9e,f20_10e,f20_10l]
    refine ba rfl e_f32 (j1 h hS (by omega)) rfl fun r st1 hr=>?_
    obtain ⟨rfl,h1,ho⟩:=hr
    have hg1:=h1.get
    simp only at hg1
    have hb1:=h1.buf
    simp only at hb1
    obtain ⟨v1,v2,v3,v4,v5,v6,v7,v8⟩:=hb1.facts
    have hroom:eG ((ints P.buf).length + (ints [v0]).length) 8 = true:=c9 (by simp [cg]; omega)
    have hlc:=db hg1
    have hnb:c ∉ bh bv:=fun e=>h1.bid c e (by simp)
    obtain ⟨x,b,hxb⟩:∃ x b,P.buf++[v0] = x::b:=by
      cases P.buf with
      | nil=>exact ⟨v0,[],rfl⟩
      | cons x b=>exact ⟨x,b++[v0],rfl⟩
    have hbl:(P.buf++[v0]).length = b.length + 1:=by rw [hxb]; rfl
    simp only [List.length_append,List.length_singleton] at hbl
    have fin:∀ v' st',MB v' st' (ints P.buf++ints [v0])→Kp st1 st' (bh bv)→(∀ x ∈ bh v',x ∈ bh bv∨st1.boxes.length≤x) →
        st'.get c = some [.lit (.bool true),.lit (.bool P.closed),.lit (.int .i64 (P.cap:Nat)),bv,.ptr q0 0,.ptr q1 0,.map wid]∧∀ (Q2:Exit→Sf→St→Prop),
          (∀ st'',cV st c { P with S:=l,buf:=b } q0 m0 q1 m1 wid bv st''→Q2 .ret ⟨[(2,.lit (.int .i64 x)),(3,cD [(t,0,0)]),(4,.lit (.int .i64 0))],[]⟩ st'') →
          aC Go.Proofs.Try.prog id false f20_16 ⟨[(0,.ptr c 0),(5,.lit (.int .i64 t)),(7,.lit (.bool true))],[]⟩ (st'.set c [.lit (.bool true),.lit (.bool P.closed),.lit (.int .i64 (P.cap:Nat)),v',.ptr q0 0,.ptr q1 0,.map wid]) Q2:=by
      intro v' st' hm' hk' hb'
      obtain ⟨h2,hk2⟩:=h1.rebufC (cl:=P.closed) (b':=P.buf++[v0]) (by rw [ints_app]; exact hm') hk' hb'
      refine ⟨(eD (hk'.2 c hlc hnb)).trans hg1,fun Q2 hQ2=>?_⟩
      refine ctr_tail h2 hxb (by omega) t true (.inl rfl) fun st'' hp=>hQ2 _ ?_
      refine cV.trans (bv1:=v') ((ho.kp (F:=foot c q0 m0 q1 m1 wid bv) (by simp [foot])).trans hk2 fun x hx=>.inl hx) (fun x hx=>?_) hp
      rw [ho.1] at hb'
      exact hb' x hx
    simp only [hxb,List.tail_cons,List.headD_cons] at hQ
    rcases hb1 with ⟨hb0,_⟩ | ⟨bi,bcap,br,hb0,_⟩
    all_goals
      subst hb0
      simp (config:=KF) (disch:=omega) only [bZ,and_self,bP,aD,a8,gp,gq,aA,o_x,extV,au,aZ,bslV,fH,cf,List.reduceReplicate,addA,ak,srcA,dg,putS,Sf.set,Sf.reg,getR,setR,ae,Sf.disAt,gv,bg,aU,ar,aa,ai,List.length_cons,List.length_nil,List.getElem?_cons_zero,List.getElem?_cons_succ,List.all_cons,List.all_nil,List.drop_zero,List.drop_succ_cons,List.set_cons_zero,↓reduceIte,Nat.reduceEqDiff,Nat.reduceLT,Bool.and_true,and_true,reduceCtorEq,Nat.zero_add,Bool.false_eq_true,f20_11e,f20_12e,f20_13e,f20_13l,f20_14e,f20_15e,f20_15l,hg1,v1]
      refine MB.grow h1.buf (em _) (em [v0]) hroom fun v' st' hm' hk' hb'=>?_
      obtain ⟨hg',hq⟩:=fin v' st' hm' hk' hb'
      obtain ⟨w1,w2,w3,w4,w5,w6,w7,w8⟩:=hm'.facts
      simp (config:=KF) (disch:=omega) only [bZ,d9,aD,a8,aF,aZ,boxX,aM,addA,ap,aE,putS,Sf.set,Sf.reg,getR,setR,ae,Sf.disAt,ai,List.length_cons,List.length_nil,List.all_cons,List.all_nil,List.set_cons_zero,List.set_cons_succ,↓reduceIte,Nat.reduceEqDiff,Nat.reduceAdd,Nat.reduceLeDiff,Bool.true_and,Bool.and_true,and_true,true_and,reduceCtorEq,Nat.zero_add,ah,af,hg',w6,w4]
      refine hq _ fun st'' hp=>?_
      obtain ⟨w1,w2,w3,w4,w5,w6,w7⟩:=bE [(t,0,0)]
      simp (config:=KF) (disch:=omega) only [bZ,retI,resI,resL,Sf.reg,getR,aJ,List.all_cons,List.all_nil,↓reduceIte,Nat.reduceEqDiff,Bool.true_and,Bool.and_true,and_true,true_and,w1,w5]
      exact hQ _ _ ⟨rfl,hp⟩

theorem mK {n:Nat} (h:ChIs st c P q0 m0 q1 m1 wid bv) (t:Int) (hb:Bd P n∧n < 3000) :
    bj Go.Proofs.Try.prog n_f27 [.ptr c 0,.lit (.int .i64 t)] st (fun r st'=>r = .tup [.lit (.int .i64 (co P t).2.1),.lit (.bool (co P t).2.2.1),cD (co P t).2.2.2.1,.lit (.int .i64 (co P t).2.2.2.2)]∧cV st c (co P t).1 q0 m0 q1 m1 wid bv st'):=by
  have hg:=h.get
  have hbd:=hb
  unfold Bd at hb
  refine bf hmix k_f27 rfl rfl fun Q hQ=>?_
  unfold aFun c_f27
  generalize hR:co P t = R at hQ
  unfold co at hR
  simp (config:=KF) (disch:=omega) only [bZ,az,ev_f,putS,Sf.set,Sf.reg,getR,setR,ae,bt,id,↓reduceIte,Nat.reduceEqDiff,reduceCtorEq,Nat.zero_add,f27_1e,f27_2e,f27_2l,f27_3e,f27_4e,f27_5e,f27_5l]
  refine bA rfl e_f38 (e8 h t) rfl ?_
  by_cases hc:chk P t = 0
  · rw [if_neg (by simp [hc])] at hR
    rw [hc]
    simp (config:=KF) (disch:=omega) only [bZ,aA,az,gw,ev_f,putS,Sf.set,Sf.reg,getR,setR,ae,Sf.disAt,id,↓reduceIte,Nat.reduceEqDiff,reduceCtorEq,not_true_eq_false,decide_false,f27_6e,f27_7e,f27_7l,f27_8e,f27_11e,f27_12e,f27_12l]
    refine ba rfl e_f20 (ga h hbd) rfl fun r st1 hr=>?_
    obtain ⟨rfl,h1⟩:=hr
    have ht:=chk_11 hc
    obtain ⟨w1,w2,w3,w4,w5,w6,w7⟩:=bE (aO P).2.2.1
    by_cases h16:(aO P).2.2.2 = 16
    · rw [if_pos h16] at hR
      subst hR
      obtain ⟨e1,e2,e3⟩:=tryr_16 h16
      rw [e1] at h1
      rw [h16]
      obtain ⟨bv',h2,hk,hbb⟩:=h1
      simp (config:=KF) (disch:=omega) only [bZ,bP,aA,az,extV,bR,ev_f,putS,Sf.set,Sf.reg,getR,setR,ae,Sf.disAt,id,bg,aU,List.getElem?_cons_zero,List.getElem?_cons_succ,↓reduceIte,Nat.reduceEqDiff,reduceCtorEq,decide_true,f27_13e,f27_14e,f27_15e,f27_15l,f27_16e,f27_17e,f27_18e,f27_18l,w1,w3]
      refine ba rfl e_f39 (oZ h2 (by omega) (by omega) ht.1 ht.2 rfl) rfl fun r st2 hr=>?_
      obtain ⟨rfl,h3,ho⟩:=hr
      simp (config:=KF) (disch:=omega) only [bZ,retI,resI,resL,aA,putS,Sf.set,Sf.reg,getR,setR,ae,Sf.disAt,aJ,List.all_cons,List.all_nil,↓reduceIte,Nat.reduceEqDiff,Bool.true_and,Bool.and_true,and_true,true_and,reduceCtorEq]
      exact hQ _ _ ⟨rfl,cV.trans hk hbb (h3.post (ho.kp (by simp [foot])))⟩
    · rw [if_neg h16] at hR
      subst hR
      simp (config:=KF) (disch:=omega) only [bZ,retI,resI,resL,bP,aA,extV,bR,putS,Sf.set,Sf.reg,getR,setR,ae,Sf.disAt,bg,aU,aJ,List.getElem?_cons_zero,List.getElem?_cons_succ,List.all_cons,List.all_nil,↓reduceIte,Nat.reduceEqDiff,Bool.true_and,Bool.and_true,and_true,true_and,reduceCtorEq,decide_false,f27_13e,f27_14e,f27_15e,f27_15l,f27_16e,f27_19e,f27_20e,f27_20l,h16,w1,w3,w5]
      exact hQ _ _ ⟨rfl,h1⟩
  · rw [if_pos hc] at hR
    subst hR
    simp (config:=KF) (disch:=omega) only [bZ,retI,resI,resL,aA,gw,putS,Sf.set,Sf.reg,getR,setR,ae,Sf.disAt,aJ,List.all_cons,List.all_nil,↓reduceIte,Nat.reduceEqDiff,Bool.true_and,Bool.and_true,and_true,true_and,reduceCtorEq,not_false_eq_true,decide_true,f27_6e,f27_7e,f27_7l,f27_8e,f27_9e,f27_10e,f27_10l,hc]
    exact hQ _ _ ⟨rfl,h.post (Kp.refl _ _)⟩
end
end Go.Fx.YtohlpjfhkejjgaaFx

