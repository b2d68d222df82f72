/- What the functions that the statement reaches compute: part 6. -/
import Derived.Test.YtohlpjfhkejjgaaFxW5
namespace Go.Fx.YtohlpjfhkejjgaaFx
open Go Go.Fx
attribute [local irreducible] aC runI aY cF

set_option maxRecDepth 100000
set_option maxHeartbeats 4000000

theorem mJ (x:AV) (hx:x.dis = x) (hn:x.noL = true) (st:St):bF Go.Proofs.Try.prog n_f34 [x] st x:=by
  refine cC hmix k_f34 rfl rfl fun Q hQ=>?_
  unfold aFun c_f34
  simp (config:=KF) (disch:=omega) only [bZ,retI,aA,putS,Sf.set,Sf.reg,getR,setR,ae,Sf.disAt,bt,↓reduceIte,Nat.reduceEqDiff,Bool.true_and,true_and,reduceCtorEq,f34_1e,f34_2e,f34_2l,f34_3e,f34_4e,f34_4l,hx,hn]
  exact hQ _

section
variable {st:St} {c q0 m0 q1 m1 wid:Nat} {bv:AV} {P:ChP}

theorem iw (h:ChIs st c P q0 m0 q1 m1 wid bv) (v:Int) (hb:P.g1 < 100000∧P.buf.length < 100000∧P.cap≤4096) :
    bj Go.Proofs.Try.prog n_f21 [.ptr c 0,.lit (.int .i64 v)] st (fun r st'=>r = .tup [cD (bI P v).2.1,.lit (.int .i64 (bI P v).2.2)]∧cV st c (bI P v).1 q0 m0 q1 m1 wid bv st'):=by
  have hg:=h.get
  obtain ⟨v1,v2,v3,v4,v5,v6,v7,v8⟩:=h.buf.facts
  refine bf hmix k_f21 rfl rfl fun Q hQ=>?_
  unfold aFun c_f21
  generalize hR:bI P v = R at hQ
  unfold bI at hR
  simp (config:=KF) (disch:=omega) only [bZ,az,ev_f,putS,Sf.set,Sf.reg,getR,setR,ae,bt,id,↓reduceIte,Nat.reduceEqDiff,reduceCtorEq,Nat.zero_add,f21_1e,f21_2e,f21_2l,f21_3e,f21_4e,f21_5e,f21_5l]
  refine bA rfl e_f29 (dx h) rfl ?_
  cases hcl:P.closed with
  | true =>
    rw [hcl] at hR
    simp only [if_true] at hR
    subst hR
    simp (config:=KF) (disch:=omega) only [bZ,retI,resI,resL,aD,aq,a8,au,aZ,addA,ak,putS,Sf.set,Sf.reg,getR,setR,ae,aJ,List.all_cons,List.all_nil,List.drop_zero,List.drop_succ_cons,↓reduceIte,Nat.reduceEqDiff,Bool.true_and,Bool.and_true,and_true,true_and,reduceCtorEq,Nat.zero_add,f21_6e,f21_9e,f21_10e,f21_11e,f21_11l,f21_12e,f21_13e,f21_14e,f21_14l,hg,hcl]
    exact hQ _ _ ⟨rfl,h.post (Kp.refl _ _)⟩
  | false =>
    rw [hcl] at hR
    simp only [Bool.false_eq_true,if_false] at hR
    simp (config:=KF) (disch:=omega) only [bZ,aD,aq,a8,az,au,aZ,addA,ak,ev_f,putS,Sf.set,Sf.reg,getR,setR,ae,id,List.drop_zero,List.drop_succ_cons,↓reduceIte,Nat.reduceEqDiff,reduceCtorEq,Nat.zero_add,f21_6e,f21_9e,f21_10e,f21_11e,f21_11l,f21_12e,f21_15e,f21_16e,f21_17e,f21_17l,hg,hcl]
    cases hV:P.V with
    | cons x l =>
      obtain ⟨k,t,v0⟩:=x
      rw [hV] at hR
      simp only at hR
      subst hR
      refine ba rfl e_f32 (j3 h hV (by omega)) rfl fun r st1 hr=>?_
      obtain ⟨rfl,h1,ho⟩:=hr
      simp (config:=KF) (disch:=omega) only [bZ,and_self,bP,gp,bT,aA,az,extV,bslV,bstV,List.reduceReplicate,dg,aQ,ev_f,putS,Sf.set,Sf.reg,getR,setR,ae,Sf.disAt,id,c5,ao,bg,aj,aU,ar,ag,aa,ai,List.length_cons,List.length_nil,List.getElem?_cons_zero,List.getElem?_cons_succ,List.all_cons,List.all_nil,List.set_cons_zero,List.set_cons_succ,↓reduceIte,Nat.reduceEqDiff,Nat.reduceAdd,Nat.reduceLT,Nat.reduceLeDiff,Bool.and_true,and_true,reduceCtorEq,Nat.zero_add,ah,af,f21_18e,f21_19e,f21_19l,f21_20e,f21_21e,f21_22e,f21_22l]
      refine bA rfl e_f34 (mJ (.sl false 4 [itAV (t,v,0)]) rfl rfl _) rfl ?_
      simp (config:=KF) (disch:=omega) only [bZ,retI,resI,resL,aA,putS,Sf.set,Sf.reg,getR,setR,ae,Sf.disAt,aW,je,aJ,List.all_cons,List.all_nil,↓reduceIte,Nat.reduceEqDiff,Bool.true_and,Bool.and_true,and_true,true_and,reduceCtorEq]
      refine hQ _ _ ⟨rfl,?_⟩
      have h2:=h1.post (ho.kp (F:=foot c q0 m0 q1 m1 wid bv) (by simp [foot]))
      rw [hcl] at h2
      exact h2
    | nil =>
      rw [hV] at hR
      simp only at hR
      refine ba rfl e_f32 (lh h hV) rfl fun r st1 hr=>?_
      obtain ⟨rfl,hst⟩:=hr
      subst st1
      simp (config:=KF) (disch:=omega) only [bZ,da,cd,cX,cJ,cc,dz,hh_len,bp,tail_nil,bP,aA,extV,au,aZ,addA,ak,cI,putS,Sf.set,Sf.reg,getR,setR,ae,Sf.disAt,bk,bg,aU,List.getElem?_cons_zero,List.getElem?_cons_succ,List.drop_zero,List.drop_succ_cons,↓reduceIte,Nat.reduceEqDiff,reduceCtorEq,Nat.zero_add,f21_18e,f21_19e,f21_19l,f21_20e,f21_23e,f21_24e,f21_25e,f21_25h,f21_25l,f21_26e,hg,v1,v8,cg]
      refine bV (fun h2=>?_) (fun h2=>?_)
      · rw [if_pos (by omega)] at hR
        subst hR
        have hnb:c ∉ bh bv:=fun e=>h.bid c e (by simp)
        have hlc:=db hg
        have fin:∀ v' st',MB v' st' (ints P.buf++ints [v])→Kp st st' (bh bv)→(∀ x ∈ bh v',x ∈ bh bv∨st.boxes.length≤x) →
            st'.get c = some [.lit (.bool true),.lit (.bool false),.lit (.int .i64 (P.cap:Nat)),bv,.ptr q0 0,.ptr q1 0,.map wid]∧Q (.tup [.lit (.slice none 0 0),.lit (.int .i64 0)]) (st'.set c [.lit (.bool true),.lit (.bool false),.lit (.int .i64 (P.cap:Nat)),v',.ptr q0 0,.ptr q1 0,.map wid]):=by
          intro v' st' hm' hk' hb'
          have h2:=h.rebuf (cl:=P.closed) (b':=P.buf++[v]) (by rw [ints_app]; exact hm') hk' hb'
          rw [hcl] at h2
          refine ⟨(eD (hk'.2 c hlc hnb)).trans (by rw [hg,hcl]),hQ _ _ ⟨rfl,?_⟩⟩
          simpa only [hV,hcl] using h2
        have hroom:eG ((ints P.buf).length + (ints [v]).length) 8 = true:=c9 (by simp [cg]; omega)
        rcases h.buf with ⟨hb0,_⟩ | ⟨bi,bcap,br,hb0,_⟩
        all_goals
          subst hb0
          simp (config:=KF) (disch:=omega) only [bZ,and_self,aD,a8,gp,gq,o_x,au,aZ,bslV,fH,cf,List.reduceReplicate,addA,ak,srcA,dg,putS,Sf.set,Sf.reg,getR,setR,gv,ar,aa,ai,List.length_cons,List.length_nil,List.getElem?_cons_zero,List.getElem?_cons_succ,List.all_cons,List.all_nil,List.drop_zero,List.drop_succ_cons,List.set_cons_zero,↓reduceIte,Nat.reduceEqDiff,Nat.reduceLT,Bool.and_true,and_true,reduceCtorEq,Nat.zero_add,Bool.false_eq_true,f21_27e,f21_28e,f21_28l,hg,v1]
          refine MB.grow h.buf (em _) (em [v]) hroom fun v' st' hm' hk' hb'=>?_
          obtain ⟨hg',hq⟩:=fin v' st' hm' hk' hb'
          obtain ⟨w1,w2,w3,w4,w5,w6,w7,w8⟩:=hm'.facts
          simp (config:=KF) (disch:=omega) only [bZ,retI,resI,resL,d9,aD,a8,aF,aZ,boxX,aM,addA,ap,aE,putS,Sf.set,Sf.reg,getR,setR,ae,Sf.disAt,ai,aJ,List.length_cons,List.length_nil,List.all_cons,List.all_nil,List.set_cons_zero,List.set_cons_succ,↓reduceIte,Nat.reduceEqDiff,Nat.reduceAdd,Nat.reduceLeDiff,Bool.true_and,Bool.and_true,and_true,true_and,reduceCtorEq,Nat.zero_add,ah,af,f21_29e,f21_30e,f21_30l,hg',w6,w4]
          exact hq
      · rw [if_neg (by omega)] at hR
        subst hR
        simp (config:=KF) (disch:=omega) only [bZ,retI,resI,resL,putS,Sf.set,Sf.reg,getR,setR,ae,aJ,List.all_cons,List.all_nil,↓reduceIte,Nat.reduceEqDiff,Bool.true_and,Bool.and_true,and_true,true_and,reduceCtorEq,f21_31e,f21_32e,f21_32l]
        exact hQ _ _ ⟨rfl,h.post (Kp.refl _ _)⟩
end
end Go.Fx.YtohlpjfhkejjgaaFx

