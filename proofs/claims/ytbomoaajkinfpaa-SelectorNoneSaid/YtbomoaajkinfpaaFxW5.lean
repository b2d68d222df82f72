/- What the functions that the statement reaches compute: part 5. -/
import Derived.Test.YtbomoaajkinfpaaFxW4
namespace Go.Fx.YtbomoaajkinfpaaFx
open Go Go.Fx
attribute [local irreducible] aC runI aT bM

set_option maxRecDepth 100000
set_option maxHeartbeats 4000000

theorem m7 (x:AV) (hx:x.dis = x) (hn:x.noL = true) (st:St):bh Go.Proofs.Try.prog n_f59 [x] st x:=by
  refine aR hmix k_f59 rfl rfl fun Q hQ=>?_
  unfold aFun c_f59
  simp (config:=KF) (disch:=omega) only [bZ,retI,ao,putS,Sf.set,Sf.reg,getR,setR,aa,Sf.disAt,aY,↓reduceIte,Nat.reduceEqDiff,Bool.true_and,true_and,reduceCtorEq,f59_1e,f59_2e,f59_2l,f59_3e,f59_4e,f59_4l,hx,hn]
  exact hQ _

section
variable {st:St} {c q0 m0 q1 m1 wid:Nat} {bv:AV} {P:ChP}

theorem iz (h:ChIs st c P q0 m0 q1 m1 wid bv) (v:Int) (hb:P.g1 < 100000∧P.buf.length < 100000∧P.cap≤4096) :
    bf Go.Proofs.Try.prog n_f40 [.ptr c 0,.lit (.int .i64 v)] st (fun r st'=>r = .tup [cK (bD P v).2.1,.lit (.int .i64 (bD P v).2.2)]∧dl st c (bD P v).1 q0 m0 q1 m1 wid bv st'):=by
  have hg:=h.get
  obtain ⟨v1,v2,v3,v4,v5,v6,v7,v8⟩:=h.buf.facts
  refine aZ hmix k_f40 rfl rfl fun Q hQ=>?_
  unfold aFun c_f40
  generalize hR:bD P v = R at hQ
  unfold bD at hR
  simp (config:=KF) (disch:=omega) only [bZ,ak,ev_f,putS,Sf.set,Sf.reg,getR,setR,aa,aY,id,↓reduceIte,Nat.reduceEqDiff,reduceCtorEq,Nat.zero_add,f40_1e,f40_2e,f40_2l,f40_3e,f40_4e,f40_5e,f40_5l]
  refine aG rfl e_f44 (dU h) rfl ?_
  cases hcl:P.closed with
  | true =>
    rw [hcl] at hR
    simp only [if_true] at hR
    subst hR
    simp (config:=KF) (disch:=omega) only [bZ,retI,resI,resL,az,aw,aQ,aA,aM,addA,ag,putS,Sf.set,Sf.reg,getR,setR,aa,aU,List.all_cons,List.all_nil,List.drop_zero,List.drop_succ_cons,↓reduceIte,Nat.reduceEqDiff,Bool.true_and,Bool.and_true,and_true,true_and,reduceCtorEq,Nat.zero_add,f40_6e,f40_9e,f40_10e,f40_11e,f40_11l,f40_12e,f40_13e,f40_14e,f40_14l,hg,hcl]
    exact hQ _ _ ⟨rfl,h.post (Kp.refl _ _)⟩
  | false =>
    rw [hcl] at hR
    simp only [Bool.false_eq_true,if_false] at hR
    simp (config:=KF) (disch:=omega) only [bZ,az,aw,aQ,ak,aA,aM,addA,ag,ev_f,putS,Sf.set,Sf.reg,getR,setR,aa,id,List.drop_zero,List.drop_succ_cons,↓reduceIte,Nat.reduceEqDiff,reduceCtorEq,Nat.zero_add,f40_6e,f40_9e,f40_10e,f40_11e,f40_11l,f40_12e,f40_15e,f40_16e,f40_17e,f40_17l,hg,hcl]
    cases hV:P.V with
    | cons x l =>
      obtain ⟨k,t,v0⟩:=x
      rw [hV] at hR
      simp only at hR
      subst hR
      refine bw rfl e_f45 (j6 h hV (by omega)) rfl fun r st1 hr=>?_
      obtain ⟨rfl,h1,ho⟩:=hr
      simp (config:=KF) (disch:=omega) only [bZ,and_self,cd,ec,cP,ao,ak,extV,bslV,bstV,List.reduceReplicate,cT,bt,ev_f,putS,Sf.set,Sf.reg,getR,setR,aa,Sf.disAt,id,de,aE,bq,ar,aX,aB,al,ae,ah,List.length_cons,List.length_nil,List.getElem?_cons_zero,List.getElem?_cons_succ,List.all_cons,List.all_nil,List.set_cons_zero,List.set_cons_succ,↓reduceIte,Nat.reduceEqDiff,Nat.reduceAdd,Nat.reduceLT,Nat.reduceLeDiff,Bool.and_true,and_true,reduceCtorEq,Nat.zero_add,am,af,f40_18e,f40_19e,f40_19l,f40_20e,f40_21e,f40_22e,f40_22l]
      refine aG rfl e_f59 (m7 (.sl false 4 [itAV (t,v,0)]) rfl rfl _) rfl ?_
      simp (config:=KF) (disch:=omega) only [bZ,retI,resI,resL,ao,putS,Sf.set,Sf.reg,getR,setR,aa,Sf.disAt,cV,kJ,aU,List.all_cons,List.all_nil,↓reduceIte,Nat.reduceEqDiff,Bool.true_and,Bool.and_true,and_true,true_and,reduceCtorEq]
      refine hQ _ _ ⟨rfl,?_⟩
      have h2:=h1.post (ho.kp (F:=foot c q0 m0 q1 m1 wid bv) (by simp [foot]))
      rw [hcl] at h2
      exact h2
    | nil =>
      rw [hV] at hR
      simp only at hR
      refine bw rfl e_f45 (lC h hV) rfl fun r st1 hr=>?_
      obtain ⟨rfl,hst⟩:=hr
      subst st1
      simp (config:=KF) (disch:=omega) only [bZ,cX,ci,cR,cg,bQ,b8,hh_len,bB,tail_nil,cd,ao,extV,aA,aM,addA,ag,cn,putS,Sf.set,Sf.reg,getR,setR,aa,Sf.disAt,bp,bq,aX,List.getElem?_cons_zero,List.getElem?_cons_succ,List.drop_zero,List.drop_succ_cons,↓reduceIte,Nat.reduceEqDiff,reduceCtorEq,Nat.zero_add,f40_18e,f40_19e,f40_19l,f40_20e,f40_23e,f40_24e,f40_25e,f40_25h,f40_25l,f40_26e,hg,v1,v8,ba]
      refine bY (fun h2=>?_) (fun h2=>?_)
      · rw [if_pos (by omega)] at hR
        subst hR
        have hnb:c ∉ aj bv:=fun e=>h.bid c e (by simp)
        have hlc:=cw hg
        have fin:∀ v' st',MB v' st' (ints P.buf++ints [v])→Kp st st' (aj bv)→(∀ x ∈ aj v',x ∈ aj bv∨st.boxes.length≤x) →
            st'.get c = some [.lit (.bool true),.lit (.bool false),.lit (.int .i64 (P.cap:Nat)),bv,.ptr q0 0,.ptr q1 0,.map wid]∧Q (.tup [.lit (.slice none 0 0),.lit (.int .i64 0)]) (st'.set c [.lit (.bool true),.lit (.bool false),.lit (.int .i64 (P.cap:Nat)),v',.ptr q0 0,.ptr q1 0,.map wid]):=by
          intro v' st' hm' hk' hb'
          have h2:=h.rebuf (cl:=P.closed) (b':=P.buf++[v]) (by rw [iv]; exact hm') hk' hb'
          rw [hcl] at h2
          refine ⟨(ew (hk'.2 c hlc hnb)).trans (by rw [hg,hcl]),hQ _ _ ⟨rfl,?_⟩⟩
          simpa only [hV,hcl] using h2
        have hroom:e9 ((ints P.buf).length + (ints [v]).length) 8 = true:=eo (by simp [ba]; omega)
        rcases h.buf with ⟨hb0,_⟩ | ⟨bi,bcap,br,hb0,_⟩
        all_goals
          subst hb0
          simp (config:=KF) (disch:=omega) only [bZ,and_self,az,aQ,ec,iG,o_x,aA,aM,bslV,gz,cb,List.reduceReplicate,addA,ag,srcA,cT,putS,Sf.set,Sf.reg,getR,setR,fR,aB,ae,ah,List.length_cons,List.length_nil,List.getElem?_cons_zero,List.getElem?_cons_succ,List.all_cons,List.all_nil,List.drop_zero,List.drop_succ_cons,List.set_cons_zero,↓reduceIte,Nat.reduceEqDiff,Nat.reduceLT,Bool.and_true,and_true,reduceCtorEq,Nat.zero_add,Bool.false_eq_true,f40_27e,f40_28e,f40_28l,hg,v1]
          refine MB.grow h.buf (eF _) (eF [v]) hroom fun v' st' hm' hk' hb'=>?_
          obtain ⟨hg',hq⟩:=fin v' st' hm' hk' hb'
          obtain ⟨w1,w2,w3,w4,w5,w6,w7,w8⟩:=hm'.facts
          simp (config:=KF) (disch:=omega) only [bZ,retI,resI,resL,en,az,aQ,aW,aM,boxX,bj,addA,aO,aS,putS,Sf.set,Sf.reg,getR,setR,aa,Sf.disAt,ah,aU,List.length_cons,List.length_nil,List.all_cons,List.all_nil,List.set_cons_zero,List.set_cons_succ,↓reduceIte,Nat.reduceEqDiff,Nat.reduceAdd,Nat.reduceLeDiff,Bool.true_and,Bool.and_true,and_true,true_and,reduceCtorEq,Nat.zero_add,am,af,f40_29e,f40_30e,f40_30l,hg',w6,w4]
          exact hq
      · rw [if_neg (by omega)] at hR
        subst hR
        simp (config:=KF) (disch:=omega) only [bZ,retI,resI,resL,putS,Sf.set,Sf.reg,getR,setR,aa,aU,List.all_cons,List.all_nil,↓reduceIte,Nat.reduceEqDiff,Bool.true_and,Bool.and_true,and_true,true_and,reduceCtorEq,f40_31e,f40_32e,f40_32l]
        exact hQ _ _ ⟨rfl,h.post (Kp.refl _ _)⟩
end
end Go.Fx.YtbomoaajkinfpaaFx

