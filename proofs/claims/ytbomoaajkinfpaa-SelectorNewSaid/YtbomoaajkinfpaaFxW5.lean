/- What the functions that the statement reaches compute: part 5. -/
import Derived.Test.YtbomoaajkinfpaaFxW4
namespace Go.Fx.YtbomoaajkinfpaaFx
open Go Go.Fx
attribute [local irreducible] aC runI ap aO

set_option maxRecDepth 100000
set_option maxHeartbeats 4000000

theorem mI (x:AV) (hx:x.dis = x) (hn:x.noL = true) (st:St):aG Go.Proofs.Try.prog n_f59 [x] st x:=by
  refine au hmix k_f59 rfl rfl fun Q hQ=>?_
  unfold aFun c_f59
  simp (config:=KF) (disch:=omega) only [bZ,retI,↓reduceIte,Nat.reduceEqDiff,reduceCtorEq,f59_1e,f59_2l,f59_3e,f59_4l,hx,hn]
  exact hQ _

section
variable {st:St} {c q0 m0 q1 m1 wid:Nat} {bv:AV} {P:ChP}

theorem gK (h:ChIs st c P q0 m0 q1 m1 wid bv) (v:Int) (hb:P.g1 < 100000∧P.buf.length < 100000∧P.cap≤4096) :
    aA Go.Proofs.Try.prog n_f40 [.ptr c 0,.lit (.int .i64 v)] st (fun r st'=>r = .tup [bO (aJ P v).2.1,.lit (.int .i64 (aJ P v).2.2)]∧ck st c (aJ P v).1 q0 m0 q1 m1 wid bv st'):=by
  have hg:=h.get
  obtain ⟨v1,v2,v3,v4,v5,v6,v7,v8⟩:=h.buf.facts
  refine aw hmix k_f40 rfl rfl fun Q hQ=>?_
  unfold aFun c_f40
  generalize hR:aJ P v = R at hQ
  unfold aJ at hR
  simp (config:=KF) (disch:=omega) only [bZ,id,↓reduceIte,Nat.reduceEqDiff,reduceCtorEq,f40_1e,f40_2l,f40_3e,f40_4e,f40_5l]
  refine ao rfl e_f44 (db h) rfl ?_
  cases hcl:P.closed with
  | true =>
    rw [hcl] at hR
    simp only [if_true] at hR
    subst hR
    simp (config:=KF) (disch:=omega) only [bZ,retI,ak,addA,aa,↓reduceIte,Nat.reduceEqDiff,reduceCtorEq,f40_6e,f40_9e,f40_10e,f40_11l,f40_12e,f40_13e,f40_14l,hg,hcl]
    exact hQ _ _ ⟨rfl,h.post (Kp.refl _ _)⟩
  | false =>
    rw [hcl] at hR
    simp only [Bool.false_eq_true,if_false] at hR
    simp (config:=KF) (disch:=omega) only [bZ,ak,addA,aa,id,↓reduceIte,Nat.reduceEqDiff,reduceCtorEq,f40_6e,f40_9e,f40_10e,f40_11l,f40_12e,f40_15e,f40_16e,f40_17l,hg,hcl]
    cases hV:P.V with
    | cons x l =>
      obtain ⟨k,t,v0⟩:=x
      rw [hV] at hR
      simp only at hR
      subst hR
      refine aB rfl e_f45 (jx h hV (by omega)) rfl fun r st1 hr=>?_
      obtain ⟨rfl,h1,ho⟩:=hr
      simp (config:=KF) (disch:=omega) only [bZ,cU,bslV,List.reduceReplicate,bP,id,bX,↓reduceIte,Nat.reduceEqDiff,Nat.reduceAdd,Nat.reduceLT,Nat.reduceLeDiff,reduceCtorEq,f40_18e,f40_19l,f40_20e,f40_21e,f40_22l]
      refine ao rfl e_f59 (mI (.sl false 4 [itAV (t,v,0)]) rfl rfl _) rfl ?_
      simp (config:=KF) (disch:=omega) only [bZ,retI,f8,↓reduceIte,Nat.reduceEqDiff,reduceCtorEq]
      refine hQ _ _ ⟨rfl,?_⟩
      have h2:=h1.post (ho.kp (F:=foot c q0 m0 q1 m1 wid bv) (by simp [foot]))
      rw [hcl] at h2
      exact h2
    | nil =>
      rw [hV] at hR
      simp only at hR
      refine aB rfl e_f45 (kP h hV) rfl fun r st1 hr=>?_
      obtain ⟨rfl,hst⟩:=hr
      subst st1
      simp (config:=KF) (disch:=omega) only [bZ,bf,iE,ak,addA,aa,↓reduceIte,Nat.reduceEqDiff,reduceCtorEq,f40_18e,f40_19l,f40_20e,f40_23e,f40_24e,f40_25e,f40_25h,f40_25l,f40_26e,hg,v1,v8,aq]
      refine ba (fun h2=>?_) (fun h2=>?_)
      · rw [if_pos (by omega)] at hR
        subst hR
        have hnb:c ∉ ae bv:=fun e=>h.bid c e (by simp)
        have hlc:=bA hg
        have fin:∀ v' st',MB v' st' (ints P.buf++ints [v])→Kp st st' (ae bv)→(∀ x ∈ ae v',x ∈ ae bv∨st.boxes.length≤x) →
            st'.get c = some [.lit (.bool true),.lit (.bool false),.lit (.int .i64 (P.cap:Nat)),bv,.ptr q0 0,.ptr q1 0,.map wid]∧Q (.tup [.lit (.slice none 0 0),.lit (.int .i64 0)]) (st'.set c [.lit (.bool true),.lit (.bool false),.lit (.int .i64 (P.cap:Nat)),v',.ptr q0 0,.ptr q1 0,.map wid]):=by
          intro v' st' hm' hk' hb'
          have h2:=h.rebuf (cl:=P.closed) (b':=P.buf++[v]) (by rw [fR]; exact hm') hk' hb'
          rw [hcl] at h2
          refine ⟨(dB (hk'.2 c hlc hnb)).trans (by rw [hg,hcl]),hQ _ _ ⟨rfl,?_⟩⟩
          simpa only [hV,hcl] using h2
        have hroom:eg ((ints P.buf).length + (ints [v]).length) 8 = true:=cE (by simp [aq]; omega)
        rcases h.buf with ⟨hb0,_⟩ | ⟨bi,bcap,br,hb0,_⟩
        all_goals
          subst hb0
          simp (config:=KF) (disch:=omega) only [bZ,cU,gS,o_x,ak,bslV,fH,aX,List.reduceReplicate,addA,aa,srcA,bP,ei,↓reduceIte,Nat.reduceEqDiff,Nat.reduceLT,reduceCtorEq,f40_27e,f40_28l,hg,v1]
          refine MB.grow h.buf (dL _) (dL [v]) hroom fun v' st' hm' hk' hb'=>?_
          obtain ⟨hg',hq⟩:=fin v' st' hm' hk' hb'
          obtain ⟨w1,w2,w3,w4,w5,w6,w7,w8⟩:=hm'.facts
          simp (config:=KF) (disch:=omega) only [bZ,retI,cD,ak,az,addA,↓reduceIte,Nat.reduceEqDiff,Nat.reduceAdd,Nat.reduceLeDiff,reduceCtorEq,f40_29e,f40_30l,hg',w6,w4]
          exact hq
      · rw [if_neg (by omega)] at hR
        subst hR
        simp (config:=KF) (disch:=omega) only [bZ,retI,↓reduceIte,Nat.reduceEqDiff,reduceCtorEq,f40_31e,f40_32l]
        exact hQ _ _ ⟨rfl,h.post (Kp.refl _ _)⟩
end
end Go.Fx.YtbomoaajkinfpaaFx

