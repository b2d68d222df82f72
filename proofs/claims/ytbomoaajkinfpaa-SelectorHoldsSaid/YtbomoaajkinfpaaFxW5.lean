/- What the functions that the statement reaches compute: part 5. -/
import Derived.Test.YtbomoaajkinfpaaFxW4
namespace Go.Fx.YtbomoaajkinfpaaFx
open Go Go.Fx
attribute [local irreducible] aC runI aw aB

set_option maxRecDepth 100000
set_option maxHeartbeats 4000000

theorem mB (x:AV) (hx:x.dis = x) (hn:x.noL = true) (st:St):aL Go.Proofs.Try.prog n_f59 [x] st x:=by
  refine aD hmix k_f59 rfl rfl fun Q hQ=>?_
  unfold aFun c_f59
  simp (config:=KF) (disch:=omega) only [bZ,retI,↓reduceIte,Nat.reduceEqDiff,reduceCtorEq,hx,hn]
  exact hQ _

section
variable {st:St} {c q0 m0 q1 m1 wid:Nat} {bv:AV} {P:ChP}

theorem gF (h:ChIs st c P q0 m0 q1 m1 wid bv) (v:Int) (hb:P.g1 < 100000∧P.buf.length < 100000∧P.cap≤4096) :
    aA Go.Proofs.Try.prog n_f40 [.ptr c 0,.lit (.int .i64 v)] st (fun r st'=>r = .tup [bJ (aG P v).2.1,.lit (.int .i64 (aG P v).2.2)]∧cf st c (aG P v).1 q0 m0 q1 m1 wid bv st'):=by
  have hg:=h.get
  obtain ⟨v1,v2,v3,v4,v5,v6,v7,v8⟩:=h.buf.facts
  refine ap hmix k_f40 rfl rfl fun Q hQ=>?_
  unfold aFun c_f40
  generalize hR:aG P v = R at hQ
  unfold aG at hR
  simp (config:=KF) (disch:=omega) only [bZ,id,↓reduceIte,Nat.reduceEqDiff,reduceCtorEq]
  refine ao rfl e_f44 (cC h) rfl ?_
  cases hcl:P.closed with
  | true =>
    rw [hcl] at hR
    simp only [if_true] at hR
    subst hR
    simp (config:=KF) (disch:=omega) only [bZ,retI,ai,addA,aa,↓reduceIte,Nat.reduceEqDiff,reduceCtorEq,hg,hcl]
    exact hQ _ _ ⟨rfl,h.post (Kp.refl _ _)⟩
  | false =>
    rw [hcl] at hR
    simp only [Bool.false_eq_true,if_false] at hR
    simp (config:=KF) (disch:=omega) only [bZ,ai,addA,aa,id,↓reduceIte,Nat.reduceEqDiff,reduceCtorEq,hg,hcl]
    cases hV:P.V with
    | cons x l =>
      obtain ⟨k,t,v0⟩:=x
      rw [hV] at hR
      simp only at hR
      subst hR
      refine au rfl e_f45 (jp h hV (by omega)) rfl fun r st1 hr=>?_
      obtain ⟨rfl,h1,ho⟩:=hr
      simp (config:=KF) (disch:=omega) only [bZ,cY,bslV,List.reduceReplicate,bL,id,bV,↓reduceIte,Nat.reduceEqDiff,Nat.reduceAdd,Nat.reduceLT,Nat.reduceLeDiff,reduceCtorEq]
      refine ao rfl e_f59 (mB (.sl false 4 [itAV (t,v,0)]) rfl rfl _) rfl ?_
      simp (config:=KF) (disch:=omega) only [bZ,retI,gv,↓reduceIte,Nat.reduceEqDiff,reduceCtorEq]
      refine hQ _ _ ⟨rfl,?_⟩
      have h2:=h1.post (ho.kp (F:=foot c q0 m0 q1 m1 wid bv) (by simp [foot]))
      rw [hcl] at h2
      exact h2
    | nil =>
      rw [hV] at hR
      simp only at hR
      refine au rfl e_f45 (kA h hV) rfl fun r st1 hr=>?_
      obtain ⟨rfl,hst⟩:=hr
      subst st1
      simp (config:=KF) (disch:=omega) only [bZ,aU,oJ,ai,addA,aa,↓reduceIte,Nat.reduceEqDiff,reduceCtorEq,hg,v1,v8,al]
      refine aP (fun h2=>?_) (fun h2=>?_)
      · rw [if_pos (by omega)] at hR
        subst hR
        have hnb:c ∉ ae bv:=fun e=>h.bid c e (by simp)
        have hlc:=bq hg
        have fin:∀ v' st',MB v' st' (ints P.buf++ints [v])→Kp st st' (ae bv)→(∀ x ∈ ae v',x ∈ ae bv∨st.boxes.length≤x) →
            st'.get c = some [.lit (.bool true),.lit (.bool false),.lit (.int .i64 (P.cap:Nat)),bv,.ptr q0 0,.ptr q1 0,.map wid]∧Q (.tup [.lit (.slice none 0 0),.lit (.int .i64 0)]) (st'.set c [.lit (.bool true),.lit (.bool false),.lit (.int .i64 (P.cap:Nat)),v',.ptr q0 0,.ptr q1 0,.map wid]):=by
          intro v' st' hm' hk' hb'
          have h2:=h.rebuf (cl:=P.closed) (b':=P.buf++[v]) (by rw [gC]; exact hm') hk' hb'
          rw [hcl] at h2
          refine ⟨(bt (hk'.2 c hlc hnb)).trans (by rw [hg,hcl]),hQ _ _ ⟨rfl,?_⟩⟩
          simpa only [hV,hcl] using h2
        have hroom:dW ((ints P.buf).length + (ints [v]).length) 8 = true:=cy (by simp [al]; omega)
        rcases h.buf with ⟨hb0,_⟩ | ⟨bi,bcap,br,hb0,_⟩
        all_goals
          subst hb0
          simp (config:=KF) (disch:=omega) only [bZ,cY,gM,o_x,ai,bslV,ft,bb,List.reduceReplicate,addA,aa,srcA,bL,eM,↓reduceIte,Nat.reduceEqDiff,Nat.reduceLT,reduceCtorEq,hg,v1]
          refine MB.grow h.buf (dz _) (dz [v]) hroom fun v' st' hm' hk' hb'=>?_
          obtain ⟨hg',hq⟩:=fin v' st' hm' hk' hb'
          obtain ⟨w1,w2,w3,w4,w5,w6,w7,w8⟩:=hm'.facts
          simp (config:=KF) (disch:=omega) only [bZ,retI,bB,ai,am,addA,↓reduceIte,Nat.reduceEqDiff,Nat.reduceAdd,Nat.reduceLeDiff,reduceCtorEq,hg',w6,w4]
          exact hq
      · rw [if_neg (by omega)] at hR
        subst hR
        simp (config:=KF) (disch:=omega) only [bZ,retI,↓reduceIte,Nat.reduceEqDiff,reduceCtorEq]
        exact hQ _ _ ⟨rfl,h.post (Kp.refl _ _)⟩
end
end Go.Fx.YtbomoaajkinfpaaFx

