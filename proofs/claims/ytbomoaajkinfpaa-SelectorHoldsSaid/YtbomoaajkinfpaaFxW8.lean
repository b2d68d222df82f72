/- What the functions that the statement reaches compute: part 8. -/
import Derived.Test.YtbomoaajkinfpaaFxW7
namespace Go.Fx.YtbomoaajkinfpaaFx
open Go Go.Fx
attribute [local irreducible] aC runI aw aB

set_option maxRecDepth 100000
set_option maxHeartbeats 4000000

/-- A queue of the two. -/
def qsel (P:ChP) (d:Bool):List W3:=if d = true then P.V else P.S
def qset (P:ChP) (d:Bool) (l:List W3):ChP:=if d = true then { P with V:=l } else { P with S:=l }
theorem nP (P:ChP) (d:Bool):qset P d (qsel P d) = P:=by cases d <;> rfl
theorem qset_qset (P:ChP) (d:Bool) (l k:List W3):qset (qset P d l) d k = qset P d k:=by cases d <;> rfl
theorem qsel_qset (P:ChP) (d:Bool) (l:List W3):qsel (qset P d l) d = l:=by cases d <;> rfl
theorem jX (P:ChP) (d:Bool) (l:List W3):(qset P d l).g0 = P.g0∧(qset P d l).g1 = P.g1:=by cases d <;> exact ⟨rfl,rfl⟩
def dirI (d:Bool):Int:=if d = true then 1 else 0

section
variable {st:St} {c q0 m0 q1 m1 wid:Nat} {bv:AV} {P:ChP}

theorem iG (h:ChIs st c P q0 m0 q1 m1 wid bv) (d:Bool) (hb:P.g0 < 1000000∧P.g1 < 1000000) {l:List W3} (hl:qsel P d = l) :
    aA Go.Proofs.Try.prog n_f45 [.ptr c 0,.lit (.int .i64 (dirI d))] st (fun r st'=>r = .tup [.lit (.int .i64 (l.headD (0,0,0)).2.1),.lit (.int .i64 (l.headD (0,0,0)).2.2),.lit (.bool (!l.isEmpty))]∧ChIs st' c (qset P d l.tail) q0 m0 q1 m1 wid bv∧Kp st st' (foot c q0 m0 q1 m1 wid bv)):=by
  cases d with
  | false =>
    cases l with
    | nil =>
      refine (kz h hl).mono fun r st' hr=>?_
      obtain ⟨rfl,rfl⟩:=hr
      have e:qset P false [] = P:=by rw [← hl]; exact nP P false
      exact ⟨rfl,by rw [List.tail_nil,e]; exact h,Kp.refl _ _⟩
    | cons x l =>
      refine (jo h hl hb.1).mono fun r st' hr=>?_
      obtain ⟨rfl,h1,ho⟩:=hr
      exact ⟨rfl,h1,ho.kp (by simp [foot])⟩
  | true =>
    cases l with
    | nil =>
      refine (kA h hl).mono fun r st' hr=>?_
      obtain ⟨rfl,rfl⟩:=hr
      have e:qset P true [] = P:=by rw [← hl]; exact nP P true
      exact ⟨rfl,by rw [List.tail_nil,e]; exact h,Kp.refl _ _⟩
    | cons x l =>
      refine (jp h hl hb.2).mono fun r st' hr=>?_
      obtain ⟨rfl,h1,ho⟩:=hr
      exact ⟨rfl,h1,ho.kp (by simp [foot])⟩

/-- What has been ended so far. -/
def oits (l:List It):AV:=if l = [] then .lit (.slice none 0 0) else .sl true 4 (l.map itAV)
theorem f7 (l:List It):(oits l = .lit (.slice none 0 0)∧l = [])∨(oits l = .sl true 4 (l.map itAV)∧l≠[]):=by
  unfold oits
  by_cases h:l = []
  · rw [if_pos h]; exact .inl ⟨rfl,h⟩
  · rw [if_neg h]; exact .inr ⟨rfl,h⟩
def endI (err:Int) (l:List W3):List It:=l.map fun x=>(x.2.1,0,err)

/-- One of the two queues is emptied. -/
theorem kB (d:Bool) (err k:Int) (out:List It) (rem:List W3) (h:ChIs st c (qset P d rem.tail) q0 m0 q1 m1 wid bv) (hb:P.g0 < 1000000∧P.g1 < 1000000) (hl:out.length + rem.length≤100000) {Q:Exit→Sf→St→Prop}
    (hQ:∀ st',ChIs st' c (qset P d []) q0 m0 q1 m1 wid bv→Kp st st' (foot c q0 m0 q1 m1 wid bv)→Q (.exit 2) ⟨[(0,.ptr c 0),(4,oits (out++endI err rem)),(20,.agg [.lit (.int .i64 1),.lit (.int .i64 0)]),(21,.lit (.int .i64 k))],[]⟩ st') :
    aC Go.Proofs.Try.prog id false f17_42 ⟨[(0,.ptr c 0),(4,oits out),(6,.lit (.int .i64 (dirI d))),(7,.lit (.int .i64 err)),(8,.lit (.int .i64 (rem.headD (0,0,0)).2.1)),(10,.lit (.bool (!rem.isEmpty))),(20,.agg [.lit (.int .i64 1),.lit (.int .i64 0)]),(21,.lit (.int .i64 k))],[]⟩ st Q:=by
  rw [f17_42w]
  refine bj (A:=List It×List W3×St) (fun a=>a.2.1.length) (fun a=>⟨[(0,.ptr c 0),(4,oits a.1),(6,.lit (.int .i64 (dirI d))),(7,.lit (.int .i64 err)),(8,.lit (.int .i64 (a.2.1.headD (0,0,0)).2.1)),(10,.lit (.bool (!a.2.1.isEmpty))),(20,.agg [.lit (.int .i64 1),.lit (.int .i64 0)]),(21,.lit (.int .i64 k))],[]⟩) (fun a=>a.2.2)
    (fun a=>a.1++endI err a.2.1 = out++endI err rem∧ChIs a.2.2 c (qset P d a.2.1.tail) q0 m0 q1 m1 wid bv∧Kp st a.2.2 (foot c q0 m0 q1 m1 wid bv)) (out,rem,st) ⟨rfl,h,Kp.refl _ _⟩ (Sf.le_refl _) rfl ?_
  rintro ⟨o,l,st1⟩ ⟨h1,h2,h3⟩ K hK hKe _
  simp only at h1 h2 h3
  have hlen:o.length + l.length = out.length + rem.length:=by
    have:=congrArg List.length h1
    simpa [endI] using this
  cases l with
  | nil =>
    simp only [endI,List.map_nil,List.append_nil] at h1
    have:=hQ st1 h2 h3
    rw [show endI err rem = List.map (fun x=>(x.2.1,0,err)) rem from rfl,← h1] at this
    rcases f7 o with ⟨e,_⟩ | ⟨e,_⟩
    all_goals
      rw [e] at this ⊢
      simp (config:=KF) (disch:=omega) only [bZ,aH,bf,List.isEmpty_nil,↓reduceIte,Nat.reduceEqDiff,reduceCtorEq]
      exact hKe _ _ _ this
  | cons x l =>
    obtain ⟨kt,t,v⟩:=x
    simp only [List.length_cons] at hlen
    have hf:=iG h2 d (by rw [(jX ..).1,(jX ..).2]; exact hb) (qsel_qset ..)
    simp only [List.tail_cons] at hf
    rw [qset_qset] at hf
    have hnext:∀ st2,ChIs st2 c (qset P d l.tail) q0 m0 q1 m1 wid bv→Kp st1 st2 (foot c q0 m0 q1 m1 wid bv)→K .normal ⟨[(0,.ptr c 0),(4,.sl true 4 (o.map itAV++[itAV (t,0,err)])),(6,.lit (.int .i64 (dirI d))),(7,.lit (.int .i64 err)),(8,.lit (.int .i64 (l.headD (0,0,0)).2.1)),(10,.lit (.bool (!l.isEmpty))),(20,.agg [.lit (.int .i64 1),.lit (.int .i64 0)]),(21,.lit (.int .i64 k))],[]⟩ st2:=by
      intro st2 g1 g2
      have hne:o++[(t,0,err)]≠[]:=by simp
      refine hK (o++[(t,0,err)],l,st2) _ ⟨by rw [← h1]; simp [endI],g1,h3.trans g2 fun x h=>.inl h⟩ (by simp) ?_
      simp only [oits,if_neg hne,List.map_append,List.map_cons,List.map_nil]
      exact Sf.le_refl _
    rcases f7 o with ⟨e,e2⟩ | ⟨e,e2⟩
    · rw [e]
      subst e2
      simp (config:=KF) (disch:=omega) only [bZ,cY,iC,bslV,i0,List.isEmpty_cons,List.reduceReplicate,eg,srcA,bL,id,bV,↓reduceIte,Nat.reduceEqDiff,Nat.reduceAdd,Nat.reduceLT,Nat.reduceLeDiff,reduceCtorEq,cy,List.headD_cons]
      refine au rfl e_f45 hf rfl fun r st2 hr=>?_
      obtain ⟨rfl,g1,g2⟩:=hr
      simp (config:=KF) (disch:=omega) only [bZ,↓reduceIte,Nat.reduceEqDiff,reduceCtorEq]
      exact hnext _ g1 g2
    · rw [e]
      simp (config:=KF) (disch:=omega) only [bZ,cY,iC,bslV,i0,List.isEmpty_cons,List.reduceReplicate,dC,srcA,bL,id,bV,↓reduceIte,Nat.reduceEqDiff,Nat.reduceAdd,Nat.reduceLT,Nat.reduceLeDiff,reduceCtorEq,cy,List.headD_cons]
      refine au rfl e_f45 hf rfl fun r st2 hr=>?_
      obtain ⟨rfl,g1,g2⟩:=hr
      simp (config:=KF) (disch:=omega) only [bZ,↓reduceIte,Nat.reduceEqDiff,reduceCtorEq]
      exact hnext _ g1 g2

theorem o3 (h:ChIs st c P q0 m0 q1 m1 wid bv) {n:Nat} (hb:Bd P n∧n < 3000) :
    aA Go.Proofs.Try.prog n_f17 [.ptr c 0] st (fun r st'=>r = .tup [bJ (fg P).2.1,.lit (.int .i64 (fg P).2.2)]∧cf st c (fg P).1 q0 m0 q1 m1 wid bv st'):=by
  have hg:=h.get
  unfold Bd at hb
  refine ap hmix k_f17 rfl rfl fun Q hQ=>?_
  unfold aFun c_f17
  generalize hR:fg P = R at hQ
  unfold fg at hR
  simp (config:=KF) (disch:=omega) only [bZ,id,↓reduceIte,Nat.reduceEqDiff,reduceCtorEq]
  refine ao rfl e_f44 (cC h) rfl ?_
  cases hcl:P.closed with
  | true =>
    rw [hcl] at hR
    simp only [if_true] at hR
    subst hR
    simp (config:=KF) (disch:=omega) only [bZ,retI,ai,addA,aa,↓reduceIte,Nat.reduceEqDiff,reduceCtorEq,hg,hcl]
    exact hQ _ _ ⟨rfl,h.post (Kp.refl _ _)⟩
  | false =>
    rw [hcl] at hR
    simp only [Bool.false_eq_true,if_false] at hR
    subst hR
    obtain ⟨h1,k1⟩:=h.rebufC (cl:=true) h.buf (Kp.refl _ _) (fun x hx=>.inl hx)
    rw [hcl] at hg
    obtain ⟨v1,v2,v3,v4,v5,v6,v7,v8⟩:=h.buf.facts
    simp (config:=KF) (disch:=omega) only [bZ,o_bar,ai,barV,am,addA,aa,evOwn_c,disOp_c,↓reduceIte,Nat.reduceEqDiff,Nat.reduceAdd,Nat.reduceLeDiff,reduceCtorEq,hg]
    generalize St.set st c _ = st1 at *
    have hf1:=iG h1 true (by simp only; omega) rfl
    have e1:qsel { P with closed:=true } true = P.V:=rfl
    simp only [e1] at hf1
    rw [f17_23w]
    refine loop_rounds 3 ?_
    simp (config:=KF) (disch:=omega) only [bZ,o_ixArr,ixArrV,id,↓reduceIte,Nat.reduceEqDiff,Int.reduceLT,Int.reduceLE,reduceCtorEq,iE]
    refine au rfl e_f45 hf1 rfl fun r st2 hr=>?_
    obtain ⟨rfl,h2,k2⟩:=hr
    simp (config:=KF) (disch:=omega) only [bZ,↓reduceIte,Nat.reduceEqDiff,reduceCtorEq]
    refine kB (P:={ P with closed:=true }) true 13 0 [] P.V h2 (by simp only; omega) (by simp only [List.length_nil]; omega) fun st3 h3 k3=>?_
    have k13:=(k1.trans k2 fun x h=>.inl h).trans k3 fun x h=>.inl h
    have hf2:=iG h3 false (by rw [(jX ..).1,(jX ..).2]; simp only; omega) rfl
    have e2:qsel (qset { P with closed:=true } true []) false = P.S:=rfl
    simp only [e2] at hf2
    have hlen:(endI 13 P.V).length = P.V.length:=by simp [endI]
    have hfin:∀ st',ChIs st' c (qset (qset { P with closed:=true } true []) false []) q0 m0 q1 m1 wid bv→Kp st st' (foot c q0 m0 q1 m1 wid bv)→Q (.tup [bJ (endI 13 P.V++endI 14 P.S),.lit (.int .i64 0)]) st':=by
      intro st' g1 g2
      have g3:=g1.post g2
      exact hQ _ _ ⟨rfl,g3⟩
    have hits:∀ l:List It,(oits l).dis = bJ l:=fun l=>by unfold oits bJ; split <;> rfl
    rw [List.nil_append]
    rcases f7 (endI 13 P.V) with ⟨e,e3⟩ | ⟨e,e3⟩
    all_goals
      rw [e]
      simp (config:=KF) (disch:=omega) only [bZ,ki,o_ixArr,ixArrV,id,↓reduceIte,Nat.reduceEqDiff,Int.reduceLT,Int.reduceLE,Int.reduceEq,reduceCtorEq,Int.zero_add,iE]
      refine au rfl e_f45 hf2 rfl fun r st4 hr=>?_
      obtain ⟨rfl,h4,k4⟩:=hr
      simp (config:=KF) (disch:=omega) only [bZ,↓reduceIte,Nat.reduceEqDiff,reduceCtorEq]
      rw [← e]
      refine kB (P:=qset { P with closed:=true } true []) false 14 1 (endI 13 P.V) P.S h4 (by rw [(jX ..).1,(jX ..).2]; simp only; omega) (by rw [hlen]; omega) fun st5 h5 k5=>?_
      have hq:=hfin st5 h5 ((k13.trans k4 fun x h=>.inl h).trans k5 fun x h=>.inl h)
      rw [← hits] at hq
      rcases f7 (endI 13 P.V++endI 14 P.S) with ⟨e5,_⟩ | ⟨e5,_⟩
      all_goals
        rw [e5] at hq ⊢
        simp (config:=KF) (disch:=omega) only [bZ,aH,bf,retI,ki,unrQ_exit,gv,↓reduceIte,Nat.reduceEqDiff,Int.reduceLT,Int.reduceAdd,reduceCtorEq,iE]
        simpa only [dis_sl,kJ] using hq
end
end Go.Fx.YtbomoaajkinfpaaFx

