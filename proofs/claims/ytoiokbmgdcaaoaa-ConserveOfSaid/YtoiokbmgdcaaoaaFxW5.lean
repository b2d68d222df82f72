/- What the functions that the statement reaches compute: part 5. -/
import Derived.Test.YtoiokbmgdcaaoaaFxW4
namespace Go.Fx.YtoiokbmgdcaaoaaFx
open Go Go.Fx
attribute [local irreducible] aC runI ap am

set_option maxRecDepth 100000
set_option maxHeartbeats 4000000

open Classical in
noncomputable def flawP (x:Pi) (full:Prop):Int:=if x.cpd = true then 0 else if ¬ gY x then 1 else if x.eof = true∧¬ x.w <+: x.r then 2 else if full then 3 else 0
open Classical in
theorem of_calls (st:St) {x:Pi} {W R P:AV} (h:POk x W R P) {l:List Ev} (hl:l.length≤10000) (hok:∀ e ∈ l,EvOk e) (hcap:x.cap≤1073741824) :
  aX Go.Proofs.Try.prog n_f15 [.sl false 30 (l.map evA),.agg (piC x W R P)] st (fun v _=>v = if 5000 < l.length then .tup [.lit (.int .i64 0),.lit (.int .i64 7)] else .tup [.lit (.int .i64 (flawP x (em x (exsT l l.length)))),.lit (.int .i64 0)]):=by
 obtain ⟨a1,a2,a3,a4,a5,a6,a7,a8,a9⟩:=h.w.facts
 obtain ⟨b1,b2,b3,b4,b5,b6,b7,b8,b9⟩:=h.r.facts
 obtain ⟨c1,c2,c3,c4,c5,c6,c7,c8⟩:=h.p.facts
 have hwl:=h.wl
 have hrl:=h.rl
 have hll:(l.map evA).length = l.length:=List.length_map ..
 refine d5 hmix k_f15 rfl rfl fun Q hQ=>?_
 unfold aFun c_f15
 have hma:=fun s=>made_calls s h
 have hfu:=fun s=>full_calls s h hl hok hcap
 have hpr:=fun s=>fH s h.r h.w (by omega) (by omega)
 unfold piC at hma hfu ⊢
 by_cases k0:5000 < l.length
 ·rw [if_pos k0] at hQ
  simp (config:=KF) (disch:=omega) only [bZ,retI,resI,resL,dn,lenI,bd,↓reduceIte,Nat.reduceEqDiff,Nat.reduceAdd,reduceCtorEq,hll,a2,a4,b2,b4,c2,c4]
  exact hQ _ _ rfl
 rw [if_neg k0] at hQ
 have hQ:=fun s=>hQ _ s rfl
 unfold flawP at hQ
 by_cases kc:x.cpd = true
 ·rw [if_pos kc] at hQ
  simp (config:=KF) (disch:=omega) only [bZ,retI,resI,resL,dn,lenI,addA,ag,bd,↓reduceIte,Nat.reduceEqDiff,Nat.reduceAdd,reduceCtorEq,hll,kc,a2,a4,b2,b4,c2,c4]
  exact hQ _
 have kc:x.cpd = false:=by cases hx:x.cpd with | false=>rfl | true=>exact absurd hx kc
 rw [if_neg (by rw [kc]; simp)] at hQ
 rw [kc] at hma hfu
 simp (config:=KF) (disch:=omega) only [bZ,dn,lenI,addA,ag,id,↓reduceIte,Nat.reduceEqDiff,Nat.reduceAdd,Nat.reduceLeDiff,reduceCtorEq,hll,kc,a2,a4,b2,b4,c2,c4]
 refine jW (vs:=[.agg [.lit (.int .i64 x.f1),.lit (.int .i64 x.f2),.lit (.int .i64 x.t1),.lit (.int .i64 x.t2),.lit (.int .i64 x.cap),W,R,P,.lit (.bool x.eof),.lit (.bool false)]]) (by simp [dK,cR,a2,b2,c2]) e_f28 (hma _) (by simp [cr,gG,a5,b5,c5]) fun v s1 hr=>?_
 subst hr
 by_cases km:gY x
 ·rw [if_neg (fun q=>q km)] at hQ
  rw [decide_eq_true km]
  by_cases ke:x.eof = true
  ·rw [ke] at hfu
   simp (config:=KF) (disch:=omega) only [bZ,AI.dst,o_un,addA,ag,unA,id,↓reduceIte,Nat.reduceEqDiff,reduceCtorEq,ke,a1,b1]
   refine aK (vs:=[R,W]) (by simp [a1,b1]) e_f29 (hpr _) (by simp [a5,b5]) ?_
   by_cases kp:x.w <+: x.r
   ·rw [if_neg (fun q=>q.2 kp)] at hQ
    rw [decide_eq_true kp]
    simp (config:=KF) (disch:=omega) only [bZ,AI.dst,o_un,ag,unA,id,↓reduceIte,Nat.reduceEqDiff,Nat.reduceAdd,Nat.reduceLeDiff,reduceCtorEq,a2,b2,c2]
    refine jW (vs:=[.sl false 30 (l.map evA),.agg [.lit (.int .i64 x.f1),.lit (.int .i64 x.f2),.lit (.int .i64 x.t1),.lit (.int .i64 x.t2),.lit (.int .i64 x.cap),W,R,P,.lit (.bool true),.lit (.bool false)]]) (by simp [m3,dK,cR,a2,b2,c2]) e_f30 (hfu _) (by simp [cr,gG,gH,a5,b5,c5]) fun v s2 hr=>?_
    subst hr
    by_cases kf:em x (exsT l l.length)
    ·rw [if_pos kf] at hQ
     rw [decide_eq_true kf]
     simp (config:=KF) (disch:=omega) only [bZ,retI,resI,resL,bd,↓reduceIte,Nat.reduceEqDiff,reduceCtorEq]
     exact hQ _
    ·rw [if_neg kf] at hQ
     rw [decide_eq_false kf]
     simp (config:=KF) (disch:=omega) only [bZ,retI,resI,resL,bd,↓reduceIte,Nat.reduceEqDiff,reduceCtorEq]
     exact hQ _
   ·rw [if_pos ⟨ke,kp⟩] at hQ
    rw [decide_eq_false kp]
    simp (config:=KF) (disch:=omega) only [bZ,retI,resI,resL,AI.dst,o_un,unA,bd,↓reduceIte,Nat.reduceEqDiff,reduceCtorEq]
    exact hQ _
  ·have ke:x.eof = false:=by cases hx:x.eof with | false=>rfl | true=>exact absurd hx ke
   rw [if_neg (by rw [ke]; simp)] at hQ
   rw [ke] at hfu
   simp (config:=KF) (disch:=omega) only [bZ,AI.dst,o_un,addA,ag,unA,id,↓reduceIte,Nat.reduceEqDiff,Nat.reduceAdd,Nat.reduceLeDiff,reduceCtorEq,ke,a2,b2,c2]
   refine jW (vs:=[.sl false 30 (l.map evA),.agg [.lit (.int .i64 x.f1),.lit (.int .i64 x.f2),.lit (.int .i64 x.t1),.lit (.int .i64 x.t2),.lit (.int .i64 x.cap),W,R,P,.lit (.bool false),.lit (.bool false)]]) (by simp [m3,dK,cR,a2,b2,c2]) e_f30 (hfu _) (by simp [cr,gG,gH,a5,b5,c5]) fun v s2 hr=>?_
   subst hr
   by_cases kf:em x (exsT l l.length)
   ·rw [if_pos kf] at hQ
    rw [decide_eq_true kf]
    simp (config:=KF) (disch:=omega) only [bZ,retI,resI,resL,bd,↓reduceIte,Nat.reduceEqDiff,reduceCtorEq]
    exact hQ _
   ·rw [if_neg kf] at hQ
    rw [decide_eq_false kf]
    simp (config:=KF) (disch:=omega) only [bZ,retI,resI,resL,bd,↓reduceIte,Nat.reduceEqDiff,reduceCtorEq]
    exact hQ _
 ·rw [if_pos km] at hQ
  rw [decide_eq_false km]
  simp (config:=KF) (disch:=omega) only [bZ,retI,resI,resL,o_un,unA,bd,↓reduceIte,Nat.reduceEqDiff,reduceCtorEq]
  exact hQ _

theorem full_iff (p:Pi) (l:List Ev):∀ n,n≤l.length→(em p (exsT l n)↔∃ k,k≤n∧sumU p (exsT l k) (exsT l k).length > p.cap)
 | 0, _ => by
   have h0:exsT l 0 = []:=rfl
   rw [h0]
   constructor
   ·intro q
    rcases q with q | ⟨j,hj,_⟩
    ·refine ⟨0,Nat.le_refl _,?_⟩
     rw [h0]; unfold sumU; simp; omega
    ·simp at hj
   ·rintro ⟨k,hk,q⟩
    obtain rfl:k = 0:=by omega
    rw [h0] at q
    unfold sumU at q
    simp at q
    exact .inl (by omega)
 | n + 1, hn => by
   have ih:=full_iff p l n (by omega)
   have hs:=jn l (show n < l.length by omega)
   have hsame:∀ (a b:List Ex) (j:Nat),j≤a.length→sumU p (a++b) j = sumU p a j:=fun a b j hj=>by
    unfold sumU; rw [List.take_append_of_le_length hj]
   have hor:(∃ k,k≤n + 1∧sumU p (exsT l k) (exsT l k).length > p.cap)↔(∃ k,k≤n∧sumU p (exsT l k) (exsT l k).length > p.cap)∨sumU p (exsT l (n + 1)) (exsT l (n + 1)).length > p.cap:=by
    constructor
    ·rintro ⟨k,hk,q⟩
     by_cases e:k = n + 1
     ·subst e; exact .inr q
     ·exact .inl ⟨k,by omega,q⟩
    ·rintro (⟨k,hk,q⟩ | q)
     ·exact ⟨k,by omega,q⟩
     ·exact ⟨n + 1,Nat.le_refl _,q⟩
   rw [hor,← ih]
   split at hs
   ·generalize (⟨n,endC (l.take n) l[n],l[n].en⟩:Ex) = y at hs
    rw [hs]
    generalize exsT l n = A
    unfold em
    constructor
    ·rintro (q | ⟨j,hj,q⟩)
     ·exact .inl (.inl q)
     ·rw [List.length_append,List.length_singleton] at hj
      by_cases e:j = A.length
      ·subst e
       exact .inr (by rw [List.length_append,List.length_singleton]; exact q)
      ·rw [hsame _ _ _ (by omega)] at q
       exact .inl (.inr ⟨j,by omega,q⟩)
    ·rintro ((q | ⟨j,hj,q⟩) | q)
     ·exact .inl q
     ·exact .inr ⟨j,by rw [List.length_append]; omega,by rw [hsame _ _ _ (by omega)]; exact q⟩
     ·exact .inr ⟨A.length,by simp,by rw [List.length_append,List.length_singleton] at q; exact q⟩
   ·rw [List.append_nil] at hs
    rw [hs]
    constructor
    ·exact .inl
    ·rintro (q | q)
     ·exact q
     ·exact ih.2 ⟨n,Nat.le_refl _,by rw [hs] at *; exact q⟩
end Go.Fx.YtoiokbmgdcaaoaaFx

