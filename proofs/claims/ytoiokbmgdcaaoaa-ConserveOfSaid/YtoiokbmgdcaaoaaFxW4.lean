/- What the functions that the statement reaches compute: part 4. -/
import Derived.Test.YtoiokbmgdcaaoaaFxW3
namespace Go.Fx.YtoiokbmgdcaaoaaFx
open Go Go.Fx
attribute [local irreducible] aC runI ap am

set_option maxRecDepth 100000
set_option maxHeartbeats 4000000

open Classical in
noncomputable def prt (v:AV):List (List UInt8):=if h:∃ L,PV v L then Classical.choose h else []
open Classical in
noncomputable def byt (v:AV):List UInt8:=if h:∃ L,BV v L then Classical.choose h else []
theorem prt_ok {v:AV} {L:List (List UInt8)} (h:PV v L):PV v (prt v):=by
 unfold prt
 rw [dif_pos ⟨L,h⟩]
 exact Classical.choose_spec _
theorem byt_ok {v:AV} {L:List UInt8} (h:BV v L):BV v (byt v):=by
 unfold byt
 rw [dif_pos ⟨L,h⟩]
 exact Classical.choose_spec _
noncomputable def szC (c:Cl):Nat:=((prt c.data.v).map List.length).sum
noncomputable def lnE (e:En):Nat:=(byt e.data.v).length
structure ClOk (c:Cl):Prop where
 p:PV c.data.v (prt c.data.v)
 pl:(prt c.data.v).length≤8
 sz:szC c≤200
structure EnOk (e:En):Prop where
 b:BV e.data.v (byt e.data.v)
 ln:lnE e≤200
def EvOk (e:Ev):Prop:=ClOk e.call∧EnOk e.en
theorem cl0_ok:ClOk cl0:=by
 have h0:PV cl0.data.v []:=.inl ⟨rfl,rfl⟩
 have h1:=prt_ok h0
 have h2:prt cl0.data.v = []:=by
  rcases h1 with ⟨_,h⟩ | h
  ·exact h
  ·cases h
 exact ⟨h1,by rw [h2]; simp,by unfold szC; rw [h2]; simp⟩
theorem subC_ok {l:List Ev} (h:∀ e ∈ l,EvOk e) (t:Int) (c:Cl):subC t l = some c→ClOk c:=by
 have key:∀ (l:List Ev) (o:Option Cl),(∀ e ∈ l,EvOk e)→(∀ c,o = some c→ClOk c)→∀ c,l.foldl (fun o e=>if mo t e = true then some e.call else o) o = some c→ClOk c:=by
  intro l
  induction l with
  | nil=>intro o _ h2 c hc; exact h2 c hc
  | cons e r ih =>
    intro o h1 h2 c hc
    rw [List.foldl_cons] at hc
    refine ih _ (fun x hx=>h1 x (by simp [hx])) (fun c hc=>?_) c hc
    split at hc
    ·cases hc; exact (h1 e (by simp)).1
    ·exact h2 c hc
 exact key l none h (fun c hc=>by cases hc) c
theorem endC_ok {l:List Ev} (h:∀ e ∈ l,EvOk e) (e:Ev):ClOk (endC l e):=by
 unfold endC
 split
 ·cases hs:subC e.task l with
  | none=>exact cl0_ok
  | some c=>exact subC_ok h _ c hs
 ·exact cl0_ok
def ExOk (x:Ex):Prop:=ClOk x.c∧EnOk x.x
theorem exs_ok {l:List Ev} (h:∀ e ∈ l,EvOk e) (k:Nat):∀ x ∈ exsT l k,ExOk x:=by
 intro x hx
 unfold exsT at hx
 obtain ⟨i,_,hi⟩:=List.mem_filterMap.1 hx
 unfold exAt at hi
 split at hi
 ·rename_i e he
  split at hi
  ·cases hi
   exact ⟨endC_ok (fun y hy=>h y (List.mem_of_mem_take hy)) e,(h e (List.mem_of_getElem? he)).2⟩
  ·cases hi
 ·cases hi
noncomputable def stU (p:Pi) (x:Ex):Int:=(if x.x.kind = 6∧(x.c.f1 = p.f1∧x.c.f2 = p.f2) then max 0 (min ((szC x.c:Nat):Int) x.x.n) else 0) - (if x.x.kind = 5∧(x.c.f1 = p.t1∧x.c.f2 = p.t2) then ((lnE x.x:Nat):Int) else 0)
theorem stU_le {p:Pi} {x:Ex} (h:ExOk x):-200≤stU p x∧stU p x≤200:=by
 have h1:=h.1.sz
 have h2:=h.2.ln
 unfold stU
 split <;> split <;> omega
noncomputable def sumU (p:Pi) (l:List Ex) (k:Nat):Int:=((l.take k).map (stU p)).sum
theorem rt (p:Pi) {l:List Ex} {k:Nat} (hk:k < l.length):sumU p l (k + 1) = sumU p l k + stU p l[k]:=by
 unfold sumU
 rw [List.take_succ_eq_append_getElem hk,List.map_append,List.sum_append]
 simp
theorem tk (p:Pi) {l:List Ex} (h:∀ x ∈ l,ExOk x):∀ k,k≤l.length→-200 * (k:Int)≤sumU p l k∧sumU p l k≤200 * (k:Int)
 | 0,_=>by unfold sumU; simp
 | k + 1, hk => by
   have ih:=tk p h k (by omega)
   have hs:=stU_le (p:=p) (h l[k] (List.getElem_mem _))
   rw [rt p (by omega)]
   omega
def em (p:Pi) (l:List Ex):Prop:=p.cap < 0∨∃ j,j < l.length∧sumU p l (j + 1) > p.cap
open Classical in
theorem full_calls (st:St) {x:Pi} {W R P:AV} (h:POk x W R P) {l:List Ev} (hl:l.length≤10000) (hok:∀ e ∈ l,EvOk e) (hcap:x.cap≤1073741824) :
  aX Go.Proofs.Try.prog n_f30 [.sl false 30 (l.map evA),.agg (piC x W R P)] st (fun v _=>v = .lit (.bool (decide (em x (exsT l l.length))))):=by
 obtain ⟨a1,a2,a3,a4,a5,a6,a7,a8,a9⟩:=h.w.facts
 obtain ⟨b1,b2,b3,b4,b5,b6,b7,b8,b9⟩:=h.r.facts
 obtain ⟨c1,c2,c3,c4,c5,c6,c7,c8⟩:=h.p.facts
 refine d5 hmix k_f30 rfl rfl fun Q hQ=>?_
 unfold aFun c_f30
 unfold piC
 by_cases k0:x.cap < 0
 ·have hd:=fun s=>hQ (.lit (.bool (decide (em x (exsT l l.length))))) s rfl
  rw [decide_eq_true (show em x (exsT l l.length) from .inl k0)] at hd
  simp (config:=KF) (disch:=omega) only [bZ,retI,dn,addA,ag,↓reduceIte,Nat.reduceEqDiff,Nat.reduceAdd,reduceCtorEq,a2,a4,b2,b4,c2,c4]
  exact hd _
 have hec:=ends_calls st hl
 have hxo:=exs_ok hok l.length
 have hxl:=mr l l.length
 generalize exsT l l.length = E at *
 simp (config:=KF) (disch:=omega) only [bZ,dn,addA,ag,id,↓reduceIte,Nat.reduceEqDiff,Nat.reduceAdd,reduceCtorEq,a2,a4,b2,b4,c2,c4]
 refine jW rfl e_f20 hec rfl fun v s1 hr=>?_
 subst hr
 obtain ⟨g1,g2,g3,g4⟩:=cU 25 (E.map exA)
 obtain ⟨d1,d2,d3⟩:=mq 25 (E.map exA)
 rw [List.length_map] at g4
 have hrow:∀ k (hk:k < E.length),(rowG 25 (E.map exA)).dis = .sl false 25 (E.map exA):=fun k hk=>by
  rw [dk (by intro e; have:=congrArg List.length e; simp at this; rw [this] at hk; simp at hk)]; rfl
 generalize (rowG 25 (E.map exA)).dis = RV at *
 simp (config:=KF) (disch:=omega) only [bZ,↓reduceIte,Nat.reduceEqDiff,reduceCtorEq,g4]
 rw [f30_15w]
 refine da (A:=Nat) (fun k=>E.length - k) (fun k=>⟨[(3,.lptr 3 0),(5,.lit (.int .i64 (sumU x E k))),(15,RV),(16,.lit (.int .i64 (E.length:Nat))),(17,.lit (.int .i64 (k:Nat)))],[(3,piC x W R P)]⟩) (fun _=>s1)
  (fun k=>k≤E.length∧∀ j,j < k→¬ sumU x E (j + 1) > x.cap) 0 ⟨Nat.zero_le _,fun j h=>absurd h (Nat.not_lt_zero _)⟩ (Sf.le_refl _) rfl ?_
 rintro k ⟨h1,h2⟩ K hK hKe hKr
 try dsimp only
 unfold piC at hK ⊢
 by_cases hk:k < E.length
 ·have hrv:=hrow k hk
  subst hrv
  have hgd:(E.map exA).getD k .any = .agg (exC E[k]):=by simp [hk,exA]
  rw [exC_ap] at hgd
  have hell:(E.map exA).length = E.length:=List.length_map ..
  have hsu:=rt x hk
  have hsb:=tk x hxo k (by omega)
  have hsb1:=tk x hxo (k + 1) (by omega)
  have hx:=hxo E[k] (List.getElem_mem hk)
  have hK:=hK (k + 1)
  have hyes:sumU x E (k + 1) > x.cap→em x E:=fun q=>.inr ⟨k,hk,q⟩
  have hnx:¬ sumU x E (k + 1) > x.cap→∀ j,j < k + 1→¬ sumU x E (j + 1) > x.cap:=fun q j hj=>by
   by_cases e:j = k
   ·subst e; exact q
   ·exact h2 j (by omega)
  unfold stU at hsu
  generalize E[k] = y at *
  have hws:=hx.1.sz
  have hrs:=hx.2.ln
  obtain ⟨p1,p2,p3,p4,p5,p6,p7,p8⟩:=hx.1.p.facts
  obtain ⟨q1,q2,q3,q4,q5,q6,q7,q8,q9⟩:=hx.2.b.facts
  have hq8:(byt y.x.data.v).length = lnE y.x:=rfl
  rw [hq8] at q8
  have he1:=tj y.c.f1 y.c.f2 x.f1 x.f2
  have he2:=tj y.c.f1 y.c.f2 x.t1 x.t2
  by_cases k6:y.x.kind = 6
  ·have k5:¬ y.x.kind = 5:=by omega
   rw [if_neg (fun q:y.x.kind = 5∧(y.c.f1 = x.t1∧y.c.f2 = x.t2)=>k5 q.1)] at hsu
   by_cases kf:y.c.f1 = x.f1∧y.c.f2 = x.f2
   ·rw [if_pos ⟨k6,kf⟩,Int.sub_zero] at hsu
    rw [decide_eq_true kf] at he1
    simp (config:=KF) (disch:=omega) only [bZ,AI.dst,ixSV,ar,addA,ag,au,↓reduceIte,Nat.reduceEqDiff,Nat.reduceAdd,Nat.reduceLeDiff,p1,p2,p4,q2,q4,hgd,hell,he1,p8]
    rw [f30_34w]
    generalize hD:prt y.c.data.v = D at *
    refine da (A:=Nat) (fun j=>D.length - j) (fun j=>⟨[(3,.lptr 3 0),(5,.lit (.int .i64 (sumU x E k))),(7,.lptr 7 0),(8,.lit (.int .i64 ((((D.take j).map List.length).sum:Nat):Int))),(15,.sl false 25 (E.map exA)),(16,.lit (.int .i64 (E.length:Nat))),(17,.lit (.int .i64 (k:Nat))),(35,y.c.data.v),(36,.lit (.int .i64 (D.length:Nat))),(37,.lit (.int .i64 (j:Nat)))],[(3,piC x W R P),(7,exC y)]⟩) (fun _=>s1)
     (fun j=>j≤D.length) 0 (Nat.zero_le _) (Sf.le_refl _) rfl ?_
    rintro j i1 K3 hK3 hKe3 hKr3
    try dsimp only
    unfold piC at hK3 ⊢
    rw [exC_ap] at hK3 ⊢
    have hszc:szC y.c = (D.map List.length).sum:=by unfold szC; rw [hD]
    have hsz:∀ j,((D.take j).map List.length).sum≤(D.map List.length).sum:=fun j=>by
     conv=>rhs; rw [← List.take_append_drop j D,List.map_append,List.sum_append]
     exact Nat.le_add_right _ _
    by_cases hj:j < D.length
    ·have hpv:=hx.1.p
     have hpl:=hx.1.pl
     rw [hD] at hpv hpl
     have hve:y.c.data.v = .sl false 1 (D.map fun d=>.sl false 1 (BB d)):=by
      rcases hpv with ⟨_,e⟩ | e
      ·rw [e] at hj; simp at hj
      ·exact e
     have hg2:(D.map fun d=>AV.sl false 1 (BB d)).getD j .any = .sl false 1 (BB D[j]):=by simp [hj]
     have hl2:(D.map fun d=>AV.sl false 1 (BB d)).length = D.length:=List.length_map ..
     have hl3:=bN D[j]
     have hs2:=hsz j
     have hs3:=hsz (j + 1)
     have hs4:((D.take (j + 1)).map List.length).sum = ((D.take j).map List.length).sum + D[j].length:=by
      rw [List.take_succ_eq_append_getElem hj,List.map_append,List.sum_append]; simp
     have hK3:=hK3 (j + 1)
     rw [hs4] at hs3 hK3
     rw [hve] at hK3 ⊢
     generalize ((D.take j).map List.length).sum = T at *
     simp (config:=KF) (disch:=omega) only [bZ,ixSV,lenI,ag,bw,↓reduceIte,Nat.reduceEqDiff,m7,hg2,hl2,hl3]
     exact hK3 _ (by omega) (by omega) (Sf.le_refl _)
    ·have hjl:j = D.length:=by omega
     subst hjl
     rw [List.take_length,← hszc]
     have hmn1:bh true (.lit (.int .i64 ((szC y.c:Nat):Int))) (.lit (.int .i64 y.x.n)) = .ok (.lit (.int .i64 (min ((szC y.c:Nat):Int) y.x.n))):=by
      have e:(if y.x.n < ((szC y.c:Nat):Int) then y.x.n else ((szC y.c:Nat):Int)) = min ((szC y.c:Nat):Int) y.x.n:=by split <;> omega
      simp only [bh,if_true,e]
     have hmn2:∀ t:Int,bh false (.lit (.int .i64 0)) (.lit (.int .i64 t)) = .ok (.lit (.int .i64 (max 0 t))):=fun t=>by
      have e:(if (0:Int) < t then t else 0) = max 0 t:=by split <;> omega
      simp only [bh,if_true,Bool.false_eq_true,if_false,e]
     have hmn2:=hmn2 (min ((szC y.c:Nat):Int) y.x.n)
     have hm0:0≤max 0 (min ((szC y.c:Nat):Int) y.x.n)∧max 0 (min ((szC y.c:Nat):Int) y.x.n)≤200:=by omega
     generalize max 0 (min ((szC y.c:Nat):Int) y.x.n) = m at *
     generalize min ((szC y.c:Nat):Int) y.x.n = m2 at *
     have hsum:=hsu
     simp (config:=KF) (disch:=omega) only [bZ,az,bp,↓reduceIte,Nat.reduceEqDiff]
     refine hKe3 _ _ _ ?_
     rw [hsum] at hK hyes hnx
     by_cases q:sumU x E k + m > x.cap
     ·have hd:=fun s=>hQ (.lit (.bool (decide (em x E)))) s rfl
      rw [decide_eq_true (hyes q)] at hd
      simp (config:=KF) (disch:=omega) only [bZ,aj,AI.dst,o_mn,addA,ag,↓reduceIte,Nat.reduceEqDiff,Nat.reduceAdd,hmn1,hmn2]
      refine hKr _ _ ?_
      simp (config:=KF) (disch:=omega) only [bZ,retI,↓reduceIte]
      exact hd _
     ·simp (config:=KF) (disch:=omega) only [bZ,aj,AI.dst,o_mn,addA,ag,↓reduceIte,Nat.reduceEqDiff,Nat.reduceAdd,hmn1,hmn2]
      exact hK _ ⟨by omega,hnx q⟩ (by omega) (Sf.le_refl _)
   ·rw [if_neg (fun q=>kf q.2),Int.sub_zero,Int.add_zero] at hsu
    rw [decide_eq_false kf] at he1
    have hsum:=hsu
    rw [hsum] at hK hyes hnx
    by_cases q:sumU x E k > x.cap
    ·have hd:=fun s=>hQ (.lit (.bool (decide (em x E)))) s rfl
     rw [decide_eq_true (hyes q)] at hd
     simp (config:=KF) (disch:=omega) only [bZ,AI.dst,ixSV,ar,addA,ag,au,↓reduceIte,Nat.reduceEqDiff,Nat.reduceAdd,Nat.reduceLeDiff,p2,p4,q2,q4,hgd,hell,he1]
     refine hKr _ _ ?_
     simp (config:=KF) (disch:=omega) only [bZ,retI,↓reduceIte]
     exact hd _
    ·simp (config:=KF) (disch:=omega) only [bZ,AI.dst,ixSV,ar,addA,ag,au,↓reduceIte,Nat.reduceEqDiff,Nat.reduceAdd,Nat.reduceLeDiff,p2,p4,q2,q4,hgd,hell,he1]
     exact hK _ ⟨by omega,hnx q⟩ (by omega) (Sf.le_refl _)
  ·rw [if_neg (fun q:y.x.kind = 6∧(y.c.f1 = x.f1∧y.c.f2 = x.f2)=>k6 q.1),Int.zero_sub] at hsu
   by_cases k5:y.x.kind = 5
   ·by_cases kf:y.c.f1 = x.t1∧y.c.f2 = x.t2
    ·rw [if_pos ⟨k5,kf⟩,← Int.sub_eq_add_neg] at hsu
     rw [decide_eq_true kf] at he2
     have hsum:=hsu
     rw [hsum] at hK hyes hnx
     by_cases q:sumU x E k - ((lnE y.x:Nat):Int) > x.cap
     ·have hd:=fun s=>hQ (.lit (.bool (decide (em x E)))) s rfl
      rw [decide_eq_true (hyes q)] at hd
      simp (config:=KF) (disch:=omega) only [bZ,AI.dst,ixSV,ar,addA,ag,fZ,au,↓reduceIte,Nat.reduceEqDiff,Nat.reduceAdd,Nat.reduceLeDiff,p2,p4,q1,q2,q4,hgd,hell,he2,q8]
      refine hKr _ _ ?_
      simp (config:=KF) (disch:=omega) only [bZ,retI,↓reduceIte]
      exact hd _
     ·simp (config:=KF) (disch:=omega) only [bZ,AI.dst,ixSV,ar,addA,ag,fZ,au,↓reduceIte,Nat.reduceEqDiff,Nat.reduceAdd,Nat.reduceLeDiff,p2,p4,q1,q2,q4,hgd,hell,he2,q8]
      exact hK _ ⟨by omega,hnx q⟩ (by omega) (Sf.le_refl _)
    ·rw [if_neg (fun q=>kf q.2),Int.neg_zero,Int.add_zero] at hsu
     rw [decide_eq_false kf] at he2
     have hsum:=hsu
     rw [hsum] at hK hyes hnx
     by_cases q:sumU x E k > x.cap
     ·have hd:=fun s=>hQ (.lit (.bool (decide (em x E)))) s rfl
      rw [decide_eq_true (hyes q)] at hd
      simp (config:=KF) (disch:=omega) only [bZ,AI.dst,ixSV,ar,addA,ag,au,↓reduceIte,Nat.reduceEqDiff,Nat.reduceAdd,Nat.reduceLeDiff,p2,p4,q2,q4,hgd,hell,he2]
      refine hKr _ _ ?_
      simp (config:=KF) (disch:=omega) only [bZ,retI,↓reduceIte]
      exact hd _
     ·simp (config:=KF) (disch:=omega) only [bZ,AI.dst,ixSV,ar,addA,ag,au,↓reduceIte,Nat.reduceEqDiff,Nat.reduceAdd,Nat.reduceLeDiff,p2,p4,q2,q4,hgd,hell,he2]
      exact hK _ ⟨by omega,hnx q⟩ (by omega) (Sf.le_refl _)
   ·rw [if_neg (fun q:y.x.kind = 5∧(y.c.f1 = x.t1∧y.c.f2 = x.t2)=>k5 q.1),Int.neg_zero,Int.add_zero] at hsu
    have hsum:=hsu
    rw [hsum] at hK hyes hnx
    by_cases q:sumU x E k > x.cap
    ·have hd:=fun s=>hQ (.lit (.bool (decide (em x E)))) s rfl
     rw [decide_eq_true (hyes q)] at hd
     simp (config:=KF) (disch:=omega) only [bZ,AI.dst,ixSV,ar,addA,ag,au,↓reduceIte,Nat.reduceEqDiff,Nat.reduceAdd,Nat.reduceLeDiff,p2,p4,q2,q4,hgd,hell]
     refine hKr _ _ ?_
     simp (config:=KF) (disch:=omega) only [bZ,retI,↓reduceIte]
     exact hd _
    ·simp (config:=KF) (disch:=omega) only [bZ,AI.dst,ixSV,ar,addA,ag,au,↓reduceIte,Nat.reduceEqDiff,Nat.reduceAdd,Nat.reduceLeDiff,p2,p4,q2,q4,hgd,hell]
     exact hK _ ⟨by omega,hnx q⟩ (by omega) (Sf.le_refl _)
 ·have hkl:k = E.length:=by omega
  subst hkl
  have hd:=fun s=>hQ (.lit (.bool (decide (em x E)))) s rfl
  rw [decide_eq_false (show ¬ em x E from fun q=>by
   rcases q with q | ⟨j,hj,q⟩
   ·exact k0 q
   ·exact h2 j hj q)] at hd
  simp (config:=KF) (disch:=omega) only [bZ,az,bp,↓reduceIte,Nat.reduceEqDiff]
  refine hKe _ _ _ ?_
  simp (config:=KF) (disch:=omega) only [bZ,aj,retI,↓reduceIte]
  exact hd _
end Go.Fx.YtoiokbmgdcaaoaaFx

