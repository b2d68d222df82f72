/- What the functions that the statement reaches compute: part 12. -/
import Derived.Test.YtbdjfccgkdgbfaaFxW11
namespace Go.Fx.YtbdjfccgkdgbfaaFx
open Go Go.Fx
attribute [local irreducible] aC runI az ar

set_option maxRecDepth 100000
set_option maxHeartbeats 4000000

/-! Send. -/
theorem gR (t:Int):∀ W:WL,((delT t (W.map cz)).isSome = true↔cJ t W≠none)
 | []=>by simp [delT,cJ]
 | e :: r => by
   have ih:=gR t r
   simp only [List.map_cons,delT,cJ]
   rw [show (cz e).1 = e.1 from rfl]
   split
   ·simp
   ·rw [← ih]
    cases delT t (r.map cz) <;> simp

theorem rPub_ne {topic:Int} {p:List UInt8} {R:HR} (hz:¬ (rPub topic p R).2 = 0):(rPub topic p R).1 = R:=by
 by_cases a:topic < 0∨16≤topic
 ·unfold rPub; rw [if_pos a]
 by_cases b:1024 < p.length
 ·unfold rPub; rw [if_neg a,if_pos b]
 by_cases c:(popR topic R.ws).isSome = true∨canR topic p.length R.subs = false
 ·unfold rPub; rw [if_neg a,if_neg b,if_pos c]
 ·unfold rPub at hz; rw [if_neg a,if_neg b,if_neg c] at hz; exact absurd rfl hz
theorem we_kill (w:WE):kill 10 (weAV w).own2.dis = weAV w∧(weAV w).cells.all AV.solid1 = true∧kill 6 (weAV w).own2.dis = weAV w:=by
 unfold weAV dtAV
 split <;> exact ⟨rfl,rfl,rfl⟩
theorem n4 {st:St} {h wid n:Nat} {R:HR} {F:List Nat} (hh:HubR st h wid n R F) (task topic:Int) {v:AV} {p:List UInt8} (hv:DV v st p) (hp:p.length≤100000) (hvn:∀ b ∈ au v,b ∉ F) (hn:n < 900000) :
  am Go.Proofs.Try.prog n_f29 [.ptr h 0,.lit (.int .i64 task),.lit (.int .i64 topic),v] st (fun w st'=>w = .tup [.lit (.bool (b9 task topic p R).2.1),.lit (.int .i64 (b9 task topic p R).2.2)]∧HubR st' h wid (n + 2) (b9 task topic p R).1 F∧Kp st st' F):=by
 obtain ⟨L,Qs,M,W,j1,j2,j3,j4,j5⟩:=hh.ex
 obtain ⟨v1,v2,v3,v4,v5,v6,v7,v8⟩:=hv.facts
 refine ap hmix k_f29 rfl rfl fun Q hQ=>?_
 unfold aFun c_f29
 have stay:∀ s b,Kp st s []→b9 task topic p R = (R,false,b)→Q (.tup [.lit (.bool false),.lit (.int .i64 b)]) s:=fun s b hk hr=>by
  refine hQ _ _ ?_
  rw [hr]
  exact ⟨rfl,(hh.kp hk (fun _ _ q=>by cases q)).mono (by omega) (fun _ h=>h),Kp.wide hk (fun _ q=>by cases q)⟩
 simp (config:=KF) (disch:=omega) only [bZ,id,↓reduceIte,Nat.reduceEqDiff,Nat.reduceAdd,reduceCtorEq,v1]
 refine ak rfl e_f24 (cN j1) rfl ?_
 simp (config:=KF) (disch:=omega) only [bZ,id,↓reduceIte,Nat.reduceEqDiff,reduceCtorEq]
 refine ak rfl e_f25 (dC topic 16 st) rfl ?_
 by_cases hbt:topic < 0∨16≤topic
 ·have hs:=stay st 2 (Kp.refl _ _) (by unfold b9; rw [if_pos (by omega)])
  have w1:decide (0≤topic∧topic < 16) = false:=decide_eq_false (by omega)
  simp (config:=KF) (disch:=omega) only [bZ,retI,AI.dst,unA,↓reduceIte,Nat.reduceEqDiff,reduceCtorEq,w1]
  exact hs
 have w1:decide (0≤topic∧topic < 16) = true:=decide_eq_true (by omega)
 simp (config:=KF) (disch:=omega) only [bZ,AI.dst,unA,id,↓reduceIte,Nat.reduceEqDiff,reduceCtorEq,dF,cd]
 refine ak rfl e_f25 (dC task 64 st) rfl ?_
 by_cases hbk:task < 0∨64≤task
 ·have hs:=stay st 2 (Kp.refl _ _) (by unfold b9; rw [if_pos (by omega)])
  have w2:decide (0≤task∧task < 64) = false:=decide_eq_false (by omega)
  simp (config:=KF) (disch:=omega) only [bZ,retI,AI.dst,unA,↓reduceIte,Nat.reduceEqDiff,reduceCtorEq,w2]
  exact hs
 have w2:decide (0≤task∧task < 64) = true:=decide_eq_true (by omega)
 have hbad:¬ (topic < 0∨16≤topic∨task < 0∨64≤task):=by omega
 obtain ⟨i,rfl⟩:∃ i:Nat,topic = (i:Int):=⟨topic.toNat,by omega⟩
 obtain ⟨k,rfl⟩:∃ k:Nat,task = (k:Int):=⟨task.toNat,by omega⟩
 have hi:i < 16:=by omega
 have hk:k < 64:=by omega
 by_cases hlong:1024 < p.length
 ·have hs:=stay st 5 (Kp.refl _ _) (by unfold b9; rw [if_neg hbad,if_pos hlong])
  simp (config:=KF) (disch:=omega) only [bZ,retI,AI.dst,unA,↓reduceIte,Nat.reduceEqDiff,reduceCtorEq,dF,v1,v8]
  exact hs
 have hg:=j1.get
 have h64:=j1.l64
 have hrw:=jA (L:=L) wid h64 j1.q16
 have hdt:=gR (k:Int) W
 rw [j4] at hdt
 cases hlw:cJ (k:Int) W with
 | some w =>
   have hdis:(weAV w).solid = true∧(weAV w).cells.length = 3:=by
    unfold weAV dtAV
    split <;> exact ⟨rfl,rfl⟩
   obtain ⟨hd1,hd2⟩:=hdis
   have hwd:=kN w
   have hs:=stay st 11 (Kp.refl _ _) (by unfold b9; rw [if_neg hbad,if_neg hlong,if_pos (hdt.2 (by rw [hlw]; simp))])
   have hkk:∀ z,cg (.int .i64) z true st (.map wid) (.lit (.int .i64 (k:Nat))) = .ok (.tup [weAV w,.lit (.bool true)]):=fun z=>by
    rw [cF j1.mp,j3.mp,hlw]; simp only [hwd]; rfl
   simp (config:=KF) (disch:=omega) only [bZ,retI,AI.dst,fE,al,ah,addA,ae,unA,bu,bA,ew,cY,↓reduceIte,Nat.reduceEqDiff,Nat.reduceAdd,reduceCtorEq,dF,v1,v8,hg,hrw,hkk]
   obtain ⟨x1,x2,x3⟩:=we_kill w
   rw [x1]
   exact ⟨x2,hd2,Nat.le_of_eq hd2,hs⟩
 | none =>
   have hnd:¬ ((delT (k:Int) R.ws).isSome = true):=by rw [hdt,hlw]; simp
   have hkk:∀ z,cg (.int .i64) z true st (.map wid) (.lit (.int .i64 (k:Nat))) = .ok (.tup [z,.lit (.bool false)]):=fun z=>by
    rw [cF j1.mp,j3.mp,hlw]; rfl
   simp (config:=KF) (disch:=omega) only [bZ,AI.dst,fE,al,ah,addA,ae,unA,id,bu,bA,ew,cY,↓reduceIte,Nat.reduceEqDiff,Nat.reduceAdd,Nat.reduceLeDiff,reduceCtorEq,dF,af,aa,v1,v7,v8,hg,hrw,hkk]
   refine aq (vs:=[.ptr h 0,.lit (.int .i64 (i:Nat)),v]) (by simp [v1,cQ,aL]) e_f28 (ly hh i hv hp hvn hn) (by simp [v5,bT,aD]) fun w s2 hr=>?_
   obtain ⟨rfl,hh2,hk2⟩:=hr
   by_cases hz:(rPub (i:Int) p R).2 = 0
   ·have hrs:b9 (k:Int) (i:Int) p R = ((rPub (i:Int) p R).1,true,0):=by
     unfold b9
     rw [if_neg hbad,if_neg hlong,if_neg hnd,if_pos hz]
    rw [hrs] at hQ
    rw [hz]
    simp (config:=KF) (disch:=omega) only [bZ,retI,↓reduceIte,Nat.reduceEqDiff,reduceCtorEq]
    exact hQ _ _ ⟨rfl,hh2.mono (by omega) (fun _ h=>h),hk2⟩
   ·have hrs:b9 (k:Int) (i:Int) p R = ((⟨R.subs,R.ws++[(k,(i:Int),p)]⟩:HR),false,(0:Int)):=by
     unfold b9
     rw [if_neg hbad,if_neg hlong,if_neg hnd,if_neg hz]; rfl
    rw [hrs] at hQ
    have hR:(rPub (i:Int) p R).1 = R:=rPub_ne hz
    rw [hR] at hh2
    generalize (rPub (i:Int) p R).2 = e at hz
    simp (config:=KF) (disch:=omega) only [bZ,iv,al,addA,ae,↓reduceIte,Nat.reduceEqDiff,reduceCtorEq,hz]
    obtain ⟨L2,Q2,M2,W2,k1,k2,k3,k4,k5⟩:=hh2.ex
    have hg2:=k1.get
    obtain ⟨x,hx⟩:∃ x,Q2[i]? = some x:=⟨_,List.getElem?_eq_getElem (by have:=k1.q16; omega)⟩
    obtain ⟨hxL,hxg⟩:=k3.que i x hx
    obtain ⟨rq,hrq⟩:=hub_q (L:=L2) wid k1.l64 hx
    have hql:x.L.length≤64:=by rw [hxL]; exact Nat.le_trans (qS _ _) k3.len
    simp (config:=KF) (disch:=omega) only [bZ,id,↓reduceIte,Nat.reduceEqDiff,reduceCtorEq,hg2,hrq]
    refine aq rfl e_f47 (qpush_calls (v:=(k:Int)) (k1.que i x hx) (by omega) (by omega)) rfl fun w s3 hr=>?_
    obtain ⟨rfl,hq3,ho3⟩:=hr
    obtain ⟨y,hy⟩:∃ y:QL,y = ⟨x.q,x.m,x.g + 1,x.L++[(x.g + 1,(k:Int))]⟩:=⟨_,rfl⟩
    obtain ⟨l1,l2⟩:=k1.setQue (y:=y) hx (ho3.kp (F:=x.ids) fun b hb=>hb) (by rw [hy]; exact hq3) (by rw [hy]) (by rw [hy])
    have hg3:=l1.get
    have hrw3:=jA (L:=L2) wid l1.l64 l1.q16
    have hk3:Kp st s3 F:=hk2.trans (ho3.kp (F:=x.ids) fun b hb=>hb) fun b hb=>.inl (k5 (ai.2 (.inr (.inr (.inr ⟨i,x,hx,hb⟩)))))
    have hv3:DV v s3 p:=DV.kp hv hk3 hvn
    simp (config:=KF) (disch:=omega) only [bZ,ce,dH,al,addA,ae,id,bu,↓reduceIte,Nat.reduceEqDiff,reduceCtorEq,not_true_eq_false,v1,hg3,hrw3]
    refine eN (vs:=[v]) (by simp [v1]) e_f42 (n0 s3 hv3 hp) (by simp [v5]) ?_
    simp (config:=KF) (disch:=omega) only [bZ,qr,cx,l6,bstV,aV,↓reduceIte,Nat.reduceEqDiff,Nat.reduceAdd,Nat.reduceLeDiff,reduceCtorEq,af,aa]
    refine e6 (b:=(⟨(i:Int),x.g + 1,p,false⟩:WE)) l1.mp rfl rfl fun s4 hm4 ho4=>?_
    simp (config:=KF) (disch:=omega) only [bZ,retI,↓reduceIte,Nat.reduceEqDiff]
    refine hQ _ _ ⟨rfl,⟨L2,Q2.set i y,updP (k:Int) ⟨(i:Int),x.g + 1,p,false⟩ M2,W2++[(k,⟨(i:Int),x.g + 1,p,false⟩)],l1.setMap ho4 hm4,k2.mono (by omega),?_,by rw [List.map_append,k4]; rfl,fun b hb=>k5 (l2 hb)⟩,hk3.trans (ho4.kp (F:=[wid]) fun b hb=>hb) fun b hb=>.inl (k5 (ai.2 (.inr (.inl (by simpa using hb)))))⟩
    refine k3.add ?_ hk rfl hi (by simp only; omega) (fun q=>by cases q) hx rfl (by rw [hy]) (by rw [hy])
    have hd2:=gR (k:Int) W2
    rw [k4] at hd2
    exact Classical.not_not.1 fun q=>hnd (hd2.2 q)
end Go.Fx.YtbdjfccgkdgbfaaFx

namespace Go.Fx.YtbdjfccgkdgbfaaFx
open Go Go.Fx
attribute [local irreducible] aC runI az ar

set_option maxRecDepth 100000
set_option maxHeartbeats 4000000

/-! Read, Leave, Cancel. -/
theorem qz {L:List (Option SL)} {subs:List Sb} {n:Nat} (hl:L.length = 64) (h:SubR (L.map sbO) subs n) (m:Int) :
  (atH L m = none∧atR m subs = none)∨∃ (k:Nat) (x:SL),m = (k:Int)∧k < 64∧L[k]? = some (some x)∧(L.map sbO)[k]? = some (some x.S)∧atH L m = some x∧atR m subs = some x.S:=by
 unfold atH
 by_cases h1:m < 0
 ·rw [if_pos h1]
  exact .inl ⟨rfl,h.at_out (.inl h1)⟩
 obtain ⟨k,rfl⟩:∃ k:Nat,m = (k:Int):=⟨m.toNat,by omega⟩
 rw [if_neg h1,Int.toNat_natCast]
 by_cases h2:k < 64
 ·have hk:L[k]? = some L[k]:=List.getElem?_eq_getElem (by omega)
  rw [hk]
  have hm:(L.map sbO)[k]? = some (sbO L[k]):=by rw [List.getElem?_map,hk]; rfl
  cases hx:L[k] with
  | none =>
    rw [hx] at hm
    exact .inl ⟨rfl,h.at_none hm⟩
  | some x =>
    rw [hx] at hm hk
    exact .inr ⟨k,x,rfl,h2,hk,hm,rfl,h.at_some hm⟩
 ·rw [List.getElem?_eq_none (by omega)]
  exact .inl ⟨rfl,h.at_out (.inr (by rw [List.length_map]; omega))⟩

theorem n5 {st:St} {h wid n:Nat} {R:HR} {F:List Nat} (hh:HubR st h wid n R F) (hF:∀ x ∈ F,x < st.boxes.length) (m:Int) (hn:n < 900000) :
  am Go.Proofs.Try.prog n_f33 [.ptr h 0,.lit (.int .i64 m)] st (fun v st'=>∃ w,v = .tup [w,itsV (bk m R).2.2.1,.lit (.int .i64 (bk m R).2.2.2)]∧MB w st' (BB (bk m R).2.1)∧(∀ x ∈ au w,st.boxes.length≤x)∧HubR st' h wid (n + 64) (bk m R).1 F∧Kp st st' F):=by
 obtain ⟨L,Qs,M,W,j1,j2,j3,j4,j5⟩:=hh.ex
 refine ap hmix k_f33 rfl rfl fun Q hQ=>?_
 unfold aFun c_f33
 have stay:∀ b,bk m R = (R,[],[],b)→Q (.tup [.lit (.slice none 0 0),.lit (.slice none 0 0),.lit (.int .i64 b)]) st:=fun b hr=>by
  refine hQ _ _ ⟨.lit (.slice none 0 0),?_⟩
  rw [hr]
  exact ⟨rfl,.inl ⟨rfl,rfl⟩,(fun _ q=>by cases q),hh.mono (by omega) (fun _ h=>h),Kp.refl _ _⟩
 simp (config:=KF) (disch:=omega) only [bZ,id,↓reduceIte,Nat.reduceEqDiff,reduceCtorEq]
 refine ak rfl e_f24 (cN j1) rfl ?_
 simp (config:=KF) (disch:=omega) only [bZ,id,↓reduceIte,Nat.reduceEqDiff,reduceCtorEq]
 refine ak rfl e_f31 (kP j1 m) rfl ?_
 rcases qz j1.l64 j2 m with ⟨a1,a2⟩ | ⟨k,x,rfl,hk,hx,hxs,a1,a2⟩
 ·rw [a1]
  have hs:=stay 9 (by unfold bk; rw [a2])
  have hp:ptrO none = .lit (.pointer none):=rfl
  simp (config:=KF) (disch:=omega) only [bZ,retI,cH,bp,aY,↓reduceIte,Nat.reduceEqDiff,reduceCtorEq,hp]
  exact hs
 ·rw [a1]
  have hp:ptrO (some x) = .ptr x.s 0:=rfl
  have hxi:=j1.sub k x hx
  have hg:=SbIs.get hxi
  obtain ⟨o1,o2,o3,o4,o5⟩:=j2.ok k x.S hxs
  have hxu:=SbIs.use hxi
  have hul:=gV x.S.msgs
  cases hm:x.S.msgs with
  | nil =>
    have hs:=stay 16 (by unfold bk; rw [a2]; simp only [hm])
    rw [hm] at hg
    simp (config:=KF) (disch:=omega) only [bZ,retI,al,cH,bp,aY,addA,ae,↓reduceIte,Nat.reduceEqDiff,reduceCtorEq,hp,hg]
    exact hs
  | cons p ps =>
    rw [hm,List.length_cons] at hul
    have hz:¬ (((x.S.msgs.length:Nat):Int) = 0):=by rw [hm,List.length_cons]; omega
    simp (config:=KF) (disch:=omega) only [bZ,al,cH,bp,aY,addA,ae,id,↓reduceIte,Nat.reduceEqDiff,reduceCtorEq,hp,hg,hz]
    refine aq rfl e_f50 (og hxi hm) rfl fun w s1 hr=>?_
    obtain ⟨hmb,⟨fr',hx1⟩,hk1,hw⟩:=hr
    obtain ⟨w1,w2,w3,w4,w5,w6,w7,w8⟩:=hmb.facts
    obtain ⟨y,hy⟩:∃ y:SL,y = ⟨x.s,x.r,x.b,fr',{ x.S with msgs:=ps }⟩:=⟨_,rfl⟩
    obtain ⟨l1,l2⟩:=j1.setSub (y:=y) hx hk1 (by rw [hy]; exact hx1) (by rw [hy]; rfl) (by rw [hy])
    obtain ⟨i,hi⟩:∃ i:Nat,x.S.topic = (i:Int):=⟨x.S.topic.toNat,by omega⟩
    have hR1:HubR s1 h wid n ⟨modR (k:Int) fP R.subs,R.ws⟩ F:=⟨⟨L.set k (some y),Qs,M,W,l1,by
     rw [List.map_set,show sbO (some y) = some { x.S with msgs:=ps } by rw [hy]; rfl]
     refine j2.set hxs ?_ ⟨rfl,?_,rfl,rfl,rfl⟩
     ·unfold fP; rw [hm]; rfl
     ·simp only
      rw [hm,List.length_cons] at o2; omega,j3,j4,fun b hb=>j5 (l2 hb)⟩⟩
    have hg1:=hx1.get
    rw [hi] at hg1
    simp only at hg1
    simp (config:=KF) (disch:=omega) only [bZ,al,addA,ae,id,↓reduceIte,Nat.reduceEqDiff,reduceCtorEq,hg1,w1]
    refine aq rfl e_f32 (nZ hR1 (i:=i) (by omega) hn) rfl fun v s2 hr=>?_
    obtain ⟨rfl,hh2,hk2⟩:=hr
    simp only at hh2
    have hrd:bk (k:Int) R = ((onR (i:Int) R.ws.length ⟨modR (k:Int) fP R.subs,R.ws⟩).1,p,(onR (i:Int) R.ws.length ⟨modR (k:Int) fP R.subs,R.ws⟩).2,0):=by
     unfold bk
     rw [a2]
     simp only [hm,hi]
    rw [hrd] at hQ
    have hit:∀ l,(itsV l).dis = itsV l∧(itsV l).own2 = itsV l∧(itsV l).own1 = itsV l∧(itsV l).noL = true:=fun l=>by
     unfold itsV; split <;> exact ⟨rfl,rfl,rfl,rfl⟩
    simp only at hQ
    generalize (onR (i:Int) R.ws.length ⟨modR (k:Int) fP R.subs,R.ws⟩) = O at hQ hh2
    obtain ⟨t1,t2,t3,t4⟩:=hit O.2
    simp (config:=KF) (disch:=omega) only [bZ,retI,↓reduceIte,Nat.reduceEqDiff,reduceCtorEq,w1,w5,t1,t4]
    have hxid:∀ b ∈ x.ids,b ∈ F:=fun b hb=>j5 (ai.2 (.inr (.inr (.inl ⟨k,x,hx,hb⟩))))
    refine hQ _ _ ⟨w,rfl,hmb.at fun b hb=>hk2.2 b (hmb.lt b hb) fun q=>?_,hw,hh2,(Kp.wide hk1 hxid).trans hk2 fun b hb=>.inl hb⟩
    have:=hF b q
    have:=hw b hb
    omega
end Go.Fx.YtbdjfccgkdgbfaaFx

