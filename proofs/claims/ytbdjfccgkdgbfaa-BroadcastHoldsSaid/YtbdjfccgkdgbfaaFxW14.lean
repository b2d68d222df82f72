/- What the functions that the statement reaches compute: part 14. -/
import Derived.Test.YtbdjfccgkdgbfaaFxW13
namespace Go.Fx.YtbdjfccgkdgbfaaFx
open Go Go.Fx
attribute [local irreducible] aC runI au aH

set_option maxRecDepth 100000
set_option maxHeartbeats 4000000

/-! Send. -/
theorem gm (t:Int):∀ W:WL,((delT t (W.map cZ)).isSome = true↔de t W≠none)
  | []=>by simp [delT,de]
  | e :: r => by
    have ih:=gm t r
    simp only [List.map_cons,delT,de]
    rw [show (cZ e).1 = e.1 from rfl]
    split
    · simp
    · rw [← ih]
      cases delT t (r.map cZ) <;> simp

theorem rPub_ne {topic:Int} {p:List UInt8} {R:HR} (hz:¬ (rPub topic p R).2 = 0):(rPub topic p R).1 = R:=by
  by_cases a:topic < 0∨16≤topic
  · unfold rPub; rw [if_pos a]
  by_cases b:1024 < p.length
  · unfold rPub; rw [if_neg a,if_pos b]
  by_cases c:(popR topic R.ws).isSome = true∨canR topic p.length R.subs = false
  · unfold rPub; rw [if_neg a,if_neg b,if_pos c]
  · unfold rPub at hz; rw [if_neg a,if_neg b,if_neg c] at hz; exact absurd rfl hz
theorem we_kill (w:WE):kill 10 (weAV w).own2.dis = weAV w∧(weAV w).cells.all AV.solid1 = true∧kill 6 (weAV w).own2.dis = weAV w:=by
  unfold weAV dtAV
  split <;> exact ⟨rfl,rfl,rfl⟩
theorem nu {st:St} {h wid n:Nat} {R:HR} {F:List Nat} (hh:HubR st h wid n R F) (task topic:Int) {v:AV} {p:List UInt8} (hv:DV v st p) (hp:p.length≤100000) (hvn:∀ b ∈ ah v,b ∉ F) (hn:n < 900000) :
    al Go.Proofs.Try.prog n_f29 [.ptr h 0,.lit (.int .i64 task),.lit (.int .i64 topic),v] st (fun w st'=>w = .tup [.lit (.bool (dl task topic p R).2.1),.lit (.int .i64 (dl task topic p R).2.2)]∧HubR st' h wid (n + 2) (dl task topic p R).1 F∧Kp st st' F):=by
  obtain ⟨L,Qs,M,W,j1,j2,j3,j4,j5⟩:=hh.ex
  obtain ⟨v1,v2,v3,v4,v5,v6,v7,v8⟩:=hv.facts
  refine ao hmix k_f29 rfl rfl fun Q hQ=>?_
  unfold aFun c_f29
  have stay:∀ s b,Kp st s []→dl task topic p R = (R,false,b)→Q (.tup [.lit (.bool false),.lit (.int .i64 b)]) s:=fun s b hk hr=>by
    refine hQ _ _ ?_
    rw [hr]
    exact ⟨rfl,(hh.kp hk (fun _ _ q=>by cases q)).mono (by omega) (fun _ h=>h),Kp.wide hk (fun _ q=>by cases q)⟩
  simp (config:=KF) (disch:=omega) only [bZ,id,↓reduceIte,Nat.reduceEqDiff,Nat.reduceAdd,reduceCtorEq,v1]
  refine am rfl e_f24 (dF j1) rfl ?_
  simp (config:=KF) (disch:=omega) only [bZ,id,↓reduceIte,Nat.reduceEqDiff,reduceCtorEq]
  refine am rfl e_f25 (dP topic 16 st) rfl ?_
  by_cases hbt:topic < 0∨16≤topic
  · have hs:=stay st 2 (Kp.refl _ _) (by unfold dl; rw [if_pos (by omega)])
    have w1:decide (0≤topic∧topic < 16) = false:=decide_eq_false (by omega)
    simp (config:=KF) (disch:=omega) only [bZ,aI,retI,bf,AI.dst,ba,unA,↓reduceIte,Nat.reduceEqDiff,reduceCtorEq,w1]
    exact hs
  have w1:decide (0≤topic∧topic < 16) = true:=decide_eq_true (by omega)
  simp (config:=KF) (disch:=omega) only [bZ,AI.dst,unA,id,↓reduceIte,Nat.reduceEqDiff,reduceCtorEq,dA,cG]
  refine am rfl e_f25 (dP task 64 st) rfl ?_
  by_cases hbk:task < 0∨64≤task
  · have hs:=stay st 2 (Kp.refl _ _) (by unfold dl; rw [if_pos (by omega)])
    have w2:decide (0≤task∧task < 64) = false:=decide_eq_false (by omega)
    simp (config:=KF) (disch:=omega) only [bZ,aI,retI,AI.dst,unA,↓reduceIte,Nat.reduceEqDiff,reduceCtorEq,w2]
    exact hs
  have w2:decide (0≤task∧task < 64) = true:=decide_eq_true (by omega)
  have hbad:¬ (topic < 0∨16≤topic∨task < 0∨64≤task):=by omega
  obtain ⟨i,rfl⟩:∃ i:Nat,topic = (i:Int):=⟨topic.toNat,by omega⟩
  obtain ⟨k,rfl⟩:∃ k:Nat,task = (k:Int):=⟨task.toNat,by omega⟩
  have hi:i < 16:=by omega
  have hk:k < 64:=by omega
  by_cases hlong:1024 < p.length
  · have hs:=stay st 5 (Kp.refl _ _) (by unfold dl; rw [if_neg hbad,if_pos hlong])
    simp (config:=KF) (disch:=omega) only [bZ,aI,retI,AI.dst,unA,dk,↓reduceIte,Nat.reduceEqDiff,reduceCtorEq,dA,aP,v1,v8]
    exact hs
  have hg:=j1.get
  have h64:=j1.l64
  have hrw:=ly (L:=L) wid h64 j1.q16
  have hdt:=gm (k:Int) W
  rw [j4] at hdt
  cases hlw:de (k:Int) W with
  | some w =>
    have hdis:(weAV w).solid = true∧(weAV w).cells.length = 3:=by
      unfold weAV dtAV
      split <;> exact ⟨rfl,rfl⟩
    obtain ⟨hd1,hd2⟩:=hdis
    have hwd:=nB w
    have hs:=stay st 11 (Kp.refl _ _) (by unfold dl; rw [if_neg hbad,if_neg hlong,if_pos (hdt.2 (by rw [hlw]; simp))])
    have hkk:∀ z,bP (.int .i64) z true st (.map wid) (.lit (.int .i64 (k:Nat))) = .ok (.tup [weAV w,.lit (.bool true)]):=fun z=>by
      rw [cg j1.mp,j3.mp,hlw]; simp only [hwd]; rfl
    simp (config:=KF) (disch:=omega) only [bZ,retI,AI.dst,e8,eh,aj,az,addA,aa,unA,dk,da,bz,bO,bJ,d6,gW,↓reduceIte,Nat.reduceEqDiff,Nat.reduceAdd,reduceCtorEq,dA,v1,v8,hg,hrw,hkk]
    obtain ⟨x1,x2,x3⟩:=we_kill w
    rw [x1]
    exact ⟨x2,hd2,Nat.le_of_eq hd2,hs⟩
  | none =>
    have hnd:¬ ((delT (k:Int) R.ws).isSome = true):=by rw [hdt,hlw]; simp
    have hkk:∀ z,bP (.int .i64) z true st (.map wid) (.lit (.int .i64 (k:Nat))) = .ok (.tup [z,.lit (.bool false)]):=fun z=>by
      rw [cg j1.mp,j3.mp,hlw]; rfl
    simp (config:=KF) (disch:=omega) only [bZ,AI.dst,e8,eh,aj,az,addA,aa,unA,dk,da,id,bz,jO,bO,bJ,d6,cF,gW,↓reduceIte,Nat.reduceEqDiff,Nat.reduceAdd,Nat.reduceLeDiff,reduceCtorEq,dA,v1,v7,v8,hg,hrw,hkk]
    refine ap (vs:=[.ptr h 0,.lit (.int .i64 (i:Nat)),v]) (by simp [v1,eF,eu]) e_f28 (kQ hh i hv hp hvn hn) (by simp [v5,d5,eG]) fun w s2 hr=>?_
    obtain ⟨rfl,hh2,hk2⟩:=hr
    by_cases hz:(rPub (i:Int) p R).2 = 0
    · have hrs:dl (k:Int) (i:Int) p R = ((rPub (i:Int) p R).1,true,0):=by
        unfold dl
        rw [if_neg hbad,if_neg hlong,if_neg hnd,if_pos hz]
      rw [hrs] at hQ
      rw [hz]
      simp (config:=KF) (disch:=omega) only [bZ,retI,↓reduceIte,Nat.reduceEqDiff,reduceCtorEq]
      exact hQ _ _ ⟨rfl,hh2.mono (by omega) (fun _ h=>h),hk2⟩
    · have hrs:dl (k:Int) (i:Int) p R = ((⟨R.subs,R.ws++[(k,(i:Int),p)]⟩:HR),false,(0:Int)):=by
        unfold dl
        rw [if_neg hbad,if_neg hlong,if_neg hnd,if_neg hz]; rfl
      rw [hrs] at hQ
      have hR:(rPub (i:Int) p R).1 = R:=rPub_ne hz
      rw [hR] at hh2
      generalize (rPub (i:Int) p R).2 = e at hz
      simp (config:=KF) (disch:=omega) only [bZ,gv,aj,addA,aa,↓reduceIte,Nat.reduceEqDiff,reduceCtorEq,hz]
      obtain ⟨L2,Q2,M2,W2,k1,k2,k3,k4,k5⟩:=hh2.ex
      have hg2:=k1.get
      obtain ⟨x,hx⟩:∃ x,Q2[i]? = some x:=⟨_,List.getElem?_eq_getElem (by have:=k1.q16; omega)⟩
      obtain ⟨hxL,hxg⟩:=k3.que i x hx
      obtain ⟨rq,hrq⟩:=hub_q (L:=L2) wid k1.l64 hx
      have hql:x.L.length≤64:=by rw [hxL]; exact Nat.le_trans (pS _ _) k3.len
      simp (config:=KF) (disch:=omega) only [bZ,id,↓reduceIte,Nat.reduceEqDiff,reduceCtorEq,hg2,hrq]
      refine ap rfl e_f47 (qpush_calls (v:=(k:Int)) (k1.que i x hx) (by omega) (by omega)) rfl fun w s3 hr=>?_
      obtain ⟨rfl,hq3,ho3⟩:=hr
      obtain ⟨y,hy⟩:∃ y:QL,y = ⟨x.q,x.m,x.g + 1,x.L++[(x.g + 1,(k:Int))]⟩:=⟨_,rfl⟩
      obtain ⟨l1,l2⟩:=k1.setQue (y:=y) hx (ho3.kp (F:=x.ids) fun b hb=>hb) (by rw [hy]; exact hq3) (by rw [hy]) (by rw [hy])
      have hg3:=l1.get
      have hrw3:=ly (L:=L2) wid l1.l64 l1.q16
      have hk3:Kp st s3 F:=hk2.trans (ho3.kp (F:=x.ids) fun b hb=>hb) fun b hb=>.inl (k5 (ai.2 (.inr (.inr (.inr ⟨i,x,hx,hb⟩)))))
      have hv3:DV v s3 p:=DV.kp hv hk3 hvn
      simp (config:=KF) (disch:=omega) only [bZ,bQ,dc,cC,bL,bX,jT,aQ,aj,addA,aa,dN,bd,id,bz,↓reduceIte,Nat.reduceEqDiff,reduceCtorEq,not_true_eq_false,v1,hg3,hrw3]
      refine nh (vs:=[v]) (by simp [v1]) e_f42 (clone_pure s3 hv3 hp) (by simp [v5]) ?_
      simp (config:=KF) (disch:=omega) only [bZ,d7,bQ,hh_bst,fV,aQ,bt,mQ,bstV,bj,bN,↓reduceIte,Nat.reduceEqDiff,Nat.reduceAdd,Nat.reduceLeDiff,reduceCtorEq]
      refine ff (b:=(⟨(i:Int),x.g + 1,p,false⟩:WE)) l1.mp rfl rfl fun s4 hm4 ho4=>?_
      simp (config:=KF) (disch:=omega) only [bZ,retI,↓reduceIte,Nat.reduceEqDiff]
      refine hQ _ _ ⟨rfl,⟨L2,Q2.set i y,updP (k:Int) ⟨(i:Int),x.g + 1,p,false⟩ M2,W2++[(k,⟨(i:Int),x.g + 1,p,false⟩)],l1.setMap ho4 hm4,k2.mono (by omega),?_,by rw [List.map_append,k4]; rfl,fun b hb=>k5 (l2 hb)⟩,hk3.trans (ho4.kp (F:=[wid]) fun b hb=>hb) fun b hb=>.inl (k5 (ai.2 (.inr (.inl (by simpa using hb)))))⟩
      refine k3.add ?_ hk rfl hi (by simp only; omega) (fun q=>by cases q) hx rfl (by rw [hy]) (by rw [hy])
      have hd2:=gm (k:Int) W2
      rw [k4] at hd2
      exact Classical.not_not.1 fun q=>hnd (hd2.2 q)
end Go.Fx.YtbdjfccgkdgbfaaFx

