/- What the functions that the statement reaches compute: part 13. -/
import Derived.Test.YtbdjfccgkdgbfaaFxW12
namespace Go.Fx.YtbdjfccgkdgbfaaFx
open Go Go.Fx
attribute [local irreducible] aC runI az ar

set_option maxRecDepth 100000
set_option maxHeartbeats 4000000

theorem aU (l:List Nat):(itsV l).dis = itsV l∧(itsV l).own2 = itsV l∧(itsV l).own1 = itsV l∧(itsV l).noL = true:=by
 unfold itsV; split <;> exact ⟨rfl,rfl,rfl,rfl⟩
theorem HubIs.sne {st:St} {h wid:Nat} {L:List (Option SL)} {Qs:List QL} {M:List (Int×WE)} (hh:HubIs st h wid L Qs M) {k:Nat} {x:SL} (hx:L[k]? = some (some x)):x.s≠h:=by
 obtain ⟨o,o1,o2,o3,o4⟩:=hh.sep
 intro e
 have:=o1 k x hx x.s (by simp [SL.ids])
 rw [e] at this; omega

theorem leave_calls {st:St} {h wid n:Nat} {R:HR} {F:List Nat} (hh:HubR st h wid n R F) (m:Int) (hn:n < 900000) :
  am Go.Proofs.Try.prog n_f11 [.ptr h 0,.lit (.int .i64 m)] st (fun v st'=>v = .tup [itsV (cC m R).2.1,.lit (.int .i64 (cC m R).2.2)]∧HubR st' h wid (n + 64) (cC m R).1 F∧Kp st st' F):=by
 obtain ⟨L,Qs,M,W,j1,j2,j3,j4,j5⟩:=hh.ex
 refine ap hmix k_f11 rfl rfl fun Q hQ=>?_
 unfold aFun c_f11
 have stay:∀ b,cC m R = (R,[],b)→Q (.tup [.lit (.slice none 0 0),.lit (.int .i64 b)]) st:=fun b hr=>by
  refine hQ _ _ ?_
  rw [hr]
  exact ⟨rfl,hh.mono (by omega) (fun _ h=>h),Kp.refl _ _⟩
 simp (config:=KF) (disch:=omega) only [bZ,id,↓reduceIte,Nat.reduceEqDiff,reduceCtorEq]
 refine ak rfl e_f24 (cN j1) rfl ?_
 simp (config:=KF) (disch:=omega) only [bZ,id,↓reduceIte,Nat.reduceEqDiff,reduceCtorEq]
 refine ak rfl e_f31 (kP j1 m) rfl ?_
 rcases qz j1.l64 j2 m with ⟨a1,a2⟩ | ⟨k,x,rfl,hk,hx,hxs,a1,a2⟩
 ·rw [a1]
  have hs:=stay 9 (by unfold cC; rw [a2])
  have hp:ptrO none = .lit (.pointer none):=rfl
  simp (config:=KF) (disch:=omega) only [bZ,retI,cH,bp,aY,↓reduceIte,Nat.reduceEqDiff,reduceCtorEq,hp]
  exact hs
 ·rw [a1]
  have hp:ptrO (some x) = .ptr x.s 0:=rfl
  have hxi:=j1.sub k x hx
  have hgx:=SbIs.get hxi
  have hg:=j1.get
  have hh0:h < st.boxes.length:=bw hg
  obtain ⟨o1,o2,o3,o4,o5⟩:=j2.ok k x.S hxs
  have hne:=j1.sne hx
  have hlen:=jf (L:=L) (Qs:=Qs) wid j1.l64 j1.q16
  obtain ⟨i,hi⟩:∃ i:Nat,x.S.topic = (i:Int):=⟨x.S.topic.toNat,by omega⟩
  have hcells:(L.map ptrO++(Qs.map ptrQ++[AV.map wid])).set k (AV.lit (.pointer none)) = (L.set k none).map ptrO++(Qs.map ptrQ++[AV.map wid]):=by
   rw [List.set_append,if_pos (by rw [List.length_map]; have:=j1.l64; omega),List.map_set]; rfl
  simp (config:=KF) (disch:=omega) only [bZ,iv,al,ah,cH,bp,aY,addA,ae,qg,qh,↓reduceIte,Nat.reduceEqDiff,Nat.reduceLeDiff,reduceCtorEq,af,aa,hp,hg,hlen]
  rw [hcells]
  obtain ⟨s1,hs1⟩:∃ s1,s1 = st.set h ((L.set k none).map ptrO++(Qs.map ptrQ++[AV.map wid])):=⟨_,rfl⟩
  rw [← hs1]
  have hk1:Kp st s1 [h]:=by rw [hs1]; exact (Oth.set st h _ (S:=[h]) (by simp)).kp fun _ q=>q
  have hsl:=j1.slot (y:=none) hk (F:=[]) hk1 (fun _ q=>by cases q) (by rw [hs1]; exact aG hh0) (fun _ q=>by cases q)
  have hsub:∀ b ∈ ba h wid (L.set k none) Qs,b ∈ F:=fun b hb=>by
   refine j5 ?_
   rcases ai.1 hb with hb | hb | ⟨j,y,hy,hb⟩ | hb
   ·exact ai.2 (.inl hb)
   ·exact ai.2 (.inr (.inl hb))
   ·rw [List.getElem?_set] at hy
    split at hy
    ·split at hy <;> cases hy
    ·exact ai.2 (.inr (.inr (.inl ⟨j,y,hy,hb⟩)))
   ·exact ai.2 (.inr (.inr (.inr hb)))
  have hR1:HubR s1 h wid n ⟨fO (k:Int) R.subs,R.ws⟩ F:=⟨⟨L.set k none,Qs,M,W,hsl,by rw [List.map_set]; exact j2.drop hxs,j3,j4,hsub⟩⟩
  have hgx1:s1.get x.s = _:=(congrArg (fun z:St=>z.get x.s) hs1).trans ((cu (Ne.symm hne)).trans hgx)
  rw [hi] at hgx1
  simp (config:=KF) (disch:=omega) only [bZ,id,↓reduceIte,Nat.reduceEqDiff,reduceCtorEq,hgx1]
  refine aq rfl e_f32 (nZ hR1 (i:=i) (by omega) hn) rfl fun v s2 hr=>?_
  obtain ⟨rfl,hh2,hk2⟩:=hr
  have hrd:cC (k:Int) R = ((onR (i:Int) R.ws.length ⟨fO (k:Int) R.subs,R.ws⟩).1,(onR (i:Int) R.ws.length ⟨fO (k:Int) R.subs,R.ws⟩).2,0):=by
   unfold cC
   rw [a2]
   simp only [hi]
  rw [hrd] at hQ
  simp only at hQ hh2
  generalize (onR (i:Int) R.ws.length ⟨fO (k:Int) R.subs,R.ws⟩) = O at hQ hh2
  obtain ⟨t1,t2,t3,t4⟩:=aU O.2
  simp (config:=KF) (disch:=omega) only [bZ,retI,↓reduceIte,Nat.reduceEqDiff,reduceCtorEq,t1,t4]
  exact hQ _ _ ⟨rfl,hh2,(Kp.wide hk1 (F':=F) fun b hb=>j5 (ai.2 (.inl (by simpa using hb)))).trans hk2 fun b hb=>.inl hb⟩

theorem delT_some (t:Int) {A B:WL} {w:WE} {k:Nat} (hk:(k:Int) = t):(∀ a ∈ A,a.1≠k)→delT t ((A++(k,w)::B).map cz) = some ((k,w.topic,w.data),(A++B).map cz):=by
 induction A with
 | nil =>
   intro _
   simp only [List.nil_append,List.map_cons,delT]
   rw [if_pos (show ((cz (k,w)).1:Int) = t from hk)]; rfl
 | cons e r ih =>
   intro h
   simp only [List.cons_append,List.map_cons,delT]
   rw [if_neg (by have:=h e (by simp); show ¬ ((e.1:Int) = t); omega),ih fun a ha=>h a (by simp [ha])]

theorem qA {st:St} {h wid n:Nat} {R:HR} {F:List Nat} (hh:HubR st h wid n R F) (task:Int) (hn:n < 900000) :
  am Go.Proofs.Try.prog n_f34 [.ptr h 0,.lit (.int .i64 task)] st (fun v st'=>v = .tup [itsV (bI task R).2.1,.lit (.int .i64 (bI task R).2.2)]∧HubR st' h wid (n + 64) (bI task R).1 F∧Kp st st' F):=by
 obtain ⟨L,Qs,M,W,j1,j2,j3,j4,j5⟩:=hh.ex
 refine ap hmix k_f34 rfl rfl fun Q hQ=>?_
 unfold aFun c_f34
 have stay:∀ b,bI task R = (R,[],b)→Q (.tup [.lit (.slice none 0 0),.lit (.int .i64 b)]) st:=fun b hr=>by
  refine hQ _ _ ?_
  rw [hr]
  exact ⟨rfl,hh.mono (by omega) (fun _ h=>h),Kp.refl _ _⟩
 simp (config:=KF) (disch:=omega) only [bZ,id,↓reduceIte,Nat.reduceEqDiff,reduceCtorEq]
 refine ak rfl e_f24 (cN j1) rfl ?_
 simp (config:=KF) (disch:=omega) only [bZ,id,↓reduceIte,Nat.reduceEqDiff,reduceCtorEq]
 refine ak rfl e_f25 (dC task 64 st) rfl ?_
 by_cases hbk:task < 0∨64≤task
 ·have hs:=stay 2 (by unfold bI; rw [if_pos hbk])
  have w2:decide (0≤task∧task < 64) = false:=decide_eq_false (by omega)
  simp (config:=KF) (disch:=omega) only [bZ,retI,unA,↓reduceIte,Nat.reduceEqDiff,reduceCtorEq,w2]
  exact hs
 have w2:decide (0≤task∧task < 64) = true:=decide_eq_true (by omega)
 obtain ⟨k,rfl⟩:∃ k:Nat,task = (k:Int):=⟨task.toNat,by omega⟩
 have hg:=j1.get
 have h64:=j1.l64
 have hrw:=jA (L:=L) wid h64 j1.q16
 have hdt:=gR (k:Int) W
 rw [j4] at hdt
 cases hlw:cJ (k:Int) W with
 | none =>
   have hnd:delT (k:Int) R.ws = none:=by
    cases hd:delT (k:Int) R.ws with
    | none=>rfl
    | some q=>rw [hd,hlw] at hdt; simp at hdt
   have hs:=stay 9 (by unfold bI; rw [if_neg hbk,hnd])
   have hkk:∀ z,cg (.int .i64) z true st (.map wid) (.lit (.int .i64 (k:Nat))) = .ok (.tup [z,.lit (.bool false)]):=fun z=>by
    rw [cF j1.mp,j3.mp,hlw]; rfl
   simp (config:=KF) (disch:=omega) only [bZ,retI,fE,al,ah,addA,ae,unA,bu,bA,ew,cY,↓reduceIte,Nat.reduceEqDiff,Nat.reduceAdd,Nat.reduceLeDiff,reduceCtorEq,dF,af,aa,hg,hrw,hkk]
   exact hs
 | some w =>
   obtain ⟨A,B,k',hW,hkk'⟩:=ol hlw
   obtain rfl:k' = k:=by omega
   have hmem:(k',w) ∈ W:=by rw [hW]; simp
   obtain ⟨b1,b2,b3,b4,b5⟩:=j3.ok _ hmem
   simp only at b2 b3 b4 b5
   obtain ⟨i,hi⟩:∃ i:Nat,w.topic = (i:Int):=⟨w.topic.toNat,by omega⟩
   have hi16:i < 16:=by omega
   have hnA:∀ a ∈ A,a.1≠k':=by
    have hnd:=j3.nd
    rw [hW,List.map_append,List.map_cons,List.nodup_append] at hnd
    intro a ha q
    exact hnd.2.2 a.1 (List.mem_map_of_mem ha) k' (by simp) q
   have hdel:delT (k':Int) R.ws = some ((k',(i:Int),w.data),(A++B).map cz):=by
    rw [← j4,hW,delT_some _ rfl hnA,hi]
   have hrc:bI (k':Int) R = ((onR (i:Int) ((A++B).map cz).length ⟨R.subs,(A++B).map cz⟩).1,(onR (i:Int) ((A++B).map cz).length ⟨R.subs,(A++B).map cz⟩).2,0):=by
    unfold bI
    rw [if_neg hbk,hdel]
   rw [hrc] at hQ
   obtain ⟨d,hd⟩:∃ d,d = dtAV w.data w.nl:=⟨_,rfl⟩
   have hdv:∀ st,DV d st w.data:=fun st=>by rw [hd]; exact dt_dv st b5
   obtain ⟨v1,v2,v3,v4,v5,v6,v7,v8⟩:=(hdv st).facts
   have hwe:(weAV w).dis = .agg [.lit (.int .i64 (i:Nat)),.lit (.int .u64 (w.tick:Nat)),d]:=by rw [kN,weAV,hd,hi]
   have hkk:∀ z,cg (.int .i64) z true st (.map wid) (.lit (.int .i64 ((k':Nat):Int))) = .ok (.tup [.agg [.lit (.int .i64 (i:Nat)),.lit (.int .u64 (w.tick:Nat)),d],.lit (.bool true)]):=fun z=>by
    rw [cF j1.mp,j3.mp,hlw]; simp only [hwe]; rfl
   obtain ⟨x,hx⟩:∃ x,Qs[i]? = some x:=⟨_,List.getElem?_eq_getElem (by have:=j1.q16; omega)⟩
   obtain ⟨hxL,hxg⟩:=j3.que i x hx
   obtain ⟨rq,hrq⟩:=hub_q (L:=L) wid h64 hx
   have hxL':x.L = qOf i A++(w.tick,(k':Int))::qOf i B:=by rw [hxL,hW,f8,c9,if_pos hi]; rfl
   simp (config:=KF) (disch:=omega) only [bZ,hh_ixA,ce,fE,al,ah,addA,ae,unA,id,bu,bA,ew,cY,↓reduceIte,Nat.reduceEqDiff,Nat.reduceAdd,Nat.reduceLeDiff,reduceCtorEq,dF,af,aa,hg,hrw,hkk,hrq,v2,v4]
   have hxq:QIs st x.q x.m (qOf i A++(w.tick,(k':Int))::qOf i B) x.g:=by
    have:=j1.que i x hx
    unfold QL.is at this
    rwa [hxL'] at this
   refine aq rfl e_f51 (jz hxq (by omega)) rfl fun v s2 hr=>?_
   obtain ⟨rfl,hq2,ho2⟩:=hr
   obtain ⟨y,hy⟩:∃ y:QL,y = ⟨x.q,x.m,x.g,qOf i A++qOf i B⟩:=⟨_,rfl⟩
   obtain ⟨l1,l2⟩:=j1.setQue (y:=y) hx (ho2.kp (F:=x.ids) fun b hb=>hb) (by rw [hy]; exact hq2) (by rw [hy]) (by rw [hy])
   have hg2:=l1.get
   have hrw2:=jA (L:=L) wid l1.l64 l1.q16
   simp (config:=KF) (disch:=omega) only [bZ,o_del,al,addA,ae,bu,↓reduceIte,Nat.reduceEqDiff,reduceCtorEq,hg2,hrw2]
   refine nX l1.mp fun s3 hm3 ho3=>?_
   have hR3:HubR s3 h wid n ⟨R.subs,(A++B).map cz⟩ F:=⟨⟨L,Qs.set i y,delP (k':Int) M,A++B,l1.setMap ho3 hm3,j2,WaitR.del (e:=(k',w)) (hW ▸ j3) hi hx (by rw [hy]) (by rw [hy]),rfl,fun b hb=>j5 (l2 hb)⟩⟩
   have hk3:Kp st s3 F:=((ho2.kp (F:=F) fun b hb=>j5 (ai.2 (.inr (.inr (.inr ⟨i,x,hx,hb⟩))))).trans (ho3.kp (F:=[wid]) fun b hb=>hb) fun b hb=>.inl (j5 (ai.2 (.inr (.inl (by simpa using hb))))))
   simp (config:=KF) (disch:=omega) only [bZ,addA,ae,id,↓reduceIte,Nat.reduceEqDiff,reduceCtorEq]
   refine aq rfl e_f32 (nZ hR3 (i:=i) hi16 hn) rfl fun v s4 hr=>?_
   obtain ⟨rfl,hh4,hk4⟩:=hr
   simp only at hQ hh4
   generalize (onR (i:Int) ((A++B).map cz).length ⟨R.subs,(A++B).map cz⟩) = O at hQ hh4
   obtain ⟨t1,t2,t3,t4⟩:=aU O.2
   simp (config:=KF) (disch:=omega) only [bZ,retI,↓reduceIte,Nat.reduceEqDiff,reduceCtorEq,t1,t4]
   exact hQ _ _ ⟨rfl,hh4,hk3.trans hk4 fun b hb=>.inl hb⟩
end Go.Fx.YtbdjfccgkdgbfaaFx

