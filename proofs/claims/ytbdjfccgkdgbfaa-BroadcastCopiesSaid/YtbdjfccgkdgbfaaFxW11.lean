/- What the functions that the statement reaches compute: part 11. -/
import Derived.Test.YtbdjfccgkdgbfaaFxW10
namespace Go.Fx.YtbdjfccgkdgbfaaFx
open Go Go.Fx
attribute [local irreducible] aC runI az ar

set_option maxRecDepth 100000
set_option maxHeartbeats 4000000

/-! Subscribe. -/
section
variable {st:St} {h wid:Nat} {L:List (Option SL)} {Qs:List QL} {M:List (Int×WE)}
theorem index_pure (hh:HubIs st h wid L Qs M):aB Go.Proofs.Try.prog n_f26 [.bs h 1 0 64 64,.lit (.pointer none)] st (.lit (.int .i64 (if fstN (L.map sbO) < 64 then ((fstN (L.map sbO):Nat):Int) else -1))):=by
 have hg:=hh.get
 have hl:=hh.l64
 obtain ⟨f1,f2,f3⟩:=mB (L.map sbO)
 rw [List.length_map,hl] at f1 f3
 have fL:∀ i,i < fstN (L.map sbO)→∃ x,L[i]? = some (some x):=fun i hi=>by
  obtain ⟨S,hS⟩:=f2 i hi
  rw [List.getElem?_map] at hS
  obtain ⟨o,ho,e⟩:=Option.map_eq_some_iff.1 hS
  cases o with
  | none=>cases e
  | some x=>exact ⟨x,ho⟩
 have fN:fstN (L.map sbO) < 64→L[fstN (L.map sbO)]? = some none:=fun hi=>by
  have hS:=f3 hi
  rw [List.getElem?_map] at hS
  obtain ⟨o,ho,e⟩:=Option.map_eq_some_iff.1 hS
  cases o with
  | none=>exact ho
  | some x=>cases e
 generalize fstN (L.map sbO) = N at f1 f2 f3 fL fN ⊢
 refine aF hmix k_f26 rfl rfl fun Q hQ=>?_
 unfold aFun c_f26
 simp (config:=KF) (disch:=omega) only [bZ,lenI,↓reduceIte,Nat.reduceEqDiff,reduceCtorEq]
 rw [f26_7w]
 refine a8 (A:=Nat) (fun a=>N - a) (fun a=>⟨[(0,.bs h 1 0 64 64),(1,.lit (.pointer none)),(7,.lit (.int .i64 64)),(8,.lit (.int .i64 (a:Nat)))],[]⟩) (fun _=>st)
  (fun a=>a≤N) 0 (Nat.zero_le _) (Sf.le_refl _) rfl ?_
 intro i hi K hK hKe hKr
 by_cases h64:i < 64
 ·by_cases hiN:i < N
  ·obtain ⟨x,hx⟩:=fL i hiN
   obtain ⟨r,hr⟩:=hub_s (Qs:=Qs) wid hx
   have hr':(L.map ptrO++(Qs.map ptrQ++[AV.map wid])).drop i = .ptr x.s 0::r:=hr
   simp (config:=KF) (disch:=omega) only [bZ,ixSV,cH,bp,aY,ae,↓reduceIte,Nat.reduceEqDiff,reduceCtorEq,hg,hr']
   exact hK (i + 1) _ hiN (by omega) (Sf.le_refl _)
  ·obtain rfl:i = N:=by omega
   obtain ⟨r,hr⟩:=hub_s (Qs:=Qs) wid (fN h64)
   have hr':(L.map ptrO++(Qs.map ptrQ++[AV.map wid])).drop i = .lit (.pointer none)::r:=hr
   rw [if_pos h64] at hQ
   simp (config:=KF) (disch:=omega) only [bZ,ixSV,cH,bp,aY,ae,↓reduceIte,Nat.reduceEqDiff,reduceCtorEq,hg,hr']
   refine hKr _ _ ?_
   simp (config:=KF) (disch:=omega) only [bZ,retI,↓reduceIte]
   exact hQ _
 ·obtain rfl:i = 64:=by omega
  rw [if_neg (by omega)] at hQ
  simp (config:=KF) (disch:=omega) only [bZ,↓reduceIte,Nat.reduceEqDiff,Int.reduceLT,reduceCtorEq]
  refine hKe _ _ _ ?_
  simp (config:=KF) (disch:=omega) only [bZ,retI,↓reduceIte,Int.reduceNeg]
  exact hQ _

end
theorem py {st:St} {h wid n:Nat} {R:HR} {F:List Nat} (hh:HubR st h wid n R F) (topic room pol:Int) :
  am Go.Proofs.Try.prog n_f9 [.ptr h 0,.lit (.int .i64 topic),.lit (.int .i64 room),.lit (.int .i64 pol)] st (fun v st'=>v = .tup [.lit (.int .i64 (rSub topic room pol R).2.1),.lit (.int .i64 (rSub topic room pol R).2.2)]∧∃ F',HubR st' h wid n (rSub topic room pol R).1 F'∧Kp st st' F∧∀ x ∈ F',(x ∈ F∨st.boxes.length≤x)∧x < st'.boxes.length):=by
 obtain ⟨L,Qs,M,W,j1,j2,j3,j4,j5⟩:=hh.ex
 have hl:=j1.l64
 refine ap hmix k_f9 rfl rfl fun Q hQ=>?_
 unfold aFun c_f9
 have stay:∀ s a b,Kp st s []→rSub topic room pol R = (R,a,b)→Q (.tup [.lit (.int .i64 a),.lit (.int .i64 b)]) s:=fun s a b hk hr=>by
  refine hQ _ _ ?_
  rw [hr]
  exact ⟨rfl,ba h wid L Qs,⟨⟨L,Qs,M,W,j1.kp hk (fun _ _ q=>by cases q),j2,j3,j4,fun _ q=>q⟩⟩,Kp.wide hk (fun _ q=>by cases q),fun x hx=>⟨.inl (j5 hx),Nat.lt_of_lt_of_le (j1.lts x hx) hk.1⟩⟩
 simp (config:=KF) (disch:=omega) only [bZ,id,↓reduceIte,Nat.reduceEqDiff,Nat.reduceAdd,reduceCtorEq]
 refine ak rfl e_f24 (cN j1) rfl ?_
 simp (config:=KF) (disch:=omega) only [bZ,id,↓reduceIte,Nat.reduceEqDiff,reduceCtorEq]
 refine ak rfl e_f25 (dC topic 16 st) rfl ?_
 by_cases hbad:topic < 0∨16≤topic∨room < 3∨4096 < room∨pol < 1∨3 < pol
 ·have hs:=stay st 0 2 (Kp.refl _ _) (by unfold rSub; rw [if_pos hbad])
  (repeat' (first | omega | (simp (config:=KF) (disch:=omega) only [bZ,retI,AI.dst,unA,iA,↓reduceIte,Nat.reduceEqDiff,reduceCtorEq,dF]) | refine aS (fun h=>?_) (fun h=>?_) | refine b8 (fun h=>?_) (fun h=>?_) | refine dJ (fun h=>?_) (fun h=>?_) | exact hs))
 have hr0:=hbad
 obtain ⟨c,rfl⟩:∃ c:Nat,room = (c:Int):=⟨room.toNat,by omega⟩
 have w1:decide (0≤topic∧topic < 16) = true:=decide_eq_true (by omega)
 have hg:=j1.get
 have hlt:=j1.lts
 simp (config:=KF) (disch:=omega) only [bZ,AI.dst,bt,nC,al,aW,slAX,sl3,ixTo,addA,unA,iA,id,↓reduceIte,Nat.reduceEqDiff,reduceCtorEq,Nat.sub_zero,dF,cd]
 refine ak rfl e_f26 (index_pure j1) rfl ?_
 obtain ⟨f1,f2,f3⟩:=mB (L.map sbO)
 obtain ⟨q1,q2⟩:=iH (L.map sbO)
 rw [List.length_map,hl] at f1 f3 q1 q2
 rw [j2.eq] at q1 q2
 by_cases hN:fstN (L.map sbO) < 64
 ·rw [if_pos hN]
  have hfree:=j2.free 64 0 (Nat.zero_le _) (by omega) (by rw [List.length_map,hl]; exact hN)
  have hrs:rSub topic (c:Int) pol R = ((⟨insR (⟨fstN (L.map sbO),topic,c,pol,[],0⟩:Sb) R.subs,R.ws⟩:HR),((fstN (L.map sbO):Nat):Int),(0:Int)):=by
   unfold rSub
   rw [if_neg hr0,if_neg (by omega),hfree]; rfl
  rw [hrs] at hQ
  have hnone:=f3 hN
  generalize fstN (L.map sbO) = k at hN hnone hQ
  simp (config:=KF) (disch:=omega) only [bZ,id,↓reduceIte,Nat.reduceEqDiff,reduceCtorEq]
  refine aq rfl e_f27 (rnew_calls st (c:=c) (by omega) (by omega)) rfl fun w s1 hr=>?_
  obtain ⟨rfl,hr1,hk1⟩:=hr
  have hh0:h < st.boxes.length:=hlt h (ai.2 (.inl rfl))
  have hg1:s1.get h = _:=(ck (hk1.2 h hh0 (by simp))).trans hg
  have hl1:h < s1.boxes.length:=bw hg1
  have hrl:=hr1.ltr
  have hgp:∀ b,(s1.push b).get h = some (L.map ptrO++(Qs.map ptrQ++[AV.map wid])):=fun b=>by rw [bU hl1]; exact hg1
  have hlen:=jf (L:=L) (Qs:=Qs) wid hl j1.q16
  simp (config:=KF) (disch:=omega) only [bZ,retI,iv,ei,jM,al,bstV,ah,addA,aV,own1_ptr,own2_ptr,eJ,↓reduceIte,Nat.reduceEqDiff,Nat.reduceAdd,Nat.reduceLeDiff,reduceCtorEq,not_true_eq_false,af,aa,hgp,hlen]
  obtain ⟨B,hB⟩:∃ B,B = s1.push (.cells [.lit (.int .i64 topic),.lit (.int .i64 pol),.ptr (st.boxes.length + 1) 0,.lit (.int .i64 0),.lit (.int .i64 0)]):=⟨_,rfl⟩
  rw [← hB]
  have hBl:B.boxes.length = s1.boxes.length + 1:=by rw [hB,aE]
  obtain ⟨y,hy⟩:∃ y:SL,y = ⟨s1.boxes.length,st.boxes.length + 1,st.boxes.length,0,⟨k,topic,c,pol,[],0⟩⟩:=⟨_,rfl⟩
  have hcells:(L.map ptrO++(Qs.map ptrQ++[AV.map wid])).set k (AV.ptr s1.boxes.length 0) = (L.set k (some y)).map ptrO++(Qs.map ptrQ++[AV.map wid]):=by
   rw [List.set_append,if_pos (by rw [List.length_map]; omega),List.map_set,hy]; rfl
  rw [hcells]
  obtain ⟨E,hE⟩:∃ E,E = B.set h ((L.set k (some y)).map ptrO++(Qs.map ptrQ++[AV.map wid])):=⟨_,rfl⟩
  rw [← hE]
  have hat:∀ b,b≠h→b < s1.boxes.length→E.boxes[b]? = s1.boxes[b]?:=fun b h1 h2=>by rw [hE,bP h1,hB,bG h2]
  have hgE:E.get h = some ((L.set k (some y)).map ptrO++(Qs.map ptrQ++[AV.map wid])):=by rw [hE]; exact aG (by omega)
  have hkE:Kp st E (h::y.ids):=⟨by rw [hE,du,hBl]; have:=hk1.1; omega,fun b h1 h2=>by
   rw [hat b (fun q=>h2 (by simp [q])) (by have:=hk1.1; omega)]
   exact hk1.2 b h1 (by simp)⟩
  have hyi:∀ b ∈ y.ids,st.boxes.length≤b:=by
   intro b hb
   rw [hy] at hb
   simp only [SL.ids,List.mem_cons,List.not_mem_nil,or_false] at hb
   have:=hk1.1
   omega
  have hslot:=j1.slot (y:=some y) hN hkE hyi hgE fun x hx=>by
   cases hx
   refine ⟨?_,hyi⟩
   rw [hy]
   refine ⟨?_,hr1.at (hat _ (by omega) hrl) (hat _ (by omega) (by omega)),fun m hm=>(by cases hm),by simp only; omega⟩
   simp only
   rw [hE,cu (by omega),hB,bq]
   rfl
  refine hQ _ _ ⟨rfl,ba h wid (L.set k (some y)) Qs,⟨L.set k (some y),Qs,M,W,hslot,?_,j3,j4,fun _ hb=>hb⟩,⟨hkE.1,fun b h1 h2=>hkE.2 b h1 ?_⟩,fun b hb=>⟨?_,hslot.lts b hb⟩⟩
  ·rw [List.map_set,show sbO (some y) = some ⟨k,topic,c,pol,[],0⟩ by rw [hy]; rfl]
   exact j2.ins hnone rfl ⟨by simp,by simp only; omega,by simp only; omega,by simp only; omega,by simp only; omega,by simp only; omega,by simp only; omega⟩
  ·rintro hb
   rcases List.mem_cons.1 hb with hb | hb
   ·exact h2 (hb ▸ j5 (ai.2 (.inl rfl)))
   ·have:=hyi b hb; omega
  ·rcases ai.1 hb with hb | hb | ⟨i,x,hx,hb⟩ | hb
   ·exact .inl (j5 (ai.2 (.inl hb)))
   ·exact .inl (j5 (ai.2 (.inr (.inl hb))))
   ·rw [List.getElem?_set] at hx
    split at hx
    ·split at hx
     ·cases hx; exact .inr (hyi b hb)
     ·cases hx
    ·exact .inl (j5 (ai.2 (.inr (.inr (.inl ⟨i,x,hx,hb⟩)))))
   ·exact .inl (j5 (ai.2 (.inr (.inr (.inr hb)))))
 ·rw [if_neg hN]
  have hs:=stay st 0 7 (Kp.refl _ _) (by unfold rSub; rw [if_neg hr0,if_pos (by omega)])
  simp (config:=KF) (disch:=omega) only [bZ,retI,↓reduceIte,Nat.reduceEqDiff,Int.reduceLT,Int.reduceNeg,reduceCtorEq]
  exact hs
end Go.Fx.YtbdjfccgkdgbfaaFx

namespace Go.Fx.YtbdjfccgkdgbfaaFx
open Go Go.Fx
attribute [local irreducible] aC runI az ar

set_option maxRecDepth 100000
set_option maxHeartbeats 4000000

/-! Publish. -/
theorem qy {i:Int} {W:WL} {ws:List WW} (h:W.map cz = ws):((popR i ws).isSome = true↔0 < (qOf i W).length):=by
 have hp:=jV i W
 rw [h] at hp
 cases hw:popW i W with
 | none =>
   rw [hw] at hp
   simp only at hp
   rw [hp,lG i hw]
   simp
 | some q =>
   obtain ⟨e,r⟩:=q
   rw [hw] at hp
   simp only at hp
   obtain ⟨A,B,h1,h2,h3,h4⟩:=lH i hw
   rw [hp,h1,f8,c9,if_pos h3]
   simp only [Option.isSome_some,List.length_append,List.length_cons,List.length_nil,true_iff]
   omega

theorem ly {st:St} {h wid n:Nat} {R:HR} {F:List Nat} (hh:HubR st h wid n R F) (topic:Int) {v:AV} {p:List UInt8} (hv:DV v st p) (hp:p.length≤100000) (hvn:∀ b ∈ au v,b ∉ F) (hn:n < 900000) :
  am Go.Proofs.Try.prog n_f28 [.ptr h 0,.lit (.int .i64 topic),v] st (fun w st'=>w = .lit (.int .i64 (rPub topic p R).2)∧HubR st' h wid (n + 1) (rPub topic p R).1 F∧Kp st st' F):=by
 obtain ⟨L,Qs,M,W,j1,j2,j3,j4,j5⟩:=hh.ex
 obtain ⟨v1,v2,v3,v4,v5,v6,v7,v8⟩:=hv.facts
 refine ap hmix k_f28 rfl rfl fun Q hQ=>?_
 unfold aFun c_f28
 have stay:∀ s b,Kp st s []→rPub topic p R = (R,b)→Q (.lit (.int .i64 b)) s:=fun s b hk hr=>by
  refine hQ _ _ ?_
  rw [hr]
  exact ⟨rfl,(hh.kp hk (fun _ _ q=>by cases q)).mono (Nat.le_succ n) (fun _ h=>h),Kp.wide hk (fun _ q=>by cases q)⟩
 simp (config:=KF) (disch:=omega) only [bZ,id,↓reduceIte,Nat.reduceEqDiff,Nat.reduceAdd,reduceCtorEq,v1]
 refine ak rfl e_f24 (cN j1) rfl ?_
 simp (config:=KF) (disch:=omega) only [bZ,id,↓reduceIte,Nat.reduceEqDiff,reduceCtorEq]
 refine ak rfl e_f25 (dC topic 16 st) rfl ?_
 by_cases hbad:topic < 0∨16≤topic
 ·have hs:=stay st 2 (Kp.refl _ _) (by unfold rPub; rw [if_pos hbad])
  have w1:decide (0≤topic∧topic < 16) = false:=decide_eq_false (by omega)
  simp (config:=KF) (disch:=omega) only [bZ,retI,unA,↓reduceIte,Nat.reduceEqDiff,reduceCtorEq,w1]
  exact hs
 obtain ⟨i,rfl⟩:∃ i:Nat,topic = (i:Int):=⟨topic.toNat,by omega⟩
 have hi:i < 16:=by omega
 have w1:decide (0≤(i:Int)∧(i:Int) < 16) = true:=decide_eq_true (by omega)
 by_cases hlong:1024 < p.length
 ·have hs:=stay st 5 (Kp.refl _ _) (by unfold rPub; rw [if_neg hbad,if_pos hlong])
  simp (config:=KF) (disch:=omega) only [bZ,retI,unA,↓reduceIte,Nat.reduceEqDiff,reduceCtorEq,dF,v1,v8]
  exact hs
 have hg:=j1.get
 have h64:=j1.l64
 obtain ⟨x,hx⟩:∃ x,Qs[i]? = some x:=⟨_,List.getElem?_eq_getElem (by have:=j1.q16; omega)⟩
 obtain ⟨hxL,hxg⟩:=j3.que i x hx
 obtain ⟨rq,hrq⟩:=hub_q (L:=L) wid h64 hx
 have hps:=qy (i:=(i:Int)) j4
 rw [← hxL] at hps
 have hql:x.L.length≤64:=by rw [hxL]; exact Nat.le_trans (qS _ _) j3.len
 simp (config:=KF) (disch:=omega) only [bZ,iv,al,addA,ae,unA,id,↓reduceIte,Nat.reduceEqDiff,reduceCtorEq,dF,v1,v8,hg,hrq]
 refine ak rfl e_f44 (pw (j1.que i x hx)) rfl ?_
 by_cases hbl:0 < x.L.length
 ·have hs:=stay st 16 (Kp.refl _ _) (by unfold rPub; rw [if_neg hbad,if_neg hlong,if_pos (.inl (hps.2 hbl))])
  simp (config:=KF) (disch:=omega) only [bZ,retI,AI.dst,↓reduceIte,Nat.reduceEqDiff,reduceCtorEq,fm]
  exact hs
 simp (config:=KF) (disch:=omega) only [bZ,AI.dst,id,↓reduceIte,Nat.reduceEqDiff,reduceCtorEq,cd,v1]
 refine aq (vs:=[.ptr h 0,.lit (.int .i64 (i:Nat)),v]) (by simp [v1,cQ,aL]) e_f45 (pH j1 i hv hp) (by simp [v5,bT,aD]) fun w s2 hr=>?_
 obtain ⟨rfl,hk2⟩:=hr
 have k1:HubIs s2 h wid L Qs M:=j1.kp hk2 fun _ _ q=>by cases q
 rw [qR,j2.eq]
 cases hc:canR (i:Int) p.length R.subs with
 | false =>
   have hs:=stay s2 16 hk2 (by unfold rPub; rw [if_neg hbad,if_neg hlong,if_pos (.inr hc)])
   simp (config:=KF) (disch:=omega) only [bZ,retI,AI.dst,unA,↓reduceIte,Nat.reduceEqDiff,reduceCtorEq]
   exact hs
 | true =>
   have hrp:rPub (i:Int) p R = (⟨pubR i p R.subs,R.ws⟩,0):=by
    unfold rPub
    rw [if_neg hbad,if_neg hlong,if_neg]
    rw [hps,hc]; simp only [Bool.true_eq_false,or_false]; exact hbl
   rw [hrp] at hQ
   simp (config:=KF) (disch:=omega) only [bZ,AI.dst,unA,id,↓reduceIte,Nat.reduceEqDiff,reduceCtorEq,v1]
   have hpub:=jB k1 i (DV.kp hv hk2 fun _ _ q=>by cases q) (by omega) (fun b hb q=>hvn b hb (j5 q)) (fun j z hz=>by
    have:=(j2.ok j z.S (by rw [List.getElem?_map,hz]; rfl)).2.1
    omega)
   refine aq (vs:=[.ptr h 0,.lit (.int .i64 (i:Nat)),v]) (by simp [v1,cQ,aL]) e_f46 hpub (by simp [v5,bT,aD]) fun w s4 hr=>?_
   obtain ⟨L4,m1,m2,m3,m4⟩:=hr
   simp (config:=KF) (disch:=omega) only [bZ,retI,↓reduceIte,Nat.reduceEqDiff,reduceCtorEq]
   exact hQ _ _ ⟨rfl,⟨⟨L4,Qs,M,W,m1,canL_pub m2 j2,j3.mono (Nat.le_succ n),j4,fun b hb=>j5 (m4 hb)⟩⟩,(Kp.wide hk2 fun _ q=>by cases q).trans m3 fun b hb=>.inl (j5 hb)⟩

/-! A clone. -/
theorem n0 (st:St) {v:AV} {p:List UInt8} (hv:DV v st p) (hp:p.length≤100000):aB Go.Proofs.Try.prog n_f42 [v] st (.sl false 1 (BB p)):=by
 obtain ⟨v1,v2,v3,v4,v5,v6,v7,v8⟩:=hv.facts
 have hsrc:∀ K:List AV→Prop,K (BB p)→(srcA st 1 v).wp K:=fun K hK=>DV.src hv hK
 have hnb:(AV.sl false 1 (BB p)).NB:=.sl _ _ _ fun c hc=>by
  obtain ⟨x,_,rfl⟩:=List.mem_map.1 hc
  exact .lit _
 rcases hv with ⟨rfl,rfl⟩ | rfl | ⟨bi,cap,r,rfl,hg,h1,h2⟩
 ·refine pure_lev hmix k_f42 rfl rfl hnb (by simp [nb_lit]) (fun Q hQ=>?_) st
  unfold aFun c_f42
  simp (config:=KF) (disch:=omega) only [bZ,retI,bt,nC,aW,nilX_nil,cH,bp,aY,↓reduceIte,Nat.reduceEqDiff,reduceCtorEq]
  exact hQ _ _ (.nil _ _)
 ·refine pure_lev hmix k_f42 rfl rfl hnb (by simp; exact hnb) (fun Q hQ=>?_) st
  unfold aFun c_f42
  cases p with
  | nil =>
    simp (config:=KF) (disch:=omega) only [bZ,bt,aW,nilX_empty,↓reduceIte,Nat.reduceEqDiff,reduceCtorEq,BB_nil]
    intro b
    cases b
    ·simp (config:=KF) (disch:=omega) only [bZ,retI,bF,List.replicate_zero,br,srcA,nE,ci,List.nil_append,↓reduceIte,Nat.reduceEqDiff,reduceCtorEq]
     exact hQ _ _ (.own _ _)
    ·simp (config:=KF) (disch:=omega) only [bZ,retI,↓reduceIte,Nat.reduceEqDiff,reduceCtorEq]
     exact hQ _ _ (.nil _ _)
  | cons x r =>
    rw [List.length_cons] at hp
    simp (config:=KF) (disch:=omega) only [bZ,retI,bt,nC,bF,aW,nilX_cons,cH,bp,aY,List.replicate_zero,br,srcA,nE,ci,List.nil_append,↓reduceIte,Nat.reduceEqDiff,reduceCtorEq,aO,jO,qo]
    exact hQ _ _ (.own _ _)
 ·refine aB.weak (v:=.sl true 1 (BB p)) (aF hmix k_f42 rfl rfl fun Q hQ=>?_) (kj _) (.own _ _)
  unfold aFun c_f42
  simp (config:=KF) (disch:=omega) only [bZ,retI,bt,nC,bF,aW,nilX_bs,cH,bp,aY,List.replicate_zero,br,nE,List.nil_append,↓reduceIte,Nat.reduceEqDiff,reduceCtorEq]
  rw [Res.wp_bind]
  refine hsrc _ ?_
  simp (config:=KF) (disch:=omega) only [bZ,ci,aO,jO]
  exact hQ _
end Go.Fx.YtbdjfccgkdgbfaaFx

