/- What the functions that the statement reaches compute: part 12. -/
import Derived.Test.YtbdjfccgkdgbfaaFxW11
namespace Go.Fx.YtbdjfccgkdgbfaaFx
open Go Go.Fx
attribute [local irreducible] aC runI au aH

set_option maxRecDepth 100000
set_option maxHeartbeats 4000000

/-! Subscribe. -/
section
variable {st:St} {h wid:Nat} {L:List (Option SL)} {Qs:List QL} {M:List (Int×WE)}
theorem index_pure (hh:HubIs st h wid L Qs M):aG Go.Proofs.Try.prog n_f26 [.bs h 1 0 64 64,.lit (.pointer none)] st (.lit (.int .i64 (if fstN (L.map sbO) < 64 then ((fstN (L.map sbO):Nat):Int) else -1))):=by
  have hg:=hh.get
  have hl:=hh.l64
  obtain ⟨f1,f2,f3⟩:=lN (L.map sbO)
  rw [List.length_map,hl] at f1 f3
  have fL:∀ i,i < fstN (L.map sbO)→∃ x,L[i]? = some (some x):=fun i hi=>by
    obtain ⟨S,hS⟩:=f2 i hi
    rw [List.getElem?_map] at hS
    obtain ⟨o,ho,e⟩:=Option.map_eq_some_iff.1 hS
    cases o with
    | none=>cases e
    | some x=>exact ⟨x,ho⟩
  have fN:fstN (L.map sbO) < 64→L[fstN (L.map sbO)]? = some none:=fun hi=>by
    have hS:=f3 hi
    rw [List.getElem?_map] at hS
    obtain ⟨o,ho,e⟩:=Option.map_eq_some_iff.1 hS
    cases o with
    | none=>exact ho
    | some x=>cases e
  generalize fstN (L.map sbO) = N at f1 f2 f3 fL fN ⊢
  refine aV hmix k_f26 rfl rfl fun Q hQ=>?_
  unfold aFun c_f26
  simp (config:=KF) (disch:=omega) only [bZ,lenI,↓reduceIte,Nat.reduceEqDiff,reduceCtorEq]
  rw [f26_7w]
  refine cX (A:=Nat) (fun a=>N - a) (fun a=>⟨[(0,.bs h 1 0 64 64),(1,.lit (.pointer none)),(7,.lit (.int .i64 64)),(8,.lit (.int .i64 (a:Nat)))],[]⟩) (fun _=>st)
    (fun a=>a≤N) 0 (Nat.zero_le _) (Sf.le_refl _) rfl ?_
  intro i hi K hK hKe hKr
  by_cases h64:i < 64
  · by_cases hiN:i < N
    · obtain ⟨x,hx⟩:=fL i hiN
      obtain ⟨r,hr⟩:=hub_s (Qs:=Qs) wid hx
      have hr':(L.map ptrO++(Qs.map ptrQ++[AV.map wid])).drop i = .ptr x.s 0::r:=hr
      simp (config:=KF) (disch:=omega) only [bZ,gu,ixSV,cA,bq,aY,aa,↓reduceIte,Nat.reduceEqDiff,reduceCtorEq,aP,a9,hg,hr']
      exact hK (i + 1) _ hiN (by omega) (Sf.le_refl _)
    · obtain rfl:i = N:=by omega
      obtain ⟨r,hr⟩:=hub_s (Qs:=Qs) wid (fN h64)
      have hr':(L.map ptrO++(Qs.map ptrQ++[AV.map wid])).drop i = .lit (.pointer none)::r:=hr
      rw [if_pos h64] at hQ
      simp (config:=KF) (disch:=omega) only [bZ,aI,gu,ixSV,cA,bq,aY,aa,↓reduceIte,Nat.reduceEqDiff,reduceCtorEq,aP,hg,hr']
      refine hKr _ _ ?_
      simp (config:=KF) (disch:=omega) only [bZ,aI,retI,↓reduceIte]
      exact hQ _
  · obtain rfl:i = 64:=by omega
    rw [if_neg (by omega)] at hQ
    simp (config:=KF) (disch:=omega) only [bZ,aU,bK,↓reduceIte,Nat.reduceEqDiff,Int.reduceLT,reduceCtorEq]
    refine hKe _ _ _ ?_
    simp (config:=KF) (disch:=omega) only [bZ,aA,retI,↓reduceIte,Int.reduceNeg]
    exact hQ _

end
theorem iE {st:St} {h wid n:Nat} {R:HR} {F:List Nat} (hh:HubR st h wid n R F) (topic room pol:Int) :
    al Go.Proofs.Try.prog n_f9 [.ptr h 0,.lit (.int .i64 topic),.lit (.int .i64 room),.lit (.int .i64 pol)] st (fun v st'=>v = .tup [.lit (.int .i64 (rSub topic room pol R).2.1),.lit (.int .i64 (rSub topic room pol R).2.2)]∧∃ F',HubR st' h wid n (rSub topic room pol R).1 F'∧Kp st st' F∧∀ x ∈ F',(x ∈ F∨st.boxes.length≤x)∧x < st'.boxes.length):=by
  obtain ⟨L,Qs,M,W,j1,j2,j3,j4,j5⟩:=hh.ex
  have hl:=j1.l64
  refine ao hmix k_f9 rfl rfl fun Q hQ=>?_
  unfold aFun c_f9
  have stay:∀ s a b,Kp st s []→rSub topic room pol R = (R,a,b)→Q (.tup [.lit (.int .i64 a),.lit (.int .i64 b)]) s:=fun s a b hk hr=>by
    refine hQ _ _ ?_
    rw [hr]
    exact ⟨rfl,bS h wid L Qs,⟨⟨L,Qs,M,W,j1.kp hk (fun _ _ q=>by cases q),j2,j3,j4,fun _ q=>q⟩⟩,Kp.wide hk (fun _ q=>by cases q),fun x hx=>⟨.inl (j5 hx),Nat.lt_of_lt_of_le (j1.lts x hx) hk.1⟩⟩
  simp (config:=KF) (disch:=omega) only [bZ,id,↓reduceIte,Nat.reduceEqDiff,Nat.reduceAdd,reduceCtorEq]
  refine am rfl e_f24 (dF j1) rfl ?_
  simp (config:=KF) (disch:=omega) only [bZ,id,↓reduceIte,Nat.reduceEqDiff,reduceCtorEq]
  refine am rfl e_f25 (dP topic 16 st) rfl ?_
  by_cases hbad:topic < 0∨16≤topic∨room < 3∨4096 < room∨pol < 1∨3 < pol
  · have hs:=stay st 0 2 (Kp.refl _ _) (by unfold rSub; rw [if_pos hbad])
    (repeat' (first | omega | (simp (config:=KF) (disch:=omega) only [bZ,retI,bf,AI.dst,ba,unA,n_leq,dk,↓reduceIte,Nat.reduceEqDiff,reduceCtorEq,dA,aP]) | refine br (fun h=>?_) (fun h=>?_) | refine dO (fun h=>?_) (fun h=>?_) | refine gk (fun h=>?_) (fun h=>?_) | exact hs))
  have hr0:=hbad
  obtain ⟨c,rfl⟩:∃ c:Nat,room = (c:Int):=⟨room.toNat,by omega⟩
  have w1:decide (0≤topic∧topic < 16) = true:=decide_eq_true (by omega)
  have hg:=j1.get
  have hlt:=j1.lts
  simp (config:=KF) (disch:=omega) only [bZ,AI.dst,bu,mM,o_x,aj,aD,slAX,sl3,ixTo,addA,unA,n_leq,dk,id,Option.map_none,↓reduceIte,Nat.reduceEqDiff,reduceCtorEq,Nat.sub_zero,dA,cG]
  refine am rfl e_f26 (index_pure j1) rfl ?_
  obtain ⟨f1,f2,f3⟩:=lN (L.map sbO)
  obtain ⟨q1,q2⟩:=nt (L.map sbO)
  rw [List.length_map,hl] at f1 f3 q1 q2
  rw [j2.eq] at q1 q2
  by_cases hN:fstN (L.map sbO) < 64
  · rw [if_pos hN]
    have hfree:=j2.free 64 0 (Nat.zero_le _) (by omega) (by rw [List.length_map,hl]; exact hN)
    have hrs:rSub topic (c:Int) pol R = ((⟨insR (⟨fstN (L.map sbO),topic,c,pol,[],0⟩:Sb) R.subs,R.ws⟩:HR),((fstN (L.map sbO):Nat):Int),(0:Int)):=by
      unfold rSub
      rw [if_neg hr0,if_neg (by omega),hfree]; rfl
    rw [hrs] at hQ
    have hnone:=f3 hN
    generalize fstN (L.map sbO) = k at hN hnone hQ
    simp (config:=KF) (disch:=omega) only [bZ,id,↓reduceIte,Nat.reduceEqDiff,reduceCtorEq]
    refine ap rfl e_f27 (rnew_calls st (c:=c) (by omega) (by omega)) rfl fun w s1 hr=>?_
    obtain ⟨rfl,hr1,hk1⟩:=hr
    have hh0:h < st.boxes.length:=hlt h (ai.2 (.inl rfl))
    have hg1:s1.get h = _:=(bY (hk1.2 h hh0 (by simp))).trans hg
    have hl1:h < s1.boxes.length:=aS hg1
    have hrl:=hr1.ltr
    have hgp:∀ b,(s1.push b).get h = some (L.map ptrO++(Qs.map ptrQ++[AV.map wid])):=fun b=>by rw [cn hl1]; exact hg1
    have hlen:=pP (L:=L) (Qs:=Qs) wid hl j1.q16
    simp (config:=KF) (disch:=omega) only [bZ,retI,gv,mO,mP,aj,bstV,az,addA,bj,dN,own1_ptr,own2_ptr,fS,dE,↓reduceIte,Nat.reduceEqDiff,Nat.reduceAdd,Nat.reduceLeDiff,reduceCtorEq,not_true_eq_false,hgp,hlen]
    obtain ⟨B,hB⟩:∃ B,B = s1.push (.cells [.lit (.int .i64 topic),.lit (.int .i64 pol),.ptr (st.boxes.length + 1) 0,.lit (.int .i64 0),.lit (.int .i64 0)]):=⟨_,rfl⟩
    rw [← hB]
    have hBl:B.boxes.length = s1.boxes.length + 1:=by rw [hB,aE]
    obtain ⟨y,hy⟩:∃ y:SL,y = ⟨s1.boxes.length,st.boxes.length + 1,st.boxes.length,0,⟨k,topic,c,pol,[],0⟩⟩:=⟨_,rfl⟩
    have hcells:(L.map ptrO++(Qs.map ptrQ++[AV.map wid])).set k (AV.ptr s1.boxes.length 0) = (L.set k (some y)).map ptrO++(Qs.map ptrQ++[AV.map wid]):=by
      rw [List.set_append,if_pos (by rw [List.length_map]; omega),List.map_set,hy]; rfl
    rw [hcells]
    obtain ⟨E,hE⟩:∃ E,E = B.set h ((L.set k (some y)).map ptrO++(Qs.map ptrQ++[AV.map wid])):=⟨_,rfl⟩
    rw [← hE]
    have hat:∀ b,b≠h→b < s1.boxes.length→E.boxes[b]? = s1.boxes[b]?:=fun b h1 h2=>by rw [hE,b9 h1,hB,bR h2]
    have hgE:E.get h = some ((L.set k (some y)).map ptrO++(Qs.map ptrQ++[AV.map wid])):=by rw [hE]; exact aw (by omega)
    have hkE:Kp st E (h::y.ids):=⟨by rw [hE,eI,hBl]; have:=hk1.1; omega,fun b h1 h2=>by
      rw [hat b (fun q=>h2 (by simp [q])) (by have:=hk1.1; omega)]
      exact hk1.2 b h1 (by simp)⟩
    have hyi:∀ b ∈ y.ids,st.boxes.length≤b:=by
      intro b hb
      rw [hy] at hb
      simp only [SL.ids,List.mem_cons,List.not_mem_nil,or_false] at hb
      have:=hk1.1
      omega
    have hslot:=j1.slot (y:=some y) hN hkE hyi hgE fun x hx=>by
      cases hx
      refine ⟨?_,hyi⟩
      rw [hy]
      refine ⟨?_,hr1.at (hat _ (by omega) hrl) (hat _ (by omega) (by omega)),fun m hm=>(by cases hm),by simp only; omega⟩
      simp only
      rw [hE,cB (by omega),hB,bA]
      rfl
    refine hQ _ _ ⟨rfl,bS h wid (L.set k (some y)) Qs,⟨L.set k (some y),Qs,M,W,hslot,?_,j3,j4,fun _ hb=>hb⟩,⟨hkE.1,fun b h1 h2=>hkE.2 b h1 ?_⟩,fun b hb=>⟨?_,hslot.lts b hb⟩⟩
    · rw [List.map_set,show sbO (some y) = some ⟨k,topic,c,pol,[],0⟩ by rw [hy]; rfl]
      exact j2.ins hnone rfl ⟨by simp,by simp only; omega,by simp only; omega,by simp only; omega,by simp only; omega,by simp only; omega,by simp only; omega⟩
    · rintro hb
      rcases List.mem_cons.1 hb with hb | hb
      · exact h2 (hb ▸ j5 (ai.2 (.inl rfl)))
      · have:=hyi b hb; omega
    · rcases ai.1 hb with hb | hb | ⟨i,x,hx,hb⟩ | hb
      · exact .inl (j5 (ai.2 (.inl hb)))
      · exact .inl (j5 (ai.2 (.inr (.inl hb))))
      · rw [List.getElem?_set] at hx
        split at hx
        · split at hx
          · cases hx; exact .inr (hyi b hb)
          · cases hx
        · exact .inl (j5 (ai.2 (.inr (.inr (.inl ⟨i,x,hx,hb⟩)))))
      · exact .inl (j5 (ai.2 (.inr (.inr (.inr hb)))))
  · rw [if_neg hN]
    have hs:=stay st 0 7 (Kp.refl _ _) (by unfold rSub; rw [if_neg hr0,if_pos (by omega)])
    simp (config:=KF) (disch:=omega) only [bZ,retI,↓reduceIte,Nat.reduceEqDiff,Int.reduceLT,Int.reduceNeg,reduceCtorEq]
    exact hs
end Go.Fx.YtbdjfccgkdgbfaaFx

