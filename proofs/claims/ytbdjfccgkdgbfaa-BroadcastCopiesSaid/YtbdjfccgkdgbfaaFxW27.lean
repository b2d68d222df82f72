/- What the functions that the statement reaches compute: part 27. -/
import Derived.Test.YtbdjfccgkdgbfaaFxW26
namespace Go.Fx.YtbdjfccgkdgbfaaFx
open Go Go.Fx
attribute [local irreducible] aC runI az ar

set_option maxRecDepth 100000
set_option maxHeartbeats 4000000

/-! The reference: a new subscriber. -/
def outV (l:List AV):AV:=if l = [] then .lit (.slice none 0 0) else .sl true 6 l
theorem Es.nil:Es [] []:=⟨rfl,fun i e S h=>by simp at h⟩
theorem Es.snoc {es:List AV} {subs:List Sb} (h:Es es subs) {e:AV} {S:Sb} (he:SubE e S):Es (es++[e]) (subs++[S]):=by
 refine ⟨by rw [List.length_append,List.length_append,h.1]; rfl,fun j x T hx hT=>?_⟩
 by_cases hj:j < es.length
 ·rw [List.getElem?_append_left hj] at hx
  rw [List.getElem?_append_left (by rw [← h.1]; exact hj)] at hT
  exact h.2 j x T hx hT
 ·rw [List.getElem?_append_right (by omega)] at hx
  rw [List.getElem?_append_right (by rw [← h.1]; omega),← h.1] at hT
  cases hk:j - es.length with
  | zero=>rw [hk] at hx hT; simp at hx hT; subst hx; subst hT; exact he
  | succ k=>rw [hk] at hx; simp at hx
theorem fst_has (n:Nat):∀ (l:List Sb) (k:Nat),decide (fstI (fun S:Sb=>decide ((S.num:Int) = (n:Int))) l k ≥ 0) = hasN n l
 | [],k=>rfl
 | S :: r, k => by
   unfold fstI hasN
   rw [List.any_cons]
   by_cases h:S.num = n
   ·rw [if_pos (decide_eq_true (by omega)),decide_eq_true h,Bool.true_or]
    exact decide_eq_true (by omega)
   ·rw [if_neg (by simp; omega),decide_eq_false h,Bool.false_or]
    have:=fst_has n r (k + 1)
    rw [show (((k + 1:Nat)):Int) = (k:Int) + 1 by omega] at this
    exact this
theorem has_none {n:Nat} {l:List Sb} (h:∀ S ∈ l,S.num < n):hasN n l = false:=by
 unfold hasN
 rw [List.any_eq_false]
 intro S hS
 have:=h S hS
 simp; omega
theorem mc {A:Type} (p:A→Bool) (l:List A) (x:A):(l++[x]).filter p = l.filter p++if p x = true then [x] else []:=by
 rw [List.filter_append]
 by_cases h:p x = true
 ·rw [if_pos h,List.filter_cons_of_pos h]; rfl
 ·rw [if_neg h,List.filter_cons_of_neg h]; rfl

section
variable {st:St} {es:List AV} {n:Nat} {R:HR}
theorem lD (h:RH (.sl false 6 es) st n R) (he:Es es R.subs) (hnum:∀ S ∈ R.subs,S.num < 64) (t rm pl:Int) :
  am Go.Proofs.Try.prog n_f52 [.agg [.sl false 6 es,wsV R.ws],.lit (.int .i64 t),.lit (.int .i64 rm),.lit (.int .i64 pl)] st (fun r st'=>∃ v',r = .tup [.agg [v',wsV (rSub t rm pl R).1.ws],.lit (.int .i64 (rSub t rm pl R).2.1),.lit (.int .i64 (rSub t rm pl R).2.2)]∧(∃ es,SV v' st' es∧Es es (rSub t rm pl R).1.subs)∧Kp st st' []):=by
 obtain ⟨w1,w2,w3,w4,w5,w6,w7,w8⟩:=aw R.ws
 have hel:=he.1
 have hsl:=h.ok.len
 refine ap hmix k_f52 rfl rfl fun Q hQ=>?_
 unfold aFun c_f52
 have stay:∀ b,rSub t rm pl R = (R,0,b)→Q (.tup [.agg [.sl false 6 es,wsV R.ws],.lit (.int .i64 0),.lit (.int .i64 b)]) st:=fun b hr=>by
  refine hQ _ _ ⟨.sl false 6 es,?_⟩
  rw [hr]
  exact ⟨rfl,h.ex,Kp.refl _ _⟩
 by_cases c1:t < 0∨16≤t∨rm < 3∨4096 < rm∨pl < 1∨3 < pl
 ·have hs:=stay 2 (by unfold rSub; rw [if_pos c1])
  (repeat' (first | omega | (simp (config:=KF) (disch:=omega) only [bZ,retI,AI.dst,ah,ae,dt,↓reduceIte,Nat.reduceEqDiff,Nat.reduceAdd,Nat.reduceLeDiff,reduceCtorEq,af,aa,w2,w4]) | refine aS (fun h=>?_) (fun h=>?_) | refine b8 (fun h=>?_) (fun h=>?_) | refine dJ (fun h=>?_) (fun h=>?_) | exact hs))
 by_cases c2:64≤R.subs.length
 ·have hs:=stay 7 (by unfold rSub; rw [if_neg c1,if_pos c2])
  simp (config:=KF) (disch:=omega) only [bZ,retI,AI.dst,ah,lenI,addA,ae,dt,↓reduceIte,Nat.reduceEqDiff,Nat.reduceAdd,Nat.reduceLeDiff,reduceCtorEq,cd,af,aa,w2,w4,hel]
  exact hs
 obtain ⟨room,rfl⟩:∃ r:Nat,rm = (r:Int):=⟨rm.toNat,by omega⟩
 have hrs:rSub t (room:Int) pl R = ((⟨insR ⟨fM 64 0 R.subs,t,room,pl,[],0⟩ R.subs,R.ws⟩:HR),((fM 64 0 R.subs:Nat):Int),(0:Int)):=by
  unfold rSub; rw [if_neg c1,if_neg c2]; rfl
 rw [hrs] at hQ
 simp only at hQ
 simp (config:=KF) (disch:=omega) only [bZ,AI.dst,lenI,addA,ae,dt,↓reduceIte,Nat.reduceEqDiff,Nat.reduceAdd,reduceCtorEq,cd,w2,w4,hel]
 rw [f52_19w]
 refine a8 (A:=Nat) (fun i=>64 - i) (fun i=>⟨[(1,.lit (.int .i64 t)),(2,.lit (.int .i64 (room:Nat))),(3,.lit (.int .i64 pl)),(4,.lptr 4 0),(8,.lptr 8 0),(11,.lit (.int .i64 (i:Nat)))],[(4,[.sl false 6 es,wsV R.ws]),(8,[.lit (.slice none 0 0),.lit (.slice none 0 0)])]⟩) (fun _=>st)
  (fun i=>i≤64∧fM (64 - i) i R.subs = fM 64 0 R.subs) 0 ⟨by omega,rfl⟩ (Sf.le_refl _) rfl ?_
 rintro i ⟨i1,i2⟩ K hK hKe hKr
 have hat:=mF (ws:=R.ws) he hsl (i:Int) st
 have hfh:=fst_has i R.subs 0
 rw [show ((0:Nat):Int) = 0 from rfl] at hfh
 simp (config:=KF) (disch:=omega) only [bZ,ae,id,↓reduceIte,Nat.reduceEqDiff,Nat.reduceAdd,Nat.reduceLeDiff,w2]
 refine ak (vs:=[.agg [.sl false 6 es,wsV R.ws],.lit (.int .i64 (i:Nat))]) (by simp [w2,aH,bN,aL]) e_f35 hat (by simp [w5,aI,aD,ci]) ?_
 simp (config:=KF) (disch:=omega) only [bZ,dt,↓reduceIte,Nat.reduceEqDiff,hfh]
 cases hh:hasN i R.subs with
 | true =>
   have hi:i < 64:=by
    refine Nat.lt_of_le_of_ne i1 fun e=>?_
    rw [has_none fun S hS=>by have:=hnum S hS; omega] at hh
    cases hh
   have hstep:fM (64 - i) i R.subs = fM (64 - (i + 1)) (i + 1) R.subs:=by
    rw [show 64 - i = (64 - (i + 1)) + 1 by omega]
    conv=>lhs; unfold fM
    rw [if_pos hh]
   simp (config:=KF) (disch:=omega) only [bZ,↓reduceIte,Nat.reduceEqDiff]
   exact hK (i + 1) _ ⟨by omega,hstep ▸ i2⟩ (by omega) (Sf.le_refl _)
 | false =>
   have hfree:fM 64 0 R.subs = i:=by
    rw [← i2]
    cases 64 - i with
    | zero=>rfl
    | succ f=>unfold fM; rw [if_neg (by rw [hh]; simp)]
   rw [hfree] at hQ
   simp (config:=KF) (disch:=omega) only [bZ,↓reduceIte,Nat.reduceEqDiff]
   refine hKe _ _ _ ?_
   clear hat hfh
   simp (config:=KF) (disch:=omega) only [bZ,↓reduceIte,Nat.reduceEqDiff]
   rw [f52_32w]
   refine a8 (A:=Nat×List AV) (fun a=>R.subs.length - a.1) (fun a=>⟨[(1,.lit (.int .i64 t)),(2,.lit (.int .i64 (room:Nat))),(3,.lit (.int .i64 pl)),(4,.lptr 4 0),(8,.lptr 8 0),(11,.lit (.int .i64 (i:Nat))),(12,outV a.2),(13,.lit (.int .i64 (a.1:Nat)))],[(4,[.sl false 6 es,wsV R.ws]),(8,[.lit (.slice none 0 0),.lit (.slice none 0 0)])]⟩) (fun _=>st)
    (fun a=>a.1≤R.subs.length∧Es a.2 ((R.subs.take a.1).filter fun T=>decide (T.num < i))) (0,[]) ⟨Nat.zero_le _,Es.nil⟩ (Sf.le_refl _) rfl ?_
   rintro ⟨j,out⟩ ⟨j1,j2⟩ K2 hK2 hKe2 hKr2
   simp only at j1 j2
   dsimp only
   have hol:out.length≤64:=by
    have:=j2.1
    have:=List.length_filter_le (fun T:Sb=>decide (T.num < i)) (R.subs.take j)
    rw [List.length_take] at this
    omega
   by_cases h3:j < R.subs.length
   ·obtain ⟨rv,hrv,hg⟩:=he.at h3
    have htk:(R.subs.take (j + 1)).filter (fun T=>decide (T.num < i)) = (R.subs.take j).filter (fun T=>decide (T.num < i))++if decide (R.subs[j].num < i) = true then [R.subs[j]] else []:=by
     rw [List.take_succ_eq_append_getElem h3]; exact mc (fun T:Sb=>decide (T.num < i)) (R.subs.take j) R.subs[j]
    have hsub:SubE (sbV R.subs[j] rv) R.subs[j]:=⟨rv,hrv,rfl⟩
    obtain ⟨r1,r2,r3,r4,r5,r6,r7,r8⟩:=hrv.facts
    have hid:=jS j2.sc
    generalize R.subs[j] = S at hg htk hsub
    unfold sbV at hg
    by_cases h4:S.num < i
    ·rw [if_pos (decide_eq_true h4)] at htk
     have hfin:=fun sf hsf=>hK2 (j + 1,out++[sbV S rv]) sf ⟨h3,by simp only; rw [htk]; exact j2.snoc hsub⟩ (by simp only; omega) hsf
     have hsn:outV (out++[sbV S rv]) = .sl true 6 (out++[.agg [.lit (.int .i64 (S.num:Nat)),.lit (.int .i64 S.topic),.lit (.int .i64 (S.room:Nat)),.lit (.int .i64 S.pol),rv,.lit (.int .i64 (S.lost:Nat))]]):=if_neg (by simp)
     simp only [hsn] at hfin
     by_cases ho:out = []
     ·have hia:outV out = .lit (.slice none 0 0):=if_pos ho
      rw [hia]
      rw [ho] at hfin
      simp (config:=KF) (disch:=omega) only [bZ,ixSV,bF,List.reduceReplicate,lenI,addA,ae,aQ,srcA,cb,↓reduceIte,Nat.reduceEqDiff,Nat.reduceAdd,Nat.reduceLT,Nat.reduceLeDiff,hg,hel,r2,r4]
      exact hfin _ (Sf.le_refl _)
     ·have hia:outV out = .sl true 6 out:=if_neg ho
      rw [hia]
      simp (config:=KF) (disch:=omega) only [bZ,ixSV,bF,List.reduceReplicate,lenI,addA,ae,br,srcA,cb,↓reduceIte,Nat.reduceEqDiff,Nat.reduceAdd,Nat.reduceLT,Nat.reduceLeDiff,hg,hel,r2,r4]
      exact hfin _ (Sf.le_refl _)
    ·rw [if_neg (by simpa using h4),List.append_nil] at htk
     simp (config:=KF) (disch:=omega) only [bZ,ixSV,lenI,addA,ae,↓reduceIte,Nat.reduceEqDiff,hg,hel]
     exact hK2 (j + 1,out) _ ⟨h3,by simp only; rw [htk]; exact j2⟩ (by simp only; omega) (Sf.le_refl _)
   ·obtain rfl:j = R.subs.length:=by omega
    rw [List.take_length] at j2
    simp (config:=KF) (disch:=omega) only [bZ,lenI,addA,ae,↓reduceIte,Nat.reduceEqDiff,hel]
    refine hKe2 _ _ _ ?_
    have hnew:SubE (sbV ⟨i,t,room,pl,[],0⟩ (.lit (.slice none 0 0))) ⟨i,t,room,pl,[],0⟩:=⟨_,.inr ⟨rfl,rfl⟩,rfl⟩
    have h3e:=j2.snoc hnew
    have hne:out++[sbV ⟨i,t,room,pl,[],0⟩ (.lit (.slice none 0 0))]≠[]:=by simp
    have hid:=jS j2.sc
    have hdn:(sbV ⟨i,t,room,pl,[],0⟩ (.lit (.slice none 0 0))) = .agg [.lit (.int .i64 (i:Nat)),.lit (.int .i64 t),.lit (.int .i64 (room:Nat)),.lit (.int .i64 pl),.lit (.slice none 0 0),.lit (.int .i64 0)]:=rfl
    obtain ⟨out1,ho1⟩:∃ o,o = out++[sbV ⟨i,t,room,pl,[],0⟩ (.lit (.slice none 0 0))]:=⟨_,rfl⟩
    have hl1:out1.length = out.length + 1:=by rw [ho1,List.length_append]; rfl
    rw [← ho1] at h3e
    have hend:∀ sf:Sf,Sf.le (sf.mask [4,8,11,12,14] [4,8]) ⟨[(4,.lptr 4 0),(8,.lptr 8 0),(11,.lit (.int .i64 (i:Nat))),(12,.sl true 6 out1),(14,.lit (.int .i64 0))],[(4,[.sl false 6 es,wsV R.ws]),(8,[.lit (.slice none 0 0),.lit (.slice none 0 0)])]⟩ →
      ar (aC Go.Proofs.Try.prog id false f52_51) [4,8,11,12,14] [4,8] sf st (ga 4 (seqQ (aC Go.Proofs.Try.prog id false f52_62) (retQ [RI.cell 8 (some 2),RI.tmp 9,RI.tmp 10] Q))):=by
     intro sf hsf
     refine a8 (A:=Nat×List AV) (fun a=>R.subs.length - a.1) (fun a=>⟨[(4,.lptr 4 0),(8,.lptr 8 0),(11,.lit (.int .i64 (i:Nat))),(12,.sl true 6 a.2),(14,.lit (.int .i64 (a.1:Nat)))],[(4,[.sl false 6 es,wsV R.ws]),(8,[.lit (.slice none 0 0),.lit (.slice none 0 0)])]⟩) (fun _=>st)
      (fun a=>a.1≤R.subs.length∧a.2≠[]∧Es a.2 ((R.subs.filter (fun T=>decide (T.num < i))++[⟨i,t,room,pl,[],0⟩])++(R.subs.take a.1).filter fun T=>decide (i < T.num))) (0,out1) ⟨Nat.zero_le _,by intro e; simp only at e; rw [e] at hl1; simp at hl1,by simpa using h3e⟩ hsf rfl ?_
     rintro ⟨k,o2⟩ ⟨k1,k0,k2⟩ K3 hK3 hKe3 hKr3
     simp only at k1 k2 k0
     dsimp only
     have hol2:o2.length≤200:=by
      have a1:=k2.1
      have a2:=List.length_filter_le (fun T:Sb=>decide (i < T.num)) (R.subs.take k)
      have a3:=List.length_filter_le (fun T:Sb=>decide (T.num < i)) R.subs
      rw [List.length_take] at a2
      rw [a1,List.length_append,List.length_append]
      simp only [List.length_cons,List.length_nil]
      omega
     by_cases h5:k < R.subs.length
     ·obtain ⟨rv,hrv,hg⟩:=he.at h5
      have htk:(R.subs.take (k + 1)).filter (fun T=>decide (i < T.num)) = (R.subs.take k).filter (fun T=>decide (i < T.num))++if decide (i < R.subs[k].num) = true then [R.subs[k]] else []:=by
       rw [List.take_succ_eq_append_getElem h5]; exact mc (fun T:Sb=>decide (i < T.num)) (R.subs.take k) R.subs[k]
      have hsub:SubE (sbV R.subs[k] rv) R.subs[k]:=⟨rv,hrv,rfl⟩
      obtain ⟨r1,r2,r3,r4,r5,r6,r7,r8⟩:=hrv.facts
      have hid2:=jS k2.sc
      generalize R.subs[k] = S at hg htk hsub
      unfold sbV at hg
      by_cases h4:i < S.num
      ·rw [if_pos (decide_eq_true h4)] at htk
       have hfin:=fun sf hsf=>hK3 (k + 1,o2++[sbV S rv]) sf ⟨h5,by simp,by simp only; rw [htk,← List.append_assoc]; exact k2.snoc hsub⟩ (by simp only; omega) hsf
       unfold sbV at hfin
       simp (config:=KF) (disch:=omega) only [bZ,ixSV,bF,List.reduceReplicate,lenI,addA,ae,br,srcA,cb,↓reduceIte,Nat.reduceEqDiff,Nat.reduceAdd,Nat.reduceLT,Nat.reduceLeDiff,f52_51e,hg,hel,r2,r4]
       exact hfin _ (Sf.le_refl _)
      ·rw [if_neg (by simpa using h4),List.append_nil] at htk
       simp (config:=KF) (disch:=omega) only [bZ,ixSV,lenI,addA,ae,↓reduceIte,Nat.reduceEqDiff,f52_51e,hg,hel]
       exact hK3 (k + 1,o2) _ ⟨h5,k0,by simp only; rw [htk]; exact k2⟩ (by simp only; omega) (Sf.le_refl _)
     ·obtain rfl:k = R.subs.length:=by omega
      rw [List.take_length] at k2
      simp (config:=KF) (disch:=omega) only [bZ,lenI,addA,ae,↓reduceIte,Nat.reduceEqDiff,f52_51e,hel]
      refine hKe3 _ _ _ ?_
      simp (config:=KF) (disch:=omega) only [bZ,retI,ah,addA,ae,↓reduceIte,Nat.reduceEqDiff,Nat.reduceAdd,Nat.reduceLeDiff,af,aa,f52_62e,w2,w4]
      refine hQ _ _ ⟨.sl false 6 o2,rfl,⟨o2,.inr (.inl rfl),?_⟩,Kp.refl _ _⟩
      unfold insR
      rw [List.append_assoc] at k2
      exact k2
    clear hKe2 hKr2 hK2 hKe hKr hK hQ
    have hsn:=fun e:AV=>(rfl:AV.sl true 6 (out++[e]) = .sl true 6 (out++[e]))
    by_cases ho:out = []
    ·have hia:outV out = .lit (.slice none 0 0):=if_pos ho
     rw [hia]
     rw [ho] at ho1
     simp (config:=KF) (disch:=omega) only [bZ,ei,bstV,bF,List.reduceReplicate,aQ,srcA,aV,cb,↓reduceIte,Nat.reduceEqDiff,Nat.reduceAdd,Nat.reduceLT,Nat.reduceLeDiff,af,aa]
     rw [f52_50w]
     refine hend _ ?_
     rw [ho1]
     exact Sf.le_refl _
    ·have hia:outV out = .sl true 6 out:=if_neg ho
     rw [hia]
     simp (config:=KF) (disch:=omega) only [bZ,ei,bstV,bF,List.reduceReplicate,br,srcA,aV,cb,↓reduceIte,Nat.reduceEqDiff,Nat.reduceAdd,Nat.reduceLT,Nat.reduceLeDiff,af,aa]
     rw [f52_50w]
     refine hend _ ?_
     rw [ho1]
     exact Sf.le_refl _
end
end Go.Fx.YtbdjfccgkdgbfaaFx

