/- What the functions that the statement reaches compute: part 33. -/
import Derived.Test.YtbdjfccgkdgbfaaFxW32
namespace Go.Fx.YtbdjfccgkdgbfaaFx
open Go Go.Fx
attribute [local irreducible] aC runI az ar

set_option maxRecDepth 100000
set_option maxHeartbeats 4000000

/-- What a new hub is made of. -/
theorem new_parts {st:St} {h wid:Nat} {F:List Nat} (hh:HubR st h wid 0 ⟨[],[]⟩ F):∃ L0 Q0,HubIs st h wid L0 Q0 []∧L0.map sbO = List.replicate 64 none∧ba h wid L0 Q0 ⊆ F:=by
 obtain ⟨L,Qs,M,W,j1,j2,j3,j4,j5⟩:=hh.ex
 have hW:W = []:=by simpa using j4
 subst hW
 have hM:M = []:=by
  cases M with
  | nil=>rfl
  | cons e r =>
    obtain ⟨k,w⟩:=e
    have:=j3.mp k
    simp [aR,cJ] at this
 subst hM
 refine ⟨L,Qs,j1,?_,j5⟩
 apply List.ext_getElem?
 intro i
 by_cases hi:i < 64
 ·rw [List.getElem?_replicate,if_pos hi]
  have hx:(L.map sbO)[i]? = some ((L.map sbO)[i]'(by rw [List.length_map,j1.l64]; exact hi)):=List.getElem?_eq_getElem _
  cases ho:((L.map sbO)[i]'(by rw [List.length_map,j1.l64]; exact hi)) with
  | none=>rw [ho] at hx; exact hx
  | some S =>
    rw [ho] at hx
    have:=(fQ (LS:=L.map sbO) (S:=S)).2 ⟨i,hx⟩
    rw [j2.eq] at this
    cases this
 ·rw [List.getElem?_eq_none (by rw [List.length_map,j1.l64]; omega),List.getElem?_eq_none (by simp; omega)]

theorem hcopy_calls {st:St} {h wid n:Nat} {R:HR} {F:List Nat} (hh:HubR st h wid n R F) :
  am Go.Proofs.Try.prog n_f19 [.ptr h 0] st (fun v st'=>∃ h' wid' F',v = .ptr h' 0∧HubR st' h' wid' n R F'∧Kp st st' []∧∀ x ∈ F',st.boxes.length≤x∧x < st'.boxes.length):=by
 obtain ⟨L,Qs,M,W,j1,j2,j3,j4,j5⟩:=hh.ex
 have hMok:∀ e ∈ M,e.2.data.length≤100000∧(e.2.nl = true→e.2.data = []):=fun e he=>by
  have h1:=je (m:=M) (t:=e.1) (b:=e.2) j3.kn he
  rw [j3.mp] at h1
  have:∃ q ∈ W,q.2 = e.2:=by
   have key:∀ (t:Int) (W:WL) (w:WE),cJ t W = some w→∃ q ∈ W,q.2 = w:=by
    intro t W
    induction W with
    | nil=>intro w q; cases q
    | cons x r ih =>
      intro w q
      simp only [cJ] at q
      split at q
      ·cases q; exact ⟨x,by simp,rfl⟩
      ·obtain ⟨y,hy,e⟩:=ih w q
       exact ⟨y,by simp [hy],e⟩
   exact key e.1 W e.2 h1
  obtain ⟨q,hq,hqe⟩:=this
  obtain ⟨_,_,_,d1,d2⟩:=j3.ok q hq
  rw [hqe] at d1 d2
  exact ⟨by omega,d2⟩
 refine ap hmix k_f19 rfl rfl fun Q hQ=>?_
 unfold aFun c_f19
 simp (config:=KF) (disch:=omega) only [bZ,id,↓reduceIte,reduceCtorEq]
 refine ak rfl e_f24 (cN j1) rfl ?_
 simp (config:=KF) (disch:=omega) only [bZ,id,↓reduceIte,Nat.reduceEqDiff,reduceCtorEq]
 refine aq rfl e_f8 (gS st) rfl fun v s1 hr=>?_
 obtain ⟨c,cw,F1,rfl,hc1,hk1,hf1⟩:=hr
 obtain ⟨L0,Q0,hc0,hL0,hF0⟩:=new_parts hc1
 have j1':=j1.kp hk1 fun _ _ q=>by cases q
 have hg:=j1'.get
 have h64:=j1.l64
 have h16:=j1.q16
 have ht:=hub_t (L:=L) (Qs:=Qs) wid h64
 have hpo:=oc L
 have hqo:=ptrQ_own Qs
 have hpl:(L.map ptrO).length = 64:=by rw [List.length_map]; exact h64
 have hql:(Qs.map ptrQ).length = 16:=by rw [List.length_map]; exact h16
 simp (config:=KF) (disch:=omega) only [bZ,al,addA,ae,↓reduceIte,Nat.reduceEqDiff,reduceCtorEq,List.length_append,hg,ht,hpo]
 refine hcopy_subs j1 hk1 hc0 hL0 (fun b hb=>(hf1 b (hF0 hb)).1) fun s2 L1 c2 e2 k2 f2=>?_
 have hg2:=(j1.kp k2 fun _ _ q=>by cases q).get
 have hd64:(L.map ptrO++(Qs.map ptrQ++[AV.map wid])).drop 64 = Qs.map ptrQ++[AV.map wid]:=by
  rw [List.drop_append,List.drop_eq_nil_of_le (by omega),hpl]; rfl
 have ht16:(Qs.map ptrQ++[AV.map wid]).take 16 = Qs.map ptrQ:=by
  rw [List.take_append_of_le_length (by omega),List.take_of_length_le (by omega)]
 simp (config:=KF) (disch:=omega) only [bZ,al,addA,ae,↓reduceIte,Nat.reduceEqDiff,Nat.reduceLeDiff,reduceCtorEq,List.length_append,hg2,hd64,ht16,hqo]
 refine hcopy_ques j1 k2 c2 f2 fun s3 Q1 c3 q3 k3 f3=>?_
 have j3':=j1.kp k3 fun _ _ q=>by cases q
 have hg3:=j3'.get
 have hgm:=j3'.mp.get
 have hd80:=jA (L:=L) (Qs:=Qs) wid h64 h16
 have hB3:s3.getB wid = st.getB wid:=mz (k3.2 wid j1.mp.lt (by simp))
 simp (config:=KF) (disch:=omega) only [bZ,al,aW,addA,ae,bu,↓reduceIte,Nat.reduceEqDiff,reduceCtorEq,hg3,hd80]
 show rngX _ _ _
 unfold rngX
 simp only [hgm,Res.ofOpt,Res.wp,bt]
 simp (config:=KF) (disch:=omega) only [bZ,↓reduceIte,Nat.reduceEqDiff,reduceCtorEq]
 rw [hB3]
 refine hcopy_map j1 hMok k3 c3 f3 fun s4 M' c4 m4 k4 f4=>?_
 simp (config:=KF) (disch:=omega) only [bZ,retI,bT,↓reduceIte,Nat.reduceEqDiff]
 refine hQ _ _ ⟨c,cw,ba c cw L1 Q1,rfl,⟨⟨L1,Q1,M',cpWL W,c4,?_,j3.cp (by rw [c3.q16,h16]) q3 m4 c4.mp.nd,by rw [cpWL_strip]; exact j4,fun _ q=>q⟩⟩,k4,fun x hx=>⟨f4 x hx,c4.lts x hx⟩⟩
 rw [e2]
 exact j2
end Go.Fx.YtbdjfccgkdgbfaaFx

namespace Go.Fx.YtbdjfccgkdgbfaaFx
open Go Go.Fx
attribute [local irreducible] aC runI az ar

set_option maxRecDepth 100000
set_option maxHeartbeats 4000000

theorem g8 (l0 l1 l2:List Act):am Go.Proofs.Try.prog n_f6 [.sl false 6 (l0.map actV),.sl false 6 (l1.map actV),.sl false 6 (l2.map actV)] ⟨[]⟩ (fun v _=>v = .lit (.bool true)):=by
 refine ap hmix k_f6 rfl rfl fun Q hQ=>?_
 unfold aFun c_f6
 have hl0:(l0.map actV).length = l0.length:=List.length_map ..
 have hl1:(l1.map actV).length = l1.length:=List.length_map ..
 have hl2:(l2.map actV).length = l2.length:=List.length_map ..
 have hkn':∀ s {sf:Sf},jt Go.Proofs.Try.prog false false (some 42) (.fn (.func 10) [] []) [] (runI Go.Proofs.Try.prog id false [⟨none,.own 6 42⟩] (opsK [6] [] (seqQ (aC Go.Proofs.Try.prog id false .ret) (seqQ (aC Go.Proofs.Try.prog id false f6_9) (retQ [RI.tmp 6] Q))))) sf s:=fun s sf=>by
  refine aq rfl e_f10 (l9 s) rfl fun v s2 hr=>?_
  obtain ⟨rfl,_⟩:=hr
  simp (config:=KF) (disch:=omega) only [bZ,retI,↓reduceIte,km]
  exact hQ _ _ rfl
 by_cases c0:30 < l0.length∨20 < l1.length∨20 < l2.length
 ·(repeat' (first | omega | (simp (config:=KF) (disch:=omega) only [bZ,AI.dst,lenI,id,↓reduceIte,Nat.reduceEqDiff,Nat.reduceAdd,reduceCtorEq,fm,hl0,hl1,hl2]) | refine aS (fun h=>?_) (fun h=>?_) | refine b8 (fun h=>?_) (fun h=>?_) | refine dJ (fun h=>?_) (fun h=>?_) | exact hkn' _))
 have hf0:=n8 l0 (by omega) ⟨[]⟩
 have hf1:=n8 l1 (by omega) ⟨[]⟩
 have hf2:=n8 l2 (by omega) ⟨[]⟩
 have hfew:∀ l:List Act,fewB l = true→∀ a ∈ l,a.d.length≤100000:=fun l hf a ha=>by
  have:=List.all_eq_true.1 hf a ha
  have:=of_decide_eq_true this
  omega
 simp (config:=KF) (disch:=omega) only [bZ,AI.dst,lenI,id,↓reduceIte,Nat.reduceEqDiff,Nat.reduceAdd,reduceCtorEq,cd,hl0,hl1,hl2]
 refine ak rfl e_f12 hf0 rfl ?_
 cases c1:fewB l0 with
 | false =>
   simp (config:=KF) (disch:=omega) only [bZ,AI.dst,unA,id,↓reduceIte,Nat.reduceEqDiff,reduceCtorEq]
   exact hkn' _
 | true =>
 simp (config:=KF) (disch:=omega) only [bZ,AI.dst,unA,id,↓reduceIte,Nat.reduceEqDiff,reduceCtorEq]
 refine ak rfl e_f12 hf1 rfl ?_
 cases c2:fewB l1 with
 | false =>
   simp (config:=KF) (disch:=omega) only [bZ,AI.dst,unA,id,↓reduceIte,Nat.reduceEqDiff,reduceCtorEq]
   exact hkn' _
 | true =>
 simp (config:=KF) (disch:=omega) only [bZ,AI.dst,unA,id,↓reduceIte,Nat.reduceEqDiff,reduceCtorEq]
 refine ak rfl e_f12 hf2 rfl ?_
 cases c3:fewB l2 with
 | false =>
   simp (config:=KF) (disch:=omega) only [bZ,AI.dst,unA,id,↓reduceIte,Nat.reduceEqDiff,reduceCtorEq]
   exact hkn' _
 | true =>
 simp (config:=KF) (disch:=omega) only [bZ,AI.dst,unA,id,↓reduceIte,Nat.reduceEqDiff,reduceCtorEq,f6_9e]
 refine aq rfl e_f8 (gS _) rfl fun r s1 hr=>?_
 obtain ⟨h,wid,F,rfl,hh,hk,hF⟩:=hr
 have hp0:=weakV (iK (l:=l0) (by omega) (hfew l0 c1) hh (fun x hx=>(hF x hx).2) (by omega)) (vs:=[.ptr h 0,.agg [.lit (.slice none 0 0),.lit (.slice none 0 0)],.sl false 6 (l0.map actV)]) ⟨.refl _,.aggL ⟨.nil false 6,.refl _,trivial⟩,.refl _,trivial⟩
 simp (config:=KF) (disch:=omega) only [bZ,ei,bstV,cH,bp,aY,aV,id,↓reduceIte,Nat.reduceEqDiff,reduceCtorEq]
 refine aq rfl e_f18 hp0 rfl fun r s2 hr=>?_
 obtain ⟨rfl,F2,hh2,hk2,hF2⟩:=hr
 generalize pAll ⟨[],[]⟩ l0 = R at hh2 ⊢
 obtain ⟨w1,w2,w3,w4,w5,w6,w7,w8⟩:=aw R.ws
 have hrd:(rV R).dis = rV R:=by simp [rV,w2,aH,bN]
 have hrn:(rV R).noL = true:=by simp [rV,w5,aI,ci]
 unfold rV
 simp (config:=KF) (disch:=omega) only [bZ,ah,id,bA,dq,cY,↓reduceIte,Nat.reduceEqDiff,Nat.reduceAdd,Nat.reduceLeDiff,reduceCtorEq,af,aa,w2,w4]
 refine aq rfl e_f19 (hcopy_calls hh2) rfl fun r s3 hr=>?_
 obtain ⟨k,kid,F3,rfl,hk3,hkp3,hF3⟩:=hr
 have heq:=gT hk3 (by omega)
 simp (config:=KF) (disch:=omega) only [bZ,AI.dst,cH,bp,aY,ae,unA,id,↓reduceIte,Nat.reduceEqDiff,Nat.reduceAdd,Nat.reduceLeDiff,w2]
 refine ak (vs:=[.ptr k 0,rV R]) (by simp [rV,w2,aH,bN,cQ]) e_f17 heq (by simp [w5,aI,ci,bT]) ?_
 have hh3:HubR s3 h wid (0 + 100 * l0.length) R F2:=hh2.kp hkp3 fun _ _ q=>by cases q
 have hp1:=iK (l:=l1) (by omega) (hfew l1 c2) hh3 (fun x hx=>Nat.lt_of_lt_of_le (hF2 x hx).2 hkp3.1) (by omega)
 simp (config:=KF) (disch:=omega) only [bZ,AI.dst,ae,unA,id,↓reduceIte,Nat.reduceEqDiff,Nat.reduceAdd,Nat.reduceLeDiff,w2]
 refine aq (vs:=[.ptr h 0,rV R,.sl false 6 (l1.map actV)]) (by simp [rV,w2,aH,bN,cQ,qe]) e_f18 hp1 (by simp [w5,aI,ci,bT]) fun r s4 hr=>?_
 obtain ⟨rfl,F4,hh4,hk4,hF4⟩:=hr
 have hd32:∀ x ∈ F3,x ∉ F2:=fun x hx q=>by
  have:=(hF3 x hx).1
  have:=(hF2 x q).2
  omega
 have hk4':HubR s4 k kid (0 + 100 * l0.length) R F3:=hk3.kp hk4 hd32
 have hp2:=iK (l:=l2) (by omega) (hfew l2 c3) hk4' (fun x hx=>Nat.lt_of_lt_of_le (hF3 x hx).2 hk4.1) (by omega)
 obtain ⟨x1,x2,x3,x4,x5,x6,x7,x8⟩:=aw (pAll R l1).ws
 have ha:rV (pAll R l1) = .agg [.sl false 6 ((pAll R l1).subs.map sbC),wsV (pAll R l1).ws]:=rfl
 rw [ha]
 simp (config:=KF) (disch:=omega) only [bZ,ah,ae,id,bA,dq,cY,↓reduceIte,Nat.reduceEqDiff,Nat.reduceAdd,Nat.reduceLeDiff,af,aa,w2,x2,x4]
 refine aq (vs:=[.ptr k 0,rV R,.sl false 6 (l2.map actV)]) (by simp [rV,w2,aH,bN,cQ,qe]) e_f18 hp2 (by simp [w5,aI,ci,bT]) fun r s5 hr=>?_
 obtain ⟨rfl,F5,hk5,hkp5,hF5⟩:=hr
 have hh5:HubR s5 h wid (0 + 100 * l0.length + 100 * l1.length) (pAll R l1) F4:=hh4.kp hkp5 fun x hx q=>by
  rcases (hF4 x hx).1 with e | e
  ·exact hd32 x q e
  ·have:=(hF3 x q).2; omega
 have heq1:=gT hh5 (by omega)
 have heq2:=gT hk5 (by omega)
 obtain ⟨y1,y2,y3,y4,y5,y6,y7,y8⟩:=aw (pAll R l2).ws
 have hb:rV (pAll R l2) = .agg [.sl false 6 ((pAll R l2).subs.map sbC),wsV (pAll R l2).ws]:=rfl
 rw [hb]
 simp (config:=KF) (disch:=omega) only [bZ,AI.dst,ah,ae,id,bA,dq,cY,↓reduceIte,Nat.reduceEqDiff,Nat.reduceAdd,Nat.reduceLeDiff,af,aa,x2,y2,y4]
 refine ak (vs:=[.ptr h 0,rV (pAll R l1)]) (by simp [rV,x2,aH,bN,cQ]) e_f17 heq1 (by simp [x5,aI,ci,bT]) ?_
 simp (config:=KF) (disch:=omega) only [bZ,AI.dst,ae,id,↓reduceIte,Nat.reduceEqDiff,Nat.reduceAdd,Nat.reduceLeDiff,y2]
 refine ak (vs:=[.ptr k 0,rV (pAll R l2)]) (by simp [rV,y2,aH,bN,cQ]) e_f17 heq2 (by simp [y5,aI,ci,bT]) ?_
 simp (config:=KF) (disch:=omega) only [bZ,AI.dst,id,↓reduceIte,Nat.reduceEqDiff]
 refine aq rfl e_f10 (l9 _) rfl fun r s6 hr=>?_
 obtain ⟨rfl,_⟩:=hr
 simp (config:=KF) (disch:=omega) only [bZ,retI,↓reduceIte,Nat.reduceEqDiff]
 exact hQ _ _ rfl

theorem jl {a b c:List ActT} (h0:∀ x ∈ a,∀ i ∈ x.2.2.2.2.2.1,0≤i∧i≤255) (h1:∀ x ∈ b,∀ i ∈ x.2.2.2.2.2.1,0≤i∧i≤255) (h2:∀ x ∈ c,∀ i ∈ x.2.2.2.2.2.1,0≤i∧i≤255):am Go.Proofs.Try.prog n_f6 [.sl false 6 (a.map fun x=>.agg [.lit (.int .i64 x.1),.lit (.int .i64 x.2.1),.lit (.int .i64 x.2.2.1),.lit (.int .i64 x.2.2.2.1),.lit (.int .i64 x.2.2.2.2.1),.sl false 1 (x.2.2.2.2.2.1.map fun i=>.lit (.int .u8 i))]),.sl false 6 (b.map fun x=>.agg [.lit (.int .i64 x.1),.lit (.int .i64 x.2.1),.lit (.int .i64 x.2.2.1),.lit (.int .i64 x.2.2.2.1),.lit (.int .i64 x.2.2.2.2.1),.sl false 1 (x.2.2.2.2.2.1.map fun i=>.lit (.int .u8 i))]),.sl false 6 (c.map fun x=>.agg [.lit (.int .i64 x.1),.lit (.int .i64 x.2.1),.lit (.int .i64 x.2.2.1),.lit (.int .i64 x.2.2.2.1),.lit (.int .i64 x.2.2.2.2.1),.sl false 1 (x.2.2.2.2.2.1.map fun i=>.lit (.int .u8 i))])] ⟨[]⟩ (fun v _=>v = .lit (.bool true)):=by
 obtain ⟨a',ha⟩:=mI h0
 obtain ⟨b',hb⟩:=mI h1
 obtain ⟨c',hc⟩:=mI h2
 rw [ha,hb,hc]
 exact g8 a' b' c'
end Go.Fx.YtbdjfccgkdgbfaaFx

