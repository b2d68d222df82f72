/- What the functions that the statement reaches compute: part 47. -/
import Derived.Test.YtbdjfccgkdgbfaaFxW46
namespace Go.Fx.YtbdjfccgkdgbfaaFx
open Go Go.Fx
attribute [local irreducible] aC runI az aA

set_option maxRecDepth 100000
set_option maxHeartbeats 4000000

theorem weakV {P:Program} {f:FuncId} {vs vs':List AV} {st:St} {Q:AV→St→Prop} (h:al P f vs' st Q) (hv:leL vs vs'):al P f vs st Q:=fun D g w us L hg hb ha=>h D g w us L hg hb (ha.weak hv)
theorem iv (l:List Act):al Go.Proofs.Try.prog n_f5 [.sl false 6 (l.map actV)] ⟨[]⟩ (fun v _=>v = .lit (.bool true)):=by
  refine aq hmix k_f5 rfl rfl fun Q hQ=>?_
  unfold aFun c_f5
  have hll:(l.map actV).length = l.length:=List.length_map ..
  by_cases hl:60 < l.length
  · simp (config:=KF) (disch:=omega) only [bZ,AI.dst,lenI,id,↓reduceIte,Nat.reduceEqDiff,reduceCtorEq,fd,hll]
    refine au rfl e_f10 (ir _) rfl fun r s1 hr=>?_
    obtain ⟨rfl,_⟩:=hr
    simp (config:=KF) (disch:=omega) only [bZ,retI,↓reduceIte,Nat.reduceEqDiff,reduceCtorEq]
    exact hQ _ _ rfl
  · simp (config:=KF) (disch:=omega) only [bZ,AI.dst,lenI,id,↓reduceIte,Nat.reduceEqDiff,reduceCtorEq,bW,hll]
    refine ak rfl e_f12 (few_pure l (by omega) _) rfl ?_
    cases hf:fewB l with
    | false =>
      simp (config:=KF) (disch:=omega) only [bZ,AI.dst,unA,id,↓reduceIte,Nat.reduceEqDiff,reduceCtorEq]
      refine au rfl e_f10 (ir _) rfl fun r s1 hr=>?_
      obtain ⟨rfl,_⟩:=hr
      simp (config:=KF) (disch:=omega) only [bZ,retI,↓reduceIte,Nat.reduceEqDiff,reduceCtorEq]
      exact hQ _ _ rfl
    | true =>
      have hfew:∀ a ∈ l,a.d.length≤100000:=fun a ha=>by
        have:=List.all_eq_true.1 hf a ha
        have:=of_decide_eq_true this
        omega
      simp (config:=KF) (disch:=omega) only [bZ,AI.dst,unA,id,↓reduceIte,Nat.reduceEqDiff,reduceCtorEq]
      refine au rfl e_f8 (j6 _) rfl fun r s1 hr=>?_
      obtain ⟨h,wid,F,rfl,hh,hk,hF⟩:=hr
      have hnil:leL [AV.ptr h 0,.agg [.lit (.slice none 0 0),.lit (.slice none 0 0)]] [.ptr h 0,rV ⟨[],[]⟩]:=⟨.refl _,.aggL ⟨.nil false 6,.refl _,trivial⟩,trivial⟩
      have heq:=(nP hh (by omega)).weak hnil (.refl _)
      have hpl:=weakV (plays_calls (l:=l) (by omega) hfew hh (fun x hx=>(hF x hx).2) (by omega)) (vs:=[.ptr h 0,.agg [.lit (.slice none 0 0),.lit (.slice none 0 0)],.sl false 6 (l.map actV)]) ⟨.refl _,.aggL ⟨.nil false 6,.refl _,trivial⟩,.refl _,trivial⟩
      simp (config:=KF) (disch:=omega) only [bZ,AI.dst,ek,bstV,cL,bw,a8,aU,id,↓reduceIte,Nat.reduceEqDiff,reduceCtorEq]
      refine ak rfl e_f17 heq rfl ?_
      simp (config:=KF) (disch:=omega) only [bZ,AI.dst,ek,bstV,aU,unA,id,↓reduceIte,Nat.reduceEqDiff,reduceCtorEq]
      refine au rfl e_f18 hpl rfl fun r s2 hr=>?_
      obtain ⟨rfl,_⟩:=hr
      obtain ⟨w1,w2,w3,w4,w5,w6,w7,w8⟩:=aw (pAll ⟨[],[]⟩ l).ws
      unfold rV
      simp (config:=KF) (disch:=omega) only [bZ,AI.dst,ah,id,bF,dM,en,↓reduceIte,Nat.reduceEqDiff,Nat.reduceAdd,Nat.reduceLeDiff,reduceCtorEq,af,ae,w2,w4]
      refine au rfl e_f10 (ir _) rfl fun r s3 hr=>?_
      obtain ⟨rfl,_⟩:=hr
      simp (config:=KF) (disch:=omega) only [bZ,retI,↓reduceIte,Nat.reduceEqDiff]
      exact hQ _ _ rfl

abbrev ActT:=Int×Int×Int×Int×Int×List Int×Unit
theorem gT:∀ {b:List Int},(∀ i ∈ b,0≤i∧i≤255)→∃ d:List UInt8,(b.map fun i=>AV.lit (.int .u8 i)) = BB d
  | [],_=>⟨[],rfl⟩
  | x :: r, h => by
    obtain ⟨d,hd⟩:=gT (b:=r) fun i hi=>h i (by simp [hi])
    obtain ⟨h0,h1⟩:=h x (by simp)
    refine ⟨UInt8.ofNat x.toNat::d,?_⟩
    have e:(((UInt8.ofNat x.toNat).toNat:Nat):Int) = x:=by simp; omega
    rw [List.map_cons,hd,pU,e]
theorem acts_of:∀ {l:List ActT},(∀ x ∈ l,∀ i ∈ x.2.2.2.2.2.1,0≤i∧i≤255)→∃ acts:List Act,(l.map fun x=>AV.agg [.lit (.int .i64 x.1),.lit (.int .i64 x.2.1),.lit (.int .i64 x.2.2.1),.lit (.int .i64 x.2.2.2.1),.lit (.int .i64 x.2.2.2.2.1),.sl false 1 (x.2.2.2.2.2.1.map fun i=>.lit (.int .u8 i))]) = acts.map actV
  | [],_=>⟨[],rfl⟩
  | x :: r, h => by
    obtain ⟨d,hd⟩:=acts_of (l:=r) fun i hi=>h i (by simp [hi])
    obtain ⟨p,hp⟩:=gT (h x (by simp))
    refine ⟨⟨x.1,x.2.1,x.2.2.1,x.2.2.2.1,x.2.2.2.2.1,p⟩::d,?_⟩
    rw [List.map_cons,hd,hp,List.map_cons]; rfl
theorem js {l:List ActT} (h:∀ x ∈ l,∀ i ∈ x.2.2.2.2.2.1,0≤i∧i≤255):al Go.Proofs.Try.prog n_f5 [.sl false 6 (l.map fun x=>.agg [.lit (.int .i64 x.1),.lit (.int .i64 x.2.1),.lit (.int .i64 x.2.2.1),.lit (.int .i64 x.2.2.2.1),.lit (.int .i64 x.2.2.2.2.1),.sl false 1 (x.2.2.2.2.2.1.map fun i=>.lit (.int .u8 i))])] ⟨[]⟩ (fun v _=>v = .lit (.bool true)):=by
  obtain ⟨acts,ha⟩:=acts_of h
  rw [ha]
  exact iv acts
end Go.Fx.YtbdjfccgkdgbfaaFx

