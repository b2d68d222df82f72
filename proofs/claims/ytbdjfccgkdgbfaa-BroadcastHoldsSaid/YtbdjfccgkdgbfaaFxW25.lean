/- What the functions that the statement reaches compute: part 25. -/
import Derived.Test.YtbdjfccgkdgbfaaFxW24
namespace Go.Fx.YtbdjfccgkdgbfaaFx
open Go Go.Fx
attribute [local irreducible] aC runI au aH

set_option maxRecDepth 100000
set_option maxHeartbeats 4000000

theorem ib (room pol other:Int) (l:List Act):al Go.Proofs.Try.prog n_f4 [.lit (.int .i64 room),.lit (.int .i64 pol),.lit (.int .i64 other),.sl false 6 (l.map actV)] ⟨[]⟩ (fun v _=>v = .lit (.bool true)):=by
  refine ao hmix k_f4 rfl rfl fun Q hQ=>?_
  unfold aFun c_f4
  have hll:(l.map actV).length = l.length:=List.length_map ..
  simp (config:=KF) (disch:=omega) only [bZ,id,↓reduceIte,Nat.reduceEqDiff,Nat.reduceAdd,reduceCtorEq]
  refine ap rfl e_f8 (j6 _) rfl fun r s1 hr=>?_
  obtain ⟨h,wid,F,rfl,hh,hk,hF⟩:=hr
  have hkn:∀ s,al Go.Proofs.Try.prog n_f10 [] s (fun v st'=>v = .lit (.bool true)∧Kp s st' []):=fun s=>lu s
  have hkn':∀ s {sf:Sf},iR Go.Proofs.Try.prog false false (some 59) (.fn (.func 10) [] []) [] (runI Go.Proofs.Try.prog id false [⟨none,.own 8 59⟩] (opsK [8] [] (seqQ (aC Go.Proofs.Try.prog id false .ret) (seqQ (aC Go.Proofs.Try.prog id false f4_11) (retQ [RI.tmp 8] Q))))) sf s:=fun s sf=>by
    refine ap rfl e_f10 (hkn s) rfl fun v s2 hr=>?_
    obtain ⟨rfl,_⟩:=hr
    simp (config:=KF) (disch:=omega) only [bZ,retI,↓reduceIte,jA]
    exact hQ _ _ rfl
  by_cases c0:60 < l.length
  · simp (config:=KF) (disch:=omega) only [bZ,bf,AI.dst,ba,lenI,dk,id,↓reduceIte,Nat.reduceEqDiff,reduceCtorEq,ej,hll]
    exact hkn' _
  have hfp:=few_pure l (by omega) s1
  simp (config:=KF) (disch:=omega) only [bZ,AI.dst,lenI,dk,id,↓reduceIte,Nat.reduceEqDiff,reduceCtorEq,cG,hll]
  refine am rfl e_f12 hfp rfl ?_
  cases hf:fewB l with
  | false =>
    simp (config:=KF) (disch:=omega) only [bZ,bf,AI.dst,ba,unA,id,↓reduceIte,Nat.reduceEqDiff,reduceCtorEq]
    exact hkn' _
  | true =>
  by_cases c1:room < 3∨4096 < room∨pol < 1∨3 < pol∨other < 3∨4096 < other
  · (repeat' (first | omega | (simp (config:=KF) (disch:=omega) only [bZ,bf,AI.dst,ba,unA,dk,id,↓reduceIte,Nat.reduceEqDiff,reduceCtorEq,aP]) | refine br (fun h=>?_) (fun h=>?_) | refine dO (fun h=>?_) (fun h=>?_) | refine gk (fun h=>?_) (fun h=>?_) | exact hkn' _))
  obtain ⟨R1,R2,e1,e2,hw⟩:=init_subs (room:=room) (pol:=pol) (other:=other) (by omega) (by omega) (by omega)
  have hs1:=iE hh 3 room pol
  rw [e1] at hs1
  simp (config:=KF) (disch:=omega) only [bZ,AI.dst,cA,bq,aY,unA,dk,id,↓reduceIte,Nat.reduceEqDiff,reduceCtorEq,cG,f4_11e]
  refine ap rfl e_f9 hs1 rfl fun v s2 hr=>?_
  obtain ⟨rfl,F2,hh2,hk2,hF2⟩:=hr
  have hs2:=iE hh2 3 other 3
  rw [e2] at hs2
  simp (config:=KF) (disch:=omega) only [bZ,id,↓reduceIte,Nat.reduceEqDiff,reduceCtorEq]
  refine ap rfl e_f9 hs2 rfl fun v s3 hr=>?_
  obtain ⟨rfl,F3,hh3,hk3,hF3⟩:=hr
  obtain ⟨o,rfl⟩:∃ o:Nat,other = (o:Int):=⟨other.toNat,by omega⟩
  have hm:=hold_main o (by omega) l (by omega) hf hh3 (fun x hx=>(hF3 x hx).2) hw (Q:=Q) fun s=>hQ _ _ rfl
  simp (config:=KF) (disch:=omega) only [bZ,AI.dst,dN,↓reduceIte,Nat.reduceEqDiff,not_true_eq_false]
  exact hm

abbrev ActT:=Int×Int×Int×Int×Int×List Int×Unit
theorem gE:∀ {b:List Int},(∀ i ∈ b,0≤i∧i≤255)→∃ d:List UInt8,(b.map fun i=>AV.lit (.int .u8 i)) = BB d
  | [],_=>⟨[],rfl⟩
  | x :: r, h => by
    obtain ⟨d,hd⟩:=gE (b:=r) fun i hi=>h i (by simp [hi])
    obtain ⟨h0,h1⟩:=h x (by simp)
    refine ⟨UInt8.ofNat x.toNat::d,?_⟩
    have e:(((UInt8.ofNat x.toNat).toNat:Nat):Int) = x:=by simp; omega
    rw [List.map_cons,hd,pz,e]
theorem acts_of:∀ {l:List ActT},(∀ x ∈ l,∀ i ∈ x.2.2.2.2.2.1,0≤i∧i≤255)→∃ acts:List Act,(l.map fun x=>AV.agg [.lit (.int .i64 x.1),.lit (.int .i64 x.2.1),.lit (.int .i64 x.2.2.1),.lit (.int .i64 x.2.2.2.1),.lit (.int .i64 x.2.2.2.2.1),.sl false 1 (x.2.2.2.2.2.1.map fun i=>.lit (.int .u8 i))]) = acts.map actV
  | [],_=>⟨[],rfl⟩
  | x :: r, h => by
    obtain ⟨d,hd⟩:=acts_of (l:=r) fun i hi=>h i (by simp [hi])
    obtain ⟨p,hp⟩:=gE (h x (by simp))
    refine ⟨⟨x.1,x.2.1,x.2.2.1,x.2.2.2.1,x.2.2.2.2.1,p⟩::d,?_⟩
    rw [List.map_cons,hd,hp,List.map_cons]; rfl
theorem ji {room pol other:Int} {l:List ActT} (h:∀ x ∈ l,∀ i ∈ x.2.2.2.2.2.1,0≤i∧i≤255):al Go.Proofs.Try.prog n_f4 [.lit (.int .i64 room),.lit (.int .i64 pol),.lit (.int .i64 other),.sl false 6 (l.map fun x=>.agg [.lit (.int .i64 x.1),.lit (.int .i64 x.2.1),.lit (.int .i64 x.2.2.1),.lit (.int .i64 x.2.2.2.1),.lit (.int .i64 x.2.2.2.2.1),.sl false 1 (x.2.2.2.2.2.1.map fun i=>.lit (.int .u8 i))])] ⟨[]⟩ (fun v _=>v = .lit (.bool true)):=by
  obtain ⟨acts,ha⟩:=acts_of h
  rw [ha]
  exact ib _ _ _ acts
end Go.Fx.YtbdjfccgkdgbfaaFx

