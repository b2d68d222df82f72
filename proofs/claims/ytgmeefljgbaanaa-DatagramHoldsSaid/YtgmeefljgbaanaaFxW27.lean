/- What the functions that the statement reaches compute: part 27. -/
import Derived.Test.YtgmeefljgbaanaaFxW26
namespace Go.Fx.YtgmeefljgbaanaaFx
open Go Go.Fx
attribute [local irreducible] aC runI aF a9

set_option maxRecDepth 100000
set_option maxHeartbeats 4000000

/-! The law Holds. -/
theorem bind0 {pk bt pol:Int} {life:Nat} (h:1≤pk∧pk≤256∧0≤bt∧bt≤65536∧(pol = 1∨pol = 2)):eM me 5 pk bt pol life ⟨0,[],[]⟩ = (⟨0,[⟨0,me,5,pk.toNat,bt.toNat,pol,life,[],0,0⟩],[]⟩,0,0):=by
  unfold eM
  rw [if_neg (fun q=>q ⟨vme,h⟩)]
  rfl
theorem holds_calls (pk bt pol:Int) (life:Nat) (l:List Act) (hlife:life < 18446744073709551616) (hok:∀ a ∈ l,a.life < 18446744073709551616∧a.at_ < 18446744073709551616) (st:St) :
    ao Go.Proofs.Try.prog n_f4 [.lit (.int .i64 pk),.lit (.int .i64 bt),.lit (.int .i64 pol),.lit (.int .u64 (life:Nat)),.sl false 10 (l.map actV)] st (fun v _=>v = .lit (.bool true)):=by
  refine aA hmix k_f4 rfl rfl fun Q hQ=>?_
  unfold aFun c_f4
  by_cases c1:l.length≤60
  case neg =>
    simp (config:=KF) (disch:=omega) only [bZ,AI.dst,lenI,cM,id,↓reduceIte,Nat.reduceEqDiff,Nat.reduceAdd,reduceCtorEq,dy]
    refine aq rfl e_f11 (cr _) rfl fun v s2 hr=>?_
    obtain ⟨rfl,_⟩:=hr
    simp (config:=KF) (disch:=omega) only [bZ,retI,↓reduceIte,Nat.reduceEqDiff,reduceCtorEq]
    exact hQ _ _ rfl
  simp (config:=KF) (disch:=omega) only [bZ,AI.dst,lenI,cM,id,↓reduceIte,Nat.reduceEqDiff,Nat.reduceAdd,reduceCtorEq,bG]
  refine am rfl e_f13 (few_pure l c1 st) rfl ?_
  cases hf:fewB l with
  | false =>
    simp (config:=KF) (disch:=omega) only [bZ,AI.dst,unA,id,↓reduceIte,Nat.reduceEqDiff,reduceCtorEq]
    refine aq rfl e_f11 (cr _) rfl fun v s2 hr=>?_
    obtain ⟨rfl,_⟩:=hr
    simp (config:=KF) (disch:=omega) only [bZ,retI,↓reduceIte,Nat.reduceEqDiff,reduceCtorEq]
    exact hQ _ _ rfl
  | true =>
  by_cases h:1≤pk∧pk≤256∧0≤bt∧bt≤65536∧(pol = 1∨pol = 2)
  · obtain ⟨g1,g2,g3,g4,g5⟩:=h
    have g6:1≤pol∧pol≤2:=by omega
    obtain ⟨g7,g8⟩:=g6
    simp (config:=KF) (disch:=omega) only [bZ,AI.dst,unA,cM,id,↓reduceIte,Nat.reduceEqDiff,reduceCtorEq,ci,bG]
    refine aq rfl e_f8 (py st 0 (by decide)) rfl fun v s1 hr=>?_
    obtain ⟨n,sid,wid,F,rfl,n1,n2,n3⟩:=hr
    simp (config:=KF) (disch:=omega) only [bZ,AI.dst,br,aJ,id,ba,own2_ptr,↓reduceIte,Nat.reduceEqDiff,reduceCtorEq,not_true_eq_false]
    refine am rfl e_f10 (iV s1 me 5) rfl ?_
    unfold adAV
    simp (config:=KF) (disch:=omega) only [bZ,bU,al,aa,id,eT,↓reduceIte,Nat.reduceEqDiff,Nat.reduceAdd,Nat.reduceLeDiff,reduceCtorEq]
    refine aq (vs:=[.ptr n 0,adAV me 5,.lit (.int .i64 pk),.lit (.int .i64 bt),.lit (.int .i64 pol),.lit (.int .u64 (life:Nat))]) rfl e_f9 (jE n1 me 5 pk bt pol life (by decide) hlife) rfl fun v s2 hr=>?_
    obtain ⟨F',rfl,r1⟩:=hr
    rw [bind0 ⟨g1,g2,g3,g4,g5⟩] at r1 ⊢
    obtain ⟨pks,rfl⟩:∃ pks:Nat,pk = (pks:Int):=⟨pk.toNat,by omega⟩
    simp (config:=KF) (disch:=omega) only [bZ,AI.dst,ba,↓reduceIte,Nat.reduceEqDiff,reduceCtorEq,not_true_eq_false]
    refine hold_main pks (by omega) l c1 hf hok r1.1 (fun x hx=>(r1.2.2 x hx).2) ⟨⟨_,rfl,rfl,rfl,rfl,by simp,by simp; omega,by simp,fun _=>rfl,rfl,trivial,fun p hp=>(by cases hp)⟩,fun w hw=>(by cases hw),fun r hr=>(by cases hr)⟩ fun s=>hQ _ s rfl
  · rcases (show pk < 1∨(1≤pk∧256 < pk)∨(1≤pk∧pk≤256∧bt < 0)∨(1≤pk∧pk≤256∧0≤bt∧65536 < bt)∨(1≤pk∧pk≤256∧0≤bt∧bt≤65536∧pol < 1)∨(1≤pk∧pk≤256∧0≤bt∧bt≤65536∧1≤pol∧2 < pol) by omega) with q | ⟨g1,q⟩ | ⟨g1,g2,q⟩ | ⟨g1,g2,g3,q⟩ | ⟨g1,g2,g3,g4,q⟩ | ⟨g1,g2,g3,g4,g5,q⟩
    · simp (config:=KF) (disch:=omega) only [bZ,AI.dst,unA,id,↓reduceIte,Nat.reduceEqDiff,reduceCtorEq,dy]
      refine aq rfl e_f11 (cr _) rfl fun v s2 hr=>?_
      obtain ⟨rfl,_⟩:=hr
      simp (config:=KF) (disch:=omega) only [bZ,retI,↓reduceIte,Nat.reduceEqDiff,reduceCtorEq]
      exact hQ _ _ rfl
    · simp (config:=KF) (disch:=omega) only [bZ,AI.dst,unA,cM,id,↓reduceIte,Nat.reduceEqDiff,reduceCtorEq,dy,bG]
      refine aq rfl e_f11 (cr _) rfl fun v s2 hr=>?_
      obtain ⟨rfl,_⟩:=hr
      simp (config:=KF) (disch:=omega) only [bZ,retI,↓reduceIte,Nat.reduceEqDiff,reduceCtorEq]
      exact hQ _ _ rfl
    · simp (config:=KF) (disch:=omega) only [bZ,AI.dst,unA,cM,id,↓reduceIte,Nat.reduceEqDiff,reduceCtorEq,dy,bG]
      refine aq rfl e_f11 (cr _) rfl fun v s2 hr=>?_
      obtain ⟨rfl,_⟩:=hr
      simp (config:=KF) (disch:=omega) only [bZ,retI,↓reduceIte,Nat.reduceEqDiff,reduceCtorEq]
      exact hQ _ _ rfl
    · simp (config:=KF) (disch:=omega) only [bZ,AI.dst,unA,cM,id,↓reduceIte,Nat.reduceEqDiff,reduceCtorEq,dy,bG]
      refine aq rfl e_f11 (cr _) rfl fun v s2 hr=>?_
      obtain ⟨rfl,_⟩:=hr
      simp (config:=KF) (disch:=omega) only [bZ,retI,↓reduceIte,Nat.reduceEqDiff,reduceCtorEq]
      exact hQ _ _ rfl
    · simp (config:=KF) (disch:=omega) only [bZ,AI.dst,unA,cM,id,↓reduceIte,Nat.reduceEqDiff,reduceCtorEq,dy,bG]
      refine aq rfl e_f11 (cr _) rfl fun v s2 hr=>?_
      obtain ⟨rfl,_⟩:=hr
      simp (config:=KF) (disch:=omega) only [bZ,retI,↓reduceIte,Nat.reduceEqDiff,reduceCtorEq]
      exact hQ _ _ rfl
    · simp (config:=KF) (disch:=omega) only [bZ,AI.dst,unA,cM,id,↓reduceIte,Nat.reduceEqDiff,reduceCtorEq,cU,bG]
      refine aq rfl e_f11 (cr _) rfl fun v s2 hr=>?_
      obtain ⟨rfl,_⟩:=hr
      simp (config:=KF) (disch:=omega) only [bZ,retI,↓reduceIte,Nat.reduceEqDiff,reduceCtorEq]
      exact hQ _ _ rfl

/-- A call as it comes in. -/
abbrev ActT:=Int×Int×Int×Int×(ByteArray×Int×Unit)×Int×Int×List Int×Int×Unit
def okT (x:ActT):Prop:=(0≤x.2.2.2.2.2.2.1∧x.2.2.2.2.2.2.1≤18446744073709551615)∧(∀ i ∈ x.2.2.2.2.2.2.2.1,0≤i∧i≤255)∧(0≤x.2.2.2.2.2.2.2.2.1∧x.2.2.2.2.2.2.2.2.1≤18446744073709551615)
def avT (x:ActT):AV:=.agg [.lit (.int .i64 x.1),.lit (.int .i64 x.2.1),.lit (.int .i64 x.2.2.1),.lit (.int .i64 x.2.2.2.1),.lit (.string x.2.2.2.2.1.1),.lit (.int .i64 x.2.2.2.2.1.2.1),.lit (.int .i64 x.2.2.2.2.2.1),.lit (.int .u64 x.2.2.2.2.2.2.1),.sl false 1 (x.2.2.2.2.2.2.2.1.map fun i=>.lit (.int .u8 i)),.lit (.int .u64 x.2.2.2.2.2.2.2.2.1)]
theorem gS:∀ {b:List Int},(∀ i ∈ b,0≤i∧i≤255)→∃ d:List UInt8,(b.map fun i=>AV.lit (.int .u8 i)) = BB d
  | [],_=>⟨[],rfl⟩
  | x :: r, h => by
    obtain ⟨d,hd⟩:=gS (b:=r) fun i hi=>h i (by simp [hi])
    obtain ⟨h0,h1⟩:=h x (by simp)
    refine ⟨UInt8.ofNat x.toNat::d,?_⟩
    have e:(((UInt8.ofNat x.toNat).toNat:Nat):Int) = x:=by simp; omega
    rw [List.map_cons,hd,mc,e]
theorem acts_of:∀ {l:List ActT},(∀ x ∈ l,okT x)→∃ acts:List Act,l.map avT = acts.map actV∧∀ a ∈ acts,a.life < 18446744073709551616∧a.at_ < 18446744073709551616
  | [],_=>⟨[],rfl,fun a ha=>(by cases ha)⟩
  | x :: r, h => by
    obtain ⟨d,hd,hb⟩:=acts_of (l:=r) fun i hi=>h i (by simp [hi])
    obtain ⟨⟨h1,h2⟩,h3,h4,h5⟩:=h x (by simp)
    obtain ⟨p,hp⟩:=gS h3
    refine ⟨⟨x.1,x.2.1,x.2.2.1,x.2.2.2.1,x.2.2.2.2.1.1,x.2.2.2.2.1.2.1,x.2.2.2.2.2.1,x.2.2.2.2.2.2.1.toNat,p,x.2.2.2.2.2.2.2.2.1.toNat⟩::d,?_,fun a ha=>?_⟩
    · rw [List.map_cons,hd,List.map_cons]
      unfold avT actV actA dV
      rw [hp,Int.toNat_of_nonneg h1,Int.toNat_of_nonneg h4]
    · rcases List.mem_cons.1 ha with rfl | ha
      · exact ⟨by simp only; omega,by simp only; omega⟩
      · exact hb a ha
theorem ky {pk bt pol life:Int} {l:List ActT} (h0:0≤life∧life≤18446744073709551615) (h:∀ x ∈ l,okT x):ao Go.Proofs.Try.prog n_f4 [.lit (.int .i64 pk),.lit (.int .i64 bt),.lit (.int .i64 pol),.lit (.int .u64 life),.sl false 10 (l.map avT)] ⟨[]⟩ (fun v _=>v = .lit (.bool true)):=by
  obtain ⟨acts,e,hb⟩:=acts_of h
  obtain ⟨lf,rfl⟩:∃ lf:Nat,life = (lf:Int):=⟨life.toNat,by omega⟩
  rw [e]
  exact holds_calls pk bt pol lf acts (by omega) hb _
end Go.Fx.YtgmeefljgbaanaaFx

