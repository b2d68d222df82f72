/- What the functions that the statement reaches compute: part 15. -/
import Derived.Test.YtbdjfccgkdgbfaaFxW14
namespace Go.Fx.YtbdjfccgkdgbfaaFx
open Go Go.Fx
attribute [local irreducible] aC runI az ar

set_option maxRecDepth 100000
set_option maxHeartbeats 4000000

/-! Items and bytes are compared. -/
theorem DV.conv {st:St} {v:AV} {p:List UInt8} (h:DV v st p) {K:AV→Prop} (hK:K (.lit (.string (str p)))):(gZ st .bs v).wp K:=by
 rcases h with ⟨rfl,rfl⟩ | rfl | ⟨id,cap,r,rfl,hg,h1,h2⟩
 ·exact hK
 ·rw [conv_sl]; exact hK
 ·have:gZ st .bs (.bs id 1 0 p.length cap) = .req true (.ok (.lit (.string (str p)))):=by
   simp only [gZ,if_true,cA,hg,jN,qd,Nat.mul_one,Nat.zero_add,List.drop_zero]
   rw [kF (by simp [aO]),show (BB p++r).take p.length = BB p from List.take_left' (aO p)]
   simp [aO,strOf_BB,Res.ofOpt,Res.bind]
  rw [this]
  exact ⟨rfl,hK⟩

theorem n_it_neq (x y:Nat):binI (.agg (.field 0 1 .int (.field 1 1 .int (.field 2 1 .int (.field 3 1 .int .tt))))) .neq (.agg [.lit (.int .i64 (x:Nat)),.lit (.int .i64 0),.lit (.int .i64 0),.lit (.int .i64 0)]) (.agg [.lit (.int .i64 (y:Nat)),.lit (.int .i64 0),.lit (.int .i64 0),.lit (.int .i64 0)]) = .ok (.lit (.bool (!decide (x = y)))):=by
 simp only [binI,eqI,mO,List.drop,List.take,Res.bind,andA]
 by_cases h1:x = y
 ·simp [h1,andA,Res.bind]
 ·simp [h1,andA,Res.bind]; omega
theorem n6 (l:List Nat) (st:St):lenI .sl st (itsV l) = .ok (.lit (.int .i64 (l.length:Nat))):=by
 unfold itsV
 split
 ·rename_i h; rw [h]; rfl
 ·rw [iE,List.length_map]
theorem iJ (a b:List Nat) (ha:a.length≤1000) (st:St):aB Go.Proofs.Try.prog n_f43 [itsV a,itsV b] st (.lit (.bool (decide (a = b)))):=by
 obtain ⟨a1,a2,a3,a4⟩:=aU a
 obtain ⟨b1,b2,b3,b4⟩:=aU b
 refine aF hmix k_f43 rfl rfl fun Q hQ=>?_
 unfold aFun c_f43
 by_cases hl:a.length = b.length
 ·simp (config:=KF) (disch:=omega) only [bZ,↓reduceIte,Nat.reduceEqDiff,reduceCtorEq,n6,a1,b1]
  rw [f43_13w]
  refine a8 (A:=Nat) (fun i=>a.length - i) (fun i=>⟨[(0,itsV a),(1,itsV b),(5,.lit (.int .i64 (i:Nat)))],[]⟩) (fun _=>st)
   (fun i=>i≤a.length∧a.take i = b.take i) 0 ⟨Nat.zero_le _,rfl⟩ (Sf.le_refl _) rfl ?_
  intro i hi K hK hKe hKr
  obtain ⟨h1,h2⟩:=hi
  by_cases h3:i < a.length
  ·have hia:itsV a = .sl false 4 (a.map itA):=by unfold itsV; rw [if_neg (fun e=>by rw [e] at h3; simp at h3)]
   have hib:itsV b = .sl false 4 (b.map itA):=by unfold itsV; rw [if_neg (fun e=>by rw [hl,e] at h3; simp at h3)]
   have hga:(a.map itA).getD i .any = .agg [.lit (.int .i64 (a[i]:Nat)),.lit (.int .i64 0),.lit (.int .i64 0),.lit (.int .i64 0)]:=by
    rw [List.getD_eq_getElem?_getD,List.getElem?_map,List.getElem?_eq_getElem h3]; rfl
   have hgb:(b.map itA).getD i .any = .agg [.lit (.int .i64 (b[i]'(by omega):Nat)),.lit (.int .i64 0),.lit (.int .i64 0),.lit (.int .i64 0)]:=by
    rw [List.getD_eq_getElem?_getD,List.getElem?_map,List.getElem?_eq_getElem (by omega)]; rfl
   rw [hia,hib]
   have htk:a.take (i + 1) = a.take i++[a[i]]∧b.take (i + 1) = b.take i++[b[i]'(by omega)]:=⟨List.take_succ_eq_append_getElem h3,List.take_succ_eq_append_getElem (by omega)⟩
   have hcat:a[i] = b[i]'(by omega)→a.take (i + 1) = b.take (i + 1):=fun e=>by rw [htk.1,htk.2,h2,e]
   have hne:a[i]≠b[i]'(by omega)→a≠b:=fun e q=>e (by subst q; rfl)
   have hneq:=n_it_neq a[i] (b[i]'(by omega))
   generalize a[i] = x at hga hcat hne hneq
   generalize b[i]'(by omega) = y at hgb hcat hne hneq
   by_cases hxy:x = y
   ·rw [decide_eq_true hxy] at hneq
    simp (config:=KF) (disch:=omega) only [bZ,jP,ixSV,lenI,ae,↓reduceIte,Nat.reduceEqDiff,Nat.reduceAdd,Nat.reduceLeDiff,reduceCtorEq,hga,hgb,hneq]
    rw [← hia,← hib]
    exact hK (i + 1) _ ⟨by omega,hcat hxy⟩ (by omega) (Sf.le_refl _)
   ·rw [decide_eq_false hxy] at hneq
    rw [decide_eq_false (hne hxy)] at hQ
    simp (config:=KF) (disch:=omega) only [bZ,jP,ixSV,lenI,ae,↓reduceIte,Nat.reduceEqDiff,Nat.reduceAdd,Nat.reduceLeDiff,reduceCtorEq,hga,hgb,hneq]
    refine hKr _ _ ?_
    simp (config:=KF) (disch:=omega) only [bZ,retI,↓reduceIte]
    exact hQ _
  ·obtain rfl:i = a.length:=by omega
   have he:a = b:=by rw [List.take_length,hl,List.take_length] at h2; exact h2
   rw [decide_eq_true he] at hQ
   simp (config:=KF) (disch:=omega) only [bZ,↓reduceIte,Nat.reduceEqDiff,reduceCtorEq,n6,a1]
   refine hKe _ _ _ ?_
   simp (config:=KF) (disch:=omega) only [bZ,retI,↓reduceIte]
   exact hQ _
 ·have he:a≠b:=fun e=>hl (by rw [e])
  rw [decide_eq_false he] at hQ
  simp (config:=KF) (disch:=omega) only [bZ,retI,↓reduceIte,Nat.reduceEqDiff,reduceCtorEq,n6,a1,b1]
  exact hQ _

theorem n7 {st:St} {v w:AV} {p q:List UInt8} (hv:DV v st p) (hw:DV w st q):aB Go.Proofs.Try.prog n_f16 [v,w] st (.lit (.bool (decide (p = q)))):=by
 obtain ⟨v1,v2,v3,v4,v5,v6,v7,v8⟩:=hv.facts
 obtain ⟨w1,w2,w3,w4,w5,w6,w7,w8⟩:=hw.facts
 refine aF hmix k_f16 rfl rfl fun Q hQ=>?_
 unfold aFun c_f16
 simp (config:=KF) (disch:=omega) only [bZ,qc,↓reduceIte,Nat.reduceEqDiff,reduceCtorEq,v1,w1]
 refine hv.conv ?_
 simp (config:=KF) (disch:=omega) only [bZ,qc,↓reduceIte,Nat.reduceEqDiff,reduceCtorEq,w1]
 refine hw.conv ?_
 simp (config:=KF) (disch:=omega) only [bZ,retI,↓reduceIte,Nat.reduceEqDiff,reduceCtorEq,qp]
 exact hQ _

theorem mC (t:Int):∀ (k:Nat) (R:HR),(onR t k R).2.length≤k
 | 0,R=>Nat.le_refl _
 | k + 1, R => by
   unfold onR
   split
   ·exact Nat.zero_le _
   ·split
    ·exact Nat.succ_le_succ (mC t k _)
    ·exact Nat.zero_le _
theorem pA (m:Int) (R:HR):(bk m R).2.2.1.length≤R.ws.length:=by
 unfold bk
 split
 ·exact Nat.zero_le _
 ·split
  ·exact Nat.zero_le _
  ·exact mC _ _ _
theorem HubR.ws {st:St} {h wid n:Nat} {R:HR} {F:List Nat} (hh:HubR st h wid n R F):R.ws.length≤64:=by
 obtain ⟨L,Qs,M,W,j1,j2,j3,j4,j5⟩:=hh.ex
 rw [← j4,List.length_map]; exact j3.len
theorem reads_calls {st:St} {h wid n:Nat} {R:HR} {F:List Nat} (hh:HubR st h wid n R F) (hF:∀ x ∈ F,x < st.boxes.length) (m no:Int) (want:List UInt8) (its:List Nat) (hn:n < 900000) :
  am Go.Proofs.Try.prog n_f30 [.ptr h 0,.lit (.int .i64 m),.lit (.string (str want)),itsV its,.lit (.int .i64 no)] st (fun v st'=>v = .lit (.bool (decide ((bk m R).2.1 = want∧(bk m R).2.2.1 = its∧(bk m R).2.2.2 = no)))∧HubR st' h wid (n + 64) (bk m R).1 F∧Kp st st' F):=by
 obtain ⟨a1,a2,a3,a4⟩:=aU its
 refine ap hmix k_f30 rfl rfl fun Q hQ=>?_
 unfold aFun c_f30
 simp (config:=KF) (disch:=omega) only [bZ,id,↓reduceIte,Nat.reduceEqDiff,Nat.reduceAdd,reduceCtorEq,a1]
 refine aq rfl e_f33 (n5 hh hF m hn) rfl fun w s1 hr=>?_
 obtain ⟨w,rfl,hmb,hw,hh1,hk1⟩:=hr
 have hlen:(bk m R).2.2.1.length≤1000:=Nat.le_trans (pA m R) (by have:=hh.ws; omega)
 generalize bk m R = O at hQ hmb hh1 hlen
 obtain ⟨R1,p,l,e⟩:=O
 simp only at hQ hmb hh1 hlen
 obtain ⟨w1,w2,w3,w4,w5,w6,w7,w8⟩:=hmb.facts
 obtain ⟨t1,t2,t3,t4⟩:=aU l
 simp (config:=KF) (disch:=omega) only [bZ,qc,↓reduceIte,Nat.reduceEqDiff,reduceCtorEq,w1,w3,t1,t2]
 refine (DV.of_mb hmb).conv ?_
 have hfin:∀ b,b = decide (p = want∧l = its∧e = no)→Q (.lit (.bool b)) s1:=fun b hb=>hQ _ _ ⟨by rw [hb],hh1,hk1⟩
 by_cases c1:p = want
 ·simp (config:=KF) (disch:=omega) only [bZ,AI.dst,id,↓reduceIte,Nat.reduceEqDiff,qp,fm,t1,a1]
  refine ak (vs:=[itsV l,itsV its]) (by simp [t1,a1]) e_f43 (iJ l its hlen s1) (by simp [t4,a4]) ?_
  by_cases c2:l = its
  ·simp (config:=KF) (disch:=omega) only [bZ,retI,AI.dst,↓reduceIte,Nat.reduceEqDiff,fm]
   exact hfin _ (by simp [c1,c2])
  ·simp (config:=KF) (disch:=omega) only [bZ,retI,AI.dst,↓reduceIte,Nat.reduceEqDiff,cd]
   exact hfin _ (by simp [c2])
 ·simp (config:=KF) (disch:=omega) only [bZ,retI,AI.dst,↓reduceIte,Nat.reduceEqDiff,qp,cd]
  exact hfin _ (by simp [c1])
end Go.Fx.YtbdjfccgkdgbfaaFx

namespace Go.Fx.YtbdjfccgkdgbfaaFx
open Go Go.Fx
attribute [local irreducible] aC runI az ar

set_option maxRecDepth 100000
set_option maxHeartbeats 4000000

/-! A hub of one's own. -/
structure HubK (st0 st:St) (h n:Nat) (R:HR):Prop where
 ex:∃ wid F,HubR st h wid n R F∧(∀ x ∈ F,st0.boxes.length≤x∧x < st.boxes.length)∧Kp st0 st []
section
variable {st0 st:St} {h n:Nat} {R:HR}
theorem HubK.go {wid m:Nat} {F:List Nat} {st':St} {R':HR} (h2:∀ x ∈ F,st0.boxes.length≤x∧x < st.boxes.length) (h3:Kp st0 st []) (hr:HubR st' h wid m R' F) (hk:Kp st st' F):HubK st0 st' h m R' :=
 ⟨⟨wid,F,hr,fun x hx=>⟨(h2 x hx).1,Nat.lt_of_lt_of_le (h2 x hx).2 hk.1⟩,h3.trans hk fun x hx=>.inr (h2 x hx).1⟩⟩
theorem kNew (st:St):am Go.Proofs.Try.prog n_f8 [] st (fun v st'=>∃ h,v = .ptr h 0∧HubK st st' h 0 ⟨[],[]⟩) :=
 (gS st).mono fun v st' ⟨h,wid,F,e,h1,h2,h3⟩=>⟨h,e,⟨⟨wid,F,h1,h3,h2⟩⟩⟩
theorem kSub (hh:HubK st0 st h n R) (topic room pol:Int):am Go.Proofs.Try.prog n_f9 [.ptr h 0,.lit (.int .i64 topic),.lit (.int .i64 room),.lit (.int .i64 pol)] st (fun v st'=>v = .tup [.lit (.int .i64 (rSub topic room pol R).2.1),.lit (.int .i64 (rSub topic room pol R).2.2)]∧HubK st0 st' h n (rSub topic room pol R).1):=by
 obtain ⟨wid,F,h1,h2,h3⟩:=hh.ex
 refine (py h1 topic room pol).mono fun v st' ⟨e,F',r1,r2,r3⟩=>⟨e,⟨⟨wid,F',r1,fun x hx=>⟨?_,(r3 x hx).2⟩,h3.trans r2 fun x hx=>.inr (h2 x hx).1⟩⟩⟩
 rcases (r3 x hx).1 with q | q
 ·exact (h2 x q).1
 ·exact Nat.le_trans h3.1 q
theorem kPub (hh:HubK st0 st h n R) (topic:Int) (p:List UInt8) (hp:p.length≤100000) (hn:n < 900000):am Go.Proofs.Try.prog n_f28 [.ptr h 0,.lit (.int .i64 topic),.sl false 1 (BB p)] st (fun v st'=>v = .lit (.int .i64 (rPub topic p R).2)∧HubK st0 st' h (n + 1) (rPub topic p R).1):=by
 obtain ⟨wid,F,h1,h2,h3⟩:=hh.ex
 exact (ly h1 topic (DV.sl st p) hp (fun _ q=>by cases q) hn).mono fun v st' ⟨e,r1,r2⟩=>⟨e,HubK.go h2 h3 r1 r2⟩
theorem kSend (hh:HubK st0 st h n R) (task topic:Int) (p:List UInt8) (hp:p.length≤100000) (hn:n < 900000):am Go.Proofs.Try.prog n_f29 [.ptr h 0,.lit (.int .i64 task),.lit (.int .i64 topic),.sl false 1 (BB p)] st (fun v st'=>v = .tup [.lit (.bool (b9 task topic p R).2.1),.lit (.int .i64 (b9 task topic p R).2.2)]∧HubK st0 st' h (n + 2) (b9 task topic p R).1):=by
 obtain ⟨wid,F,h1,h2,h3⟩:=hh.ex
 exact (n4 h1 task topic (DV.sl st p) hp (fun _ q=>by cases q) hn).mono fun v st' ⟨e,r1,r2⟩=>⟨e,HubK.go h2 h3 r1 r2⟩
theorem kReads (hh:HubK st0 st h n R) (m no:Int) (want:List UInt8) (its:List Nat) (hn:n < 900000):am Go.Proofs.Try.prog n_f30 [.ptr h 0,.lit (.int .i64 m),.lit (.string (str want)),itsV its,.lit (.int .i64 no)] st (fun v st'=>v = .lit (.bool (decide ((bk m R).2.1 = want∧(bk m R).2.2.1 = its∧(bk m R).2.2.2 = no)))∧HubK st0 st' h (n + 64) (bk m R).1):=by
 obtain ⟨wid,F,h1,h2,h3⟩:=hh.ex
 exact (reads_calls h1 (fun x hx=>(h2 x hx).2) m no want its hn).mono fun v st' ⟨e,r1,r2⟩=>⟨e,HubK.go h2 h3 r1 r2⟩
theorem kLen (hh:HubK st0 st h n R) (m:Int):aB Go.Proofs.Try.prog n_f15 [.ptr h 0,.lit (.int .i64 m)] st (.lit (.int .i64 (lenR m R:Nat))):=by
 obtain ⟨wid,F,h1,h2,h3⟩:=hh.ex
 exact len_pure h1 m
theorem kLost (hh:HubK st0 st h n R) (m:Int):aB Go.Proofs.Try.prog n_f14 [.ptr h 0,.lit (.int .i64 m)] st (.lit (.int .i64 (iI m R:Nat))):=by
 obtain ⟨wid,F,h1,h2,h3⟩:=hh.ex
 exact pz h1 m
end

/-! The examples. -/
def X1:=(rSub 2 8 1 ⟨[],[]⟩).1
def X2:=(rSub 2 5 3 X1).1
def X3:=(rSub 2 8 2 X2).1
def X4:=(rPub 2 [97,98,99] X3).1
def X5:=(b9 7 2 [100,101] X4).1
def X6:=(bk 1 X5).1
def X7:=(bk 0 X6).1
def X8:=(bk 2 X7).1
def X9:=(rPub 2 [49,50,51,52,53] X8).1
theorem x1:rSub 2 8 1 ⟨[],[]⟩ = (X1,0,0):=rfl
theorem x2:rSub 2 5 3 X1 = (X2,1,0):=rfl
theorem x3:rSub 2 8 2 X2 = (X3,2,0):=rfl
theorem x4:rPub 2 [97,98,99] X3 = (X4,0):=rfl
theorem x4':rPub 2 [120] X4 = (X4,16):=rfl
theorem x5:b9 7 2 [100,101] X4 = (X5,false,0):=rfl
theorem x6:bk 1 X5 = (X6,[97,98,99],[7],0):=rfl
theorem x6':lenR 0 X6 = 1∧iI 0 X6 = 1∧lenR 2 X6 = 1∧iI 2 X6 = 1:=⟨rfl,rfl,rfl,rfl⟩
theorem x7:bk 0 X6 = (X7,[100,101],[],0):=rfl
theorem x7':bk 0 X7 = (X7,[],[],16):=rfl
theorem x8:bk 2 X7 = (X8,[97,98,99],[],0):=rfl
theorem x8':bk 3 X8 = (X8,[],[],9):=rfl
theorem x9:rPub 2 [49,50,51,52,53] X8 = (X9,0):=rfl
theorem x9':iI 0 X9 = 1∧iI 1 X9 = 1∧lenR 2 X9 = 1:=⟨rfl,rfl,rfl⟩
end Go.Fx.YtbdjfccgkdgbfaaFx

