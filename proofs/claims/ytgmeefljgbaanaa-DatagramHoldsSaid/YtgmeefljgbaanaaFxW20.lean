/- What the functions that the statement reaches compute: part 20. -/
import Derived.Test.YtgmeefljgbaanaaFxW19
namespace Go.Fx.YtgmeefljgbaanaaFx
open Go Go.Fx
attribute [local irreducible] aC runI aF a9

set_option maxRecDepth 100000
set_option maxHeartbeats 4000000

/-! The examples. -/
abbrev nA:ByteArray:=⟨#[97]⟩
abbrev nB:ByteArray:=⟨#[98]⟩
abbrev nC:ByteArray:=⟨#[99]⟩
def X0:NR:=⟨100,[],[]⟩
def X1:=(eM nA 1 2 8 1 10 X0).1
def X2:=(eM nB 7 2 4 2 0 X1).1
def X3:=(cc 1 nA 1 [97,98,99] X2).1
def X4:=(cc 1 nA 1 [100,101,102] X3).1
def X5:=(cc 1 nA 1 [103,104,105] X4).1
def X6:=(rTry 0 2 X5).1
def X7:=(rAdv 109 X6).1
def X8:=(rAdv 110 X7).1
def X9:=(fL 5 0 9 X8).1
def Xa:=(cc 0 nA 1 [120,121,122] X9).1
def Xb:=(cc 0 nB 7 [49,50,51,52,53] Xa).1
theorem x1:eM nA 1 2 8 1 10 X0 = (X1,0,0):=rfl
theorem x2:eM nB 7 2 4 2 0 X1 = (X2,1,0):=rfl
theorem x3:cc 1 nA 1 [97,98,99] X2 = (X3,[],0):=rfl
theorem x4:cc 1 nA 1 [100,101,102] X3 = (X4,[],0):=rfl
theorem x5:cc 1 nA 1 [103,104,105] X4 = (X5,[],0):=rfl
theorem x5':lenO (atS 0 X5.socks) = 2∧drO (atS 0 X5.socks) = 1:=⟨rfl,rfl⟩
theorem x6:rTry 0 2 X5 = (X6,⟨0,nB,7,[100,101],100,true,0⟩,0):=rfl
theorem x7:rAdv 109 X6 = (X7,0,0):=rfl
theorem x8:rAdv 110 X7 = (X8,1,0):=rfl
theorem x8':oldO (atS 0 X8.socks) = 1:=rfl
theorem x8'':rTry 0 9 X8 = (X8,rc0,16):=rfl
theorem x9:fL 5 0 9 X8 = (X9,rc0,false,0):=rfl
theorem xa:cc 0 nA 1 [120,121,122] X9 = (Xa,[⟨5,nA,1,[120,121,122],110,false,0⟩],0):=rfl
theorem xb:cc 0 nB 7 [49,50,51,52,53] Xa = (Xb,[],0):=rfl
theorem xc:cc 0 nC 9 [49] Xb = (Xb,[],0):=rfl
theorem xc':drO (atS 1 Xb.socks) = 1∧lenO (atS 1 Xb.socks) = 0:=⟨rfl,rfl⟩

theorem cr (st:St):ao Go.Proofs.Try.prog n_f11 [] st (fun v st'=>v = .lit (.bool true)∧Kp st st' []):=by
  refine aA hmix k_f11 rfl rfl fun Q hQ=>?_
  unfold aFun c_f11
  have snd:∀ {st0 st:St} {n k:Nat} {R R':NR} {f:Int} {nm:ByteArray} {port:Int} {d:List UInt8} {l:List Rc} {P:Nat→Prop} {av:AV},NetK st0 st n k R→cc f nm port d R = (R',l,0)→nm.size < 1000000→d.length≤1000→k < 900000→(∀ st:St,AllV P false av st l)→l.length < 10 →
      ao Go.Proofs.Try.prog n_f30 [.ptr n 0,.lit (.int .i64 f),adAV nm port,.lit (.string (str d)),av] st (fun x st'=>x = .lit (.bool true)∧NetK st0 st' n (k + 1) R'):=fun hh hr h1 h2 h3 h4 h5=>by
    have:=kSends hh _ _ _ h1 h2 h3 (l:=_) h4 h5 (by rw [hr]; simp only; omega)
    rw [hr] at this
    simp only [nM,decide_true,Bool.and_true] at this
    exact this
  have hnil:∀ st:St,AllV (fun _=>False) false (.lit (.slice none 0 0)) st []:=fun _=>.inl ⟨rfl,rfl⟩
  simp (config:=KF) (disch:=omega) only [bZ,id]
  refine aq rfl e_f8 (kNew st 100 (by omega)) rfl fun v t1 hr=>?_
  obtain ⟨n,rfl,h1⟩:=hr
  simp (config:=KF) (disch:=omega) only [bZ,AI.dst,br,aJ,id,ba,own2_ptr,↓reduceIte,Nat.reduceEqDiff,not_true_eq_false]
  refine am rfl e_f10 (iV t1 nA 1) rfl ?_
  unfold adAV
  simp (config:=KF) (disch:=omega) only [bZ,id,↓reduceIte,Nat.reduceEqDiff]
  refine am rfl e_f10 (iV t1 nB 7) rfl ?_
  unfold adAV
  simp (config:=KF) (disch:=omega) only [bZ,bU,al,aa,id,aS,↓reduceIte,Nat.reduceEqDiff,Nat.reduceAdd,Nat.reduceLeDiff]
  have hb:=kBind h1 nA 1 2 8 1 10 (by decide) (by omega)
  rw [show (⟨100,[],[]⟩:NR) = X0 from rfl,x1] at hb
  refine aq (vs:=[.ptr n 0,adAV nA 1,.lit (.int .i64 2),.lit (.int .i64 8),.lit (.int .i64 1),.lit (.int .u64 10)]) rfl e_f9 hb rfl fun v t2 hr=>?_
  obtain ⟨rfl,h2⟩:=hr
  simp (config:=KF) (disch:=omega) only [bZ,aa,id,ba,↓reduceIte,Nat.reduceEqDiff,Nat.reduceAdd,Nat.reduceLeDiff]
  have hb:=kBind h2 nB 7 2 4 2 0 (by decide) (by omega)
  rw [x2] at hb
  refine aq (vs:=[.ptr n 0,adAV nB 7,.lit (.int .i64 2),.lit (.int .i64 4),.lit (.int .i64 2),.lit (.int .u64 0)]) rfl e_f9 hb rfl fun v t3 hr=>?_
  obtain ⟨rfl,h3⟩:=hr
  simp (config:=KF) (disch:=omega) only [bZ,AI.dst,aa,id,ba,↓reduceIte,Nat.reduceEqDiff,Nat.reduceAdd,Nat.reduceLeDiff,not_true_eq_false]
  refine aq rfl e_f30 (snd h3 x3 (by decide) (by decide) (by omega) hnil (by decide)) rfl fun v t4 hr=>?_
  obtain ⟨rfl,h4⟩:=hr
  simp (config:=KF) (disch:=omega) only [bZ,AI.dst,aa,unA,id,↓reduceIte,Nat.reduceEqDiff,Nat.reduceAdd,Nat.reduceLeDiff]
  refine aq rfl e_f30 (snd h4 x4 (by decide) (by decide) (by omega) hnil (by decide)) rfl fun v t5 hr=>?_
  obtain ⟨rfl,h5⟩:=hr
  simp (config:=KF) (disch:=omega) only [bZ,AI.dst,aa,unA,id,↓reduceIte,Nat.reduceEqDiff,Nat.reduceAdd,Nat.reduceLeDiff]
  refine aq rfl e_f30 (snd h5 x5 (by decide) (by decide) (by omega) hnil (by decide)) rfl fun v t6 hr=>?_
  obtain ⟨rfl,h6⟩:=hr
  have z1:=kLen h6 0
  have z2:=kDr h6 0
  rw [x5'.1] at z1
  rw [x5'.2] at z2
  simp (config:=KF) (disch:=omega) only [bZ,AI.dst,unA,id,↓reduceIte,Nat.reduceEqDiff]
  refine am rfl e_f15 z1 rfl ?_
  simp (config:=KF) (disch:=omega) only [bZ,AI.dst,id,↓reduceIte,Nat.reduceEqDiff,not_true_eq_false]
  refine am rfl e_f17 z2 rfl ?_
  simp (config:=KF) (disch:=omega) only [bZ,AI.dst,id,↓reduceIte,Nat.reduceEqDiff,not_true_eq_false]
  have ht:=kTry h6 0 2
  rw [x6] at ht
  refine aq rfl e_f31 ht rfl fun v t7 hr=>?_
  obtain ⟨ov,P,rfl,⟨w,rfl,m1,_⟩,h7⟩:=hr
  obtain ⟨w1,w2,w3,w4,w5,w6,w7,w8⟩:=m1.facts
  unfold rcAV
  simp (config:=KF) (disch:=omega) only [bZ,AI.dst,cg,eI,d5,bU,o_x,bslV,bstV,al,aH,List.reduceReplicate,oB,aa,cD,aP,id,na,ba,dh,dp,eh,aS,eJ,↓reduceIte,Nat.reduceEqDiff,Nat.reduceAdd,Nat.reduceLT,Nat.reduceLeDiff,not_true_eq_false,w2,w4]
  have he:=nL (a:=⟨0,nB,7,[100,101],100,true,0⟩) (b:=⟨0,nB,7,[100,101],100,true,0⟩) (DV.of_mb m1) (DV.sl t7 [100,101])
  rw [px] at he
  unfold rcAV at he
  have he':az Go.Proofs.Try.prog n_f32 [.agg [.lit (.int .i64 0),.lit (.string nB),.lit (.int .i64 7),w,.lit (.int .u64 100),.lit (.bool true),.lit (.int .i64 0)],.agg [.lit (.int .i64 0),.lit (.string nB),.lit (.int .i64 7),.sl false 1 [.lit (.int .u8 100),.lit (.int .u8 101)],.lit (.int .u64 100),.lit (.bool true),.lit (.int .i64 0)]] t7 (.lit (.bool true)):=he
  refine am (by simp [fH,eg,dh,w2]) e_f32 he' (by simp [bk]) ?_
  simp (config:=KF) (disch:=omega) only [bZ,AI.dst,unA,id,↓reduceIte,Nat.reduceEqDiff]
  have ha:=kAdvs h7 109 (by omega) (by omega) (by omega) 0
  rw [x7] at ha
  refine aq rfl e_f33 ha rfl fun v t8 hr=>?_
  obtain ⟨rfl,h8⟩:=hr
  simp (config:=KF) (disch:=omega) only [bZ,AI.dst,unA,id,↓reduceIte,Nat.reduceEqDiff]
  have ha:=kAdvs h8 110 (by omega) (by omega) (by omega) 1
  rw [x8] at ha
  refine aq rfl e_f33 ha rfl fun v t9 hr=>?_
  obtain ⟨rfl,h9⟩:=hr
  have z3:=kOld h9 0
  rw [x8'] at z3
  simp (config:=KF) (disch:=omega) only [bZ,AI.dst,unA,id,↓reduceIte,Nat.reduceEqDiff]
  refine am rfl e_f18 z3 rfl ?_
  simp (config:=KF) (disch:=omega) only [bZ,AI.dst,id,↓reduceIte,Nat.reduceEqDiff,not_true_eq_false]
  have ht:=kTry h9 0 9
  rw [x8''] at ht
  refine aq rfl e_f31 ht rfl fun v t10 hr=>?_
  obtain ⟨ov,P,rfl,⟨w',rfl,m2,_⟩,h10⟩:=hr
  obtain ⟨y1,y2,y3,y4,y5,y6,y7,y8⟩:=m2.facts
  unfold rcAV
  simp (config:=KF) (disch:=omega) only [bZ,id,ba,dp,↓reduceIte,Nat.reduceEqDiff,y2]
  have hv:=kRecv h10 5 0 9 (by omega)
  rw [x9] at hv
  refine aq rfl e_f34 hv rfl fun v t11 hr=>?_
  obtain ⟨ov,P,rfl,⟨w'',rfl,m3,_⟩,h11⟩:=hr
  obtain ⟨y1,y2,y3,y4,y5,y6,y7,y8⟩:=m3.facts
  unfold rcAV
  simp (config:=KF) (disch:=omega) only [bZ,AI.dst,cg,eI,d5,bU,o_x,bslV,bstV,al,aH,List.reduceReplicate,oB,aa,cD,aP,id,na,dn,ba,dh,dp,eh,aS,eJ,↓reduceIte,Nat.reduceEqDiff,Nat.reduceAdd,Nat.reduceLT,Nat.reduceLeDiff,not_true_eq_false,y2,y4]
  have hxa:∀ st:St,AllV (fun _=>False) false (.sl false 7 [.agg [.lit (.int .i64 5),.lit (.string nA),.lit (.int .i64 1),.sl false 1 [.lit (.int .u8 120),.lit (.int .u8 121),.lit (.int .u8 122)],.lit (.int .u64 110),.lit (.bool false),.lit (.int .i64 0)]]) st [⟨5,nA,1,[120,121,122],110,false,0⟩]:=fun st=>.inr ⟨_,rfl,⟨.sl false 1 (BB [120,121,122]),rfl,DV.sl st _,fun b hb=>by cases hb⟩,trivial⟩
  refine aq rfl e_f30 (snd h11 xa (by decide) (by decide) (by omega) hxa (by decide)) rfl fun v t12 hr=>?_
  obtain ⟨rfl,h12⟩:=hr
  simp (config:=KF) (disch:=omega) only [bZ,AI.dst,aa,unA,id,↓reduceIte,Nat.reduceEqDiff,Nat.reduceAdd,Nat.reduceLeDiff]
  refine aq rfl e_f30 (snd h12 xb (by decide) (by decide) (by omega) hnil (by decide)) rfl fun v t13 hr=>?_
  obtain ⟨rfl,h13⟩:=hr
  simp (config:=KF) (disch:=omega) only [bZ,AI.dst,id,↓reduceIte,Nat.reduceEqDiff]
  refine am rfl e_f10 (iV t13 nC 9) rfl ?_
  unfold adAV
  simp (config:=KF) (disch:=omega) only [bZ,AI.dst,id,↓reduceIte,Nat.reduceEqDiff]
  refine aq rfl e_f30 (snd h13 xc (by decide) (by decide) (by omega) hnil (by decide)) rfl fun v t14 hr=>?_
  obtain ⟨rfl,h14⟩:=hr
  have z4:=kDr h14 1
  have z5:=kLen h14 1
  rw [xc'.1] at z4
  rw [xc'.2] at z5
  simp (config:=KF) (disch:=omega) only [bZ,AI.dst,id,↓reduceIte,Nat.reduceEqDiff]
  refine am rfl e_f17 z4 rfl ?_
  simp (config:=KF) (disch:=omega) only [bZ,AI.dst,id,↓reduceIte,Nat.reduceEqDiff]
  refine am rfl e_f15 z5 rfl ?_
  simp (config:=KF) (disch:=omega) only [bZ,retI,AI.dst,↓reduceIte,Nat.reduceEqDiff,reduceCtorEq]
  obtain ⟨_,_,_,_,_,hk⟩:=h14.ex
  exact hQ _ _ ⟨rfl,hk⟩
end Go.Fx.YtgmeefljgbaanaaFx

