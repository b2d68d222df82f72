/- What the functions that the statement reaches compute: part 19. -/
import Derived.Test.YtbdjfccgkdgbfaaFxW18
namespace Go.Fx.YtbdjfccgkdgbfaaFx
open Go Go.Fx
attribute [local irreducible] aC runI au aH

set_option maxRecDepth 100000
set_option maxHeartbeats 4000000

theorem lu (st:St):al Go.Proofs.Try.prog n_f10 [] st (fun v st'=>v = .lit (.bool true)∧Kp st st' []):=by
  refine ao hmix k_f10 rfl rfl fun Q hQ=>?_
  unfold aFun c_f10
  have s1:∀ {st0 st:St} {h n:Nat},HubK st0 st h n ⟨[],[]⟩→al Go.Proofs.Try.prog n_f9 [.ptr h 0,.lit (.int .i64 2),.lit (.int .i64 8),.lit (.int .i64 1)] st (fun v st'=>v = .tup [.lit (.int .i64 0),.lit (.int .i64 0)]∧HubK st0 st' h n X1):=fun hh=>by
    have:=kSub hh 2 8 1; rw [x1] at this; exact this
  have s2:∀ {st0 st:St} {h n:Nat},HubK st0 st h n X1→al Go.Proofs.Try.prog n_f9 [.ptr h 0,.lit (.int .i64 2),.lit (.int .i64 5),.lit (.int .i64 3)] st (fun v st'=>v = .tup [.lit (.int .i64 1),.lit (.int .i64 0)]∧HubK st0 st' h n X2):=fun hh=>by
    have:=kSub hh 2 5 3; rw [x2] at this; exact this
  have s3:∀ {st0 st:St} {h n:Nat},HubK st0 st h n X2→al Go.Proofs.Try.prog n_f9 [.ptr h 0,.lit (.int .i64 2),.lit (.int .i64 8),.lit (.int .i64 2)] st (fun v st'=>v = .tup [.lit (.int .i64 2),.lit (.int .i64 0)]∧HubK st0 st' h n X3):=fun hh=>by
    have:=kSub hh 2 8 2; rw [x3] at this; exact this
  have pb:∀ {st0 st:St} {h n:Nat} {R R':HR} {p:List UInt8} {e:Int},HubK st0 st h n R→rPub 2 p R = (R',e)→p.length≤100→n < 900000→al Go.Proofs.Try.prog n_f28 [.ptr h 0,.lit (.int .i64 2),.sl false 1 (BB p)] st (fun v st'=>v = .lit (.int .i64 e)∧HubK st0 st' h (n + 1) R'):=fun hh hr hp hn=>by
    have:=kPub hh 2 _ (Nat.le_trans hp (by omega)) hn; rw [hr] at this; exact this
  have rd:∀ {st0 st:St} {h n:Nat} {R R':HR} {m no e:Int} {want p:List UInt8} {its l:List Nat},HubK st0 st h n R→bD m R = (R',p,l,e)→p = want∧l = its∧e = no→n < 900000→al Go.Proofs.Try.prog n_f30 [.ptr h 0,.lit (.int .i64 m),.lit (.string (str want)),itsV its,.lit (.int .i64 no)] st (fun v st'=>v = .lit (.bool true)∧HubK st0 st' h (n + 64) R'):=fun {st0 st h n R R' m no e want p its l} hh hr hp hn=>by
    have:=kReads hh m no want its hn; rw [hr] at this; simp only [decide_eq_true hp] at this; exact this
  simp (config:=KF) (disch:=omega) only [bZ,id]
  refine ap rfl e_f8 (kNew st) rfl fun v t1 hr=>?_
  obtain ⟨h,rfl,h1⟩:=hr
  simp (config:=KF) (disch:=omega) only [bZ,cA,bq,aY,id,↓reduceIte,Nat.reduceEqDiff]
  refine ap rfl e_f9 (s1 h1) rfl fun v t2 hr=>?_
  obtain ⟨rfl,h2⟩:=hr
  simp (config:=KF) (disch:=omega) only [bZ,id,↓reduceIte,Nat.reduceEqDiff]
  refine ap rfl e_f9 (s2 h2) rfl fun v t3 hr=>?_
  obtain ⟨rfl,h3⟩:=hr
  simp (config:=KF) (disch:=omega) only [bZ,id,↓reduceIte,Nat.reduceEqDiff]
  refine ap rfl e_f9 (s3 h3) rfl fun v t4 hr=>?_
  obtain ⟨rfl,h4⟩:=hr
  simp (config:=KF) (disch:=omega) only [bZ,AI.dst,bu,d4,o_x,bslV,aD,List.reduceReplicate,lh,cb,dN,id,gV,↓reduceIte,Nat.reduceEqDiff,Nat.reduceAdd,Nat.reduceLT,not_true_eq_false]
  refine ap rfl e_f28 (pb h4 x4 (by decide) (by omega)) rfl fun v t5 hr=>?_
  obtain ⟨rfl,h5⟩:=hr
  simp (config:=KF) (disch:=omega) only [bZ,AI.dst,bu,d4,o_x,bslV,aD,List.reduceReplicate,lh,cb,dN,id,gV,↓reduceIte,Nat.reduceEqDiff,Nat.reduceLT,not_true_eq_false]
  refine ap rfl e_f28 (pb h5 x4' (by decide) (by omega)) rfl fun v t6 hr=>?_
  obtain ⟨rfl,h6⟩:=hr
  simp (config:=KF) (disch:=omega) only [bZ,AI.dst,bu,d4,o_x,bslV,aD,List.reduceReplicate,lh,cb,dN,id,gV,↓reduceIte,Nat.reduceEqDiff,Nat.reduceAdd,Nat.reduceLT,not_true_eq_false]
  have h6s:=kSend h6 7 2 [100,101] (by decide) (by omega)
  rw [x5] at h6s
  refine ap rfl e_f29 h6s rfl fun v t7 hr=>?_
  obtain ⟨rfl,h7⟩:=hr
  simp (config:=KF) (disch:=omega) only [bZ,AI.dst,d4,mO,bslV,bstV,List.reduceReplicate,cb,bj,dN,id,mS,↓reduceIte,Nat.reduceEqDiff,Nat.reduceAdd,Nat.reduceLT,Nat.reduceLeDiff,not_true_eq_false]
  refine ap rfl e_f30 (rd (want:=[97,98,99]) (its:=[7]) (no:=0) h7 x6 ⟨rfl,rfl,rfl⟩ (by omega)) rfl fun v t8 hr=>?_
  obtain ⟨rfl,h8⟩:=hr
  obtain ⟨y1,y2,y3,y4⟩:=x6'
  have z1:=kLen h8 0
  have z2:=kLost h8 0
  have z3:=kLen h8 2
  have z4:=kLost h8 2
  rw [y1] at z1
  rw [y2] at z2
  rw [y3] at z3
  rw [y4] at z4
  simp (config:=KF) (disch:=omega) only [bZ,AI.dst,unA,id,↓reduceIte,Nat.reduceEqDiff]
  refine am rfl e_f15 z1 rfl ?_
  simp (config:=KF) (disch:=omega) only [bZ,AI.dst,dN,id,↓reduceIte,Nat.reduceEqDiff,not_true_eq_false]
  refine am rfl e_f14 z2 rfl ?_
  simp (config:=KF) (disch:=omega) only [bZ,AI.dst,dN,id,↓reduceIte,Nat.reduceEqDiff,not_true_eq_false]
  refine am rfl e_f15 z3 rfl ?_
  simp (config:=KF) (disch:=omega) only [bZ,AI.dst,dN,id,↓reduceIte,Nat.reduceEqDiff,not_true_eq_false]
  refine am rfl e_f14 z4 rfl ?_
  simp (config:=KF) (disch:=omega) only [bZ,AI.dst,dN,id,↓reduceIte,Nat.reduceEqDiff,not_true_eq_false]
  refine ap rfl e_f30 (rd (want:=[100,101]) (its:=[]) (no:=0) h8 x7 ⟨rfl,rfl,rfl⟩ (by omega)) rfl fun v t9 hr=>?_
  obtain ⟨rfl,h9⟩:=hr
  simp (config:=KF) (disch:=omega) only [bZ,AI.dst,unA,id,↓reduceIte,Nat.reduceEqDiff]
  refine ap rfl e_f30 (rd (want:=[]) (its:=[]) (no:=16) h9 x7' ⟨rfl,rfl,rfl⟩ (by omega)) rfl fun v t10 hr=>?_
  obtain ⟨rfl,h10⟩:=hr
  simp (config:=KF) (disch:=omega) only [bZ,AI.dst,unA,id,↓reduceIte,Nat.reduceEqDiff]
  refine ap rfl e_f30 (rd (want:=[97,98,99]) (its:=[]) (no:=0) h10 x8 ⟨rfl,rfl,rfl⟩ (by omega)) rfl fun v t11 hr=>?_
  obtain ⟨rfl,h11⟩:=hr
  simp (config:=KF) (disch:=omega) only [bZ,AI.dst,unA,id,↓reduceIte,Nat.reduceEqDiff]
  refine ap rfl e_f30 (rd (want:=[]) (its:=[]) (no:=9) h11 x8' ⟨rfl,rfl,rfl⟩ (by omega)) rfl fun v t12 hr=>?_
  obtain ⟨rfl,h12⟩:=hr
  simp (config:=KF) (disch:=omega) only [bZ,AI.dst,bu,d4,o_x,bslV,aD,List.reduceReplicate,lh,cb,unA,id,gV,↓reduceIte,Nat.reduceEqDiff,Nat.reduceAdd,Nat.reduceLT]
  refine ap rfl e_f28 (pb h12 x9 (by decide) (by omega)) rfl fun v t13 hr=>?_
  obtain ⟨rfl,h13⟩:=hr
  obtain ⟨u1,u2,u3⟩:=x9'
  have z5:=kLost h13 0
  have z6:=kLost h13 1
  have z7:=kLen h13 2
  rw [u1] at z5
  rw [u2] at z6
  rw [u3] at z7
  simp (config:=KF) (disch:=omega) only [bZ,AI.dst,id,↓reduceIte,Nat.reduceEqDiff]
  refine am rfl e_f14 z5 rfl ?_
  simp (config:=KF) (disch:=omega) only [bZ,AI.dst,ba,id,↓reduceIte,Nat.reduceEqDiff]
  refine am rfl e_f14 z6 rfl ?_
  simp (config:=KF) (disch:=omega) only [bZ,AI.dst,ba,id,↓reduceIte,Nat.reduceEqDiff]
  refine am rfl e_f15 z7 rfl ?_
  simp (config:=KF) (disch:=omega) only [bZ,retI,AI.dst,ba,↓reduceIte,Nat.reduceEqDiff,reduceCtorEq]
  obtain ⟨wid,F,_,_,hk⟩:=h13.ex
  exact hQ _ _ ⟨rfl,hk⟩
end Go.Fx.YtbdjfccgkdgbfaaFx

namespace Go.Fx.YtbdjfccgkdgbfaaFx
open Go Go.Fx
attribute [local irreducible] aC runI au aH

set_option maxRecDepth 100000
set_option maxHeartbeats 4000000

/-! A full hub. -/
end Go.Fx.YtbdjfccgkdgbfaaFx

namespace Go.Fx.YtbdjfccgkdgbfaaFx
open Go Go.Fx
attribute [local irreducible] aC runI au aH

set_option maxRecDepth 100000
set_option maxHeartbeats 4000000

/-! Nil and zero hubs. -/
section
variable {st:St} {v:AV}
def actA (w t p n o:Int) (d:AV):AV:=.agg [.lit (.int .i64 w),.lit (.int .i64 t),.lit (.int .i64 p),.lit (.int .i64 n),.lit (.int .i64 o),d]
def resA (n:Int) (b:Bool) (d its:AV) (e:Int):AV:=.agg [.lit (.int .i64 n),.lit (.bool b),d,its,.lit (.int .i64 e)]
end
end Go.Fx.YtbdjfccgkdgbfaaFx

namespace Go.Fx.YtbdjfccgkdgbfaaFx
open Go Go.Fx
attribute [local irreducible] aC runI au aH

set_option maxRecDepth 100000
set_option maxHeartbeats 4000000

/-! Results are compared. -/
theorem iF (l:List Nat):(itsV l).solid1 = true∧(itsV l).cells = [itsV l]∧∀ s,kill s (itsV l) = itsV l:=by
  unfold itsV; split <;> exact ⟨rfl,rfl,fun _=>rfl⟩
end Go.Fx.YtbdjfccgkdgbfaaFx

