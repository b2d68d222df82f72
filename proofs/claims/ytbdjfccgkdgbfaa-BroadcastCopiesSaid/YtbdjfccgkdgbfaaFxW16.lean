/- What the functions that the statement reaches compute: part 16. -/
import Derived.Test.YtbdjfccgkdgbfaaFxW15
namespace Go.Fx.YtbdjfccgkdgbfaaFx
open Go Go.Fx
attribute [local irreducible] aC runI az ar

set_option maxRecDepth 100000
set_option maxHeartbeats 4000000

theorem l9 (st:St):am Go.Proofs.Try.prog n_f10 [] st (fun v st'=>v = .lit (.bool true)∧Kp st st' []):=by
 refine ap hmix k_f10 rfl rfl fun Q hQ=>?_
 unfold aFun c_f10
 have s1:∀ {st0 st:St} {h n:Nat},HubK st0 st h n ⟨[],[]⟩→am Go.Proofs.Try.prog n_f9 [.ptr h 0,.lit (.int .i64 2),.lit (.int .i64 8),.lit (.int .i64 1)] st (fun v st'=>v = .tup [.lit (.int .i64 0),.lit (.int .i64 0)]∧HubK st0 st' h n X1):=fun hh=>by
  have:=kSub hh 2 8 1; rw [x1] at this; exact this
 have s2:∀ {st0 st:St} {h n:Nat},HubK st0 st h n X1→am Go.Proofs.Try.prog n_f9 [.ptr h 0,.lit (.int .i64 2),.lit (.int .i64 5),.lit (.int .i64 3)] st (fun v st'=>v = .tup [.lit (.int .i64 1),.lit (.int .i64 0)]∧HubK st0 st' h n X2):=fun hh=>by
  have:=kSub hh 2 5 3; rw [x2] at this; exact this
 have s3:∀ {st0 st:St} {h n:Nat},HubK st0 st h n X2→am Go.Proofs.Try.prog n_f9 [.ptr h 0,.lit (.int .i64 2),.lit (.int .i64 8),.lit (.int .i64 2)] st (fun v st'=>v = .tup [.lit (.int .i64 2),.lit (.int .i64 0)]∧HubK st0 st' h n X3):=fun hh=>by
  have:=kSub hh 2 8 2; rw [x3] at this; exact this
 have pb:∀ {st0 st:St} {h n:Nat} {R R':HR} {p:List UInt8} {e:Int},HubK st0 st h n R→rPub 2 p R = (R',e)→p.length≤100→n < 900000→am Go.Proofs.Try.prog n_f28 [.ptr h 0,.lit (.int .i64 2),.sl false 1 (BB p)] st (fun v st'=>v = .lit (.int .i64 e)∧HubK st0 st' h (n + 1) R'):=fun hh hr hp hn=>by
  have:=kPub hh 2 _ (Nat.le_trans hp (by omega)) hn; rw [hr] at this; exact this
 have rd:∀ {st0 st:St} {h n:Nat} {R R':HR} {m no e:Int} {want p:List UInt8} {its l:List Nat},HubK st0 st h n R→bk m R = (R',p,l,e)→p = want∧l = its∧e = no→n < 900000→am Go.Proofs.Try.prog n_f30 [.ptr h 0,.lit (.int .i64 m),.lit (.string (str want)),itsV its,.lit (.int .i64 no)] st (fun v st'=>v = .lit (.bool true)∧HubK st0 st' h (n + 64) R'):=fun {st0 st h n R R' m no e want p its l} hh hr hp hn=>by
  have:=kReads hh m no want its hn; rw [hr] at this; simp only [decide_eq_true hp] at this; exact this
 simp (config:=KF) (disch:=omega) only [bZ,id]
 refine aq rfl e_f8 (kNew st) rfl fun v t1 hr=>?_
 obtain ⟨h,rfl,h1⟩:=hr
 simp (config:=KF) (disch:=omega) only [bZ,cH,bp,aY,id,↓reduceIte,Nat.reduceEqDiff]
 refine aq rfl e_f9 (s1 h1) rfl fun v t2 hr=>?_
 obtain ⟨rfl,h2⟩:=hr
 simp (config:=KF) (disch:=omega) only [bZ,id,↓reduceIte,Nat.reduceEqDiff]
 refine aq rfl e_f9 (s2 h2) rfl fun v t3 hr=>?_
 obtain ⟨rfl,h3⟩:=hr
 simp (config:=KF) (disch:=omega) only [bZ,id,↓reduceIte,Nat.reduceEqDiff]
 refine aq rfl e_f9 (s3 h3) rfl fun v t4 hr=>?_
 obtain ⟨rfl,h4⟩:=hr
 simp (config:=KF) (disch:=omega) only [bZ,AI.dst,bt,aW,List.reduceReplicate,lT,id,cr,↓reduceIte,Nat.reduceEqDiff,Nat.reduceAdd,Nat.reduceLT,not_true_eq_false]
 refine aq rfl e_f28 (pb h4 x4 (by decide) (by omega)) rfl fun v t5 hr=>?_
 obtain ⟨rfl,h5⟩:=hr
 simp (config:=KF) (disch:=omega) only [bZ,AI.dst,bt,aW,List.reduceReplicate,lT,id,cr,↓reduceIte,Nat.reduceEqDiff,Nat.reduceLT,not_true_eq_false]
 refine aq rfl e_f28 (pb h5 x4' (by decide) (by omega)) rfl fun v t6 hr=>?_
 obtain ⟨rfl,h6⟩:=hr
 simp (config:=KF) (disch:=omega) only [bZ,AI.dst,bt,aW,List.reduceReplicate,lT,id,cr,↓reduceIte,Nat.reduceEqDiff,Nat.reduceAdd,Nat.reduceLT,not_true_eq_false]
 have h6s:=kSend h6 7 2 [100,101] (by decide) (by omega)
 rw [x5] at h6s
 refine aq rfl e_f29 h6s rfl fun v t7 hr=>?_
 obtain ⟨rfl,h7⟩:=hr
 simp (config:=KF) (disch:=omega) only [bZ,AI.dst,ei,bstV,List.reduceReplicate,aV,id,cb,↓reduceIte,Nat.reduceEqDiff,Nat.reduceAdd,Nat.reduceLT,Nat.reduceLeDiff,not_true_eq_false,af,aa]
 refine aq rfl e_f30 (rd (want:=[97,98,99]) (its:=[7]) (no:=0) h7 x6 ⟨rfl,rfl,rfl⟩ (by omega)) rfl fun v t8 hr=>?_
 obtain ⟨rfl,h8⟩:=hr
 obtain ⟨y1,y2,y3,y4⟩:=x6'
 have z1:=kLen h8 0
 have z2:=kLost h8 0
 have z3:=kLen h8 2
 have z4:=kLost h8 2
 rw [y1] at z1
 rw [y2] at z2
 rw [y3] at z3
 rw [y4] at z4
 simp (config:=KF) (disch:=omega) only [bZ,AI.dst,unA,id,↓reduceIte,Nat.reduceEqDiff]
 refine ak rfl e_f15 z1 rfl ?_
 simp (config:=KF) (disch:=omega) only [bZ,AI.dst,id,↓reduceIte,Nat.reduceEqDiff,not_true_eq_false]
 refine ak rfl e_f14 z2 rfl ?_
 simp (config:=KF) (disch:=omega) only [bZ,AI.dst,id,↓reduceIte,Nat.reduceEqDiff,not_true_eq_false]
 refine ak rfl e_f15 z3 rfl ?_
 simp (config:=KF) (disch:=omega) only [bZ,AI.dst,id,↓reduceIte,Nat.reduceEqDiff,not_true_eq_false]
 refine ak rfl e_f14 z4 rfl ?_
 simp (config:=KF) (disch:=omega) only [bZ,AI.dst,id,↓reduceIte,Nat.reduceEqDiff,not_true_eq_false]
 refine aq rfl e_f30 (rd (want:=[100,101]) (its:=[]) (no:=0) h8 x7 ⟨rfl,rfl,rfl⟩ (by omega)) rfl fun v t9 hr=>?_
 obtain ⟨rfl,h9⟩:=hr
 simp (config:=KF) (disch:=omega) only [bZ,AI.dst,unA,id,↓reduceIte,Nat.reduceEqDiff]
 refine aq rfl e_f30 (rd (want:=[]) (its:=[]) (no:=16) h9 x7' ⟨rfl,rfl,rfl⟩ (by omega)) rfl fun v t10 hr=>?_
 obtain ⟨rfl,h10⟩:=hr
 simp (config:=KF) (disch:=omega) only [bZ,AI.dst,unA,id,↓reduceIte,Nat.reduceEqDiff]
 refine aq rfl e_f30 (rd (want:=[97,98,99]) (its:=[]) (no:=0) h10 x8 ⟨rfl,rfl,rfl⟩ (by omega)) rfl fun v t11 hr=>?_
 obtain ⟨rfl,h11⟩:=hr
 simp (config:=KF) (disch:=omega) only [bZ,AI.dst,unA,id,↓reduceIte,Nat.reduceEqDiff]
 refine aq rfl e_f30 (rd (want:=[]) (its:=[]) (no:=9) h11 x8' ⟨rfl,rfl,rfl⟩ (by omega)) rfl fun v t12 hr=>?_
 obtain ⟨rfl,h12⟩:=hr
 simp (config:=KF) (disch:=omega) only [bZ,AI.dst,bt,aW,List.reduceReplicate,lT,unA,id,cr,↓reduceIte,Nat.reduceEqDiff,Nat.reduceAdd,Nat.reduceLT]
 refine aq rfl e_f28 (pb h12 x9 (by decide) (by omega)) rfl fun v t13 hr=>?_
 obtain ⟨rfl,h13⟩:=hr
 obtain ⟨u1,u2,u3⟩:=x9'
 have z5:=kLost h13 0
 have z6:=kLost h13 1
 have z7:=kLen h13 2
 rw [u1] at z5
 rw [u2] at z6
 rw [u3] at z7
 simp (config:=KF) (disch:=omega) only [bZ,AI.dst,id,↓reduceIte,Nat.reduceEqDiff]
 refine ak rfl e_f14 z5 rfl ?_
 simp (config:=KF) (disch:=omega) only [bZ,AI.dst,id,↓reduceIte,Nat.reduceEqDiff]
 refine ak rfl e_f14 z6 rfl ?_
 simp (config:=KF) (disch:=omega) only [bZ,AI.dst,id,↓reduceIte,Nat.reduceEqDiff]
 refine ak rfl e_f15 z7 rfl ?_
 simp (config:=KF) (disch:=omega) only [bZ,retI,AI.dst,↓reduceIte,Nat.reduceEqDiff,reduceCtorEq]
 obtain ⟨wid,F,_,_,hk⟩:=h13.ex
 exact hQ _ _ ⟨rfl,hk⟩
end Go.Fx.YtbdjfccgkdgbfaaFx

namespace Go.Fx.YtbdjfccgkdgbfaaFx
open Go Go.Fx
attribute [local irreducible] aC runI az ar

set_option maxRecDepth 100000
set_option maxHeartbeats 4000000

/-! A full hub. -/
end Go.Fx.YtbdjfccgkdgbfaaFx

namespace Go.Fx.YtbdjfccgkdgbfaaFx
open Go Go.Fx
attribute [local irreducible] aC runI az ar

set_option maxRecDepth 100000
set_option maxHeartbeats 4000000

/-! Nil and zero hubs. -/
section
variable {st:St} {v:AV}
def actA (w t p n o:Int) (d:AV):AV:=.agg [.lit (.int .i64 w),.lit (.int .i64 t),.lit (.int .i64 p),.lit (.int .i64 n),.lit (.int .i64 o),d]
def resA (n:Int) (b:Bool) (d its:AV) (e:Int):AV:=.agg [.lit (.int .i64 n),.lit (.bool b),d,its,.lit (.int .i64 e)]
end
end Go.Fx.YtbdjfccgkdgbfaaFx

namespace Go.Fx.YtbdjfccgkdgbfaaFx
open Go Go.Fx
attribute [local irreducible] aC runI az ar

set_option maxRecDepth 100000
set_option maxHeartbeats 4000000

/-! Results are compared. -/
theorem dL (l:List Nat):(itsV l).solid1 = true∧(itsV l).cells = [itsV l]∧∀ s,kill s (itsV l) = itsV l:=by
 unfold itsV; split <;> exact ⟨rfl,rfl,fun _=>rfl⟩
theorem same_pure {st:St} {v w:AV} {p q:List UInt8} (hv:DV v st p) (hw:DV w st q) (n m e f:Int) (b c:Bool) (l k:List Nat) (hl:l.length≤1000):aB Go.Proofs.Try.prog n_f20 [resA n b v (itsV l) e,resA m c w (itsV k) f] st (.lit (.bool (decide (n = m∧b = c∧p = q∧l = k∧e = f)))):=by
 obtain ⟨v1,v2,v3,v4,v5,v6,v7,v8⟩:=hv.facts
 obtain ⟨w1,w2,w3,w4,w5,w6,w7,w8⟩:=hw.facts
 obtain ⟨a1,a2,a3,a4⟩:=aU l
 obtain ⟨a5,a6,a7⟩:=dL l
 obtain ⟨b1,b2,b3,b4⟩:=aU k
 obtain ⟨b5,b6,b7⟩:=dL k
 refine aF hmix k_f20 rfl rfl fun Q hQ=>?_
 unfold aFun c_f20
 unfold resA
 have hfin:∀ x,x = decide (n = m∧b = c∧p = q∧l = k∧e = f)→∀ st',Q (.lit (.bool x)) st':=fun x hx st'=>by rw [hx]; exact hQ st'
 simp (config:=KF) (disch:=omega) only [bZ,AI.dst,addA,ae,↓reduceIte,Nat.reduceEqDiff,Nat.reduceAdd,reduceCtorEq,v2,v4,w2,w4,a3,a5,b3,b5]
 refine b8 (fun h1=>?_) (fun h1=>?_)
 ·by_cases h2:b = c
  ·subst h2
   have hb:binI .bool .eql (.lit (.bool b)) (.lit (.bool b)) = .ok (.lit (.bool true)):=by cases b <;> rfl
   simp (config:=KF) (disch:=omega) only [bZ,AI.dst,addA,ae,id,↓reduceIte,Nat.reduceEqDiff,hb,v1,w1]
   refine ak (vs:=[v,w]) (by simp [v1,w1]) e_f16 (n7 hv hw) (by simp [v5,w5]) ?_
   simp (config:=KF) (disch:=omega) only [bZ,AI.dst,↓reduceIte,Nat.reduceEqDiff]
   refine b8 (fun h3=>?_) (fun h3=>?_)
   ·simp (config:=KF) (disch:=omega) only [bZ,AI.dst,addA,ae,id,↓reduceIte,Nat.reduceEqDiff,a1,b1]
    refine ak (vs:=[itsV l,itsV k]) (by simp [a1,b1]) e_f43 (iJ l k hl st) (by simp [a4,b4]) ?_
    simp (config:=KF) (disch:=omega) only [bZ,AI.dst,↓reduceIte,Nat.reduceEqDiff]
    refine b8 (fun h4=>?_) (fun h4=>?_)
    ·simp (config:=KF) (disch:=omega) only [bZ,retI,AI.dst,addA,ae,↓reduceIte,Nat.reduceEqDiff]
     exact hfin _ (by simp [h1,h3,h4]) _
    ·simp (config:=KF) (disch:=omega) only [bZ,retI,AI.dst,↓reduceIte,Nat.reduceEqDiff]
     exact hfin _ (by simp [h4]) _
   ·simp (config:=KF) (disch:=omega) only [bZ,retI,AI.dst,↓reduceIte,Nat.reduceEqDiff]
    exact hfin _ (by simp [h3]) _
  ·have hb:binI .bool .eql (.lit (.bool b)) (.lit (.bool c)) = .ok (.lit (.bool false)):=by cases b <;> cases c <;> first | rfl | exact absurd rfl h2
   simp (config:=KF) (disch:=omega) only [bZ,retI,AI.dst,addA,ae,↓reduceIte,Nat.reduceEqDiff,hb]
   exact hfin _ (by simp [h2]) _
 ·simp (config:=KF) (disch:=omega) only [bZ,retI,AI.dst,↓reduceIte,Nat.reduceEqDiff]
  exact hfin _ (by simp [h1]) _

end Go.Fx.YtbdjfccgkdgbfaaFx

