/- What the functions that the statement reaches compute: part 22. -/
import Derived.Test.YtbdjfccgkdgbfaaFxW21
namespace Go.Fx.YtbdjfccgkdgbfaaFx
open Go Go.Fx
attribute [local irreducible] aC runI az aA

set_option maxRecDepth 100000
set_option maxHeartbeats 4000000

/-! A full hub. -/
end Go.Fx.YtbdjfccgkdgbfaaFx

namespace Go.Fx.YtbdjfccgkdgbfaaFx
open Go Go.Fx
attribute [local irreducible] aC runI az aA

set_option maxRecDepth 100000
set_option maxHeartbeats 4000000

/-! Nil and zero hubs. -/
section
variable {st:St} {v:AV}
def actA (w t p n o:Int) (d:AV):AV:=.agg [.lit (.int .i64 w),.lit (.int .i64 t),.lit (.int .i64 p),.lit (.int .i64 n),.lit (.int .i64 o),d]
def resA (n:Int) (b:Bool) (d its:AV) (e:Int):AV:=.agg [.lit (.int .i64 n),.lit (.bool b),d,its,.lit (.int .i64 e)]
end
end Go.Fx.YtbdjfccgkdgbfaaFx

namespace Go.Fx.YtbdjfccgkdgbfaaFx
open Go Go.Fx
attribute [local irreducible] aC runI az aA

set_option maxRecDepth 100000
set_option maxHeartbeats 4000000

/-! Results are compared. -/
theorem dx (l:List Nat):(itsV l).solid1 = true∧(itsV l).cells = [itsV l]∧∀ s,kill s (itsV l) = itsV l:=by
  unfold itsV; split <;> exact ⟨rfl,rfl,fun _=>rfl⟩
theorem same_pure {st:St} {v w:AV} {p q:List UInt8} (hv:DV v st p) (hw:DV w st q) (n m e f:Int) (b c:Bool) (l k:List Nat) (hl:l.length≤1000):aB Go.Proofs.Try.prog n_f20 [resA n b v (itsV l) e,resA m c w (itsV k) f] st (.lit (.bool (decide (n = m∧b = c∧p = q∧l = k∧e = f)))):=by
  obtain ⟨v1,v2,v3,v4,v5,v6,v7,v8⟩:=hv.facts
  obtain ⟨w1,w2,w3,w4,w5,w6,w7,w8⟩:=hw.facts
  obtain ⟨a1,a2,a3,a4⟩:=aR l
  obtain ⟨a5,a6,a7⟩:=dx l
  obtain ⟨b1,b2,b3,b4⟩:=aR k
  obtain ⟨b5,b6,b7⟩:=dx k
  refine aE hmix k_f20 rfl rfl fun Q hQ=>?_
  unfold aFun c_f20
  unfold resA
  have hfin:∀ x,x = decide (n = m∧b = c∧p = q∧l = k∧e = f)→∀ st',Q (.lit (.bool x)) st':=fun x hx st'=>by rw [hx]; exact hQ st'
  simp (config:=KF) (disch:=omega) only [bZ,AI.dst,addA,aa,↓reduceIte,Nat.reduceEqDiff,Nat.reduceAdd,reduceCtorEq,v2,v4,w2,w4,a3,a5,b3,b5]
  refine cc (fun h1=>?_) (fun h1=>?_)
  · by_cases h2:b = c
    · subst h2
      have hb:binI .bool .eql (.lit (.bool b)) (.lit (.bool b)) = .ok (.lit (.bool true)):=by cases b <;> rfl
      simp (config:=KF) (disch:=omega) only [bZ,AI.dst,addA,aa,id,↓reduceIte,Nat.reduceEqDiff,hb,v1,w1]
      refine ak (vs:=[v,w]) (by simp [v1,w1]) e_f16 (nK hv hw) (by simp [v5,w5]) ?_
      simp (config:=KF) (disch:=omega) only [bZ,AI.dst,↓reduceIte,Nat.reduceEqDiff]
      refine cc (fun h3=>?_) (fun h3=>?_)
      · simp (config:=KF) (disch:=omega) only [bZ,AI.dst,addA,aa,id,↓reduceIte,Nat.reduceEqDiff,a1,b1]
        refine ak (vs:=[itsV l,itsV k]) (by simp [a1,b1]) e_f43 (iq l k hl st) (by simp [a4,b4]) ?_
        simp (config:=KF) (disch:=omega) only [bZ,AI.dst,↓reduceIte,Nat.reduceEqDiff]
        refine cc (fun h4=>?_) (fun h4=>?_)
        · simp (config:=KF) (disch:=omega) only [bZ,retI,AI.dst,addA,aa,↓reduceIte,Nat.reduceEqDiff]
          exact hfin _ (by simp [h1,h3,h4]) _
        · simp (config:=KF) (disch:=omega) only [bZ,retI,AI.dst,↓reduceIte,Nat.reduceEqDiff]
          exact hfin _ (by simp [h4]) _
      · simp (config:=KF) (disch:=omega) only [bZ,retI,AI.dst,↓reduceIte,Nat.reduceEqDiff]
        exact hfin _ (by simp [h3]) _
    · have hb:binI .bool .eql (.lit (.bool b)) (.lit (.bool c)) = .ok (.lit (.bool false)):=by cases b <;> cases c <;> first | rfl | exact absurd rfl h2
      simp (config:=KF) (disch:=omega) only [bZ,retI,AI.dst,addA,aa,↓reduceIte,Nat.reduceEqDiff,hb]
      exact hfin _ (by simp [h2]) _
  · simp (config:=KF) (disch:=omega) only [bZ,retI,AI.dst,↓reduceIte,Nat.reduceEqDiff]
    exact hfin _ (by simp [h1]) _

end Go.Fx.YtbdjfccgkdgbfaaFx

