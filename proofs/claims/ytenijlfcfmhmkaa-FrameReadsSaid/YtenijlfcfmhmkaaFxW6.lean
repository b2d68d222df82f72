/- What the functions that the statement reaches compute: part 6. -/
import Derived.Test.YtenijlfcfmhmkaaFxW5
namespace Go.Fx.YtenijlfcfmhmkaaFx
open Go Go.Fx
attribute [local irreducible] aC runI ap br

set_option maxRecDepth 100000
set_option maxHeartbeats 4000000

theorem ni (b:List UInt8):(nxt b).2.1≤b.length∧(¬ (nxt b).2.1 = 0→6≤(nxt b).2.1)∧(nxt b).2.2 < 100∧(nxt b).2.1 < 100000∧(nxt b).1.2.length≤1024∧(¬ (nxt b).2.2 = 0→(nxt b).2.1 = 0):=by
  unfold nxt
  have:∀ m:Nat,(([]:List UInt8).length≤1024)∧0≤m:=fun m=>⟨by simp,by omega⟩
  repeat' split
  all_goals simp only [List.length_drop,List.length_take,List.length_nil,Nat.zero_le,not_true_eq_false,not_false_eq_true,true_and,and_true,false_implies,implies_true,Nat.reduceLT,Nat.reduceEqDiff]
  omega

theorem mi (f g:UInt8×List UInt8) (st:St):aw Go.Proofs.Try.prog n_f41 [frAV f,frAV g] st (.lit (.bool (decide (f = g)))):=by
  refine gq ?_ (.lit _) (by simp [nh]) st
  refine aW hmix k_f41 rfl rfl ?_
  unfold aFun c_f41
  obtain ⟨fk,fb⟩:=f
  obtain ⟨gk,gb⟩:=g
  simp (config:=KF) (disch:=omega) only [bZ,a9,AI.dst,o_boxL,addA,af,iE,cD,cP,eN,dg,↓reduceIte,Nat.reduceEqDiff,Nat.reduceAdd,reduceCtorEq,frAV,eq_byte]
  refine jL (fun h=>?_) (fun h=>?_)
  · subst h
    simp (config:=KF) (disch:=omega) only [bZ,retI,a9,AI.dst,kP,e9,gS,pick_tt,addA,d2,af,↓reduceIte,Nat.reduceEqDiff,kW,str_eql]
    have:decide (fb = gb) = decide ((fk,fb) = (fk,gb)):=by simp
    rw [this]
    exact .refl _
  · simp (config:=KF) (disch:=omega) only [bZ,retI,a9,iu,AI.dst,di,e9,fc,↓reduceIte,Nat.reduceEqDiff]
    have:false = decide ((fk,fb) = (gk,gb)):=by simp [h]
    rw [this]
    exact .refl _

end Go.Fx.YtenijlfcfmhmkaaFx

