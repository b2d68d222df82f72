/- What the functions that the statement reaches compute: part 7. -/
import Derived.Test.YtohlpjfhkejjgaaFxW6
namespace Go.Fx.YtohlpjfhkejjgaaFx
open Go Go.Fx
attribute [local irreducible] aC runI aY cF

set_option maxRecDepth 100000
set_option maxHeartbeats 4000000

section
variable {st:St} {c q0 m0 q1 m1 wid:Nat} {bv:AV} {P:ChP}

theorem chk_11 {t:Int} (h:chk P t = 0):t ∉ aP (entC P.S P.V)∧0≤t∧t < 64:=by
  unfold chk at h
  split at h
  · simp at h
  · split at h
    · simp at h
    · rename_i h2; exact ⟨h2,by omega⟩

theorem csend_calls {n:Nat} (h:ChIs st c P q0 m0 q1 m1 wid bv) (t v:Int) (hb:Bd P n∧n < 3000) :
    bj Go.Proofs.Try.prog n_f26 [.ptr c 0,.lit (.int .i64 t),.lit (.int .i64 v)] st (fun r st'=>r = .tup [.lit (.bool (eJ P t v).2.1),cD (eJ P t v).2.2.1,.lit (.int .i64 (eJ P t v).2.2.2)]∧cV st c (eJ P t v).1 q0 m0 q1 m1 wid bv st'):=by
  have hg:=h.get
  unfold Bd at hb
  refine bf hmix k_f26 rfl rfl fun Q hQ=>?_
  unfold aFun c_f26
  generalize hR:eJ P t v = R at hQ
  unfold eJ at hR
  simp (config:=KF) (disch:=omega) only [bZ,az,ev_f,putS,Sf.set,Sf.reg,getR,setR,ae,bt,id,↓reduceIte,Nat.reduceEqDiff,Nat.reduceAdd,reduceCtorEq,Nat.zero_add,f26_1e,f26_2e,f26_2l,f26_3e,f26_4e,f26_5e,f26_5l]
  refine bA rfl e_f38 (e8 h t) rfl ?_
  by_cases hc:chk P t = 0
  · rw [if_neg (by simp [hc])] at hR
    rw [hc]
    simp (config:=KF) (disch:=omega) only [bZ,aA,az,gw,ev_f,putS,Sf.set,Sf.reg,getR,setR,ae,Sf.disAt,id,↓reduceIte,Nat.reduceEqDiff,reduceCtorEq,not_true_eq_false,decide_false,f26_6e,f26_7e,f26_7l,f26_8e,f26_11e,f26_12e,f26_12l]
    refine ba rfl e_f21 (iw h v (by omega)) rfl fun r st1 hr=>?_
    obtain ⟨rfl,h1⟩:=hr
    have ht:=chk_11 hc
    by_cases h16:(bI P v).2.2 = 16
    · rw [if_pos h16] at hR
      subst hR
      obtain ⟨e1,e2⟩:=try_16 h16
      rw [e1] at h1
      rw [h16]
      obtain ⟨bv',h2,hk,hbb⟩:=h1
      simp (config:=KF) (disch:=omega) only [bZ,bP,aA,az,extV,bR,ev_f,putS,Sf.set,Sf.reg,getR,setR,ae,Sf.disAt,id,bg,aU,List.getElem?_cons_zero,List.getElem?_cons_succ,↓reduceIte,Nat.reduceEqDiff,reduceCtorEq,decide_true,f26_13e,f26_14e,f26_15e,f26_15l,f26_16e,f26_17e,f26_18e,f26_18l]
      refine ba rfl e_f39 (oY h2 (by omega) (by omega) ht.1 ht.2) rfl fun r st2 hr=>?_
      obtain ⟨rfl,h3,ho⟩:=hr
      simp (config:=KF) (disch:=omega) only [bZ,retI,resI,resL,aA,putS,Sf.set,Sf.reg,getR,setR,ae,Sf.disAt,aJ,List.all_cons,List.all_nil,↓reduceIte,Nat.reduceEqDiff,Bool.true_and,Bool.and_true,and_true,true_and,reduceCtorEq]
      exact hQ _ _ ⟨rfl,cV.trans hk hbb (h3.post (ho.kp (by simp [foot])))⟩
    · rw [if_neg h16] at hR
      subst hR
      obtain ⟨w1,w2,w3,w4,w5,w6,w7⟩:=bE (bI P v).2.1
      simp (config:=KF) (disch:=omega) only [bZ,retI,resI,resL,bP,aA,extV,bR,putS,Sf.set,Sf.reg,getR,setR,ae,Sf.disAt,bg,aU,aJ,List.getElem?_cons_zero,List.getElem?_cons_succ,List.all_cons,List.all_nil,↓reduceIte,Nat.reduceEqDiff,Bool.true_and,Bool.and_true,and_true,true_and,reduceCtorEq,decide_false,f26_13e,f26_14e,f26_15e,f26_15l,f26_16e,f26_19e,f26_20e,f26_20l,h16,w1,w3,w5]
      exact hQ _ _ ⟨rfl,h1⟩
  · rw [if_pos hc] at hR
    subst hR
    simp (config:=KF) (disch:=omega) only [bZ,retI,resI,resL,aA,gw,putS,Sf.set,Sf.reg,getR,setR,ae,Sf.disAt,aJ,List.all_cons,List.all_nil,↓reduceIte,Nat.reduceEqDiff,Bool.true_and,Bool.and_true,and_true,true_and,reduceCtorEq,not_false_eq_true,decide_true,f26_6e,f26_7e,f26_7l,f26_8e,f26_9e,f26_10e,f26_10l,hc]
    exact hQ _ _ ⟨rfl,h.post (Kp.refl _ _)⟩
end
end Go.Fx.YtohlpjfhkejjgaaFx

