/- What the functions that the statement reaches compute: part 22. -/
import Derived.Test.YtbdjfccgkdgbfaaFxW21
namespace Go.Fx.YtbdjfccgkdgbfaaFx
open Go Go.Fx
attribute [local irreducible] aC runI aD bf

set_option maxRecDepth 100000
set_option maxHeartbeats 4000000

/-! A full hub. -/
def mkS (i:Nat):Sb:=⟨i,((i % 16:Nat):Int),4096 - i,((1 + i % 3:Nat):Int),[],0⟩
def d9 (i:Nat):HR:=⟨(List.range i).map mkS,[]⟩
theorem nS (i:Nat) (subs:List Sb) (h1:∀ k,k < i→hasN k subs = true) (h2:hasN i subs = false):∀ (f k:Nat),k≤i→i≤k + f→io f k subs = i
  | 0,k,a,b=>by unfold io; omega
  | f + 1, k, a, b => by
    unfold io
    by_cases hk:k = i
    · subst hk
      rw [if_neg (by rw [h2]; simp)]
    · rw [if_pos (h1 k (by omega))]
      exact nS i subs h1 h2 f (k + 1) (by omega) (by omega)
theorem full_has (i k:Nat):hasN k ((List.range i).map mkS) = decide (k < i):=by
  unfold hasN
  rw [List.any_map]
  by_cases h:k < i
  · rw [decide_eq_true h,List.any_eq_true]
    exact ⟨k,List.mem_range.2 h,by simp [mkS]⟩
  · rw [decide_eq_false h,List.any_eq_false]
    intro x hx
    have:=List.mem_range.1 hx
    show ¬ (decide (x = k) = true)
    rw [decide_eq_true_eq]; omega
theorem full_step {i:Nat} (hi:i < 64):rSub ((i:Int) % 16) ((4096 - i:Nat):Int) (1 + (i:Int) % 3) (d9 i) = (d9 (i + 1),(i:Int),0):=by
  have hf:io 64 0 (d9 i).subs = i:=nS i _ (fun k hk=>by rw [show (d9 i).subs = (List.range i).map mkS from rfl,full_has]; exact decide_eq_true hk) (by rw [show (d9 i).subs = (List.range i).map mkS from rfl,full_has]; exact decide_eq_false (by omega)) 64 0 (by omega) (by omega)
  unfold rSub
  rw [if_neg (by omega),if_neg (by simp [d9]; omega),hf]
  have hm:(⟨i,(i:Int) % 16,((4096 - i:Nat):Int).toNat,1 + (i:Int) % 3,[],0⟩:Sb) = mkS i:=by
    unfold mkS
    congr 1
  rw [hm]
  have hins:insR (mkS i) (d9 i).subs = (d9 (i + 1)).subs:=by
    unfold insR d9
    simp only
    rw [List.filter_eq_self.2,List.filter_eq_nil_iff.2,List.range_succ,List.map_append]
    · rfl
    · intro S hS
      obtain ⟨k,hk,rfl⟩:=List.mem_map.1 hS
      have:=List.mem_range.1 hk
      show ¬ (decide (i < k) = true)
      rw [decide_eq_true_eq]; omega
    · intro S hS
      obtain ⟨k,hk,rfl⟩:=List.mem_map.1 hS
      exact decide_eq_true (List.mem_range.1 hk)
  rw [hins]
  rfl
theorem full_end:rSub 0 3 3 (d9 64) = (d9 64,0,7):=by
  unfold rSub
  rw [if_neg (by omega),if_pos (by simp [d9])]
theorem full_free:∀ f:_root_.Fin 64,(dP (f.val:Int) (d9 64)).2.2 = 0∧(rSub 15 3 3 (dP (f.val:Int) (d9 64)).1).2 = ((f.val:Int),0):=by decide +kernel

theorem kQ (free:Nat) (hf:free < 256) (st:St):ak Go.Proofs.Try.prog n_f3 [.lit (.int .u8 (free:Nat))] st (fun v _=>v = .lit (.bool true)):=by
  refine am hmix k_f3 rfl rfl fun Q hQ=>?_
  unfold aFun c_f3
  simp (config:=KF) (disch:=omega) only [bZ,id,↓reduceIte,reduceCtorEq]
  refine aq rfl e_f8 (kNew st) rfl fun v t1 hr=>?_
  obtain ⟨h,rfl,h1⟩:=hr
  simp (config:=KF) (disch:=omega) only [bZ,cx,a9,aM,↓reduceIte,Nat.reduceEqDiff,reduceCtorEq]
  rw [f3_15w]
  refine e8 (A:=Nat×St) (fun a=>64 - a.1) (fun a=>⟨[(0,.lit (.int .u8 (free:Nat))),(3,.ptr h 0),(4,.lit (.int .i64 (a.1:Nat)))],[]⟩) (fun a=>a.2)
    (fun a=>a.1≤64∧HubK st a.2 h 0 (d9 a.1)) (0,t1) ⟨Nat.zero_le _,h1⟩ (Sf.le_refl _) rfl ?_
  rintro ⟨i,s1⟩ ⟨i1,i2⟩ K hK hKe hKr
  simp only at i1 i2
  dsimp only
  by_cases hi:i < 64
  · have hs:=kSub i2 ((i:Int) % 16) ((4096 - i:Nat):Int) (1 + (i:Int) % 3)
    rw [full_step hi] at hs
    simp (config:=KF) (disch:=omega) only [bZ,kJ,id,↓reduceIte,Nat.reduceEqDiff,reduceCtorEq,bE,n_rem,IntWalk.rem_in,up_subR]
    refine aq rfl e_f9 hs rfl fun v s2 hr=>?_
    obtain ⟨rfl,h2⟩:=hr
    simp (config:=KF) (disch:=omega) only [bZ,AI.dst,cO,extV,dG,aU,↓reduceIte,Nat.reduceEqDiff,reduceCtorEq,not_true_eq_false,b8]
    exact hK (i + 1,s2) _ ⟨by simp only; omega,h2⟩ (by simp only; omega) (Sf.le_refl _)
  · obtain rfl:i = 64:=by omega
    simp (config:=KF) (disch:=omega) only [bZ,bX,dk,↓reduceIte,Nat.reduceEqDiff,Int.reduceLT,reduceCtorEq]
    refine hKe _ _ _ ?_
    simp (config:=KF) (disch:=omega) only [bZ,bd,id,↓reduceIte,Nat.reduceEqDiff,reduceCtorEq]
    have hs:=kSub i2 0 3 3
    rw [full_end] at hs
    refine aq rfl e_f9 hs rfl fun v s2 hr=>?_
    obtain ⟨rfl,h2⟩:=hr
    by_cases hf63:63 < free
    · simp (config:=KF) (disch:=omega) only [bZ,AI.dst,bz,cO,extV,cP,dG,fA,id,aU,↓reduceIte,Nat.reduceEqDiff,reduceCtorEq,not_true_eq_false,bE]
      refine aq rfl e_f10 (kK s2) rfl fun v s3 hr=>?_
      obtain ⟨rfl,_⟩:=hr
      simp (config:=KF) (disch:=omega) only [bZ,retI,ce,↓reduceIte,Nat.reduceEqDiff,reduceCtorEq]
      exact hQ _ _ rfl
    · obtain ⟨f1,f2⟩:=full_free ⟨free,by omega⟩
      simp only at f1 f2
      simp (config:=KF) (disch:=omega) only [bZ,AI.dst,oA,cO,extV,eW,dG,fA,id,aU,↓reduceIte,Nat.reduceEqDiff,reduceCtorEq,not_true_eq_false,bI]
      have hl:=kLeave h2 (free:Int) (by omega)
      rw [f1] at hl
      refine aq rfl e_f11 hl rfl fun v s3 hr=>?_
      obtain ⟨rfl,h3⟩:=hr
      obtain ⟨t1,t2,t3,t4⟩:=er (dP (free:Int) (d9 64)).2.1
      simp (config:=KF) (disch:=omega) only [bZ,cO,extV,id,aU,↓reduceIte,Nat.reduceEqDiff,reduceCtorEq,t1,t2]
      have hs2:=kSub h3 15 3 3
      rw [f2] at hs2
      refine aq rfl e_f9 hs2 rfl fun v s4 hr=>?_
      obtain ⟨rfl,h4⟩:=hr
      simp (config:=KF) (disch:=omega) only [bZ,AI.dst,bz,oA,cO,ce,extV,eW,cP,id,aU,↓reduceIte,Nat.reduceEqDiff,reduceCtorEq]
      refine aq rfl e_f10 (kK s4) rfl fun v s5 hr=>?_
      obtain ⟨rfl,_⟩:=hr
      simp (config:=KF) (disch:=omega) only [bZ,retI,ce,↓reduceIte,Nat.reduceEqDiff,reduceCtorEq]
      exact hQ _ _ rfl

theorem jt {m:Int} (hm:0≤m∧m≤255):ak Go.Proofs.Try.prog n_f3 [.lit (.int .u8 m)] ⟨[]⟩ (fun v _=>v = .lit (.bool true)):=by
  obtain ⟨k,rfl⟩:∃ k:Nat,m = (k:Int):=⟨m.toNat,by omega⟩
  exact kQ k (by omega) _
end Go.Fx.YtbdjfccgkdgbfaaFx

