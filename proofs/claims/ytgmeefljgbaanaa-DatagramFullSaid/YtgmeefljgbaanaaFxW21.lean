/- What the functions that the statement reaches compute: part 21. -/
import Derived.Test.YtgmeefljgbaanaaFxW20
namespace Go.Fx.YtgmeefljgbaanaaFx
open Go Go.Fx
attribute [local irreducible] aC runI aD bJ

set_option maxRecDepth 100000
set_option maxHeartbeats 4000000

/-! A full net. -/
abbrev nX:ByteArray:=⟨#[120]⟩
abbrev nY:ByteArray:=⟨#[121]⟩
def mkS (i:Nat):Sk:=⟨i,nX,65535 - (i:Int),256,65536,2,1,[],0,0⟩
def d6 (i:Nat):NR:=⟨0,(List.range i).map mkS,[]⟩
theorem full_at (i k:Nat):atS (k:Int) ((List.range i).map mkS) = if k < i then some (mkS k) else none:=by
  have hs:((List.range i).map mkS).Pairwise fun S T=>S.num < T.num:=by
    rw [List.pairwise_map]
    exact List.pairwise_lt_range
  by_cases h:k < i
  · rw [if_pos h]
    exact fF hs (List.mem_map.2 ⟨k,List.mem_range.2 h,rfl⟩)
  · rw [if_neg h]
    refine ib fun S hS=>?_
    obtain ⟨j,hj,rfl⟩:=List.mem_map.1 hS
    have:=List.mem_range.1 hj
    show ((j:Nat):Int)≠_
    omega
theorem oO (i:Nat) (l:List Sk) (h1:∀ k,k < i→(atS (k:Int) l).isSome = true) (h2:atS (i:Int) l = none):∀ (f k:Nat),k≤i→i≤k + f→iR l f k = i
  | 0,k,a,b=>by unfold iR; omega
  | f + 1, k, a, b => by
    unfold iR
    by_cases hk:k = i
    · subst hk
      rw [h2]; rfl
    · rw [if_pos (h1 k (by omega))]
      exact oO i l h1 h2 f (k + 1) (by omega) (by omega)
theorem vX:gz nX = true:=rfl
theorem full_step {i:Nat} (hi:i < 64):ei nX (65535 - (i:Int)) 256 65536 2 1 (d6 i) = (d6 (i + 1),(i:Int),0):=by
  have hf:iR (d6 i).socks 64 0 = i:=oO i _ (fun k hk=>by rw [show (d6 i).socks = (List.range i).map mkS from rfl,full_at,if_pos hk]; rfl) (by rw [show (d6 i).socks = (List.range i).map mkS from rfl,full_at,if_neg (by omega)]) 64 0 (by omega) (by omega)
  have hva:fu nX (65535 - (i:Int)) = true:=by
    unfold fu
    rw [vX,decide_eq_true (by omega),decide_eq_true (by omega)]; rfl
  have ho:ofS nX (65535 - (i:Int)) (d6 i).socks = none:=jT fun T hT=>by
    obtain ⟨j,hj,rfl⟩:=List.mem_map.1 hT
    have:=List.mem_range.1 hj
    show ¬ (_∧65535 - (j:Int) = _)
    omega
  unfold ei
  rw [if_neg (by simp [hva]),ho,hf]
  rw [if_neg (by simp),if_neg (by simp [d6]; omega)]
  have hins:insS (mkS i) (d6 i).socks = (d6 (i + 1)).socks:=by
    unfold insS d6
    simp only
    rw [List.filter_eq_self.2,List.filter_eq_nil_iff.2,List.range_succ,List.map_append]
    · rfl
    · intro S hS
      obtain ⟨k,hk,rfl⟩:=List.mem_map.1 hS
      have:=List.mem_range.1 hk
      show ¬ (decide (i < k) = true)
      rw [decide_eq_true_eq]; omega
    · intro S hS
      obtain ⟨k,hk,rfl⟩:=List.mem_map.1 hS
      exact decide_eq_true (List.mem_range.1 hk)
  have hm:(⟨i,nX,65535 - (i:Int),(256:Int).toNat,(65536:Int).toNat,2,1,[],0,0⟩:Sk) = mkS i:=rfl
  rw [hm,hins]
  rfl
theorem full_end:ei nY 1 1 0 1 0 (d6 64) = (d6 64,0,7):=by
  have hva:fu nY 1 = true:=rfl
  have ho:ofS nY 1 (d6 64).socks = none:=jT fun T hT=>by
    obtain ⟨j,hj,rfl⟩:=List.mem_map.1 hT
    have:=List.mem_range.1 hj
    show ¬ (_∧65535 - (j:Int) = _)
    omega
  unfold ei
  rw [if_neg (by simp [hva]),ho,if_neg (by simp),if_pos (by simp [d6])]
theorem full_free:∀ f:_root_.Fin 64,(fE (f.val:Int) (d6 64)).2.2 = 0∧(fE (f.val:Int) (d6 64)).2.1.length = 0∧(ei nY 1 1 0 1 0 (fE (f.val:Int) (d6 64)).1).2 = ((f.val:Int),0):=by decide +kernel

theorem full_calls (free:Nat) (hf:free < 256) (st:St):am Go.Proofs.Try.prog n_f3 [.lit (.int .u8 (free:Nat))] st (fun v _=>v = .lit (.bool true)):=by
  refine au hmix k_f3 rfl rfl fun Q hQ=>?_
  unfold aFun c_f3
  simp (config:=KF) (disch:=omega) only [bZ,id,↓reduceIte,reduceCtorEq]
  refine aO rfl e_f8 (kNew st 0 (by omega)) rfl fun v t1 hr=>?_
  obtain ⟨n,rfl,h1⟩:=hr
  simp (config:=KF) (disch:=omega) only [bZ,AI.dst,bB,aZ,aG,dw,bA,own2_ptr,↓reduceIte,Nat.reduceEqDiff,reduceCtorEq,not_true_eq_false,decide_false]
  rw [f3_15w]
  refine eu (A:=Nat×St) (fun a=>64 - a.1) (fun a=>⟨[(0,.lit (.int .u8 (free:Nat))),(3,.ptr n 0),(5,.lit (.int .i64 (a.1:Nat)))],[]⟩) (fun a=>a.2)
    (fun a=>a.1≤64∧NetK st a.2 n a.1 (d6 a.1)) (0,t1) ⟨Nat.zero_le _,h1⟩ (by simp (config:=KF) (disch:=omega) only [bZ,↓reduceIte,Nat.reduceEqDiff,reduceCtorEq]; exact Sf.le_refl _) rfl fun a ha K hK hKe hKr=>?_
  obtain ⟨i,s1⟩:=a
  obtain ⟨i1,i2⟩:=ha
  simp only at i1 i2
  by_cases hi:i < 64
  · have hs:=kBind i2 nX (65535 - (i:Int)) 256 65536 2 1 (by decide) (by omega)
    rw [full_step hi] at hs
    have had:=eH s1 nX (65535 - (i:Int))
    unfold adAV at had hs
    simp (config:=KF) (disch:=omega) only [bZ,n_sub,eW,id,↓reduceIte,Nat.reduceEqDiff,reduceCtorEq,g6]
    refine aE rfl e_f10 had rfl ?_
    simp (config:=KF) (disch:=omega) only [bZ,id,↓reduceIte,Nat.reduceEqDiff,reduceCtorEq]
    refine aO rfl e_f9 hs rfl fun v s2 hr=>?_
    obtain ⟨rfl,h2⟩:=hr
    simp (config:=KF) (disch:=omega) only [bZ,al,AI.dst,fo,dw,bA,↓reduceIte,Nat.reduceEqDiff,reduceCtorEq,not_true_eq_false,decide_false,dg,up_subR]
    exact hK (i + 1,s2) _ ⟨by simp only; omega,h2⟩ (by simp only; omega) (Sf.le_refl _)
  · obtain rfl:i = 64:=by omega
    simp (config:=KF) (disch:=omega) only [bZ,b9,de,eW,↓reduceIte,Nat.reduceEqDiff,Int.reduceLT,reduceCtorEq,decide_false]
    refine hKe _ _ _ ?_
    simp (config:=KF) (disch:=omega) only [bZ,bp,id,↓reduceIte,Nat.reduceEqDiff,reduceCtorEq]
    have had:=eH s1 nY 1
    have hs:=kBind i2 nY 1 1 0 1 0 (by decide) (by omega)
    rw [full_end] at hs
    unfold adAV at had hs
    refine aE rfl e_f10 had rfl ?_
    simp (config:=KF) (disch:=omega) only [bZ,id,↓reduceIte,Nat.reduceEqDiff,reduceCtorEq]
    refine aO rfl e_f9 hs rfl fun v s2 hr=>?_
    obtain ⟨rfl,h2⟩:=hr
    by_cases hf63:63 < free
    · simp (config:=KF) (disch:=omega) only [bZ,AI.dst,dw,fp,id,bA,↓reduceIte,Nat.reduceEqDiff,reduceCtorEq,not_true_eq_false,decide_false,g6]
      refine aO rfl e_f11 (lw s2) rfl fun v s3 hr=>?_
      obtain ⟨rfl,_⟩:=hr
      simp (config:=KF) (disch:=omega) only [bZ,retI,↓reduceIte,Nat.reduceEqDiff,reduceCtorEq]
      exact hQ _ _ rfl
    · obtain ⟨f1,f2,f3⟩:=full_free ⟨free,by omega⟩
      simp only at f1 f2 f3
      simp (config:=KF) (disch:=omega) only [bZ,AI.dst,mB,gu,dw,fp,id,bA,↓reduceIte,Nat.reduceEqDiff,reduceCtorEq,not_true_eq_false,decide_false,eo]
      have hl:=kClose h2 (free:Int) (by omega)
      rw [f1] at hl
      refine aO rfl e_f12 hl rfl fun v s3 hr=>?_
      obtain ⟨av,P,rfl,ha,h3⟩:=hr
      obtain ⟨t1,t2,t3,t4,t5,t6,t7,t8⟩:=ha.facts
      rw [f2] at t8
      simp (config:=KF) (disch:=omega) only [bZ,id,bA,↓reduceIte,Nat.reduceEqDiff,reduceCtorEq,t1,t3]
      have had:=eH s3 nY 1
      have hs2:=kBind h3 nY 1 1 0 1 0 (by decide) (by omega)
      rw [f3] at hs2
      unfold adAV at had hs2
      refine aE rfl e_f10 had rfl ?_
      simp (config:=KF) (disch:=omega) only [bZ,id,↓reduceIte,Nat.reduceEqDiff,reduceCtorEq]
      refine aO rfl e_f9 hs2 rfl fun v s4 hr=>?_
      obtain ⟨rfl,h4⟩:=hr
      simp (config:=KF) (disch:=omega) only [bZ,AI.dst,mB,d5,gu,id,bA,↓reduceIte,Nat.reduceEqDiff,reduceCtorEq,t1,t8]
      refine aO rfl e_f11 (lw s4) rfl fun v s5 hr=>?_
      obtain ⟨rfl,_⟩:=hr
      simp (config:=KF) (disch:=omega) only [bZ,retI,↓reduceIte,Nat.reduceEqDiff,reduceCtorEq]
      exact hQ _ _ rfl

theorem kN {m:Int} (hm:0≤m∧m≤255):am Go.Proofs.Try.prog n_f3 [.lit (.int .u8 m)] ⟨[]⟩ (fun v _=>v = .lit (.bool true)):=by
  obtain ⟨k,rfl⟩:∃ k:Nat,m = (k:Int):=⟨m.toNat,by omega⟩
  exact full_calls k (by omega) _
end Go.Fx.YtgmeefljgbaanaaFx

