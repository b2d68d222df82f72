/- What the functions that the statement reaches compute: part 23. -/
import Derived.Test.YtbdjfccgkdgbfaaFxW22
namespace Go.Fx.YtbdjfccgkdgbfaaFx
open Go Go.Fx
attribute [local irreducible] aC runI aE aY

set_option maxRecDepth 100000
set_option maxHeartbeats 4000000

/-! Results are compared. -/
theorem nX (l:List Nat):(itsV l).solid1 = true∧(itsV l).cells = [itsV l]∧∀ s,kill s (itsV l) = itsV l:=by
  unfold itsV; split <;> exact ⟨rfl,rfl,fun _=>rfl⟩
theorem same_pure {st:St} {v w:AV} {p q:List UInt8} (hv:DV v st p) (hw:DV w st q) (n m e f:Int) (b c:Bool) (l k:List Nat) (hl:l.length≤1000):ao Go.Proofs.Try.prog n_f20 [resA n b v (itsV l) e,resA m c w (itsV k) f] st (.lit (.bool (decide (n = m∧b = c∧p = q∧l = k∧e = f)))):=by
  obtain ⟨v1,v2,v3,v4,v5,v6,v7,v8⟩:=hv.facts
  obtain ⟨w1,w2,w3,w4,w5,w6,w7,w8⟩:=hw.facts
  obtain ⟨a1,a2,a3,a4⟩:=ez l
  obtain ⟨a5,a6,a7⟩:=nX l
  obtain ⟨b1,b2,b3,b4⟩:=ez k
  obtain ⟨b5,b6,b7⟩:=nX k
  refine al hmix k_f20 rfl rfl fun Q hQ=>?_
  unfold aFun c_f20
  unfold resA
  have hfin:∀ x,x = decide (n = m∧b = c∧p = q∧l = k∧e = f)→∀ st',Q (.lit (.bool x)) st':=fun x hx st'=>by rw [hx]; exact hQ st'
  simp (config:=KF) (disch:=omega) only [bZ,AI.dst,o_boxL,addA,ae,dH,fD,dM,↓reduceIte,Nat.reduceEqDiff,Nat.reduceAdd,reduceCtorEq,v2,v4,w2,w4,a3,a5,b3,b5]
  refine dA (fun h1=>?_) (fun h1=>?_)
  · by_cases h2:b = c
    · subst h2
      have hb:binI .bool .eql (.lit (.bool b)) (.lit (.bool b)) = .ok (.lit (.bool true)):=by cases b <;> rfl
      simp (config:=KF) (disch:=omega) only [bZ,AI.dst,aS,bw,addA,ae,id,↓reduceIte,Nat.reduceEqDiff,hb,v1,w1]
      refine ah (vs:=[v,w]) (by simp [v1,w1]) e_f16 (mF hv hw) (by simp [v5,w5]) ?_
      simp (config:=KF) (disch:=omega) only [bZ,AI.dst,bw,↓reduceIte,Nat.reduceEqDiff]
      refine dA (fun h3=>?_) (fun h3=>?_)
      · simp (config:=KF) (disch:=omega) only [bZ,AI.dst,aS,addA,ae,id,↓reduceIte,Nat.reduceEqDiff,a1,b1]
        refine ah (vs:=[itsV l,itsV k]) (by simp [a1,b1]) e_f43 (gR l k hl st) (by simp [a4,b4]) ?_
        simp (config:=KF) (disch:=omega) only [bZ,AI.dst,bw,↓reduceIte,Nat.reduceEqDiff]
        refine dA (fun h4=>?_) (fun h4=>?_)
        · simp (config:=KF) (disch:=omega) only [bZ,retI,AI.dst,aS,bw,addA,ae,↓reduceIte,Nat.reduceEqDiff]
          exact hfin _ (by simp [h1,h3,h4]) _
        · simp (config:=KF) (disch:=omega) only [bZ,retI,bk,AI.dst,↓reduceIte,Nat.reduceEqDiff]
          exact hfin _ (by simp [h4]) _
      · simp (config:=KF) (disch:=omega) only [bZ,retI,bk,AI.dst,↓reduceIte,Nat.reduceEqDiff]
        exact hfin _ (by simp [h3]) _
    · have hb:binI .bool .eql (.lit (.bool b)) (.lit (.bool c)) = .ok (.lit (.bool false)):=by cases b <;> cases c <;> first | rfl | exact absurd rfl h2
      simp (config:=KF) (disch:=omega) only [bZ,retI,bk,AI.dst,aS,bw,addA,ae,↓reduceIte,Nat.reduceEqDiff,hb]
      exact hfin _ (by simp [h2]) _
  · simp (config:=KF) (disch:=omega) only [bZ,retI,bk,AI.dst,↓reduceIte,Nat.reduceEqDiff]
    exact hfin _ (by simp [h1]) _

theorem none_calls (w t p n o:Int) (es:List AV) (st:St):am Go.Proofs.Try.prog n_f7 [actA w t p n o (.sl false 1 es)] st (fun v _=>v = .lit (.bool true)):=by
  refine ar hmix k_f7 rfl rfl fun Q hQ=>?_
  unfold aFun c_f7
  unfold actA
  simp (config:=KF) (disch:=omega) only [bZ,iu,o_boxL,j7,bstV,aU,dH,g6,dS,dM,↓reduceIte,Nat.reduceEqDiff,Nat.reduceAdd,reduceCtorEq]
  rw [f7_11w]
  obtain ⟨s1,hs1⟩:∃ s1,s1 = st.push (.cells (List.replicate 80 (.lit (.pointer none))++[AV.lit (.map none)])):=⟨_,rfl⟩
  have hz0:HZ (.lit (.pointer none)) s1:=.inl rfl
  have hz1:HZ (.ptr st.boxes.length 0) s1:=.inr ⟨_,rfl,by rw [hs1]; exact bI _ _⟩
  have hsame:ao Go.Proofs.Try.prog n_f20 [resA 0 false (.lit (.slice none 0 0)) (.lit (.slice none 0 0)) 1,resA 0 false (.lit (.slice none 0 0)) (.lit (.slice none 0 0)) 1] s1 (.lit (.bool true)) :=
    same_pure (v:=.lit (.slice none 0 0)) (w:=.lit (.slice none 0 0)) (.inl ⟨rfl,rfl⟩) (.inl ⟨rfl,rfl⟩) 0 0 1 1 false false [] [] (Nat.zero_le _)
  generalize st.boxes.length = z at hz1
  refine ff (A:=Nat) (fun a=>2 - a) (fun a=>⟨[(1,.lptr 1 0),(3,.lit (.pointer none)),(4,.ptr z 0),(5,.lit (.int .i64 (a:Nat)))],[(1,[.lit (.int .i64 w),.lit (.int .i64 t),.lit (.int .i64 p),.lit (.int .i64 n),.lit (.int .i64 o),.sl false 1 es])]⟩) (fun _=>s1)
    (fun a=>a≤2) 0 (Nat.zero_le _) (Sf.le_refl _) hs1.symm ?_
  intro i hi K hK hKe hKr
  obtain rfl | rfl | rfl:i = 0∨i = 1∨i = 2:=by omega
  · have hz:=hz0
    simp (config:=KF) (disch:=omega) only [bZ,ae,aM,id,g6,↓reduceIte,Nat.reduceEqDiff,Nat.reduceAdd,Nat.reduceLeDiff,Int.reduceLT,Int.reduceEq]
    refine ah (vs:=[.lit (.pointer none),actA w t p n o (.sl false 1 es)]) rfl e_f13 (z_do hz w t p n o es) rfl ?_
    simp (config:=KF) (disch:=omega) only [bZ,iu,bstV,aU,id,↓reduceIte,Nat.reduceEqDiff,Nat.reduceAdd,Nat.reduceLeDiff]
    refine ah rfl e_f20 hsame rfl ?_
    simp (config:=KF) (disch:=omega) only [bZ,AI.dst,o_un,addA,ae,unA,id,↓reduceIte,Nat.reduceEqDiff]
    refine ah rfl e_f15 (z_len hz n) rfl ?_
    simp (config:=KF) (disch:=omega) only [bZ,AI.dst,addA,ae,cT,id,↓reduceIte,Nat.reduceEqDiff,not_true_eq_false]
    refine ah rfl e_f14 (z_lost hz n) rfl ?_
    simp (config:=KF) (disch:=omega) only [bZ,AI.dst,addA,ae,cT,id,↓reduceIte,Nat.reduceEqDiff,not_true_eq_false]
    refine ah rfl e_f21 (nW hz p) rfl ?_
    simp (config:=KF) (disch:=omega) only [bZ,AI.dst,addA,ae,cT,id,↓reduceIte,Nat.reduceEqDiff,not_true_eq_false]
    refine ah rfl e_f22 (z_subs hz p) rfl ?_
    simp (config:=KF) (disch:=omega) only [bZ,AI.dst,cw,lenI,cT,id,↓reduceIte,Nat.reduceEqDiff,not_true_eq_false]
    refine ah rfl e_f19 (z_copy hz) rfl ?_
    simp (config:=KF) (disch:=omega) only [bZ,AI.dst,dZ,aW,aH,↓reduceIte,Nat.reduceEqDiff,Int.zero_add]
    exact hK 1 _ (by omega) (by omega) (Sf.le_refl _)
  · have hz:=hz1
    simp (config:=KF) (disch:=omega) only [bZ,ae,aM,id,g6,↓reduceIte,Nat.reduceEqDiff,Nat.reduceAdd,Nat.reduceLeDiff,Int.reduceLT]
    refine ah (vs:=[.ptr z 0,actA w t p n o (.sl false 1 es)]) rfl e_f13 (z_do hz w t p n o es) rfl ?_
    simp (config:=KF) (disch:=omega) only [bZ,iu,bstV,aU,id,↓reduceIte,Nat.reduceEqDiff,Nat.reduceAdd,Nat.reduceLeDiff]
    refine ah rfl e_f20 hsame rfl ?_
    simp (config:=KF) (disch:=omega) only [bZ,AI.dst,o_un,addA,ae,unA,id,↓reduceIte,Nat.reduceEqDiff]
    refine ah rfl e_f15 (z_len hz n) rfl ?_
    simp (config:=KF) (disch:=omega) only [bZ,AI.dst,addA,ae,cT,id,↓reduceIte,Nat.reduceEqDiff,not_true_eq_false]
    refine ah rfl e_f14 (z_lost hz n) rfl ?_
    simp (config:=KF) (disch:=omega) only [bZ,AI.dst,addA,ae,cT,id,↓reduceIte,Nat.reduceEqDiff,not_true_eq_false]
    refine ah rfl e_f21 (nW hz p) rfl ?_
    simp (config:=KF) (disch:=omega) only [bZ,AI.dst,addA,ae,cT,id,↓reduceIte,Nat.reduceEqDiff,not_true_eq_false]
    refine ah rfl e_f22 (z_subs hz p) rfl ?_
    simp (config:=KF) (disch:=omega) only [bZ,AI.dst,cw,lenI,cT,id,↓reduceIte,Nat.reduceEqDiff,not_true_eq_false]
    refine ah rfl e_f19 (z_copy hz) rfl ?_
    simp (config:=KF) (disch:=omega) only [bZ,AI.dst,dZ,aW,aH,↓reduceIte,Nat.reduceEqDiff,Int.reduceAdd]
    exact hK 2 _ (by omega) (by omega) (Sf.le_refl _)
  · simp (config:=KF) (disch:=omega) only [bZ,b9,dp,↓reduceIte,Nat.reduceEqDiff,Int.reduceLT]
    refine hKe _ _ _ ?_
    simp (config:=KF) (disch:=omega) only [bZ,bh,id,↓reduceIte]
    refine aG rfl e_f10 (known_calls s1) rfl fun v s2 hr=>?_
    obtain ⟨rfl,_⟩:=hr
    simp (config:=KF) (disch:=omega) only [bZ,retI,↓reduceIte,Nat.reduceEqDiff]
    exact hQ _ _ rfl

theorem jA {x:Int×Int×Int×Int×Int×List Int×Unit}:am Go.Proofs.Try.prog n_f7 [.agg [.lit (.int .i64 x.1),.lit (.int .i64 x.2.1),.lit (.int .i64 x.2.2.1),.lit (.int .i64 x.2.2.2.1),.lit (.int .i64 x.2.2.2.2.1),.sl false 1 (x.2.2.2.2.2.1.map fun i=>.lit (.int .u8 i))]] ⟨[]⟩ (fun v _=>v = .lit (.bool true)) :=
  none_calls _ _ _ _ _ _ _
end Go.Fx.YtbdjfccgkdgbfaaFx

