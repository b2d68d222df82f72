/- What the functions that the statement reaches compute: part 19. -/
import Derived.Test.YtbdjfccgkdgbfaaFxW18
namespace Go.Fx.YtbdjfccgkdgbfaaFx
open Go Go.Fx
attribute [local irreducible] aC runI az aA

set_option maxRecDepth 100000
set_option maxHeartbeats 4000000

/-! Items and bytes are compared. -/
theorem DV.conv {st:St} {v:AV} {p:List UInt8} (h:DV v st p) {K:AV→Prop} (hK:K (.lit (.string (str p)))):(gM st .bs v).wp K:=by
  rcases h with ⟨rfl,rfl⟩ | rfl | ⟨id,cap,r,rfl,hg,h1,h2⟩
  · exact hK
  · rw [conv_sl]; exact hK
  · have:gM st .bs (.bs id 1 0 p.length cap) = .req true (.ok (.lit (.string (str p)))):=by
      simp only [gM,if_true,cF,hg,jl,pJ,Nat.mul_one,Nat.zero_add,List.drop_zero]
      rw [lL (by simp [aJ]),show (BB p++r).take p.length = BB p from List.take_left' (aJ p)]
      simp [aJ,strOf_BB,Res.ofOpt,Res.bind]
    rw [this]
    exact ⟨rfl,hK⟩

theorem n_it_neq (x y:Nat):binI (.agg (.field 0 1 .int (.field 1 1 .int (.field 2 1 .int (.field 3 1 .int .tt))))) .neq (.agg [.lit (.int .i64 (x:Nat)),.lit (.int .i64 0),.lit (.int .i64 0),.lit (.int .i64 0)]) (.agg [.lit (.int .i64 (y:Nat)),.lit (.int .i64 0),.lit (.int .i64 0),.lit (.int .i64 0)]) = .ok (.lit (.bool (!decide (x = y)))):=by
  simp only [binI,eqI,l4,List.drop,List.take,Res.bind,andA]
  by_cases h1:x = y
  · simp [h1,andA,Res.bind]
  · simp [h1,andA,Res.bind]; omega
theorem nJ (l:List Nat) (st:St):lenI .sl st (itsV l) = .ok (.lit (.int .i64 (l.length:Nat))):=by
  unfold itsV
  split
  · rename_i h; rw [h]; rfl
  · rw [ik,List.length_map]
theorem iq (a b:List Nat) (ha:a.length≤1000) (st:St):aB Go.Proofs.Try.prog n_f43 [itsV a,itsV b] st (.lit (.bool (decide (a = b)))):=by
  obtain ⟨a1,a2,a3,a4⟩:=aR a
  obtain ⟨b1,b2,b3,b4⟩:=aR b
  refine aE hmix k_f43 rfl rfl fun Q hQ=>?_
  unfold aFun c_f43
  by_cases hl:a.length = b.length
  · simp (config:=KF) (disch:=omega) only [bZ,↓reduceIte,Nat.reduceEqDiff,reduceCtorEq,nJ,a1,b1]
    rw [f43_13w]
    refine bf (A:=Nat) (fun i=>a.length - i) (fun i=>⟨[(0,itsV a),(1,itsV b),(5,.lit (.int .i64 (i:Nat)))],[]⟩) (fun _=>st)
      (fun i=>i≤a.length∧a.take i = b.take i) 0 ⟨Nat.zero_le _,rfl⟩ (Sf.le_refl _) rfl ?_
    intro i hi K hK hKe hKr
    obtain ⟨h1,h2⟩:=hi
    by_cases h3:i < a.length
    · have hia:itsV a = .sl false 4 (a.map itA):=by unfold itsV; rw [if_neg (fun e=>by rw [e] at h3; simp at h3)]
      have hib:itsV b = .sl false 4 (b.map itA):=by unfold itsV; rw [if_neg (fun e=>by rw [hl,e] at h3; simp at h3)]
      have hga:(a.map itA).getD i .any = .agg [.lit (.int .i64 (a[i]:Nat)),.lit (.int .i64 0),.lit (.int .i64 0),.lit (.int .i64 0)]:=by
        rw [List.getD_eq_getElem?_getD,List.getElem?_map,List.getElem?_eq_getElem h3]; rfl
      have hgb:(b.map itA).getD i .any = .agg [.lit (.int .i64 (b[i]'(by omega):Nat)),.lit (.int .i64 0),.lit (.int .i64 0),.lit (.int .i64 0)]:=by
        rw [List.getD_eq_getElem?_getD,List.getElem?_map,List.getElem?_eq_getElem (by omega)]; rfl
      rw [hia,hib]
      have htk:a.take (i + 1) = a.take i++[a[i]]∧b.take (i + 1) = b.take i++[b[i]'(by omega)]:=⟨List.take_succ_eq_append_getElem h3,List.take_succ_eq_append_getElem (by omega)⟩
      have hcat:a[i] = b[i]'(by omega)→a.take (i + 1) = b.take (i + 1):=fun e=>by rw [htk.1,htk.2,h2,e]
      have hne:a[i]≠b[i]'(by omega)→a≠b:=fun e q=>e (by subst q; rfl)
      have hneq:=n_it_neq a[i] (b[i]'(by omega))
      generalize a[i] = x at hga hcat hne hneq
      generalize b[i]'(by omega) = y at hgb hcat hne hneq
      by_cases hxy:x = y
      · rw [decide_eq_true hxy] at hneq
        simp (config:=KF) (disch:=omega) only [bZ,jn,ixSV,lenI,aa,↓reduceIte,Nat.reduceEqDiff,Nat.reduceAdd,Nat.reduceLeDiff,reduceCtorEq,hga,hgb,hneq]
        rw [← hia,← hib]
        exact hK (i + 1) _ ⟨by omega,hcat hxy⟩ (by omega) (Sf.le_refl _)
      · rw [decide_eq_false hxy] at hneq
        rw [decide_eq_false (hne hxy)] at hQ
        simp (config:=KF) (disch:=omega) only [bZ,jn,ixSV,lenI,aa,↓reduceIte,Nat.reduceEqDiff,Nat.reduceAdd,Nat.reduceLeDiff,reduceCtorEq,hga,hgb,hneq]
        refine hKr _ _ ?_
        simp (config:=KF) (disch:=omega) only [bZ,retI,↓reduceIte]
        exact hQ _
    · obtain rfl:i = a.length:=by omega
      have he:a = b:=by rw [List.take_length,hl,List.take_length] at h2; exact h2
      rw [decide_eq_true he] at hQ
      simp (config:=KF) (disch:=omega) only [bZ,↓reduceIte,Nat.reduceEqDiff,reduceCtorEq,nJ,a1]
      refine hKe _ _ _ ?_
      simp (config:=KF) (disch:=omega) only [bZ,retI,↓reduceIte]
      exact hQ _
  · have he:a≠b:=fun e=>hl (by rw [e])
    rw [decide_eq_false he] at hQ
    simp (config:=KF) (disch:=omega) only [bZ,retI,↓reduceIte,Nat.reduceEqDiff,reduceCtorEq,nJ,a1,b1]
    exact hQ _

theorem nK {st:St} {v w:AV} {p q:List UInt8} (hv:DV v st p) (hw:DV w st q):aB Go.Proofs.Try.prog n_f16 [v,w] st (.lit (.bool (decide (p = q)))):=by
  obtain ⟨v1,v2,v3,v4,v5,v6,v7,v8⟩:=hv.facts
  obtain ⟨w1,w2,w3,w4,w5,w6,w7,w8⟩:=hw.facts
  refine aE hmix k_f16 rfl rfl fun Q hQ=>?_
  unfold aFun c_f16
  simp (config:=KF) (disch:=omega) only [bZ,pI,↓reduceIte,Nat.reduceEqDiff,reduceCtorEq,v1,w1]
  refine hv.conv ?_
  simp (config:=KF) (disch:=omega) only [bZ,pI,↓reduceIte,Nat.reduceEqDiff,reduceCtorEq,w1]
  refine hw.conv ?_
  simp (config:=KF) (disch:=omega) only [bZ,retI,↓reduceIte,Nat.reduceEqDiff,reduceCtorEq,pV]
  exact hQ _

theorem lQ (t:Int):∀ (k:Nat) (R:HR),(onR t k R).2.length≤k
  | 0,R=>Nat.le_refl _
  | k + 1, R => by
    unfold onR
    split
    · exact Nat.zero_le _
    · split
      · exact Nat.succ_le_succ (lQ t k _)
      · exact Nat.zero_le _
theorem pe (m:Int) (R:HR):(bd m R).2.2.1.length≤R.ws.length:=by
  unfold bd
  split
  · exact Nat.zero_le _
  · split
    · exact Nat.zero_le _
    · exact lQ _ _ _
theorem HubR.ws {st:St} {h wid n:Nat} {R:HR} {F:List Nat} (hh:HubR st h wid n R F):R.ws.length≤64:=by
  obtain ⟨L,Qs,M,W,j1,j2,j3,j4,j5⟩:=hh.ex
  rw [← j4,List.length_map]; exact j3.len
theorem reads_calls {st:St} {h wid n:Nat} {R:HR} {F:List Nat} (hh:HubR st h wid n R F) (hF:∀ x ∈ F,x < st.boxes.length) (m no:Int) (want:List UInt8) (its:List Nat) (hn:n < 900000) :
    al Go.Proofs.Try.prog n_f30 [.ptr h 0,.lit (.int .i64 m),.lit (.string (str want)),itsV its,.lit (.int .i64 no)] st (fun v st'=>v = .lit (.bool (decide ((bd m R).2.1 = want∧(bd m R).2.2.1 = its∧(bd m R).2.2.2 = no)))∧HubR st' h wid (n + 64) (bd m R).1 F∧Kp st st' F):=by
  obtain ⟨a1,a2,a3,a4⟩:=aR its
  refine aq hmix k_f30 rfl rfl fun Q hQ=>?_
  unfold aFun c_f30
  simp (config:=KF) (disch:=omega) only [bZ,id,↓reduceIte,Nat.reduceEqDiff,Nat.reduceAdd,reduceCtorEq,a1]
  refine au rfl e_f33 (nI hh hF m hn) rfl fun w s1 hr=>?_
  obtain ⟨w,rfl,hmb,hw,hh1,hk1⟩:=hr
  have hlen:(bd m R).2.2.1.length≤1000:=Nat.le_trans (pe m R) (by have:=hh.ws; omega)
  generalize bd m R = O at hQ hmb hh1 hlen
  obtain ⟨R1,p,l,e⟩:=O
  simp only at hQ hmb hh1 hlen
  obtain ⟨w1,w2,w3,w4,w5,w6,w7,w8⟩:=hmb.facts
  obtain ⟨t1,t2,t3,t4⟩:=aR l
  simp (config:=KF) (disch:=omega) only [bZ,pI,↓reduceIte,Nat.reduceEqDiff,reduceCtorEq,w1,w3,t1,t2]
  refine (DV.of_mb hmb).conv ?_
  have hfin:∀ b,b = decide (p = want∧l = its∧e = no)→Q (.lit (.bool b)) s1:=fun b hb=>hQ _ _ ⟨by rw [hb],hh1,hk1⟩
  by_cases c1:p = want
  · simp (config:=KF) (disch:=omega) only [bZ,AI.dst,id,↓reduceIte,Nat.reduceEqDiff,pV,fd,t1,a1]
    refine ak (vs:=[itsV l,itsV its]) (by simp [t1,a1]) e_f43 (iq l its hlen s1) (by simp [t4,a4]) ?_
    by_cases c2:l = its
    · simp (config:=KF) (disch:=omega) only [bZ,retI,AI.dst,↓reduceIte,Nat.reduceEqDiff,fd]
      exact hfin _ (by simp [c1,c2])
    · simp (config:=KF) (disch:=omega) only [bZ,retI,AI.dst,↓reduceIte,Nat.reduceEqDiff,bW]
      exact hfin _ (by simp [c2])
  · simp (config:=KF) (disch:=omega) only [bZ,retI,AI.dst,↓reduceIte,Nat.reduceEqDiff,pV,bW]
    exact hfin _ (by simp [c1])
end Go.Fx.YtbdjfccgkdgbfaaFx

