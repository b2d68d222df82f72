/- What the functions that the statement reaches compute: part 8. -/
import Derived.Test.YtgmeefljgbaanaaFxW7
namespace Go.Fx.YtgmeefljgbaanaaFx
open Go Go.Fx
attribute [local irreducible] aC runI aF a9

set_option maxRecDepth 100000
set_option maxHeartbeats 4000000

/-! A clone. -/
theorem clone_pure (st:St) {v:AV} {p:List UInt8} (hv:DV v st p) (hp:p.length≤100000):az Go.Proofs.Try.prog n_f53 [v] st (.sl false 1 (BB p)):=by
  obtain ⟨v1,v2,v3,v4,v5,v6,v7,v8⟩:=hv.facts
  have hsrc:∀ K:List AV→Prop,K (BB p)→(srcA st 1 v).wp K:=fun K hK=>DV.src hv hK
  have hnb:(AV.sl false 1 (BB p)).NB:=.sl _ _ _ fun c hc=>by
    obtain ⟨x,_,rfl⟩:=List.mem_map.1 hc
    exact .lit _
  rcases hv with ⟨rfl,rfl⟩ | rfl | ⟨bi,cap,r,rfl,hg,h1,h2⟩
  · refine pure_lev hmix k_f53 rfl rfl hnb (by simp [nb_lit]) (fun Q hQ=>?_) st
    unfold aFun c_f53
    simp (config:=KF) (disch:=omega) only [bZ,retI,cg,p7,o_x,aH,nilX_nil,br,aJ,↓reduceIte,Nat.reduceEqDiff,reduceCtorEq]
    exact hQ _ _ (.nil _ _)
  · refine pure_lev hmix k_f53 rfl rfl hnb (by simp; exact hnb) (fun Q hQ=>?_) st
    unfold aFun c_f53
    cases p with
    | nil =>
      simp (config:=KF) (disch:=omega) only [bZ,cg,o_x,aH,np,↓reduceIte,Nat.reduceEqDiff,reduceCtorEq,BB_nil]
      intro b
      cases b
      · simp (config:=KF) (disch:=omega) only [bZ,retI,eI,cQ,bslV,dJ,List.replicate_zero,ce,srcA,cD,m9,lc,List.nil_append,↓reduceIte,Nat.reduceEqDiff,reduceCtorEq,bX]
        exact hQ _ _ (.own _ _)
      · simp (config:=KF) (disch:=omega) only [bZ,retI,↓reduceIte,Nat.reduceEqDiff,reduceCtorEq]
        exact hQ _ _ (.nil _ _)
    | cons x r =>
      rw [List.length_cons] at hp
      simp (config:=KF) (disch:=omega) only [bZ,retI,cg,p7,eI,cQ,o_x,bslV,dJ,aH,o8,br,aJ,List.isEmpty_cons,List.replicate_zero,ce,srcA,cD,m9,lc,List.nil_append,↓reduceIte,Nat.reduceEqDiff,reduceCtorEq,bD,BB_dis,mc,bX]
      exact hQ _ _ (.own _ _)
  · refine az.weak (v:=.sl true 1 (BB p)) (aB hmix k_f53 rfl rfl fun Q hQ=>?_) (mI _) (.own _ _)
    unfold aFun c_f53
    simp (config:=KF) (disch:=omega) only [bZ,retI,cg,p7,eI,cQ,o_x,bslV,dJ,aH,nilX_bs,br,aJ,List.replicate_zero,ce,cD,m9,nc,List.nil_append,↓reduceIte,Nat.reduceEqDiff,reduceCtorEq]
    rw [Res.wp_bind]
    refine hsrc _ ?_
    simp (config:=KF) (disch:=omega) only [bZ,lc,bD,BB_dis,bX]
    exact hQ _

/-- A clone in a buffer of its own. -/
theorem qx (st:St) (d:List UInt8) (hd:d.length≤100000):ao Go.Proofs.Try.prog n_f1053 [.sl false 1 (BB d)] st
    (fun w st'=>MB w st' (BB d)∧Kp st st' []∧∀ x ∈ ae w,st.boxes.length≤x):=by
  refine aA hmix k_f1053 rfl rfl fun Q hQ=>?_
  unfold aFun c_f1053
  have hfin:∀ v' st',MB v' st' ([]++BB d)→Kp (st.push (.cells [])) st' (ae (.bs st.boxes.length 1 0 0 0))→(∀ x ∈ ae v',x ∈ ae (.bs st.boxes.length 1 0 0 0)∨(st.push (.cells [])).boxes.length≤x)→Q v' st':=fun v' st' m1 m2 m3=>by
    refine hQ v' st' ⟨m1,⟨by have:=m2.1; rw [aI] at this; omega,fun i hi _=>?_⟩,fun x hx=>?_⟩
    · rw [m2.2 i (by rw [aI]; omega) (by simp [ae]; omega)]
      exact bE hi
    · rcases m3 x hx with m | m
      · simp only [ae,List.mem_singleton] at m
        omega
      · rw [aI] at m; omega
  have hb:MB (.bs st.boxes.length 1 0 0 0) (st.push (.cells [])) []:=.inr ⟨st.boxes.length,0,[],rfl,bL st [],Nat.le_refl _,by simp⟩
  have hlit:Lits (BB d):=Lits.map _ d
  have hroom:fR (([]:List AV).length + (BB d).length) 1 = true:=by
    unfold fR; simp [bD]; omega
  have hstep:∀ K:AV→St→Prop,(∀ v' st',MB v' st' ([]++BB d)→K v' st' )→True:=fun _ _=>trivial
  have hrest:∀ C:AV→St→Prop,(∀ v' st',MB v' st' ([]++BB d)→Q v' st'→C v' st')→appX false 1 1 (.bs st.boxes.length 1 0 0 0) C (st.push (.cells [])) (BB d):=fun C hC =>
    MB.grow hb (fun x hx=>by simp at hx) hlit hroom fun v' st' m1 m2 m3=>hC v' st' m1 (hfin v' st' m1 m2 m3)
  cases d with
  | nil =>
    simp (config:=KF) (disch:=omega) only [bZ,cg,o_x,aH,np,↓reduceIte,Nat.reduceEqDiff,reduceCtorEq,BB_nil]
    intro b
    cases b
    · simp (config:=KF) (disch:=omega) only [bZ,cg,o_x,aH,List.replicate_zero,srcA,↓reduceIte,Nat.reduceEqDiff,Int.reduceLE,Int.reduceMul,reduceCtorEq,mO,List.flatMap_nil]
      refine hrest _ fun v' st' m1 m2=>?_
      obtain ⟨w1,w2,w3,w4,w5,w6,w7,w8⟩:=m1.facts
      simp (config:=KF) (disch:=omega) only [bZ,retI,cg,↓reduceIte,Nat.reduceEqDiff,reduceCtorEq,w1,w5]
      exact m2
    · simp (config:=KF) (disch:=omega) only [bZ,retI,↓reduceIte,Nat.reduceEqDiff,reduceCtorEq]
      exact hQ _ _ ⟨.inl ⟨rfl,rfl⟩,Kp.refl _ _,by simp [ae]⟩
  | cons x r =>
    simp (config:=KF) (disch:=omega) only [bZ,cg,p7,o_x,aH,o8,br,aJ,List.isEmpty_cons,List.replicate_zero,srcA,↓reduceIte,Nat.reduceEqDiff,Int.reduceLE,Int.reduceMul,reduceCtorEq,mc,mO,List.flatMap_nil]
    refine hrest _ fun v' st' m1 m2=>?_
    obtain ⟨w1,w2,w3,w4,w5,w6,w7,w8⟩:=m1.facts
    simp (config:=KF) (disch:=omega) only [bZ,retI,cg,↓reduceIte,Nat.reduceEqDiff,reduceCtorEq,w1,w5]
    exact m2

/-! What is received. -/
def rcAV (t:Int) (nm:ByteArray) (port:Int) (w:AV) (at_:Nat) (cut:Bool) (err:Int):AV:=.agg [.lit (.int .i64 t),.lit (.string nm),.lit (.int .i64 port),w,.lit (.int .u64 (at_:Nat)),.lit (.bool cut),.lit (.int .i64 err)]
def cutN (most:Int) (d:List UInt8):Nat:=if most < (d.length:Int) then most.toNat else d.length
theorem cutN_le (most:Int) (d:List UInt8):cutN most d≤d.length:=by unfold cutN; split <;> omega
theorem ly (st:St) (p:Pk) (t most:Int) (h0:0≤most) (hp:p.data.length≤100000) :
    ao Go.Proofs.Try.prog n_f49 [.lit (.int .i64 t),pkAV p,.lit (.int .i64 most)] st
      (fun v st'=>∃ w,v = rcAV t p.nm p.port w p.at_ (decide (most < (p.data.length:Int))) 0∧MB w st' (BB (p.data.take (cutN most p.data)))∧Kp st st' []∧∀ x ∈ ae w,st.boxes.length≤x):=by
  refine aA hmix k_f49 rfl rfl fun Q hQ=>?_
  unfold aFun c_f49 pkAV
  have hcl:=cutN_le most p.data
  have hmn:(if (p.data.length:Int) < most then (p.data.length:Int) else most) = ((cutN most p.data:Nat):Int):=by
    unfold cutN; split <;> split <;> omega
  have hcc:decide (((cutN most p.data:Nat):Int) < (p.data.length:Int)) = decide (most < (p.data.length:Int)):=decide_eq_decide.2 (by unfold cutN; split <;> omega)
  simp (config:=KF) (disch:=omega) only [bZ,o_sliS,d5,o_mn,bU,fo,iq,bstV,al,ixTo,lenI,addA,aa,aP,gf,id,dh,aS,eT,Option.map_some,Option.map_none,↓reduceIte,Nat.reduceEqDiff,Nat.reduceAdd,Nat.reduceLeDiff,reduceCtorEq,bD,iO,ma,bV,bW,hmn,hcc]
  refine aq rfl e_f1053 (qx st _ (by rw [List.length_take]; omega)) rfl fun w st1 hr=>?_
  obtain ⟨m1,m2,m3⟩:=hr
  obtain ⟨w1,w2,w3,w4,w5,w6,w7,w8⟩:=m1.facts
  simp (config:=KF) (disch:=omega) only [bZ,retI,al,addA,aa,bk,↓reduceIte,Nat.reduceEqDiff,Nat.reduceAdd,Nat.reduceLeDiff,w1,w2,w4,w6]
  exact hQ _ _ ⟨w,rfl,m1,m2,m3⟩
end Go.Fx.YtgmeefljgbaanaaFx

