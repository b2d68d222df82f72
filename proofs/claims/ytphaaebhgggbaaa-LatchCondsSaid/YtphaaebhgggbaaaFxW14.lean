/- What the functions that the statement reaches compute: part 14. -/
import Derived.Test.YtphaaebhgggbaaaFxW13
namespace Go.Fx.YtphaaebhgggbaaaFx
open Go Go.Fx
attribute [local irreducible] aC runI bD cO

set_option maxRecDepth 100000
set_option maxHeartbeats 8000000

/-! The reference's lists, and what LatchHolds asks of the calls. -/
theorem lN (l:List Int) (n:Int) (hl:l.length≤1000000) (st:St):bg Go.Proofs.Try.prog n_f22 [.sl false 1 (ints l),.lit (.int .i64 n)] st (.lit (.bool (decide (n ∈ l)))):=by
  refine cc hmix k_f22 rfl rfl fun Q hQ=>?_
  unfold aFun c_f22
  have ll:=cM l
  simp (config:=KF) (disch:=omega) only [bZ,putS,Sf.set,getR,setR,aa,aO,aI,↓reduceIte,Nat.reduceEqDiff,reduceCtorEq,Nat.zero_add,f22_1e,f22_2e,f22_2l,f22_3e,f22_4e,f22_5e,f22_5l,f22_6e]
  rw [f22_7w]
  refine ef (A:=Nat) (fun a=>l.length - a) (fun a=>⟨[(0,.sl false 1 (ints l)),(1,.lit (.int .i64 n)),(5,.lit (.int .i64 (a:Nat)))],[]⟩) (fun _=>st)
    (fun a=>a≤l.length∧n ∉ l.take a) 0 ⟨by omega,by simp⟩ (Sf.le_refl _) rfl ?_
  rintro i ⟨h1,h2⟩ K hK hKe hKr
  by_cases h:i < l.length
  · have e1:(ints l).getD i .any = .lit (.int .i64 l[i]):=by simp [ints,List.getD,h]
    by_cases hn:l[i] = n
    · have:true = decide (n ∈ l):=by
        symm; rw [decide_eq_true_iff]
        rw [← hn]; exact List.getElem_mem h
      rw [← this] at hQ
      rw [hn] at e1
      simp (config:=KF) (disch:=omega) only [bZ,cx,e8,aq,cw,ixSV,ar,ixA,lenI,ag,bW,bS,ap,putS,Sf.set,Sf.reg,getR,setR,aa,aI,aA,Int.toNat_natCast,↓reduceIte,Nat.reduceEqDiff,reduceCtorEq,decide_true,bE,bq,bI,f22_8e,f22_9e,f22_10e,f22_10l,f22_11e,f22_12e,f22_13e,f22_14e,f22_15e,f22_15l,f22_16e,f22_17e,f22_18e,f22_18l,e1,ll]
      refine hKr _ _ ?_
      simp (config:=KF) (disch:=omega) only [bZ,cx,retI,Sf.reg,getR,↓reduceIte,Bool.true_and,true_and]
      exact hQ _
    · simp (config:=KF) (disch:=omega) only [bZ,aD,e8,aq,cw,az,ixSV,ar,ixA,lenI,ag,d4,bW,bS,ap,putS,Sf.set,Sf.reg,getR,setR,aa,Sf.disAt,aI,aA,Int.toNat_natCast,↓reduceIte,Nat.reduceEqDiff,reduceCtorEq,decide_false,bE,bq,IntWalk.i64_in,cu,bI,f22_8e,f22_9e,f22_10e,f22_10l,f22_11e,f22_12e,f22_13e,f22_14e,f22_15e,f22_15l,f22_16e,f22_19e,f22_19l,e1,ll,hn]
      refine hK (i + 1) _ ⟨by omega,?_⟩ (by omega) (Sf.le_refl _)
      rw [List.take_succ_eq_append_getElem h]
      simp only [List.mem_append,List.mem_singleton,not_or]
      exact ⟨h2,fun e=>hn e.symm⟩
  · simp (config:=KF) (disch:=omega) only [bZ,cT,dX,cw,lenI,bS,putS,Sf.set,Sf.reg,getR,setR,aa,aI,↓reduceIte,Nat.reduceEqDiff,reduceCtorEq,bH,f22_8e,f22_9e,f22_10e,f22_10l,f22_11e,ll]
    refine hKe _ _ _ ?_
    simp (config:=KF) (disch:=omega) only [bZ,ci,retI,putS,Sf.set,Sf.reg,getR,setR,aa,↓reduceIte,Bool.true_and,true_and,f22_20e,f22_21e,f22_21l]
    have:false = decide (n ∈ l):=by
      symm; rw [decide_eq_false_iff_not]
      rwa [List.take_of_length_le (by omega)] at h2
    rw [← this] at hQ
    exact hQ _

theorem rwith_sl (l:List Int) (n:Int) (hl:l.length≤1000000) (st:St):bg Go.Proofs.Try.prog n_f21 [.sl false 1 (ints l),.lit (.int .i64 n)] st (.sl false 1 (ints (l++[n]))):=by
  refine gh hmix k_f21 rfl rfl (i6 _) (by simp [g8,i6]) (fun Q hQ=>?_) st
  unfold aFun c_f21
  have ll:=cM l
  have hf:=hQ (.sl true 1 (ints (l++[n]))) ⟨[]⟩ (.own _ _)
  rw [iK] at hf
  by_cases hz:l = []
  · subst hz
    have hz':(ints []).isEmpty = true:=rfl
    simp (config:=KF) (disch:=omega) only [bZ,and_self,retI,dq,gO,az,dO,bslV,eF,List.isEmpty_cons,List.reduceReplicate,cq,srcA,cE,aH,putS,Sf.set,Sf.reg,getR,setR,aa,Sf.disAt,aO,cW,aI,aA,ae,af,eh,List.length_cons,List.length_nil,List.all_cons,List.all_nil,List.set_cons_zero,↓reduceIte,Nat.reduceEqDiff,Nat.reduceLT,Bool.true_and,Bool.and_true,and_true,true_and,reduceCtorEq,Nat.zero_add,Bool.false_eq_true,dg,f21_1e,f21_2e,f21_2l,f21_3e,f21_4e,f21_4l,hz']
    exact hf
  · have hz':(ints l).isEmpty = false:=by simpa [ints] using hz
    have hd:(ints l).map AV.dis = ints l:=by simp [ints,AV.dis,Function.comp_def]
    simp (config:=KF) (disch:=omega) only [bZ,and_self,retI,dq,gO,az,dO,bslV,eF,List.reduceReplicate,cq,eC,srcA,cE,aH,putS,Sf.set,Sf.reg,getR,setR,aa,Sf.disAt,aO,cW,aI,aA,ae,af,eh,List.length_cons,List.length_nil,List.all_cons,List.all_nil,List.set_cons_zero,↓reduceIte,Nat.reduceEqDiff,Nat.reduceLT,Bool.true_and,Bool.and_true,and_true,true_and,reduceCtorEq,Nat.zero_add,Bool.false_eq_true,dg,f21_1e,f21_2e,f21_2l,f21_3e,f21_4e,f21_4l,ll,hz',hd]
    exact hf

theorem lx (l:List Int) (n:Int) (hl:l.length≤1000000) (st:St):bg Go.Proofs.Try.prog n_f23 [.sl false 1 (ints l),.lit (.int .i64 n)] st (.sl false 1 (ints (l.filter (·≠n)))):=by
  refine gh hmix k_f23 rfl rfl (i6 _) (by simp [g8,i6]) (fun Q hQ=>?_) st
  unfold aFun c_f23
  have ll:=cM l
  simp (config:=KF) (disch:=omega) only [bZ,putS,Sf.set,getR,setR,aa,aO,aI,↓reduceIte,Nat.reduceEqDiff,reduceCtorEq,Nat.zero_add,f23_1e,f23_2e,f23_2l,f23_3e,f23_4e,f23_4l,f23_5e,f23_6e,f23_7e,f23_7l,f23_8e]
  rw [f23_9w]
  refine ef (A:=Nat) (fun a=>l.length - a) (fun a=>⟨[(0,.sl false 1 (ints l)),(1,.lit (.int .i64 n)),(5,gAV ((l.take a).filter (·≠n))),(6,.lit (.int .i64 (a:Nat)))],[]⟩) (fun _=>⟨[]⟩)
    (fun a=>a≤l.length) 0 (by omega) (Sf.le_refl _) rfl ?_
  rintro i h1 K hK hKe hKr
  by_cases h:i < l.length
  · have e1:(ints l).getD i .any = .lit (.int .i64 l[i]):=by simp [ints,List.getD,h]
    have hk:∀ sf,sf = (⟨[(0,.sl false 1 (ints l)),(1,.lit (.int .i64 n)),(5,gAV ((l.take (i + 1)).filter (·≠n))),(6,.lit (.int .i64 ((i:Nat) + 1)))],[]⟩:Sf)→K .normal sf ⟨[]⟩:=fun sf e=>by
      subst e
      exact hK (i + 1) _ (by omega) (by omega) (Sf.le_refl _)
    rw [List.take_succ_eq_append_getElem h,List.filter_append] at hk
    have hlf:((l.take i).filter (·≠n)).length≤1000000:=by
      have:=List.length_filter_le (·≠n) (l.take i)
      have:=List.length_take_le i l
      omega
    generalize hD:(l.take i).filter (·≠n) = D at *
    have ld:=cM D
    by_cases hn:l[i] = n
    · rw [List.filter_cons_of_neg (by simp [hn])] at hk
      simp only [List.filter_nil,List.append_nil] at hk
      rw [hn] at e1
      rcases kR D with ⟨e,hz⟩ | ⟨e,hz⟩
      all_goals
        rw [e] at hk ⊢
        simp (config:=KF) (disch:=omega) only [bZ,aD,e8,aq,cw,az,ixSV,ar,ixA,lenI,ag,d4,cH,bS,ap,putS,Sf.set,Sf.reg,getR,setR,aa,Sf.disAt,aI,aA,Int.toNat_natCast,↓reduceIte,Nat.reduceEqDiff,reduceCtorEq,not_true_eq_false,decide_false,bE,bq,IntWalk.i64_in,cu,bI,f23_10e,f23_11e,f23_12e,f23_12l,f23_13e,f23_14e,f23_15e,f23_16e,f23_17e,f23_17l,f23_18e,f23_20e,f23_20l,e1,ll]
        exact hk _ rfl
    · rw [List.filter_cons_of_pos (by simp [hn])] at hk
      simp only [List.filter_nil] at hk
      have hgs:gAV (D++[l[i]]) = .sl true 1 (ints D++[.lit (.int .i64 l[i])]):=by
        unfold gAV; rw [if_neg (by simp),iK]; rfl
      rw [hgs] at hk
      rcases kR D with ⟨e,hz⟩ | ⟨e,hz⟩
      · rw [e]
        subst hz
        simp only [ints,List.map_nil,List.nil_append] at hk
        simp (config:=KF) (disch:=omega) only [bZ,and_self,aD,e8,aq,dq,cw,az,dO,ixSV,ar,bslV,eF,List.isEmpty_cons,List.reduceReplicate,ixA,lenI,ag,cq,srcA,cE,d4,cH,bS,ap,aH,putS,Sf.set,Sf.reg,getR,setR,aa,Sf.disAt,cW,aI,aA,ae,af,List.length_cons,List.length_nil,List.all_cons,List.all_nil,List.set_cons_zero,Int.toNat_natCast,↓reduceIte,Nat.reduceEqDiff,Nat.reduceLT,Bool.and_true,and_true,reduceCtorEq,Nat.zero_add,not_false_eq_true,decide_true,Bool.false_eq_true,bE,dg,bq,IntWalk.i64_in,cu,bI,f23_10e,f23_11e,f23_12e,f23_12l,f23_13e,f23_14e,f23_15e,f23_16e,f23_17e,f23_17l,f23_18e,f23_19e,f23_19l,f23_20e,f23_20l,e1,ll,hn]
        exact hk _ rfl
      · rw [e]
        simp (config:=KF) (disch:=omega) only [bZ,and_self,aD,e8,aq,dq,cw,az,dO,ixSV,ar,bslV,eF,List.reduceReplicate,ixA,lenI,ag,eC,srcA,cE,d4,cH,bS,ap,aH,putS,Sf.set,Sf.reg,getR,setR,aa,Sf.disAt,cW,aI,aA,ae,af,List.length_cons,List.length_nil,List.all_cons,List.all_nil,List.set_cons_zero,Int.toNat_natCast,↓reduceIte,Nat.reduceEqDiff,Nat.reduceLT,Bool.and_true,and_true,reduceCtorEq,Nat.zero_add,not_false_eq_true,decide_true,bE,dg,bq,IntWalk.i64_in,cu,bI,f23_10e,f23_11e,f23_12e,f23_12l,f23_13e,f23_14e,f23_15e,f23_16e,f23_17e,f23_17l,f23_18e,f23_19e,f23_19l,f23_20e,f23_20l,e1,ll,ld,hn]
        exact hk _ rfl
  · have hf:=hQ (lAV (l.filter (·≠n))) ⟨[]⟩ (oS _)
    rw [List.take_of_length_le (by omega)]
    generalize l.filter (·≠n) = D at *
    unfold lAV at hf
    unfold gAV
    by_cases hz:D = []
    all_goals
      first | rw [if_pos hz] at hf ⊢ | rw [if_neg hz] at hf ⊢
      simp (config:=KF) (disch:=omega) only [bZ,cT,dX,cw,lenI,bS,putS,Sf.set,Sf.reg,getR,setR,aa,aI,↓reduceIte,Nat.reduceEqDiff,reduceCtorEq,bH,f23_10e,f23_11e,f23_12e,f23_12l,f23_13e,ll]
      refine hKe _ _ _ ?_
      simp (config:=KF) (disch:=omega) only [bZ,ci,retI,az,putS,Sf.set,Sf.reg,getR,setR,aa,Sf.disAt,aI,eh,↓reduceIte,Nat.reduceEqDiff,Bool.true_and,true_and,f23_21e,f23_22e,f23_22l]
      exact hf

end Go.Fx.YtphaaebhgggbaaaFx

