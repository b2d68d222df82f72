/- What the functions that the statement reaches compute: part 14. -/
import Derived.Test.YtphaaebhgggbaaaFxW13
namespace Go.Fx.YtphaaebhgggbaaaFx
open Go Go.Fx
attribute [local irreducible] aC runI br cR

set_option maxRecDepth 100000
set_option maxHeartbeats 8000000

/-! The reference's lists, and what LatchHolds asks of the calls. -/
theorem kV (l:List Int) (n:Int) (hl:l.length≤1000000) (st:St):aW Go.Proofs.Try.prog n_f22 [.sl false 1 (ints l),.lit (.int .i64 n)] st (.lit (.bool (decide (n ∈ l)))):=by
  refine bM hmix k_f22 rfl rfl fun Q hQ=>?_
  unfold aFun c_f22
  have ll:=d2 l
  simp (config:=KF) (disch:=omega) only [bZ,putS,Sf.set,getR,setR,aa,aK,aE,↓reduceIte,Nat.reduceEqDiff,reduceCtorEq,Nat.zero_add,f22_1e,f22_2e,f22_2l,f22_3e,f22_4e,f22_5e,f22_5l,f22_6e]
  rw [f22_7w]
  refine d5 (A:=Nat) (fun a=>l.length - a) (fun a=>⟨[(0,.sl false 1 (ints l)),(1,.lit (.int .i64 n)),(5,.lit (.int .i64 (a:Nat)))],[]⟩) (fun _=>st)
    (fun a=>a≤l.length∧n ∉ l.take a) 0 ⟨by omega,by simp⟩ (Sf.le_refl _) rfl ?_
  rintro i ⟨h1,h2⟩ K hK hKe hKr
  by_cases h:i < l.length
  · have e1:(ints l).getD i .any = .lit (.int .i64 l[i]):=by simp [ints,List.getD,h]
    by_cases hn:l[i] = n
    · have:true = decide (n ∈ l):=by
        symm; rw [decide_eq_true_iff]
        rw [← hn]; exact List.getElem_mem h
      rw [← this] at hQ
      rw [hn] at e1
      simp (config:=KF) (disch:=omega) only [bZ,ca,g5,am,cF,ixSV,ap,ixA,lenI,af,bL,bB,aF,putS,Sf.set,Sf.reg,getR,setR,aa,aE,aw,Int.toNat_natCast,↓reduceIte,Nat.reduceEqDiff,reduceCtorEq,decide_true,cd,bu,ce,f22_8e,f22_9e,f22_10e,f22_10l,f22_11e,f22_12e,f22_13e,f22_14e,f22_15e,f22_15l,f22_16e,f22_17e,f22_18e,f22_18l,e1,ll]
      refine hKr _ _ ?_
      simp (config:=KF) (disch:=omega) only [bZ,ca,retI,Sf.reg,getR,↓reduceIte,Bool.true_and,true_and]
      exact hQ _
    · simp (config:=KF) (disch:=omega) only [bZ,aH,g5,am,cF,ak,ixSV,ap,ixA,lenI,af,ee,bL,bB,aF,putS,Sf.set,Sf.reg,getR,setR,aa,Sf.disAt,aE,aw,Int.toNat_natCast,↓reduceIte,Nat.reduceEqDiff,reduceCtorEq,decide_false,cd,bu,IntWalk.i64_in,cp,ce,f22_8e,f22_9e,f22_10e,f22_10l,f22_11e,f22_12e,f22_13e,f22_14e,f22_15e,f22_15l,f22_16e,f22_19e,f22_19l,e1,ll,hn]
      refine hK (i + 1) _ ⟨by omega,?_⟩ (by omega) (Sf.le_refl _)
      rw [List.take_succ_eq_append_getElem h]
      simp only [List.mem_append,List.mem_singleton,not_or]
      exact ⟨h2,fun e=>hn e.symm⟩
  · simp (config:=KF) (disch:=omega) only [bZ,cT,dO,cF,lenI,bB,putS,Sf.set,Sf.reg,getR,setR,aa,aE,↓reduceIte,Nat.reduceEqDiff,reduceCtorEq,bI,f22_8e,f22_9e,f22_10e,f22_10l,f22_11e,ll]
    refine hKe _ _ _ ?_
    simp (config:=KF) (disch:=omega) only [bZ,bW,retI,putS,Sf.set,Sf.reg,getR,setR,aa,↓reduceIte,Bool.true_and,true_and,f22_20e,f22_21e,f22_21l]
    have:false = decide (n ∈ l):=by
      symm; rw [decide_eq_false_iff_not]
      rwa [List.take_of_length_le (by omega)] at h2
    rw [← this] at hQ
    exact hQ _

theorem rwith_sl (l:List Int) (n:Int) (hl:l.length≤1000000) (st:St):aW Go.Proofs.Try.prog n_f21 [.sl false 1 (ints l),.lit (.int .i64 n)] st (.sl false 1 (ints (l++[n]))):=by
  refine jK hmix k_f21 rfl rfl (iD _) (by simp [kg,iD]) (fun Q hQ=>?_) st
  unfold aFun c_f21
  have ll:=d2 l
  have hf:=hQ (.sl true 1 (ints (l++[n]))) ⟨[]⟩ (.own _ _)
  rw [me] at hf
  by_cases hz:l = []
  · subst hz
    have hz':(ints []).isEmpty = true:=rfl
    simp (config:=KF) (disch:=omega) only [bZ,and_self,retI,di,o_app,ak,g6,bslV,iR,List.isEmpty_cons,List.reduceReplicate,dJ,srcA,cB,aV,putS,Sf.set,Sf.reg,getR,setR,aa,Sf.disAt,aK,dc,aE,aw,ae,ah,d7,List.length_cons,List.length_nil,List.all_cons,List.all_nil,List.set_cons_zero,↓reduceIte,Nat.reduceEqDiff,Nat.reduceLT,Bool.true_and,Bool.and_true,and_true,true_and,reduceCtorEq,Nat.zero_add,Bool.false_eq_true,fO,f21_1e,f21_2e,f21_2l,f21_3e,f21_4e,f21_4l,hz']
    exact hf
  · have hz':(ints l).isEmpty = false:=by simpa [ints] using hz
    have hd:(ints l).map AV.dis = ints l:=by simp [ints,AV.dis,Function.comp_def]
    simp (config:=KF) (disch:=omega) only [bZ,and_self,retI,di,o_app,ak,g6,bslV,iR,List.reduceReplicate,dJ,fM,srcA,cB,aV,putS,Sf.set,Sf.reg,getR,setR,aa,Sf.disAt,aK,dc,aE,aw,ae,ah,d7,List.length_cons,List.length_nil,List.all_cons,List.all_nil,List.set_cons_zero,↓reduceIte,Nat.reduceEqDiff,Nat.reduceLT,Bool.true_and,Bool.and_true,and_true,true_and,reduceCtorEq,Nat.zero_add,Bool.false_eq_true,fO,f21_1e,f21_2e,f21_2l,f21_3e,f21_4e,f21_4l,ll,hz',hd]
    exact hf

theorem kL (l:List Int) (n:Int) (hl:l.length≤1000000) (st:St):aW Go.Proofs.Try.prog n_f23 [.sl false 1 (ints l),.lit (.int .i64 n)] st (.sl false 1 (ints (l.filter (·≠n)))):=by
  refine jK hmix k_f23 rfl rfl (iD _) (by simp [kg,iD]) (fun Q hQ=>?_) st
  unfold aFun c_f23
  have ll:=d2 l
  simp (config:=KF) (disch:=omega) only [bZ,putS,Sf.set,getR,setR,aa,aK,aE,↓reduceIte,Nat.reduceEqDiff,reduceCtorEq,Nat.zero_add,f23_1e,f23_2e,f23_2l,f23_3e,f23_4e,f23_4l,f23_5e,f23_6e,f23_7e,f23_7l,f23_8e]
  rw [f23_9w]
  refine d5 (A:=Nat) (fun a=>l.length - a) (fun a=>⟨[(0,.sl false 1 (ints l)),(1,.lit (.int .i64 n)),(5,gAV ((l.take a).filter (·≠n))),(6,.lit (.int .i64 (a:Nat)))],[]⟩) (fun _=>⟨[]⟩)
    (fun a=>a≤l.length) 0 (by omega) (Sf.le_refl _) rfl ?_
  rintro i h1 K hK hKe hKr
  by_cases h:i < l.length
  · have e1:(ints l).getD i .any = .lit (.int .i64 l[i]):=by simp [ints,List.getD,h]
    have hk:∀ sf,sf = (⟨[(0,.sl false 1 (ints l)),(1,.lit (.int .i64 n)),(5,gAV ((l.take (i + 1)).filter (·≠n))),(6,.lit (.int .i64 ((i:Nat) + 1)))],[]⟩:Sf)→K .normal sf ⟨[]⟩:=fun sf e=>by
      subst e
      exact hK (i + 1) _ (by omega) (by omega) (Sf.le_refl _)
    rw [List.take_succ_eq_append_getElem h,List.filter_append] at hk
    have hlf:((l.take i).filter (·≠n)).length≤1000000:=by
      have:=List.length_filter_le (·≠n) (l.take i)
      have:=List.length_take_le i l
      omega
    generalize hD:(l.take i).filter (·≠n) = D at *
    have ld:=d2 D
    by_cases hn:l[i] = n
    · rw [List.filter_cons_of_neg (by simp [hn])] at hk
      simp only [List.filter_nil,List.append_nil] at hk
      rw [hn] at e1
      rcases ku D with ⟨e,hz⟩ | ⟨e,hz⟩
      all_goals
        rw [e] at hk ⊢
        simp (config:=KF) (disch:=omega) only [bZ,aH,g5,am,cF,ak,ixSV,ap,ixA,lenI,af,ee,cc,bB,aF,putS,Sf.set,Sf.reg,getR,setR,aa,Sf.disAt,aE,aw,Int.toNat_natCast,↓reduceIte,Nat.reduceEqDiff,reduceCtorEq,not_true_eq_false,decide_false,cd,bu,IntWalk.i64_in,cp,ce,f23_10e,f23_11e,f23_12e,f23_12l,f23_13e,f23_14e,f23_15e,f23_16e,f23_17e,f23_17l,f23_18e,f23_20e,f23_20l,e1,ll]
        exact hk _ rfl
    · rw [List.filter_cons_of_pos (by simp [hn])] at hk
      simp only [List.filter_nil] at hk
      have hgs:gAV (D++[l[i]]) = .sl true 1 (ints D++[.lit (.int .i64 l[i])]):=by
        unfold gAV; rw [if_neg (by simp),me]; rfl
      rw [hgs] at hk
      rcases ku D with ⟨e,hz⟩ | ⟨e,hz⟩
      · rw [e]
        subst hz
        simp only [ints,List.map_nil,List.nil_append] at hk
        simp (config:=KF) (disch:=omega) only [bZ,and_self,aH,g5,am,di,cF,ak,g6,ixSV,ap,bslV,iR,List.isEmpty_cons,List.reduceReplicate,ixA,lenI,af,dJ,srcA,cB,ee,cc,bB,aF,aV,putS,Sf.set,Sf.reg,getR,setR,aa,Sf.disAt,dc,aE,aw,ae,ah,List.length_cons,List.length_nil,List.all_cons,List.all_nil,List.set_cons_zero,Int.toNat_natCast,↓reduceIte,Nat.reduceEqDiff,Nat.reduceLT,Bool.and_true,and_true,reduceCtorEq,Nat.zero_add,not_false_eq_true,decide_true,Bool.false_eq_true,cd,fO,bu,IntWalk.i64_in,cp,ce,f23_10e,f23_11e,f23_12e,f23_12l,f23_13e,f23_14e,f23_15e,f23_16e,f23_17e,f23_17l,f23_18e,f23_19e,f23_19l,f23_20e,f23_20l,e1,ll,hn]
        exact hk _ rfl
      · rw [e]
        simp (config:=KF) (disch:=omega) only [bZ,and_self,aH,g5,am,di,cF,ak,g6,ixSV,ap,bslV,iR,List.reduceReplicate,ixA,lenI,af,fM,srcA,cB,ee,cc,bB,aF,aV,putS,Sf.set,Sf.reg,getR,setR,aa,Sf.disAt,dc,aE,aw,ae,ah,List.length_cons,List.length_nil,List.all_cons,List.all_nil,List.set_cons_zero,Int.toNat_natCast,↓reduceIte,Nat.reduceEqDiff,Nat.reduceLT,Bool.and_true,and_true,reduceCtorEq,Nat.zero_add,not_false_eq_true,decide_true,cd,fO,bu,IntWalk.i64_in,cp,ce,f23_10e,f23_11e,f23_12e,f23_12l,f23_13e,f23_14e,f23_15e,f23_16e,f23_17e,f23_17l,f23_18e,f23_19e,f23_19l,f23_20e,f23_20l,e1,ll,ld,hn]
        exact hk _ rfl
  · have hf:=hQ (lAV (l.filter (·≠n))) ⟨[]⟩ (oa _)
    rw [List.take_of_length_le (by omega)]
    generalize l.filter (·≠n) = D at *
    unfold lAV at hf
    unfold gAV
    by_cases hz:D = []
    all_goals
      first | rw [if_pos hz] at hf ⊢ | rw [if_neg hz] at hf ⊢
      simp (config:=KF) (disch:=omega) only [bZ,cT,dO,cF,lenI,bB,putS,Sf.set,Sf.reg,getR,setR,aa,aE,↓reduceIte,Nat.reduceEqDiff,reduceCtorEq,bI,f23_10e,f23_11e,f23_12e,f23_12l,f23_13e,ll]
      refine hKe _ _ _ ?_
      simp (config:=KF) (disch:=omega) only [bZ,bW,retI,ak,putS,Sf.set,Sf.reg,getR,setR,aa,Sf.disAt,aE,d7,↓reduceIte,Nat.reduceEqDiff,Bool.true_and,true_and,f23_21e,f23_22e,f23_22l]
      exact hf

theorem baDo_facts {p u:Int} {T:List Int} (a:Ac) (hf:(T.length:Int) < p) :
    ((baDo p u T a).2.2.1 = true→((baDo p u T a).2.2.2.1.length:Int) + 1 = p∧(baDo p u T a).1.2 = []∧(baDo p u T a).1.1 = u + 1)∧((baDo p u T a).2.2.1 = false→(baDo p u T a).1.1 = u):=by
  unfold baDo cV
  split
  · split
    · simp
    split
    · simp
    · refine ⟨fun _=>⟨?_,rfl,rfl⟩,fun h=>by simp at h⟩
      simp only
      omega
  · simp
end Go.Fx.YtphaaebhgggbaaaFx

