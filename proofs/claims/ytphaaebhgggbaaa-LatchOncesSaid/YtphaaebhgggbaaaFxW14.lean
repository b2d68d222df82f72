/- What the functions that the statement reaches compute: part 14. -/
import Derived.Test.YtphaaebhgggbaaaFxW13
namespace Go.Fx.YtphaaebhgggbaaaFx
open Go Go.Fx
attribute [local irreducible] aC runI bu cN

set_option maxRecDepth 100000
set_option maxHeartbeats 8000000

/-! The reference's lists, and what LatchHolds asks of the calls. -/
theorem lm (l:List Int) (n:Int) (hl:l.length≤1000000) (st:St):bd Go.Proofs.Try.prog n_f22 [.sl false 1 (ints l),.lit (.int .i64 n)] st (.lit (.bool (decide (n ∈ l)))):=by
  refine bX hmix k_f22 rfl rfl fun Q hQ=>?_
  unfold aFun c_f22
  have ll:=dw l
  simp (config:=KF) (disch:=omega) only [bZ,putS,Sf.set,getR,setR,aa,aG,aH,↓reduceIte,Nat.reduceEqDiff,reduceCtorEq,Nat.zero_add,f22_1e,f22_2e,f22_2l,f22_3e,f22_4e,f22_5e,f22_5l,f22_6e]
  rw [f22_7w]
  refine d3 (A:=Nat) (fun a=>l.length - a) (fun a=>⟨[(0,.sl false 1 (ints l)),(1,.lit (.int .i64 n)),(5,.lit (.int .i64 (a:Nat)))],[]⟩) (fun _=>st)
    (fun a=>a≤l.length∧n ∉ l.take a) 0 ⟨by omega,by simp⟩ (Sf.le_refl _) rfl ?_
  rintro i ⟨h1,h2⟩ K hK hKe hKr
  by_cases h:i < l.length
  · have e1:(ints l).getD i .any = .lit (.int .i64 l[i]):=by simp [ints,List.getD,h]
    by_cases hn:l[i] = n
    · have:true = decide (n ∈ l):=by
        symm; rw [decide_eq_true_iff]
        rw [← hn]; exact List.getElem_mem h
      rw [← this] at hQ
      rw [hn] at e1
      simp (config:=KF) (disch:=omega) only [bZ,cn,fV,am,cO,ixSV,ap,ixA,lenI,af,bW,bT,aB,putS,Sf.set,Sf.reg,getR,setR,aa,aH,az,Int.toNat_natCast,↓reduceIte,Nat.reduceEqDiff,reduceCtorEq,decide_true,cf,bw,cm,f22_8e,f22_9e,f22_10e,f22_10l,f22_11e,f22_12e,f22_13e,f22_14e,f22_15e,f22_15l,f22_16e,f22_17e,f22_18e,f22_18l,e1,ll]
      refine hKr _ _ ?_
      simp (config:=KF) (disch:=omega) only [bZ,cn,retI,Sf.reg,getR,↓reduceIte,Bool.true_and,true_and]
      exact hQ _
    · simp (config:=KF) (disch:=omega) only [bZ,aD,fV,am,cO,au,ixSV,ap,ixA,lenI,af,en,bW,bT,aB,putS,Sf.set,Sf.reg,getR,setR,aa,Sf.disAt,aH,az,Int.toNat_natCast,↓reduceIte,Nat.reduceEqDiff,reduceCtorEq,decide_false,cf,bw,IntWalk.i64_in,cC,cm,f22_8e,f22_9e,f22_10e,f22_10l,f22_11e,f22_12e,f22_13e,f22_14e,f22_15e,f22_15l,f22_16e,f22_19e,f22_19l,e1,ll,hn]
      refine hK (i + 1) _ ⟨by omega,?_⟩ (by omega) (Sf.le_refl _)
      rw [List.take_succ_eq_append_getElem h]
      simp only [List.mem_append,List.mem_singleton,not_or]
      exact ⟨h2,fun e=>hn e.symm⟩
  · simp (config:=KF) (disch:=omega) only [bZ,cS,dO,cO,lenI,bT,putS,Sf.set,Sf.reg,getR,setR,aa,aH,↓reduceIte,Nat.reduceEqDiff,reduceCtorEq,bK,f22_8e,f22_9e,f22_10e,f22_10l,f22_11e,ll]
    refine hKe _ _ _ ?_
    simp (config:=KF) (disch:=omega) only [bZ,ce,retI,putS,Sf.set,Sf.reg,getR,setR,aa,↓reduceIte,Bool.true_and,true_and,f22_20e,f22_21e,f22_21l]
    have:false = decide (n ∈ l):=by
      symm; rw [decide_eq_false_iff_not]
      rwa [List.take_of_length_le (by omega)] at h2
    rw [← this] at hQ
    exact hQ _

theorem rwith_sl (l:List Int) (n:Int) (hl:l.length≤1000000) (st:St):bd Go.Proofs.Try.prog n_f21 [.sl false 1 (ints l),.lit (.int .i64 n)] st (.sl false 1 (ints (l++[n]))):=by
  refine gw hmix k_f21 rfl rfl (iN _) (by simp [il,iN]) (fun Q hQ=>?_) st
  unfold aFun c_f21
  have ll:=dw l
  have hf:=hQ (.sl true 1 (ints (l++[n]))) ⟨[]⟩ (.own _ _)
  rw [mr] at hf
  by_cases hz:l = []
  · subst hz
    have hz':(ints []).isEmpty = true:=rfl
    simp (config:=KF) (disch:=omega) only [bZ,and_self,retI,dh,o_app,au,im,bslV,iY,List.isEmpty_cons,List.reduceReplicate,dk,srcA,cB,aP,putS,Sf.set,Sf.reg,getR,setR,aa,Sf.disAt,aG,cW,aH,az,ae,ah,d5,List.length_cons,List.length_nil,List.all_cons,List.all_nil,List.set_cons_zero,↓reduceIte,Nat.reduceEqDiff,Nat.reduceLT,Bool.true_and,Bool.and_true,and_true,true_and,reduceCtorEq,Nat.zero_add,Bool.false_eq_true,fa,f21_1e,f21_2e,f21_2l,f21_3e,f21_4e,f21_4l,hz']
    exact hf
  · have hz':(ints l).isEmpty = false:=by simpa [ints] using hz
    have hd:(ints l).map AV.dis = ints l:=by simp [ints,AV.dis,Function.comp_def]
    simp (config:=KF) (disch:=omega) only [bZ,and_self,retI,dh,o_app,au,im,bslV,iY,List.reduceReplicate,dk,fT,srcA,cB,aP,putS,Sf.set,Sf.reg,getR,setR,aa,Sf.disAt,aG,cW,aH,az,ae,ah,d5,List.length_cons,List.length_nil,List.all_cons,List.all_nil,List.set_cons_zero,↓reduceIte,Nat.reduceEqDiff,Nat.reduceLT,Bool.true_and,Bool.and_true,and_true,true_and,reduceCtorEq,Nat.zero_add,Bool.false_eq_true,fa,f21_1e,f21_2e,f21_2l,f21_3e,f21_4e,f21_4l,ll,hz',hd]
    exact hf

theorem kV (l:List Int) (n:Int) (hl:l.length≤1000000) (st:St):bd Go.Proofs.Try.prog n_f23 [.sl false 1 (ints l),.lit (.int .i64 n)] st (.sl false 1 (ints (l.filter (·≠n)))):=by
  refine gw hmix k_f23 rfl rfl (iN _) (by simp [il,iN]) (fun Q hQ=>?_) st
  unfold aFun c_f23
  have ll:=dw l
  simp (config:=KF) (disch:=omega) only [bZ,putS,Sf.set,getR,setR,aa,aG,aH,↓reduceIte,Nat.reduceEqDiff,reduceCtorEq,Nat.zero_add,f23_1e,f23_2e,f23_2l,f23_3e,f23_4e,f23_4l,f23_5e,f23_6e,f23_7e,f23_7l,f23_8e]
  rw [f23_9w]
  refine d3 (A:=Nat) (fun a=>l.length - a) (fun a=>⟨[(0,.sl false 1 (ints l)),(1,.lit (.int .i64 n)),(5,gAV ((l.take a).filter (·≠n))),(6,.lit (.int .i64 (a:Nat)))],[]⟩) (fun _=>⟨[]⟩)
    (fun a=>a≤l.length) 0 (by omega) (Sf.le_refl _) rfl ?_
  rintro i h1 K hK hKe hKr
  by_cases h:i < l.length
  · have e1:(ints l).getD i .any = .lit (.int .i64 l[i]):=by simp [ints,List.getD,h]
    have hk:∀ sf,sf = (⟨[(0,.sl false 1 (ints l)),(1,.lit (.int .i64 n)),(5,gAV ((l.take (i + 1)).filter (·≠n))),(6,.lit (.int .i64 ((i:Nat) + 1)))],[]⟩:Sf)→K .normal sf ⟨[]⟩:=fun sf e=>by
      subst e
      exact hK (i + 1) _ (by omega) (by omega) (Sf.le_refl _)
    rw [List.take_succ_eq_append_getElem h,List.filter_append] at hk
    have hlf:((l.take i).filter (·≠n)).length≤1000000:=by
      have:=List.length_filter_le (·≠n) (l.take i)
      have:=List.length_take_le i l
      omega
    generalize hD:(l.take i).filter (·≠n) = D at *
    have ld:=dw D
    by_cases hn:l[i] = n
    · rw [List.filter_cons_of_neg (by simp [hn])] at hk
      simp only [List.filter_nil,List.append_nil] at hk
      rw [hn] at e1
      rcases kD D with ⟨e,hz⟩ | ⟨e,hz⟩
      all_goals
        rw [e] at hk ⊢
        simp (config:=KF) (disch:=omega) only [bZ,aD,fV,am,cO,au,ixSV,ap,ixA,lenI,af,en,cx,bT,aB,putS,Sf.set,Sf.reg,getR,setR,aa,Sf.disAt,aH,az,Int.toNat_natCast,↓reduceIte,Nat.reduceEqDiff,reduceCtorEq,not_true_eq_false,decide_false,cf,bw,IntWalk.i64_in,cC,cm,f23_10e,f23_11e,f23_12e,f23_12l,f23_13e,f23_14e,f23_15e,f23_16e,f23_17e,f23_17l,f23_18e,f23_20e,f23_20l,e1,ll]
        exact hk _ rfl
    · rw [List.filter_cons_of_pos (by simp [hn])] at hk
      simp only [List.filter_nil] at hk
      have hgs:gAV (D++[l[i]]) = .sl true 1 (ints D++[.lit (.int .i64 l[i])]):=by
        unfold gAV; rw [if_neg (by simp),mr]; rfl
      rw [hgs] at hk
      rcases kD D with ⟨e,hz⟩ | ⟨e,hz⟩
      · rw [e]
        subst hz
        simp only [ints,List.map_nil,List.nil_append] at hk
        simp (config:=KF) (disch:=omega) only [bZ,and_self,aD,fV,am,dh,cO,au,im,ixSV,ap,bslV,iY,List.isEmpty_cons,List.reduceReplicate,ixA,lenI,af,dk,srcA,cB,en,cx,bT,aB,aP,putS,Sf.set,Sf.reg,getR,setR,aa,Sf.disAt,cW,aH,az,ae,ah,List.length_cons,List.length_nil,List.all_cons,List.all_nil,List.set_cons_zero,Int.toNat_natCast,↓reduceIte,Nat.reduceEqDiff,Nat.reduceLT,Bool.and_true,and_true,reduceCtorEq,Nat.zero_add,not_false_eq_true,decide_true,Bool.false_eq_true,cf,fa,bw,IntWalk.i64_in,cC,cm,f23_10e,f23_11e,f23_12e,f23_12l,f23_13e,f23_14e,f23_15e,f23_16e,f23_17e,f23_17l,f23_18e,f23_19e,f23_19l,f23_20e,f23_20l,e1,ll,hn]
        exact hk _ rfl
      · rw [e]
        simp (config:=KF) (disch:=omega) only [bZ,and_self,aD,fV,am,dh,cO,au,im,ixSV,ap,bslV,iY,List.reduceReplicate,ixA,lenI,af,fT,srcA,cB,en,cx,bT,aB,aP,putS,Sf.set,Sf.reg,getR,setR,aa,Sf.disAt,cW,aH,az,ae,ah,List.length_cons,List.length_nil,List.all_cons,List.all_nil,List.set_cons_zero,Int.toNat_natCast,↓reduceIte,Nat.reduceEqDiff,Nat.reduceLT,Bool.and_true,and_true,reduceCtorEq,Nat.zero_add,not_false_eq_true,decide_true,cf,fa,bw,IntWalk.i64_in,cC,cm,f23_10e,f23_11e,f23_12e,f23_12l,f23_13e,f23_14e,f23_15e,f23_16e,f23_17e,f23_17l,f23_18e,f23_19e,f23_19l,f23_20e,f23_20l,e1,ll,ld,hn]
        exact hk _ rfl
  · have hf:=hQ (lAV (l.filter (·≠n))) ⟨[]⟩ (oq _)
    rw [List.take_of_length_le (by omega)]
    generalize l.filter (·≠n) = D at *
    unfold lAV at hf
    unfold gAV
    by_cases hz:D = []
    all_goals
      first | rw [if_pos hz] at hf ⊢ | rw [if_neg hz] at hf ⊢
      simp (config:=KF) (disch:=omega) only [bZ,cS,dO,cO,lenI,bT,putS,Sf.set,Sf.reg,getR,setR,aa,aH,↓reduceIte,Nat.reduceEqDiff,reduceCtorEq,bK,f23_10e,f23_11e,f23_12e,f23_12l,f23_13e,ll]
      refine hKe _ _ _ ?_
      simp (config:=KF) (disch:=omega) only [bZ,ce,retI,au,putS,Sf.set,Sf.reg,getR,setR,aa,Sf.disAt,aH,d5,↓reduceIte,Nat.reduceEqDiff,Bool.true_and,true_and,f23_21e,f23_22e,f23_22l]
      exact hf

def rn (o:Int):Int:=if 0≤o then 1 else 0
theorem jj {o:Int} {T:List Int} {d:Bool} (a:Ac) (hT:∀ t ∈ T,0≤t) (ho:-1≤o) (hd:d = true→o < 0) :
    ((onDo o T d a).2.1 = true→a.1 = 0∧rn (onDo o T d a).1.1 = rn o + 1) ∧
    ((onDo o T d a).2.1 = false→¬(a.1 = 1∧(onDo o T d a).2.2.2.2 = 0)→rn (onDo o T d a).1.1 = rn o) ∧
    (a.1 = 1→(onDo o T d a).2.2.2.2 = 0→(onDo o T d a).2.1 = false∧rn o = 1∧(a.2.2.2 = true→rn (onDo o T d a).1.1 = 0)∧(a.2.2.2 = false→rn (onDo o T d a).1.1 = ((onDo o T d a).2.2.2.1.length:Int))) ∧
    ((onDo o T d a).1.2.2 = true→rn (onDo o T d a).1.1 = 0∧(onDo o T d a).1.1 < 0)∧(onDo o T d a).2.2.2.1.length≤T.length + 1:=by
  obtain ⟨w,t,n,s⟩:=a
  have hm:∀ t B,T = t::B→0≤t:=fun t B e=>hT t (by rw [e]; simp)
  unfold onDo
  by_cases h0:w = 0
  · subst h0
    simp only [if_true,List.length_nil,true_and,Nat.zero_le,and_true]
    unfold bE
    by_cases h1:d = true
    · have:=hd h1
      simp only [h1,if_true,Bool.false_eq_true,false_implies,true_and,true_implies]
      unfold rn
      refine ⟨fun _=>trivial,fun h=>absurd h (by decide),by rw [if_neg (by omega)],this⟩
    · have hd0:d = false:=by simpa using h1
      subst hd0
      unfold cP
      simp only [Bool.false_eq_true,if_false]
      by_cases h2:chk ([]++T) t = 0
      case neg =>
        have h2':¬ chk T t = 0:=by simpa using h2
        simp [h2']
      rw [if_neg (by simpa using h2)]
      obtain ⟨⟨c1,_⟩,_⟩:=jl h2
      by_cases h3:o = t
      · simp [h3]
      rw [if_neg h3]
      by_cases h4:o < 0
      · rw [if_pos h4]
        unfold rn
        simp only [true_implies,false_implies,and_true,if_pos c1,if_neg (show ¬ 0≤o by omega)]
        simp
      · rw [if_neg h4]
        simp
  rw [if_neg h0]
  by_cases h1:w = 1
  case neg=>simp [h1,h0]; intro h; have:=hd h; unfold rn; rw [if_neg (by omega)]; omega
  subst h1
  simp only [if_true,Bool.false_eq_true,false_implies,true_and,true_implies]
  unfold bU
  by_cases h2:(bL o t).2 = 0
  case neg =>
    have hl:(bL o t).1 = o:=by
      unfold bL at h2 ⊢
      split
      · rfl
      split
      · rfl
      · rename_i a b; rw [if_neg a,if_neg b] at h2; simp at h2
    simp only [h2,ne_eq,not_false_eq_true,if_true,hl,false_implies,and_true,true_implies,List.length_nil,Nat.zero_le,not_true_eq_false]
    refine ⟨trivial,trivial,fun h=>?_⟩; have:=hd h; unfold rn; rw [if_neg (by omega)]; omega
  obtain ⟨rfl,t0,t1,e⟩:=jo h2
  simp only [h2,ne_eq,not_true_eq_false,if_false,e]
  have hdo:d = false:=by
    cases d with
    | false=>rfl
    | true=>have:=hd rfl; omega
  subst hdo
  have r1:rn o = 1:=by unfold rn; rw [if_pos t0]
  have r2:rn (-1) = 0:=rfl
  cases s with
  | true=>simp [r1,r2]
  | false =>
    simp only [Bool.false_eq_true,if_false,false_implies,true_implies,true_and,and_true,not_true_eq_false]
    unfold br
    cases T with
    | nil=>simp [r1,r2]
    | cons t B =>
      have:=hm t B rfl
      have r3:rn t = 1:=by unfold rn; rw [if_pos this]
      simp [r1,r3]
end Go.Fx.YtphaaebhgggbaaaFx

