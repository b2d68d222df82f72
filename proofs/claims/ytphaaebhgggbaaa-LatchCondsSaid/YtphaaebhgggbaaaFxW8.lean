/- What the functions that the statement reaches compute: part 8. -/
import Derived.Test.YtphaaebhgggbaaaFxW7
namespace Go.Fx.YtphaaebhgggbaaaFx
open Go Go.Fx
attribute [local irreducible] aC runI bD cO

set_option maxRecDepth 100000
set_option maxHeartbeats 4000000

/-! A once. -/
section
variable {st:St} {b:Nat} {x:Ln} {z:AV} {o:Int} {T:List Int} {g:Nat} {d:Bool}
theorem onz (h:OwIs st b x z o T g):bg Go.Proofs.Try.prog n_f57 [.ptr b 0] st (.lit (.bool false)):=by
  have hg:=h.get
  refine cc hmix k_f57 rfl rfl fun Q hQ=>?_
  unfold aFun c_f57
  simp (config:=KF) (disch:=omega) only [bZ,retI,aL,AI.dst,bh,bu,aw,aq,aM,az,bA,ar,aS,fB,d7,cV,addA,ag,putS,Sf.set,Sf.reg,getR,setR,aa,Sf.disAt,aO,List.drop_zero,List.drop_succ_cons,↓reduceIte,Nat.reduceEqDiff,Bool.true_and,true_and,reduceCtorEq,Nat.zero_add,Nat.add_zero,Bool.false_eq_true,f57_1e,f57_2e,f57_2l,f57_3e,f57_4e,f57_4l,hg]
  exact hQ _
theorem newon_calls (st:St):aZ Go.Proofs.Try.prog n_f11 [] st (fun r st'=>∃ b x,r = .ptr b 0∧OwIs st' b x (.lit (.bool false)) (-1) [] 0∧Fr st st' []∧∀ i ∈ b::x.ids,st.boxes.length≤i):=by
  refine aX hmix k_f11 rfl rfl fun Q hQ=>?_
  unfold aFun c_f11
  simp (config:=KF) (disch:=omega) only [bZ,ao,ev_f,putS,Sf.set,setR,aa,aO,id,Int.reduceNeg,f11_1e,f11_2e,f11_2l,f11_3e,f11_4e,f11_4l]
  refine ba rfl e_f51 (gn st) rfl fun r st1 hr=>?_
  obtain ⟨x,rfl,h1,h2,h3⟩:=hr
  simp (config:=KF) (disch:=omega) only [bZ,and_self,retI,cv,az,g9,bstV,boxX,bf,au,aE,putS,Sf.set,Sf.reg,getR,setR,aa,Sf.disAt,al,ah,fY,aA,ca,ai,ae,b8,af,fw,List.length_cons,List.length_nil,List.getElem?_cons_zero,List.getElem?_cons_succ,List.all_cons,List.all_nil,List.set_cons_zero,List.set_cons_succ,↓reduceIte,Nat.reduceEqDiff,Nat.reduceAdd,Nat.reduceLeDiff,Int.reduceNeg,Bool.true_and,Bool.and_true,and_true,true_and,reduceCtorEq,Nat.zero_add,am,aj]
  have hg:=dx st1 [.lit (.int .i64 (-1)),.ptr x.l 0,.lit (.bool false)]
  have hlt:=h1.lts
  have hf:Fr st1 (st1.push (.cells [.lit (.int .i64 (-1)),.ptr x.l 0,.lit (.bool false)])) []:=⟨by rw [bU]; omega,fun i hi _=>dh hi⟩
  refine hQ _ _ ⟨_,x,rfl,⟨hg,h1.fr hf (by simp),fun hx=>by have:=hlt _ hx; omega,by omega⟩,h2.trans hf,fun i hi=>?_⟩
  rcases List.mem_cons.1 hi with rfl | hi
  · exact h2.1
  · exact h3 i hi

def di (o:Int) (T:List Int) (d:Bool) (t:Int):(Int×List Int)×Bool×Bool×Int :=
  if d then ((o,T),false,decide (chk [] t = 0),chk [] t) else ((cn o T [] t).1,(cn o T [] t).2.1,false,(cn o T [] t).2.2)
theorem nc (h:OwIs st b x (.lit (.bool d)) o T g) (hg0:g < 1000000) (t:Int):aZ Go.Proofs.Try.prog n_f30 [.ptr b 0,.lit (.int .i64 t)] st (fun r st' =>
    ∃ g',r = .tup [.lit (.bool (di o T d t).2.1),.lit (.bool (di o T d t).2.2.1),.lit (.int .i64 (di o T d t).2.2.2)]∧OwIs st' b x (.lit (.bool d)) (di o T d t).1.1 (di o T d t).1.2 g'∧g'≤g + 1∧Oth st st' (b::x.ids)):=by
  have hg:=h.get
  refine aX hmix k_f30 rfl rfl fun Q hQ=>?_
  unfold aFun c_f30
  unfold di at hQ
  cases d with
  | true =>
    have hck:=check0 t st
    simp only [if_true] at hQ
    simp (config:=KF) (disch:=omega) only [bZ,ao,ev_f,putS,Sf.set,Sf.reg,getR,setR,aa,aO,id,↓reduceIte,Nat.reduceEqDiff,reduceCtorEq,Nat.zero_add,f30_1e,f30_2e,f30_2l,f30_3e,f30_4e,f30_5e,f30_5l]
    refine aF rfl e_f57 (onz h) rfl ?_
    simp (config:=KF) (disch:=omega) only [bZ,aw,aq,aM,ao,ar,aS,addA,ag,ev_f,putS,Sf.set,Sf.reg,getR,setR,aa,id,List.drop_zero,List.drop_succ_cons,↓reduceIte,Nat.reduceEqDiff,reduceCtorEq,Nat.zero_add,f30_6e,f30_9e,f30_10e,f30_11e,f30_11l,f30_12e,f30_13e,f30_14e,f30_14l,hg]
    refine aF rfl e_f64 hck rfl ?_
    simp (config:=KF) (disch:=omega) only [bZ,retI,resI,resL,az,bW,putS,Sf.set,Sf.reg,getR,setR,aa,Sf.disAt,aT,List.all_cons,List.all_nil,↓reduceIte,Nat.reduceEqDiff,Bool.true_and,Bool.and_true,and_true,true_and,reduceCtorEq,f30_15e,f30_16e,f30_16l]
    exact hQ _ _ ⟨g,rfl,h,by omega,.refl ..⟩
  | false =>
    simp only [Bool.false_eq_true,if_false] at hQ
    simp (config:=KF) (disch:=omega) only [bZ,ao,ev_f,putS,Sf.set,Sf.reg,getR,setR,aa,aO,id,↓reduceIte,Nat.reduceEqDiff,reduceCtorEq,Nat.zero_add,f30_1e,f30_2e,f30_2l,f30_3e,f30_4e,f30_5e,f30_5l]
    refine aF rfl e_f57 (onz h) rfl ?_
    simp (config:=KF) (disch:=omega) only [bZ,aw,aq,aM,ao,ar,aS,addA,ag,ev_f,putS,Sf.set,Sf.reg,getR,setR,aa,id,List.drop_zero,List.drop_succ_cons,↓reduceIte,Nat.reduceEqDiff,reduceCtorEq,Nat.zero_add,Nat.add_zero,f30_6e,f30_9e,f30_10e,f30_11e,f30_11l,f30_12e,f30_17e,f30_18e,f30_18l,hg]
    refine ba rfl e_f70 (oV h hg0 t) rfl fun r st1 hr=>?_
    obtain ⟨g',rfl,h2,h3,h4⟩:=hr
    simp (config:=KF) (disch:=omega) only [bZ,retI,resI,resL,bJ,az,extV,putS,Sf.set,Sf.reg,getR,setR,aa,Sf.disAt,bp,bk,aT,List.getElem?_cons_zero,List.getElem?_cons_succ,List.all_cons,List.all_nil,↓reduceIte,Nat.reduceEqDiff,Bool.true_and,Bool.and_true,and_true,true_and,reduceCtorEq,f30_19e,f30_20e,f30_20l]
    exact hQ _ _ ⟨g',rfl,h2,h3,h4⟩

def dK (o:Int) (T:List Int) (d:Bool) (t:Int) (s:Bool):(Int×List Int×Bool)×List Int×Int :=
  if (cm o t).2≠0 then (((cm o t).1,T,d),[],(cm o t).2) else if s then (((cm o t).1,[],true),T,0) else (((a8 (cm o t).1 T).1.1,(a8 (cm o t).1 T).1.2,d),(a8 (cm o t).1 T).2,0)
theorem nf (h:OwIs st b x (.lit (.bool d)) o T g) (hg0:g < 1000000) (t:Int) (s:Bool):aZ Go.Proofs.Try.prog n_f31 [.ptr b 0,.lit (.int .i64 t),.lit (.bool s)] st (fun r st' =>
    r = .tup [lAV (dK o T d t s).2.1,.lit (.int .i64 (dK o T d t s).2.2)]∧OwIs st' b x (.lit (.bool (dK o T d t s).1.2.2)) (dK o T d t s).1.1 (dK o T d t s).1.2.1 g∧Oth st st' (b::x.ids)):=by
  have hg:=h.get
  refine aX hmix k_f31 rfl rfl fun Q hQ=>?_
  unfold aFun c_f31
  unfold dK at hQ
  obtain ⟨o',ho'⟩:∃ o',o' = (cm o t).1:=⟨_,rfl⟩
  obtain ⟨e,he⟩:∃ e,e = (cm o t).2:=⟨_,rfl⟩
  have hl:=jn h t
  rw [← ho',← he] at hQ hl
  simp (config:=KF) (disch:=omega) only [bZ,ao,ev_f,putS,Sf.set,Sf.reg,getR,setR,aa,aO,id,↓reduceIte,Nat.reduceEqDiff,Nat.reduceAdd,reduceCtorEq,Nat.zero_add,f31_1e,f31_2e,f31_2l,f31_3e,f31_4e,f31_5e,f31_5l]
  refine aF rfl e_f57 (onz h) rfl ?_
  simp (config:=KF) (disch:=omega) only [bZ,aw,aM,ao,aS,addA,ev_f,putS,Sf.set,Sf.reg,getR,setR,aa,id,↓reduceIte,Nat.reduceEqDiff,reduceCtorEq,Nat.add_zero,f31_6e,f31_9e,f31_10e,f31_11e,f31_11l]
  refine ba rfl e_f71 hl rfl fun r st1 hr=>?_
  obtain ⟨rfl,h1,ho1⟩:=hr
  by_cases h0:e = 0
  case neg =>
    rw [if_pos h0] at hQ
    simp (config:=KF) (disch:=omega) only [bZ,retI,resI,resL,az,cH,putS,Sf.set,Sf.reg,getR,setR,aa,Sf.disAt,aT,List.all_cons,List.all_nil,↓reduceIte,Nat.reduceEqDiff,Bool.true_and,Bool.and_true,and_true,true_and,reduceCtorEq,not_false_eq_true,decide_true,f31_12e,f31_13e,f31_13l,f31_14e,f31_15e,f31_16e,f31_16l,h0]
    exact hQ _ _ ⟨rfl,h1,ho1.mono (by simp)⟩
  rw [if_neg (by simpa using h0)] at hQ
  rw [h0]
  have hg1:=h1.get
  have hl1:=c9 hg1
  cases s with
  | true =>
    simp only [if_true] at hQ
    obtain ⟨h2,ho2⟩:=h1.put (.lit (.bool true)) h1.ob
    have hg2:=h2.get
    simp (config:=KF) (disch:=omega) only [bZ,aw,aq,aM,az,aG,ao,ar,aS,boxX,aR,addA,ag,cH,ev_f,lJ,lK,putS,Sf.set,Sf.reg,getR,setR,aa,Sf.disAt,id,aA,ae,af,List.length_cons,List.length_nil,List.all_cons,List.all_nil,List.drop_zero,List.drop_succ_cons,List.set_cons_zero,List.set_cons_succ,↓reduceIte,Nat.reduceEqDiff,Nat.reduceAdd,Nat.reduceLeDiff,Bool.true_and,Bool.and_true,and_true,true_and,reduceCtorEq,Nat.zero_add,Nat.add_zero,not_true_eq_false,decide_false,cD,am,aj,f31_12e,f31_13e,f31_13l,f31_14e,f31_17e,f31_18e,f31_19e,f31_19l,f31_20e,f31_21e,f31_22e,f31_22l,f31_23e,f31_24e,f31_24l,hg1]
    refine ba rfl e_f66 (jA h2.ln hg0) rfl fun r st2 hr=>?_
    obtain ⟨rfl,h3,ho3⟩:=hr
    have hf:=hQ _ st2 ⟨rfl,h2.of ho3 h3,((ho1.mono (by simp)).trans (ho2.mono (by simp))).trans (ho3.mono fun i hi=>List.mem_cons_of_mem _ hi)⟩
    rcases eu T with ⟨e,hz⟩ | ⟨e,hz⟩
    all_goals
      simp only [e] at hf ⊢
      simp (config:=KF) (disch:=omega) only [bZ,retI,resI,resL,az,putS,Sf.set,Sf.reg,getR,setR,aa,Sf.disAt,aI,eh,aT,List.all_cons,List.all_nil,↓reduceIte,Nat.reduceEqDiff,Bool.true_and,Bool.and_true,and_true,true_and,reduceCtorEq]
      exact hf
  | false =>
    simp only [Bool.false_eq_true,if_false] at hQ
    simp (config:=KF) (disch:=omega) only [bZ,aw,aM,az,ao,aS,addA,cH,ev_f,putS,Sf.set,Sf.reg,getR,setR,aa,Sf.disAt,id,↓reduceIte,Nat.reduceEqDiff,reduceCtorEq,Nat.add_zero,not_true_eq_false,decide_false,f31_12e,f31_13e,f31_13l,f31_14e,f31_17e,f31_18e,f31_19e,f31_19l,f31_20e,f31_25e,f31_26e,f31_26l]
    refine ba rfl e_f72 (ik h1 hg0) rfl fun r st2 hr=>?_
    obtain ⟨rfl,h3,ho3⟩:=hr
    have hf:=hQ _ st2 ⟨rfl,h3,(ho1.mono (by simp)).trans ho3⟩
    generalize (a8 o' T).2 = M at hf ⊢
    unfold lAV at hf
    unfold gAV
    by_cases hz:M = []
    all_goals
      first | rw [if_pos hz] at hf ⊢ | rw [if_neg hz] at hf ⊢
      simp (config:=KF) (disch:=omega) only [bZ,retI,resI,resL,az,putS,Sf.set,Sf.reg,getR,setR,aa,Sf.disAt,aI,eh,aT,List.all_cons,List.all_nil,↓reduceIte,Nat.reduceEqDiff,Bool.true_and,Bool.and_true,and_true,true_and,reduceCtorEq]
      exact hf
theorem oncan_calls (h:OwIs st b x z o T g) (hg0:g < 1000000) (t:Int):aZ Go.Proofs.Try.prog n_f56 [.ptr b 0,.lit (.int .i64 t)] st (fun r st' =>
    r = .lit (.int .i64 (lCan T t).2)∧OwIs st' b x z o (lCan T t).1 g∧Oth st st' x.ids):=by
  have hg:=h.get
  refine aX hmix k_f56 rfl rfl fun Q hQ=>?_
  unfold aFun c_f56
  simp (config:=KF) (disch:=omega) only [bZ,ao,ev_f,putS,Sf.set,Sf.reg,getR,setR,aa,aO,id,↓reduceIte,Nat.reduceEqDiff,reduceCtorEq,Nat.zero_add,f56_1e,f56_2e,f56_2l,f56_3e,f56_4e,f56_5e,f56_5l]
  refine aF rfl e_f57 (onz h) rfl ?_
  simp (config:=KF) (disch:=omega) only [bZ,aw,aq,aM,ao,ar,aS,addA,ag,ev_f,putS,Sf.set,Sf.reg,getR,setR,aa,id,List.drop_zero,List.drop_succ_cons,↓reduceIte,Nat.reduceEqDiff,reduceCtorEq,Nat.zero_add,Nat.add_zero,f56_6e,f56_9e,f56_10e,f56_10l,hg]
  refine ba rfl e_f75 (go h.ln hg0 t) rfl fun r st1 hr=>?_
  obtain ⟨rfl,h2,ho⟩:=hr
  simp (config:=KF) (disch:=omega) only [bZ,retI,az,putS,Sf.set,Sf.reg,getR,setR,aa,Sf.disAt,↓reduceIte,Nat.reduceEqDiff,Bool.true_and,true_and,reduceCtorEq]
  exact hQ _ _ ⟨rfl,h.of ho h2,ho⟩
theorem mW (h:LnIs st x T g):bg Go.Proofs.Try.prog n_f55 [.ptr x.q 0] st (.lit (.int .i64 (T.length:Nat))):=by
  obtain ⟨L,hL,hq,_⟩:=h.qi
  have hql:=nY hq
  rw [← iZ,hL] at hql
  exact hql
end
end Go.Fx.YtphaaebhgggbaaaFx

