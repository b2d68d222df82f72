/- What the functions that the statement reaches compute: part 7. -/
import Derived.Test.YtphaaebhgggbaaaFxW6
namespace Go.Fx.YtphaaebhgggbaaaFx
open Go Go.Fx
attribute [local irreducible] aC runI bD cO

set_option maxRecDepth 100000
set_option maxHeartbeats 4000000

/-! Something that is owned. -/
structure OwIs (st:St) (b:Nat) (x:Ln) (z:AV) (o:Int) (T:List Int) (g:Nat):Prop where
  get:st.get b = some [.lit (.int .i64 o),.ptr x.l 0,z]
  ln:LnIs st x T g
  nb:b ∉ x.ids
  ob:-1≤o∧o < 64
section
variable {st:St} {b:Nat} {x:Ln} {z:AV} {o:Int} {T:List Int} {g:Nat}
theorem OwIs.lts (h:OwIs st b x z o T g):∀ i ∈ b::x.ids,i < st.boxes.length:=fun i hi=>by
  rcases List.mem_cons.1 hi with rfl | hi
  · exact c9 h.get
  · exact h.ln.lts i hi
theorem OwIs.fr {st':St} {S:List Nat} (h:OwIs st b x z o T g) (ho:Fr st st' S) (hd:∀ i ∈ b::x.ids,i ∉ S):OwIs st' b x z o T g :=
  ⟨(ib (ho.2 b (h.lts b (by simp)) (hd b (by simp)))).trans h.get,h.ln.fr ho fun i hi=>hd i (List.mem_cons_of_mem _ hi),h.nb,h.ob⟩
theorem OwIs.of {st':St} {T':List Int} {g':Nat} (h:OwIs st b x z o T g) (ho:Oth st st' x.ids) (hl:LnIs st' x T' g'):OwIs st' b x z o T' g' :=
  ⟨(ho.get h.nb).trans h.get,hl,h.nb,h.ob⟩
theorem OwIs.put (h:OwIs st b x z o T g) (z':AV) {o':Int} (hob:-1≤o'∧o' < 64):OwIs (st.set b [.lit (.int .i64 o'),.ptr x.l 0,z']) b x z' o' T g∧Oth st (st.set b [.lit (.int .i64 o'),.ptr x.l 0,z']) [b]:=by
  have ho:Oth st (st.set b [.lit (.int .i64 o'),.ptr x.l 0,z']) [b]:=Oth.set _ _ _ (by simp)
  exact ⟨⟨cD (c9 h.get),h.ln.oth ho (fun i hi hx=>h.nb (by simp at hx; exact hx ▸ hi)),h.nb,hob⟩,ho⟩

def cm (o t:Int):Int×Int:=if chk [] t≠0 then (o,chk [] t) else if o≠t then (o,8) else (-1,0)
theorem jn (h:OwIs st b x z o T g) (t:Int):aZ Go.Proofs.Try.prog n_f71 [.ptr b 0,.lit (.int .i64 t)] st (fun r st' =>
    r = .lit (.int .i64 (cm o t).2)∧OwIs st' b x z (cm o t).1 T g∧Oth st st' [b]):=by
  have hg:=h.get
  have hck:=check0 t st
  refine aX hmix k_f71 rfl rfl fun Q hQ=>?_
  unfold aFun c_f71
  unfold cm at hQ
  by_cases h0:chk [] t = 0
  case neg =>
    rw [if_pos h0] at hQ
    simp (config:=KF) (disch:=omega) only [bZ,ao,ev_f,putS,Sf.set,Sf.reg,getR,setR,aa,aO,id,↓reduceIte,Nat.reduceEqDiff,reduceCtorEq,Nat.zero_add,f71_1e,f71_2e,f71_2l,f71_3e,f71_4e,f71_5e,f71_5l]
    refine aF rfl e_f64 hck rfl ?_
    simp (config:=KF) (disch:=omega) only [bZ,retI,az,cH,putS,Sf.set,Sf.reg,getR,setR,aa,Sf.disAt,↓reduceIte,Nat.reduceEqDiff,Bool.true_and,true_and,reduceCtorEq,not_false_eq_true,decide_true,f71_6e,f71_7e,f71_7l,f71_8e,f71_9e,f71_10e,f71_10l,h0]
    exact hQ _ _ ⟨rfl,h,.refl ..⟩
  rw [if_neg (by simpa using h0)] at hQ
  rw [h0] at hck
  by_cases h1:o = t
  · rw [if_neg (by simpa using h1)] at hQ
    obtain ⟨h3,ho⟩:=h.put z (o':=-1) (by omega)
    have hne:(o != t) = false:=by simp [h1]
    simp (config:=KF) (disch:=omega) only [bZ,ao,ev_f,putS,Sf.set,Sf.reg,getR,setR,aa,aO,id,↓reduceIte,Nat.reduceEqDiff,reduceCtorEq,Nat.zero_add,f71_1e,f71_2e,f71_2l,f71_3e,f71_4e,f71_5e,f71_5l]
    refine aF rfl e_f64 hck rfl ?_
    subst h1
    simp (config:=KF) (disch:=omega) only [bZ,retI,aw,aq,aM,az,aG,ar,aS,boxX,aR,addA,ag,cH,lJ,lK,putS,Sf.set,Sf.reg,getR,setR,aa,Sf.disAt,aA,ae,af,List.length_cons,List.length_nil,List.all_cons,List.all_nil,List.drop_zero,List.set_cons_zero,↓reduceIte,Nat.reduceEqDiff,Nat.reduceAdd,Nat.reduceLeDiff,Int.reduceNeg,Bool.true_and,Bool.and_true,and_true,true_and,reduceCtorEq,Nat.zero_add,Nat.add_zero,not_true_eq_false,decide_false,am,aj,f71_6e,f71_7e,f71_7l,f71_8e,f71_11e,f71_12e,f71_13e,f71_13l,f71_14e,f71_17e,f71_18e,f71_18l,f71_19e,f71_20e,f71_20l,hg]
    exact hQ _ _ ⟨rfl,h3,ho⟩
  · rw [if_pos h1] at hQ
    simp (config:=KF) (disch:=omega) only [bZ,ao,ev_f,putS,Sf.set,Sf.reg,getR,setR,aa,aO,id,↓reduceIte,Nat.reduceEqDiff,reduceCtorEq,Nat.zero_add,f71_1e,f71_2e,f71_2l,f71_3e,f71_4e,f71_5e,f71_5l]
    refine aF rfl e_f64 hck rfl ?_
    simp (config:=KF) (disch:=omega) only [bZ,retI,aw,aq,aM,az,ar,aS,addA,ag,cH,putS,Sf.set,Sf.reg,getR,setR,aa,Sf.disAt,List.drop_zero,↓reduceIte,Nat.reduceEqDiff,Bool.true_and,true_and,reduceCtorEq,Nat.add_zero,not_false_eq_true,not_true_eq_false,decide_true,decide_false,f71_6e,f71_7e,f71_7l,f71_8e,f71_11e,f71_12e,f71_13e,f71_13l,f71_14e,f71_15e,f71_16e,f71_16l,hg,h1]
    exact hQ _ _ ⟨rfl,h,.refl ..⟩

def a8 (o:Int) (T:List Int):(Int×List Int)×List Int :=
  if 0≤o then ((o,T),[]) else match T with | []=>((o,[]),[]) | t::B=>((t,B),[t])
theorem ik (h:OwIs st b x z o T g) (hg0:g < 1000000):aZ Go.Proofs.Try.prog n_f72 [.ptr b 0] st (fun r st' =>
    r = gAV (a8 o T).2∧OwIs st' b x z (a8 o T).1.1 (a8 o T).1.2 g∧Oth st st' (b::x.ids)):=by
  have hg:=h.get
  have hob:=h.ob
  refine aX hmix k_f72 rfl rfl fun Q hQ=>?_
  unfold aFun c_f72
  unfold a8 at hQ
  by_cases h0:0≤o
  · rw [if_pos h0] at hQ
    simp (config:=KF) (disch:=omega) only [bZ,retI,aw,aq,aM,ar,aS,addA,ag,ep,putS,Sf.set,Sf.reg,getR,setR,aa,aO,List.drop_zero,↓reduceIte,Nat.reduceEqDiff,Bool.true_and,true_and,reduceCtorEq,Nat.add_zero,bq,f72_1e,f72_2e,f72_2l,f72_3e,f72_4e,f72_5e,f72_5l,f72_6e,f72_7e,f72_8e,f72_8l,hg]
    exact hQ _ _ ⟨rfl,h,.refl ..⟩
  rw [if_neg h0] at hQ
  cases T with
  | nil =>
    simp (config:=KF) (disch:=omega) only [bZ,aw,aq,aM,ao,ar,aS,addA,ag,ep,ev_f,putS,Sf.set,Sf.reg,getR,setR,aa,aO,id,List.drop_zero,List.drop_succ_cons,↓reduceIte,Nat.reduceEqDiff,reduceCtorEq,Nat.zero_add,Nat.add_zero,bH,f72_1e,f72_2e,f72_2l,f72_3e,f72_4e,f72_5e,f72_5l,f72_6e,f72_9e,f72_10e,f72_10l,hg]
    refine ba rfl e_f83 (mT h.ln) rfl fun r st1 hr=>?_
    obtain ⟨rfl,h2,ho⟩:=hr
    simp (config:=KF) (disch:=omega) only [bZ,retI,o_un,bJ,az,extV,unA,putS,Sf.set,Sf.reg,getR,setR,aa,Sf.disAt,bp,bk,List.getElem?_cons_zero,List.getElem?_cons_succ,↓reduceIte,Nat.reduceEqDiff,Bool.true_and,true_and,reduceCtorEq,Bool.not_false,f72_11e,f72_12e,f72_13e,f72_13l,f72_14e,f72_15e,f72_16e,f72_16l]
    exact hQ _ _ ⟨rfl,h.of ho h2,ho.mono fun i hi=>List.mem_cons_of_mem _ hi⟩
  | cons t B =>
    have htk:=h.ln.tk t (by simp)
    simp (config:=KF) (disch:=omega) only [bZ,aw,aq,aM,ao,ar,aS,addA,ag,ep,ev_f,putS,Sf.set,Sf.reg,getR,setR,aa,aO,id,List.drop_zero,List.drop_succ_cons,↓reduceIte,Nat.reduceEqDiff,reduceCtorEq,Nat.zero_add,Nat.add_zero,bH,f72_1e,f72_2e,f72_2l,f72_3e,f72_4e,f72_5e,f72_5l,f72_6e,f72_9e,f72_10e,f72_10l,hg]
    refine ba rfl e_f83 (kQ h.ln hg0) rfl fun r st1 hr=>?_
    obtain ⟨rfl,h2,ho⟩:=hr
    have h3:=h.of ho h2
    have hg3:=h3.get
    obtain ⟨h4,ho4⟩:=h3.put z (o':=t) (by omega)
    simp (config:=KF) (disch:=omega) only [bZ,and_self,retI,o_un,bJ,aw,aM,dq,az,aG,extV,aS,bslV,boxX,aR,List.reduceReplicate,addA,cE,unA,au,aE,putS,Sf.set,Sf.reg,getR,setR,aa,Sf.disAt,cW,aI,bp,bk,aA,ae,af,eh,List.length_cons,List.length_nil,List.getElem?_cons_zero,List.getElem?_cons_succ,List.all_cons,List.all_nil,List.set_cons_zero,↓reduceIte,Nat.reduceEqDiff,Nat.reduceAdd,Nat.reduceLT,Nat.reduceLeDiff,Bool.true_and,Bool.and_true,and_true,true_and,reduceCtorEq,Nat.zero_add,Nat.add_zero,Bool.not_true,am,aj,f72_11e,f72_12e,f72_13e,f72_13l,f72_14e,f72_17e,f72_18e,f72_18l,f72_19e,f72_20e,f72_20l,hg3]
    exact hQ _ _ ⟨rfl,h4,(ho.mono fun i hi=>List.mem_cons_of_mem _ hi).trans (ho4.mono (by simp))⟩

def cn (o:Int) (T U:List Int) (t:Int):(Int×List Int)×Bool×Int :=
  if chk (U++T) t≠0 then ((o,T),false,chk (U++T) t) else if o = t then ((o,T),false,11) else if o < 0 then ((t,T),true,0) else ((o,T++[t]),false,0)
theorem chk_split {U T:List Int} {t:Int} (h:chk (U++T) t = 0):(0≤t∧t < 64)∧t ∉ T:=by
  obtain ⟨h1,h2⟩:=mU h
  exact ⟨h1,fun e=>h2 (List.mem_append_right _ e)⟩

/-- What comes behind the check. -/
theorem mV (h:OwIs st b x z o T g) (hg0:g < 1000000) (U:List Int) (t:Int) (Q:AV→St→Prop)
    (hQ:∀ (v:AV) (st':St),(∃ g',v = .tup [.lit (.bool (cn o T U t).2.1),.lit (.int .i64 (cn o T U t).2.2)]∧OwIs st' b x z (cn o T U t).1.1 (cn o T U t).1.2 g'∧g'≤g + 1∧Oth st st' (b::x.ids))→Q v st') :
    aC Go.Proofs.Try.prog id false f70_6 ⟨[(0,.ptr b 0),(1,.lit (.int .i64 t)),(8,.lit (.int .i64 (chk (U++T) t)))],[]⟩ st (seqQ (aC Go.Proofs.Try.prog id false f70_11) (retQ [RI.tmp 6,RI.tmp 7] Q)):=by
  have hg:=h.get
  have hob:=h.ob
  unfold cn at hQ
  by_cases h0:chk (U++T) t = 0
  case neg =>
    rw [if_pos h0] at hQ
    simp (config:=KF) (disch:=omega) only [bZ,retI,resI,resL,az,cH,putS,Sf.set,Sf.reg,getR,setR,aa,Sf.disAt,aT,List.all_cons,List.all_nil,↓reduceIte,Nat.reduceEqDiff,Bool.true_and,Bool.and_true,and_true,true_and,reduceCtorEq,not_false_eq_true,decide_true,f70_6e,f70_7e,f70_7l,f70_8e,f70_9e,f70_10e,f70_10l,h0]
    exact hQ _ _ ⟨g,rfl,h,by omega,.refl ..⟩
  rw [if_neg (by simpa using h0)] at hQ
  obtain ⟨t0,t1⟩:=chk_split h0
  rw [h0]
  by_cases h1:o = t
  · rw [if_pos h1] at hQ
    subst h1
    simp (config:=KF) (disch:=omega) only [bZ,cx,retI,resI,resL,aw,aq,aM,az,ar,aS,addA,ag,bW,cH,putS,Sf.set,Sf.reg,getR,setR,aa,Sf.disAt,aT,List.all_cons,List.all_nil,List.drop_zero,↓reduceIte,Nat.reduceEqDiff,Bool.true_and,Bool.and_true,and_true,true_and,reduceCtorEq,Nat.add_zero,not_true_eq_false,decide_true,decide_false,f70_6e,f70_7e,f70_7l,f70_8e,f70_11e,f70_12e,f70_13e,f70_14e,f70_14l,f70_15e,f70_16e,f70_17e,f70_17l,hg]
    exact hQ _ _ ⟨g,rfl,h,by omega,.refl ..⟩
  rw [if_neg h1] at hQ
  by_cases h2:o < 0
  · rw [if_pos h2] at hQ
    obtain ⟨h4,ho4⟩:=h.put z (o':=t) (by omega)
    simp (config:=KF) (disch:=omega) only [bZ,cx,retI,resI,resL,aw,aq,aM,az,aG,ar,aS,boxX,aR,addA,ag,bW,cH,bS,au,aE,putS,Sf.set,Sf.reg,getR,setR,aa,Sf.disAt,aA,ae,af,aT,List.length_cons,List.length_nil,List.all_cons,List.all_nil,List.drop_zero,List.set_cons_zero,↓reduceIte,Nat.reduceEqDiff,Nat.reduceAdd,Nat.reduceLeDiff,Bool.true_and,Bool.and_true,and_true,true_and,reduceCtorEq,Nat.zero_add,Nat.add_zero,not_true_eq_false,decide_false,bq,am,aj,f70_6e,f70_7e,f70_7l,f70_8e,f70_11e,f70_12e,f70_13e,f70_14e,f70_14l,f70_15e,f70_18e,f70_19e,f70_19l,f70_20e,f70_21e,f70_22e,f70_22l,f70_23e,f70_24e,f70_24l,hg,h1]
    exact hQ _ _ ⟨g,rfl,h4,by omega,ho4.mono (by simp)⟩
  · rw [if_neg h2] at hQ
    simp (config:=KF) (disch:=omega) only [bZ,aD,aw,aq,aM,az,ao,ar,aS,addA,ag,bW,cH,bS,ev_f,putS,Sf.set,Sf.reg,getR,setR,aa,Sf.disAt,id,List.drop_zero,List.drop_succ_cons,↓reduceIte,Nat.reduceEqDiff,reduceCtorEq,Nat.zero_add,Nat.add_zero,not_true_eq_false,decide_false,bH,f70_6e,f70_7e,f70_7l,f70_8e,f70_11e,f70_12e,f70_13e,f70_14e,f70_14l,f70_15e,f70_18e,f70_19e,f70_19l,f70_20e,f70_25e,f70_26e,f70_26l,hg,h1]
    refine ba rfl e_f65 (ff h.ln hg0 t0 t1) rfl fun r st1 hr=>?_
    obtain ⟨rfl,h3,ho⟩:=hr
    simp (config:=KF) (disch:=omega) only [bZ,retI,resI,resL,putS,Sf.set,Sf.reg,getR,setR,aa,aT,List.all_cons,List.all_nil,↓reduceIte,Nat.reduceEqDiff,Bool.true_and,Bool.and_true,and_true,true_and,reduceCtorEq,f70_27e,f70_28e,f70_28l]
    exact hQ _ _ ⟨_,rfl,h.of ho h3,by omega,ho.mono fun i hi=>List.mem_cons_of_mem _ hi⟩

theorem oV (h:OwIs st b x z o T g) (hg0:g < 1000000) (t:Int):aZ Go.Proofs.Try.prog n_f70 [.ptr b 0,.lit (.int .i64 t),.lit (.slice none 0 0)] st (fun r st' =>
    ∃ g',r = .tup [.lit (.bool (cn o T [] t).2.1),.lit (.int .i64 (cn o T [] t).2.2)]∧OwIs st' b x z (cn o T [] t).1.1 (cn o T [] t).1.2 g'∧g'≤g + 1∧Oth st st' (b::x.ids)):=by
  have hg:=h.get
  have hck:=check1s h.ln t
  refine aX hmix k_f70 rfl rfl fun Q hQ=>?_
  unfold aFun c_f70
  simp (config:=KF) (disch:=omega) only [bZ,and_self,aw,aq,aM,dq,az,dO,ao,ar,aS,bslV,eF,List.isEmpty_cons,List.reduceReplicate,addA,ag,cq,srcA,cE,aH,ev_f,putS,Sf.set,Sf.reg,getR,setR,aa,Sf.disAt,aO,id,eG,ca,b8,af,List.length_cons,List.length_nil,List.all_cons,List.all_nil,List.drop_zero,List.drop_succ_cons,List.set_cons_zero,↓reduceIte,Nat.reduceEqDiff,Nat.reduceAdd,Nat.reduceLT,Bool.and_true,and_true,reduceCtorEq,Nat.zero_add,Bool.false_eq_true,dg,f70_1e,f70_2e,f70_2l,f70_3e,f70_4e,f70_5e,f70_5l,hg]
  refine aF rfl e_f64 hck rfl ?_
  simp (config:=KF) (disch:=omega) only [bZ,az,putS,Sf.set,Sf.reg,getR,setR,aa,Sf.disAt,↓reduceIte,Nat.reduceEqDiff,reduceCtorEq]
  exact mV h hg0 [] t Q hQ
theorem oW {y:Ln} {U:List Int} {k:Nat} (h:OwIs st b x z o T g) (hy:LnIs st y U k) (hg0:g < 1000000) (t:Int):aZ Go.Proofs.Try.prog n_f70 [.ptr b 0,.lit (.int .i64 t),.xs 1 [.ptr y.l 0]] st (fun r st' =>
    ∃ g',r = .tup [.lit (.bool (cn o T U t).2.1),.lit (.int .i64 (cn o T U t).2.2)]∧OwIs st' b x z (cn o T U t).1.1 (cn o T U t).1.2 g'∧g'≤g + 1∧Oth st st' (b::x.ids)):=by
  have hg:=h.get
  have hck:=check2s hy h.ln t
  refine aX hmix k_f70 rfl rfl fun Q hQ=>?_
  unfold aFun c_f70
  simp (config:=KF) (disch:=omega) only [bZ,and_self,aw,aq,aM,dq,az,dO,ao,ar,aS,bslV,eF,List.isEmpty_cons,List.reduceReplicate,addA,ag,cq,srcA,cE,aH,ev_f,putS,Sf.set,Sf.reg,getR,setR,aa,Sf.disAt,aO,id,dis_xs,eG,ca,b8,af,List.length_cons,List.length_nil,List.all_cons,List.all_nil,List.nil_append,List.cons_append,List.drop_zero,List.drop_succ_cons,List.set_cons_zero,↓reduceIte,Nat.reduceEqDiff,Nat.reduceAdd,Nat.reduceLT,Bool.true_and,Bool.and_true,and_true,true_and,reduceCtorEq,Nat.zero_add,dg,f70_1e,f70_2e,f70_2l,f70_3e,f70_4e,f70_5e,f70_5l,hg]
  refine aF rfl e_f64 hck rfl ?_
  simp (config:=KF) (disch:=omega) only [bZ,az,putS,Sf.set,Sf.reg,getR,setR,aa,Sf.disAt,↓reduceIte,Nat.reduceEqDiff,reduceCtorEq]
  exact mV h hg0 U t Q hQ
end
end Go.Fx.YtphaaebhgggbaaaFx

