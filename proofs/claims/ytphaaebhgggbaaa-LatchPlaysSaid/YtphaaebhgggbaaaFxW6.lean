/- What the functions that the statement reaches compute: part 6. -/
import Derived.Test.YtphaaebhgggbaaaFxW5
namespace Go.Fx.YtphaaebhgggbaaaFx
open Go Go.Fx
attribute [local irreducible] aC runI bA cS

set_option maxRecDepth 100000
set_option maxHeartbeats 4000000

/-! A latch. -/
structure LaIs (st:St) (b:Nat) (x:Ln) (c:Int) (T:List Int) (g:Nat):Prop where
  get:st.get b = some [.lit (.int .i64 c),.ptr x.l 0]
  ln:LnIs st x T g
  nb:b ∉ x.ids
  cb:0≤c∧c≤1048576
theorem LaIs.lts {st:St} {b:Nat} {x:Ln} {c:Int} {T:List Int} {g:Nat} (h:LaIs st b x c T g):∀ i ∈ b::x.ids,i < st.boxes.length:=fun i hi=>by
  rcases List.mem_cons.1 hi with rfl | hi
  · exact dg h.get
  · exact h.ln.lts i hi
theorem LaIs.fr {st st':St} {b:Nat} {x:Ln} {c:Int} {T:List Int} {g:Nat} {S:List Nat} (h:LaIs st b x c T g) (ho:Fr st st' S) (hd:∀ i ∈ b::x.ids,i ∉ S):LaIs st' b x c T g :=
  ⟨(gJ (ho.2 b (h.lts b (by simp)) (hd b (by simp)))).trans h.get,h.ln.fr ho fun i hi=>hd i (List.mem_cons_of_mem _ hi),h.nb,h.cb⟩
/-- A line changes, and what points to it stays. -/
theorem LaIs.of {st st':St} {b:Nat} {x:Ln} {c:Int} {T T':List Int} {g g':Nat} (h:LaIs st b x c T g) (ho:Oth st st' x.ids) (hl:LnIs st' x T' g'):LaIs st' b x c T' g' :=
  ⟨(ho.get h.nb).trans h.get,hl,h.nb,h.cb⟩

section
variable {st:St} {b:Nat} {x:Ln} {c:Int} {T:List Int} {g:Nat}
theorem LaIs.z (h:LaIs st b x c T g):aY Go.Proofs.Try.prog n_f74 [.ptr b 0] st (.lit (.bool false)):=by
  have hg:=h.get
  refine bN hmix k_f74 rfl rfl fun Q hQ=>?_
  unfold aFun c_f74
  simp (config:=KF) (disch:=omega) only [bZ,retI,aE,AI.dst,a7,bf,ar,am,aG,al,bu,ap,aL,dG,c5,cA,addA,af,putS,Sf.set,Sf.reg,getR,setR,aa,Sf.disAt,aI,List.drop_zero,List.drop_succ_cons,↓reduceIte,Nat.reduceEqDiff,Bool.true_and,true_and,reduceCtorEq,Nat.zero_add,Bool.false_eq_true,f74_1e,f74_2e,f74_2l,f74_3e,f74_4e,f74_4l,hg]
  exact hQ _
theorem newla_err {n:Int} (h:n < 1∨1048576 < n) (st:St):aY Go.Proofs.Try.prog n_f35 [.lit (.int .i64 n)] st (.tup [.lit (.pointer none),.lit (.int .i64 2)]):=by
  refine bN hmix k_f35 rfl rfl fun Q hQ=>?_
  unfold aFun c_f35
  by_cases h1:n < 1
  · simp (config:=KF) (disch:=omega) only [bZ,retI,resI,resL,aE,cD,AI.dst,bW,bf,cg,bC,putS,Sf.set,Sf.reg,getR,setR,aa,aI,aR,List.all_cons,List.all_nil,↓reduceIte,Nat.reduceEqDiff,Bool.true_and,Bool.and_true,and_true,true_and,reduceCtorEq,Bool.false_eq_true,dx,f35_1e,f35_2e,f35_2l,f35_3e,f35_4e,f35_5e,f35_5l,f35_6e,f35_7e,f35_8e,f35_8l]
    exact hQ _
  · simp (config:=KF) (disch:=omega) only [bZ,retI,resI,resL,aE,AI.dst,a7,bf,bu,bC,d6,putS,Sf.set,Sf.reg,getR,setR,aa,aI,aR,List.all_cons,List.all_nil,↓reduceIte,Nat.reduceEqDiff,Bool.true_and,Bool.and_true,and_true,true_and,reduceCtorEq,Bool.false_eq_true,bp,cP,f35_1e,f35_2e,f35_2l,f35_3e,f35_4e,f35_5e,f35_5l,f35_6e,f35_7e,f35_8e,f35_8l]
    exact hQ _
theorem kN {n:Int} (h:1≤n∧n≤1048576) (st:St):aU Go.Proofs.Try.prog n_f35 [.lit (.int .i64 n)] st (fun r st'=>∃ b x,r = .tup [.ptr b 0,.lit (.int .i64 0)]∧LaIs st' b x n [] 0∧Fr st st' []∧∀ i ∈ b::x.ids,st.boxes.length≤i):=by
  refine aO hmix k_f35 rfl rfl fun Q hQ=>?_
  unfold aFun c_f35
  simp (config:=KF) (disch:=omega) only [bZ,aE,AI.dst,a7,bf,aj,bu,bC,d6,ev_f,putS,Sf.set,Sf.reg,getR,setR,aa,aI,id,↓reduceIte,Nat.reduceEqDiff,reduceCtorEq,Bool.false_eq_true,bG,cP,f35_1e,f35_2e,f35_2l,f35_3e,f35_4e,f35_5e,f35_5l,f35_6e,f35_9e,f35_10e,f35_10l]
  refine aQ rfl e_f51 (fL st) rfl fun r st1 hr=>?_
  obtain ⟨x,rfl,h1,h2,h3⟩:=hr
  simp (config:=KF) (disch:=omega) only [bZ,and_self,retI,resI,resL,co,al,gC,bstV,boxX,a8,aA,aP,putS,Sf.set,Sf.reg,getR,setR,aa,Sf.disAt,ao,ai,fF,az,bU,ag,ae,bS,ah,fc,aR,List.length_cons,List.length_nil,List.getElem?_cons_zero,List.getElem?_cons_succ,List.all_cons,List.all_nil,List.set_cons_zero,List.set_cons_succ,↓reduceIte,Nat.reduceEqDiff,Nat.reduceAdd,Nat.reduceLeDiff,Bool.true_and,Bool.and_true,and_true,true_and,reduceCtorEq,Nat.zero_add,au,ak]
  have hg:=dp st1 [.lit (.int .i64 n),.ptr x.l 0]
  have hlt:=h1.lts
  have hf:Fr st1 (st1.push (.cells [.lit (.int .i64 n),.ptr x.l 0])) []:=⟨by rw [bL]; omega,fun i hi _=>dm hi⟩
  refine hQ _ _ ⟨_,x,rfl,⟨hg,h1.fr hf (by simp),fun hx=>by have:=hlt _ hx; omega,by omega⟩,h2.trans hf,fun i hi=>?_⟩
  rcases List.mem_cons.1 hi with rfl | hi
  · exact h2.1
  · exact h3 i hi

def dL (c:Int) (T:List Int) (t:Int):List Int×Bool×Int :=
  if chk T t≠0 then (T,false,chk T t) else if 0 < c then (T++[t],false,0) else (T,true,0)
theorem od (h:LaIs st b x c T g) (hg0:g < 1000000) (t:Int):aU Go.Proofs.Try.prog n_f76 [.ptr b 0,.lit (.int .i64 t)] st (fun r st' =>
    ∃ g',r = .tup [.lit (.bool (dL c T t).2.1),.lit (.int .i64 (dL c T t).2.2)]∧LaIs st' b x c (dL c T t).1 g'∧g'≤g + 1∧Oth st st' x.ids):=by
  have hg:=h.get
  have hcb:=h.cb
  have hck:=check1 h.ln t
  refine aO hmix k_f76 rfl rfl fun Q hQ=>?_
  unfold aFun c_f76
  unfold dL at hQ
  by_cases h0:chk T t = 0
  case neg =>
    rw [if_pos h0] at hQ
    simp (config:=KF) (disch:=omega) only [bZ,aj,ev_f,putS,Sf.set,Sf.reg,getR,setR,aa,aI,id,↓reduceIte,Nat.reduceEqDiff,reduceCtorEq,Nat.zero_add,f76_1e,f76_2e,f76_2l,f76_3e,f76_4e,f76_5e,f76_5l]
    refine aM rfl e_f74 h.z rfl ?_
    simp (config:=KF) (disch:=omega) only [bZ,and_self,ar,am,aG,di,aj,ap,aL,bslV,List.reduceReplicate,addA,af,cH,ev_f,putS,Sf.set,Sf.reg,getR,setR,aa,id,eu,bU,bS,ah,List.length_cons,List.length_nil,List.all_cons,List.all_nil,List.drop_zero,List.drop_succ_cons,List.set_cons_zero,↓reduceIte,Nat.reduceEqDiff,Nat.reduceLT,Bool.and_true,and_true,reduceCtorEq,Nat.zero_add,f76_6e,f76_9e,f76_10e,f76_11e,f76_11l,hg]
    refine aM rfl e_f64 hck rfl ?_
    simp (config:=KF) (disch:=omega) only [bZ,retI,resI,resL,al,cc,putS,Sf.set,Sf.reg,getR,setR,aa,Sf.disAt,aR,List.all_cons,List.all_nil,↓reduceIte,Nat.reduceEqDiff,Bool.true_and,Bool.and_true,and_true,true_and,reduceCtorEq,not_false_eq_true,decide_true,f76_12e,f76_13e,f76_13l,f76_14e,f76_15e,f76_16e,f76_16l,h0]
    exact hQ _ _ ⟨g,rfl,h,by omega,.refl ..⟩
  rw [if_neg (by simpa using h0)] at hQ
  obtain ⟨t0,t1⟩:=mi h0
  rw [h0] at hck
  by_cases h1:0 < c
  · rw [if_pos h1] at hQ
    have hc0:¬ c = 0:=by omega
    simp (config:=KF) (disch:=omega) only [bZ,aj,ev_f,putS,Sf.set,Sf.reg,getR,setR,aa,aI,id,↓reduceIte,Nat.reduceEqDiff,reduceCtorEq,Nat.zero_add,f76_1e,f76_2e,f76_2l,f76_3e,f76_4e,f76_5e,f76_5l]
    refine aM rfl e_f74 h.z rfl ?_
    simp (config:=KF) (disch:=omega) only [bZ,and_self,ar,am,aG,di,aj,ap,aL,bslV,List.reduceReplicate,addA,af,cH,ev_f,putS,Sf.set,Sf.reg,getR,setR,aa,id,eu,bU,bS,ah,List.length_cons,List.length_nil,List.all_cons,List.all_nil,List.drop_zero,List.drop_succ_cons,List.set_cons_zero,↓reduceIte,Nat.reduceEqDiff,Nat.reduceLT,Bool.and_true,and_true,reduceCtorEq,Nat.zero_add,f76_6e,f76_9e,f76_10e,f76_11e,f76_11l,hg]
    refine aM rfl e_f64 hck rfl ?_
    simp (config:=KF) (disch:=omega) only [bZ,ar,am,aG,al,aj,ap,aL,addA,af,cc,d6,ev_f,putS,Sf.set,Sf.reg,getR,setR,aa,Sf.disAt,id,List.drop_zero,List.drop_succ_cons,↓reduceIte,Nat.reduceEqDiff,reduceCtorEq,Nat.zero_add,Nat.add_zero,not_true_eq_false,decide_false,bp,f76_12e,f76_13e,f76_13l,f76_14e,f76_17e,f76_18e,f76_19e,f76_19l,f76_20e,f76_21e,f76_21l,hg]
    refine aQ rfl e_f65 (eV h.ln hg0 t0 t1) rfl fun r st1 hr=>?_
    obtain ⟨rfl,h2,ho⟩:=hr
    have h3:=h.of ho h2
    have hg1:=h3.get
    simp (config:=KF) (disch:=omega) only [bZ,retI,resI,resL,ar,am,aG,al,ap,aL,addA,af,bJ,putS,Sf.set,Sf.reg,getR,setR,aa,Sf.disAt,aR,List.all_cons,List.all_nil,List.drop_zero,↓reduceIte,Nat.reduceEqDiff,Bool.true_and,Bool.and_true,and_true,true_and,reduceCtorEq,Nat.add_zero,decide_false,f76_22e,f76_23e,f76_23l,hg1,hc0]
    exact hQ _ _ ⟨_,rfl,h3,by omega,ho⟩
  · rw [if_neg h1] at hQ
    have hc0:c = 0:=by omega
    subst hc0
    simp (config:=KF) (disch:=omega) only [bZ,aj,ev_f,putS,Sf.set,Sf.reg,getR,setR,aa,aI,id,↓reduceIte,Nat.reduceEqDiff,reduceCtorEq,Nat.zero_add,f76_1e,f76_2e,f76_2l,f76_3e,f76_4e,f76_5e,f76_5l]
    refine aM rfl e_f74 h.z rfl ?_
    simp (config:=KF) (disch:=omega) only [bZ,and_self,ar,am,aG,di,aj,ap,aL,bslV,List.reduceReplicate,addA,af,cH,ev_f,putS,Sf.set,Sf.reg,getR,setR,aa,id,eu,bU,bS,ah,List.length_cons,List.length_nil,List.all_cons,List.all_nil,List.drop_zero,List.drop_succ_cons,List.set_cons_zero,↓reduceIte,Nat.reduceEqDiff,Nat.reduceLT,Bool.and_true,and_true,reduceCtorEq,Nat.zero_add,f76_6e,f76_9e,f76_10e,f76_11e,f76_11l,hg]
    refine aM rfl e_f64 hck rfl ?_
    simp (config:=KF) (disch:=omega) only [bZ,retI,resI,resL,ar,am,aG,al,ap,aL,addA,af,bJ,cc,d6,putS,Sf.set,Sf.reg,getR,setR,aa,Sf.disAt,aR,List.all_cons,List.all_nil,List.drop_zero,↓reduceIte,Nat.reduceEqDiff,Bool.true_and,Bool.and_true,and_true,true_and,reduceCtorEq,Nat.add_zero,not_true_eq_false,decide_true,decide_false,bG,f76_12e,f76_13e,f76_13l,f76_14e,f76_17e,f76_18e,f76_19e,f76_19l,f76_20e,f76_22e,f76_23e,f76_23l,hg]
    exact hQ _ _ ⟨g,rfl,h,by omega,.refl ..⟩

def cG (c:Int) (T:List Int) (n:Int):(Int×List Int)×List Int×Int :=
  if n < 1 then ((c,T),[],2) else if c < n then ((c,T),[],3) else if 0 < c - n then ((c - n,T),[],0) else ((c - n,[]),T,0)
theorem jT (h:LaIs st b x c T g) (hg0:g < 1000000) (n:Int):aU Go.Proofs.Try.prog n_f37 [.ptr b 0,.lit (.int .i64 n)] st (fun r st' =>
    r = .tup [lAV (cG c T n).2.1,.lit (.int .i64 (cG c T n).2.2)]∧LaIs st' b x (cG c T n).1.1 (cG c T n).1.2 g∧Oth st st' (b::x.ids)):=by
  have hg:=h.get
  have hcb:=h.cb
  have lb:=dg hg
  refine aO hmix k_f37 rfl rfl fun Q hQ=>?_
  unfold aFun c_f37
  unfold cG at hQ
  by_cases h1:n < 1
  · rw [if_pos h1] at hQ
    simp (config:=KF) (disch:=omega) only [bZ,aj,ev_f,putS,Sf.set,Sf.reg,getR,setR,aa,aI,id,↓reduceIte,Nat.reduceEqDiff,reduceCtorEq,Nat.zero_add,f37_1e,f37_2e,f37_2l,f37_3e,f37_4e,f37_5e,f37_6e,f37_6l]
    refine aM rfl e_f74 h.z rfl ?_
    simp (config:=KF) (disch:=omega) only [bZ,cm,retI,resI,resL,al,bC,putS,Sf.set,Sf.reg,getR,setR,aa,Sf.disAt,aR,List.all_cons,List.all_nil,↓reduceIte,Nat.reduceEqDiff,Bool.true_and,Bool.and_true,and_true,true_and,reduceCtorEq,bp,f37_7e,f37_10e,f37_11e,f37_11l,f37_12e,f37_13e,f37_14e,f37_14l]
    exact hQ _ _ ⟨rfl,h,.refl ..⟩
  rw [if_neg h1] at hQ
  by_cases h2:c < n
  · rw [if_pos h2] at hQ
    simp (config:=KF) (disch:=omega) only [bZ,aj,ev_f,putS,Sf.set,Sf.reg,getR,setR,aa,aI,id,↓reduceIte,Nat.reduceEqDiff,reduceCtorEq,Nat.zero_add,f37_1e,f37_2e,f37_2l,f37_3e,f37_4e,f37_5e,f37_6e,f37_6l]
    refine aM rfl e_f74 h.z rfl ?_
    simp (config:=KF) (disch:=omega) only [bZ,cm,retI,resI,resL,ar,am,aG,al,ap,aL,addA,af,bC,d6,putS,Sf.set,Sf.reg,getR,setR,aa,Sf.disAt,aR,List.all_cons,List.all_nil,List.drop_zero,↓reduceIte,Nat.reduceEqDiff,Bool.true_and,Bool.and_true,and_true,true_and,reduceCtorEq,Nat.add_zero,bp,bG,f37_7e,f37_10e,f37_11e,f37_11l,f37_12e,f37_15e,f37_16e,f37_16l,f37_17e,f37_18e,f37_19e,f37_19l,hg]
    exact hQ _ _ ⟨rfl,h,.refl ..⟩
  rw [if_neg h2] at hQ
  have ho:Oth st (st.set b [.lit (.int .i64 (c - n)),.ptr x.l 0]) [b]:=Oth.set _ _ _ (by simp)
  have h3:LaIs (st.set b [.lit (.int .i64 (c - n)),.ptr x.l 0]) b x (c - n) T g:=⟨cy lb,h.ln.oth ho (fun i hi hx=>h.nb (by simp at hx; exact hx ▸ hi)),h.nb,by omega⟩
  have hg3:=h3.get
  by_cases h4:0 < c - n
  · rw [if_pos h4] at hQ
    simp (config:=KF) (disch:=omega) only [bZ,aj,ev_f,putS,Sf.set,Sf.reg,getR,setR,aa,aI,id,↓reduceIte,Nat.reduceEqDiff,reduceCtorEq,Nat.zero_add,f37_1e,f37_2e,f37_2l,f37_3e,f37_4e,f37_5e,f37_6e,f37_6l]
    refine aM rfl e_f74 h.z rfl ?_
    simp (config:=KF) (disch:=omega) only [bZ,aD,retI,resI,resL,ar,am,aG,al,aV,ap,aL,boxX,ba,addA,af,n_sub,bC,d6,aA,aP,putS,Sf.set,Sf.reg,getR,setR,aa,Sf.disAt,az,ae,ah,aR,List.length_cons,List.length_nil,List.all_cons,List.all_nil,List.drop_zero,List.set_cons_zero,↓reduceIte,Nat.reduceEqDiff,Nat.reduceAdd,Nat.reduceLeDiff,Bool.true_and,Bool.and_true,and_true,true_and,reduceCtorEq,Nat.zero_add,Nat.add_zero,bp,bG,IntWalk.i64_in,cy,au,ak,f37_7e,f37_10e,f37_11e,f37_11l,f37_12e,f37_15e,f37_16e,f37_16l,f37_17e,f37_20e,f37_21e,f37_21l,f37_22e,f37_23e,f37_24e,f37_24l,f37_25e,f37_26e,f37_27e,f37_27l,hg]
    exact hQ _ _ ⟨rfl,h3,ho.mono (by simp)⟩
  · rw [if_neg h4] at hQ
    simp (config:=KF) (disch:=omega) only [bZ,aj,ev_f,putS,Sf.set,Sf.reg,getR,setR,aa,aI,id,↓reduceIte,Nat.reduceEqDiff,reduceCtorEq,Nat.zero_add,f37_1e,f37_2e,f37_2l,f37_3e,f37_4e,f37_5e,f37_6e,f37_6l]
    refine aM rfl e_f74 h.z rfl ?_
    simp (config:=KF) (disch:=omega) only [bZ,aD,ar,am,aG,al,aV,aj,ap,aL,boxX,ba,addA,af,n_sub,bC,d6,ev_f,aA,aP,putS,Sf.set,Sf.reg,getR,setR,aa,Sf.disAt,id,az,ae,ah,List.length_cons,List.length_nil,List.all_cons,List.all_nil,List.drop_zero,List.drop_succ_cons,List.set_cons_zero,↓reduceIte,Nat.reduceEqDiff,Nat.reduceAdd,Nat.reduceLeDiff,Bool.true_and,Bool.and_true,and_true,true_and,reduceCtorEq,Nat.zero_add,Nat.add_zero,bG,IntWalk.i64_in,cy,au,ak,f37_7e,f37_10e,f37_11e,f37_11l,f37_12e,f37_15e,f37_16e,f37_16l,f37_17e,f37_20e,f37_21e,f37_21l,f37_22e,f37_23e,f37_24e,f37_24l,f37_25e,f37_28e,f37_29e,f37_29l,hg,hg3]
    refine aQ rfl e_f66 (jg h3.ln hg0) rfl fun r st1 hr=>?_
    obtain ⟨rfl,h5,ho5⟩:=hr
    have hf:=hQ _ st1 ⟨rfl,h3.of ho5 h5,(ho.mono (by simp)).trans (ho5.mono (fun i hi=>List.mem_cons_of_mem _ hi))⟩
    rcases em T with ⟨e,hz⟩ | ⟨e,hz⟩
    all_goals
      simp only [e] at hf ⊢
      simp (config:=KF) (disch:=omega) only [bZ,retI,resI,resL,al,putS,Sf.set,Sf.reg,getR,setR,aa,Sf.disAt,aF,ec,aR,List.all_cons,List.all_nil,↓reduceIte,Nat.reduceEqDiff,Bool.true_and,Bool.and_true,and_true,true_and,reduceCtorEq]
      exact hf

theorem kP (h:LaIs st b x c T g) (hg0:g < 1000000) (t:Int):aU Go.Proofs.Try.prog n_f38 [.ptr b 0,.lit (.int .i64 t)] st (fun r st' =>
    r = .lit (.int .i64 (lCan T t).2)∧LaIs st' b x c (lCan T t).1 g∧Oth st st' x.ids):=by
  have hg:=h.get
  refine aO hmix k_f38 rfl rfl fun Q hQ=>?_
  unfold aFun c_f38
  simp (config:=KF) (disch:=omega) only [bZ,aj,ev_f,putS,Sf.set,Sf.reg,getR,setR,aa,aI,id,↓reduceIte,Nat.reduceEqDiff,reduceCtorEq,Nat.zero_add,f38_1e,f38_2e,f38_2l,f38_3e,f38_4e,f38_5e,f38_5l]
  refine aM rfl e_f74 h.z rfl ?_
  simp (config:=KF) (disch:=omega) only [bZ,ar,am,aG,aj,ap,aL,addA,af,ev_f,putS,Sf.set,Sf.reg,getR,setR,aa,id,List.drop_zero,List.drop_succ_cons,↓reduceIte,Nat.reduceEqDiff,reduceCtorEq,Nat.zero_add,f38_6e,f38_9e,f38_10e,f38_10l,hg]
  refine aQ rfl e_f75 (fM h.ln hg0 t) rfl fun r st1 hr=>?_
  obtain ⟨rfl,h2,ho⟩:=hr
  simp (config:=KF) (disch:=omega) only [bZ,retI,al,putS,Sf.set,Sf.reg,getR,setR,aa,Sf.disAt,↓reduceIte,Nat.reduceEqDiff,Bool.true_and,true_and,reduceCtorEq]
  exact hQ _ _ ⟨rfl,h.of ho h2,ho⟩
end

/-! A barrier. -/
structure BaIs (st:St) (b:Nat) (x:Ln) (p u:Int) (T:List Int) (g:Nat):Prop where
  get:st.get b = some [.lit (.int .i64 p),.lit (.int .i64 u),.ptr x.l 0]
  ln:LnIs st x T g
  nb:b ∉ x.ids
  pb:1≤p∧p≤64
  ub:0≤u∧u≤1000000
  few:(T.length:Int) < p
section
variable {st:St} {b:Nat} {x:Ln} {p u:Int} {T:List Int} {g:Nat}
theorem BaIs.lts (h:BaIs st b x p u T g):∀ i ∈ b::x.ids,i < st.boxes.length:=fun i hi=>by
  rcases List.mem_cons.1 hi with rfl | hi
  · exact dg h.get
  · exact h.ln.lts i hi
theorem BaIs.fr {st':St} {S:List Nat} (h:BaIs st b x p u T g) (ho:Fr st st' S) (hd:∀ i ∈ b::x.ids,i ∉ S):BaIs st' b x p u T g :=
  ⟨(gJ (ho.2 b (h.lts b (by simp)) (hd b (by simp)))).trans h.get,h.ln.fr ho fun i hi=>hd i (List.mem_cons_of_mem _ hi),h.nb,h.pb,h.ub,h.few⟩
theorem BaIs.of {st':St} {T':List Int} {g':Nat} (h:BaIs st b x p u T g) (ho:Oth st st' x.ids) (hl:LnIs st' x T' g') (hf:(T'.length:Int) < p):BaIs st' b x p u T' g' :=
  ⟨(ho.get h.nb).trans h.get,hl,h.nb,h.pb,h.ub,hf⟩
theorem BaIs.z (h:BaIs st b x p u T g):aY Go.Proofs.Try.prog n_f54 [.ptr b 0] st (.lit (.bool false)):=by
  have hg:=h.get
  refine bN hmix k_f54 rfl rfl fun Q hQ=>?_
  unfold aFun c_f54
  simp (config:=KF) (disch:=omega) only [bZ,retI,aE,AI.dst,a7,bf,ar,am,aG,al,bu,ap,aL,dG,c5,cA,addA,af,putS,Sf.set,Sf.reg,getR,setR,aa,Sf.disAt,aI,List.drop_zero,List.drop_succ_cons,↓reduceIte,Nat.reduceEqDiff,Bool.true_and,true_and,reduceCtorEq,Nat.zero_add,Bool.false_eq_true,f54_1e,f54_2e,f54_2l,f54_3e,f54_4e,f54_4l,hg]
  exact hQ _
theorem newba_calls {n:Int} (h:1≤n∧n≤64) (st:St):aU Go.Proofs.Try.prog n_f9 [.lit (.int .i64 n)] st (fun r st'=>∃ b x,r = .tup [.ptr b 0,.lit (.int .i64 0)]∧BaIs st' b x n 0 [] 0∧Fr st st' []∧∀ i ∈ b::x.ids,st.boxes.length≤i):=by
  refine aO hmix k_f9 rfl rfl fun Q hQ=>?_
  unfold aFun c_f9
  simp (config:=KF) (disch:=omega) only [bZ,aE,AI.dst,a7,bf,aj,bu,bC,d6,ev_f,putS,Sf.set,Sf.reg,getR,setR,aa,aI,id,↓reduceIte,Nat.reduceEqDiff,reduceCtorEq,Bool.false_eq_true,bG,cP,f9_1e,f9_2e,f9_2l,f9_3e,f9_4e,f9_5e,f9_5l,f9_6e,f9_9e,f9_10e,f9_10l]
  refine aQ rfl e_f51 (fL st) rfl fun r st1 hr=>?_
  obtain ⟨x,rfl,h1,h2,h3⟩:=hr
  simp (config:=KF) (disch:=omega) only [bZ,and_self,retI,resI,resL,co,al,gC,bstV,boxX,a8,aA,aP,putS,Sf.set,Sf.reg,getR,setR,aa,Sf.disAt,ao,ai,fF,az,bU,ag,ae,bS,ah,fc,aR,List.length_cons,List.length_nil,List.getElem?_cons_zero,List.getElem?_cons_succ,List.all_cons,List.all_nil,List.set_cons_zero,List.set_cons_succ,↓reduceIte,Nat.reduceEqDiff,Nat.reduceAdd,Nat.reduceLeDiff,Bool.true_and,Bool.and_true,and_true,true_and,reduceCtorEq,Nat.zero_add,au,ak]
  have hg:=dp st1 [.lit (.int .i64 n),.lit (.int .i64 0),.ptr x.l 0]
  have hlt:=h1.lts
  have hf:Fr st1 (st1.push (.cells [.lit (.int .i64 n),.lit (.int .i64 0),.ptr x.l 0])) []:=⟨by rw [bL]; omega,fun i hi _=>dm hi⟩
  refine hQ _ _ ⟨_,x,rfl,⟨hg,h1.fr hf (by simp),fun hx=>by have:=hlt _ hx; omega,h,by omega,by simp; omega⟩,h2.trans hf,fun i hi=>?_⟩
  rcases List.mem_cons.1 hi with rfl | hi
  · exact h2.1
  · exact h3 i hi

/-- The turn, who waits, whether, who goes on, the error. -/
def eZ (p u:Int) (T:List Int) (t:Int):(Int×List Int)×Bool×List Int×Int :=
  if chk T t≠0 then ((u,T),false,[],chk T t) else if (T.length:Int) + 1 < p then ((u,T++[t]),false,[],0) else ((u + 1,[]),true,T,0)
theorem baarr_calls (h:BaIs st b x p u T g) (hg0:g < 1000000) (hu:u < 1000000) (t:Int):aU Go.Proofs.Try.prog n_f25 [.ptr b 0,.lit (.int .i64 t)] st (fun r st' =>
    ∃ g',r = .tup [.lit (.bool (eZ p u T t).2.1),lAV (eZ p u T t).2.2.1,.lit (.int .i64 (eZ p u T t).2.2.2)]∧BaIs st' b x p (eZ p u T t).1.1 (eZ p u T t).1.2 g'∧g'≤g + 1∧Oth st st' (b::x.ids)):=by
  have hg:=h.get
  have hpb:=h.pb
  have hub:=h.ub
  have hfw:=h.few
  have lb:=dg hg
  have hck:=check1 h.ln t
  refine aO hmix k_f25 rfl rfl fun Q hQ=>?_
  unfold aFun c_f25
  unfold eZ at hQ
  by_cases h0:chk T t = 0
  case neg =>
    rw [if_pos h0] at hQ
    simp (config:=KF) (disch:=omega) only [bZ,aj,ev_f,putS,Sf.set,Sf.reg,getR,setR,aa,aI,id,↓reduceIte,Nat.reduceEqDiff,reduceCtorEq,Nat.zero_add,f25_1e,f25_2e,f25_2l,f25_3e,f25_4e,f25_5e,f25_5l]
    refine aM rfl e_f54 h.z rfl ?_
    simp (config:=KF) (disch:=omega) only [bZ,and_self,ar,am,aG,di,aj,ap,aL,bslV,List.reduceReplicate,addA,af,cH,ev_f,putS,Sf.set,Sf.reg,getR,setR,aa,id,eu,bU,bS,ah,List.length_cons,List.length_nil,List.all_cons,List.all_nil,List.drop_zero,List.drop_succ_cons,List.set_cons_zero,↓reduceIte,Nat.reduceEqDiff,Nat.reduceLT,Bool.and_true,and_true,reduceCtorEq,Nat.zero_add,f25_6e,f25_9e,f25_10e,f25_11e,f25_11l,hg]
    refine aM rfl e_f64 hck rfl ?_
    simp (config:=KF) (disch:=omega) only [bZ,retI,resI,resL,al,cc,putS,Sf.set,Sf.reg,getR,setR,aa,Sf.disAt,aR,List.all_cons,List.all_nil,↓reduceIte,Nat.reduceEqDiff,Bool.true_and,Bool.and_true,and_true,true_and,reduceCtorEq,not_false_eq_true,decide_true,f25_12e,f25_13e,f25_13l,f25_14e,f25_15e,f25_16e,f25_16l,h0]
    exact hQ _ _ ⟨g,rfl,h,by omega,.refl ..⟩
  rw [if_neg (by simpa using h0)] at hQ
  obtain ⟨t0,t1⟩:=mi h0
  rw [h0] at hck
  have hgl:=h.ln.get
  obtain ⟨L,hL,hq,_⟩:=h.ln.qi
  have hql:=nu hq
  rw [← iI,hL] at hql
  by_cases h1:(T.length:Int) + 1 < p
  · rw [if_pos h1] at hQ
    simp (config:=KF) (disch:=omega) only [bZ,aj,ev_f,putS,Sf.set,Sf.reg,getR,setR,aa,aI,id,↓reduceIte,Nat.reduceEqDiff,reduceCtorEq,Nat.zero_add,f25_1e,f25_2e,f25_2l,f25_3e,f25_4e,f25_5e,f25_5l]
    refine aM rfl e_f54 h.z rfl ?_
    simp (config:=KF) (disch:=omega) only [bZ,and_self,ar,am,aG,di,aj,ap,aL,bslV,List.reduceReplicate,addA,af,cH,ev_f,putS,Sf.set,Sf.reg,getR,setR,aa,id,eu,bU,bS,ah,List.length_cons,List.length_nil,List.all_cons,List.all_nil,List.drop_zero,List.drop_succ_cons,List.set_cons_zero,↓reduceIte,Nat.reduceEqDiff,Nat.reduceLT,Bool.and_true,and_true,reduceCtorEq,Nat.zero_add,f25_6e,f25_9e,f25_10e,f25_11e,f25_11l,hg]
    refine aM rfl e_f64 hck rfl ?_
    simp (config:=KF) (disch:=omega) only [bZ,cF,dq,b8,ci,dt,dH,bw,al,ap,aL,addA,af,cc,ev_f,putS,Sf.set,Sf.reg,getR,setR,aa,Sf.disAt,bE,id,List.drop_zero,List.drop_succ_cons,↓reduceIte,Nat.reduceEqDiff,reduceCtorEq,Nat.zero_add,Nat.add_zero,not_true_eq_false,decide_false,f25_12e,f25_13e,f25_13l,f25_14e,f25_17e,f25_18e,f25_19e,f25_19h,f25_19l,hg,hgl]
    refine ey rfl e_f55 hql rfl ?_
    simp (config:=KF) (disch:=omega) only [bZ,eS,cF,dq,kn,b8,ci,dt,cW,bw,cK,ar,am,aG,aj,ap,aL,addA,af,ew,bC,ev_f,putS,Sf.set,Sf.reg,getR,setR,aa,id,List.drop_zero,List.drop_succ_cons,↓reduceIte,Nat.reduceEqDiff,reduceCtorEq,Nat.zero_add,Nat.add_zero,bp,IntWalk.i64_in,cB,f25_20e,f25_21e,f25_22e,f25_22l,hg]
    refine aQ rfl e_f65 (eV h.ln hg0 t0 t1) rfl fun r st1 hr=>?_
    obtain ⟨rfl,h2,ho⟩:=hr
    simp (config:=KF) (disch:=omega) only [bZ,retI,resI,resL,putS,Sf.set,Sf.reg,getR,setR,aa,aR,List.all_cons,List.all_nil,↓reduceIte,Nat.reduceEqDiff,Bool.true_and,Bool.and_true,and_true,true_and,reduceCtorEq,f25_23e,f25_24e,f25_24l]
    exact hQ _ _ ⟨_,rfl,h.of ho h2 (by simp; omega),by omega,ho.mono fun i hi=>List.mem_cons_of_mem _ hi⟩
  · rw [if_neg h1] at hQ
    have ho:Oth st (st.set b [.lit (.int .i64 p),.lit (.int .i64 (u + 1)),.ptr x.l 0]) [b]:=Oth.set _ _ _ (by simp)
    have h3:BaIs (st.set b [.lit (.int .i64 p),.lit (.int .i64 (u + 1)),.ptr x.l 0]) b x p (u + 1) T g:=⟨cy lb,h.ln.oth ho (fun i hi hx=>h.nb (by simp at hx; exact hx ▸ hi)),h.nb,h.pb,by omega,h.few⟩
    have hg3:=h3.get
    simp (config:=KF) (disch:=omega) only [bZ,aj,ev_f,putS,Sf.set,Sf.reg,getR,setR,aa,aI,id,↓reduceIte,Nat.reduceEqDiff,reduceCtorEq,Nat.zero_add,f25_1e,f25_2e,f25_2l,f25_3e,f25_4e,f25_5e,f25_5l]
    refine aM rfl e_f54 h.z rfl ?_
    simp (config:=KF) (disch:=omega) only [bZ,and_self,ar,am,aG,di,aj,ap,aL,bslV,List.reduceReplicate,addA,af,cH,ev_f,putS,Sf.set,Sf.reg,getR,setR,aa,id,eu,bU,bS,ah,List.length_cons,List.length_nil,List.all_cons,List.all_nil,List.drop_zero,List.drop_succ_cons,List.set_cons_zero,↓reduceIte,Nat.reduceEqDiff,Nat.reduceLT,Bool.and_true,and_true,reduceCtorEq,Nat.zero_add,f25_6e,f25_9e,f25_10e,f25_11e,f25_11l,hg]
    refine aM rfl e_f64 hck rfl ?_
    simp (config:=KF) (disch:=omega) only [bZ,cF,dq,b8,ci,dt,dH,bw,al,ap,aL,addA,af,cc,ev_f,putS,Sf.set,Sf.reg,getR,setR,aa,Sf.disAt,bE,id,List.drop_zero,List.drop_succ_cons,↓reduceIte,Nat.reduceEqDiff,reduceCtorEq,Nat.zero_add,Nat.add_zero,not_true_eq_false,decide_false,f25_12e,f25_13e,f25_13l,f25_14e,f25_17e,f25_18e,f25_19e,f25_19h,f25_19l,hg,hgl]
    refine ey rfl e_f55 hql rfl ?_
    simp (config:=KF) (disch:=omega) only [bZ,eS,cF,dq,kn,b8,ci,dt,cW,bw,cK,ar,am,aG,aV,aj,ap,aL,boxX,ba,addA,af,ew,bC,ev_f,aA,aP,putS,Sf.set,Sf.reg,getR,setR,aa,Sf.disAt,id,az,ae,ah,List.length_cons,List.length_nil,List.all_cons,List.all_nil,List.drop_zero,List.drop_succ_cons,List.set_cons_zero,List.set_cons_succ,↓reduceIte,Nat.reduceEqDiff,Nat.reduceAdd,Nat.reduceLeDiff,Bool.true_and,Bool.and_true,and_true,true_and,reduceCtorEq,Nat.zero_add,Nat.add_zero,bG,IntWalk.i64_in,cB,cy,au,ak,f25_20e,f25_25e,f25_26e,f25_26l,f25_27e,f25_28e,f25_28l,hg]
    refine aQ rfl e_f66 (jg h3.ln hg0) rfl fun r st1 hr=>?_
    obtain ⟨rfl,h5,ho5⟩:=hr
    have hf:=hQ _ st1 ⟨g,rfl,h3.of ho5 h5 (by simp; omega),by omega,(ho.mono (by simp)).trans (ho5.mono (fun i hi=>List.mem_cons_of_mem _ hi))⟩
    rcases em T with ⟨e,hz⟩ | ⟨e,hz⟩
    all_goals
      simp only [e] at hf ⊢
      simp (config:=KF) (disch:=omega) only [bZ,retI,resI,resL,al,putS,Sf.set,Sf.reg,getR,setR,aa,Sf.disAt,aF,ec,aR,List.all_cons,List.all_nil,↓reduceIte,Nat.reduceEqDiff,Bool.true_and,Bool.and_true,and_true,true_and,reduceCtorEq]
      exact hf
theorem lcan_len (T:List Int) (t:Int):(lCan T t).1.length≤T.length:=by
  unfold lCan
  split
  · exact Nat.le_refl _
  split
  · exact Nat.le_refl _
  · exact List.length_filter_le _ _
theorem bacan_calls (h:BaIs st b x p u T g) (hg0:g < 1000000) (t:Int):aU Go.Proofs.Try.prog n_f53 [.ptr b 0,.lit (.int .i64 t)] st (fun r st' =>
    r = .lit (.int .i64 (lCan T t).2)∧BaIs st' b x p u (lCan T t).1 g∧Oth st st' x.ids):=by
  have hg:=h.get
  have hfw:=h.few
  have hll:=lcan_len T t
  refine aO hmix k_f53 rfl rfl fun Q hQ=>?_
  unfold aFun c_f53
  simp (config:=KF) (disch:=omega) only [bZ,aj,ev_f,putS,Sf.set,Sf.reg,getR,setR,aa,aI,id,↓reduceIte,Nat.reduceEqDiff,reduceCtorEq,Nat.zero_add,f53_1e,f53_2e,f53_2l,f53_3e,f53_4e,f53_5e,f53_5l]
  refine aM rfl e_f54 h.z rfl ?_
  simp (config:=KF) (disch:=omega) only [bZ,ar,am,aG,aj,ap,aL,addA,af,ev_f,putS,Sf.set,Sf.reg,getR,setR,aa,id,List.drop_zero,List.drop_succ_cons,↓reduceIte,Nat.reduceEqDiff,reduceCtorEq,Nat.zero_add,f53_6e,f53_9e,f53_10e,f53_10l,hg]
  refine aQ rfl e_f75 (fM h.ln hg0 t) rfl fun r st1 hr=>?_
  obtain ⟨rfl,h2,ho⟩:=hr
  simp (config:=KF) (disch:=omega) only [bZ,retI,al,putS,Sf.set,Sf.reg,getR,setR,aa,Sf.disAt,↓reduceIte,Nat.reduceEqDiff,Bool.true_and,true_and,reduceCtorEq]
  exact hQ _ _ ⟨rfl,h.of ho h2 (by omega),ho⟩
theorem baturn_pure (h:BaIs st b x p u T g):aY Go.Proofs.Try.prog n_f15 [.ptr b 0] st (.lit (.int .i64 u)):=by
  have hg:=h.get
  refine bN hmix k_f15 rfl rfl fun Q hQ=>?_
  unfold aFun c_f15
  simp (config:=KF) (disch:=omega) only [bZ,aj,ev_f,putS,Sf.set,Sf.reg,getR,setR,aa,aI,id,↓reduceIte,reduceCtorEq,f15_1e,f15_2e,f15_2l,f15_3e,f15_4e,f15_5e,f15_5l]
  refine aM rfl e_f54 h.z rfl ?_
  simp (config:=KF) (disch:=omega) only [bZ,retI,ar,am,aG,al,ap,aL,addA,af,putS,Sf.set,Sf.reg,getR,setR,aa,Sf.disAt,List.drop_zero,List.drop_succ_cons,↓reduceIte,Nat.reduceEqDiff,Bool.true_and,true_and,reduceCtorEq,Nat.zero_add,f15_6e,f15_9e,f15_10e,f15_10l,hg]
  exact hQ _
end
end Go.Fx.YtphaaebhgggbaaaFx

