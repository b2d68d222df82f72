/- What the functions that the statement reaches compute: part 6. -/
import Derived.Test.YtphaaebhgggbaaaFxW5
namespace Go.Fx.YtphaaebhgggbaaaFx
open Go Go.Fx
attribute [local irreducible] aC runI bD cO

set_option maxRecDepth 100000
set_option maxHeartbeats 4000000

/-! A latch. -/
structure LaIs (st:St) (b:Nat) (x:Ln) (c:Int) (T:List Int) (g:Nat):Prop where
  get:st.get b = some [.lit (.int .i64 c),.ptr x.l 0]
  ln:LnIs st x T g
  nb:b ∉ x.ids
  cb:0≤c∧c≤1048576
theorem LaIs.lts {st:St} {b:Nat} {x:Ln} {c:Int} {T:List Int} {g:Nat} (h:LaIs st b x c T g):∀ i ∈ b::x.ids,i < st.boxes.length:=fun i hi=>by
  rcases List.mem_cons.1 hi with rfl | hi
  · exact c9 h.get
  · exact h.ln.lts i hi
theorem LaIs.fr {st st':St} {b:Nat} {x:Ln} {c:Int} {T:List Int} {g:Nat} {S:List Nat} (h:LaIs st b x c T g) (ho:Fr st st' S) (hd:∀ i ∈ b::x.ids,i ∉ S):LaIs st' b x c T g :=
  ⟨(ib (ho.2 b (h.lts b (by simp)) (hd b (by simp)))).trans h.get,h.ln.fr ho fun i hi=>hd i (List.mem_cons_of_mem _ hi),h.nb,h.cb⟩
/-- A line changes, and what points to it stays. -/
theorem LaIs.of {st st':St} {b:Nat} {x:Ln} {c:Int} {T T':List Int} {g g':Nat} (h:LaIs st b x c T g) (ho:Oth st st' x.ids) (hl:LnIs st' x T' g'):LaIs st' b x c T' g' :=
  ⟨(ho.get h.nb).trans h.get,hl,h.nb,h.cb⟩

section
variable {st:St} {b:Nat} {x:Ln} {c:Int} {T:List Int} {g:Nat}
theorem LaIs.z (h:LaIs st b x c T g):bg Go.Proofs.Try.prog n_f74 [.ptr b 0] st (.lit (.bool false)):=by
  have hg:=h.get
  refine cc hmix k_f74 rfl rfl fun Q hQ=>?_
  unfold aFun c_f74
  simp (config:=KF) (disch:=omega) only [bZ,retI,aL,AI.dst,bh,bu,aw,aq,aM,az,bA,ar,aS,fB,d7,cV,addA,ag,putS,Sf.set,Sf.reg,getR,setR,aa,Sf.disAt,aO,List.drop_zero,List.drop_succ_cons,↓reduceIte,Nat.reduceEqDiff,Bool.true_and,true_and,reduceCtorEq,Nat.zero_add,Bool.false_eq_true,f74_1e,f74_2e,f74_2l,f74_3e,f74_4e,f74_4l,hg]
  exact hQ _
theorem newla_calls {n:Int} (h:1≤n∧n≤1048576) (st:St):aZ Go.Proofs.Try.prog n_f35 [.lit (.int .i64 n)] st (fun r st'=>∃ b x,r = .tup [.ptr b 0,.lit (.int .i64 0)]∧LaIs st' b x n [] 0∧Fr st st' []∧∀ i ∈ b::x.ids,st.boxes.length≤i):=by
  refine aX hmix k_f35 rfl rfl fun Q hQ=>?_
  unfold aFun c_f35
  simp (config:=KF) (disch:=omega) only [bZ,aL,AI.dst,bh,bu,ao,bA,bS,fm,ev_f,putS,Sf.set,Sf.reg,getR,setR,aa,aO,id,↓reduceIte,Nat.reduceEqDiff,reduceCtorEq,Bool.false_eq_true,bH,dl,f35_1e,f35_2e,f35_2l,f35_3e,f35_4e,f35_5e,f35_5l,f35_6e,f35_9e,f35_10e,f35_10l]
  refine ba rfl e_f51 (gn st) rfl fun r st1 hr=>?_
  obtain ⟨x,rfl,h1,h2,h3⟩:=hr
  simp (config:=KF) (disch:=omega) only [bZ,and_self,retI,resI,resL,cv,az,g9,bstV,boxX,bf,au,aE,putS,Sf.set,Sf.reg,getR,setR,aa,Sf.disAt,al,ah,fY,aA,ca,ai,ae,b8,af,fw,aT,List.length_cons,List.length_nil,List.getElem?_cons_zero,List.getElem?_cons_succ,List.all_cons,List.all_nil,List.set_cons_zero,List.set_cons_succ,↓reduceIte,Nat.reduceEqDiff,Nat.reduceAdd,Nat.reduceLeDiff,Bool.true_and,Bool.and_true,and_true,true_and,reduceCtorEq,Nat.zero_add,am,aj]
  have hg:=dx st1 [.lit (.int .i64 n),.ptr x.l 0]
  have hlt:=h1.lts
  have hf:Fr st1 (st1.push (.cells [.lit (.int .i64 n),.ptr x.l 0])) []:=⟨by rw [bU]; omega,fun i hi _=>dh hi⟩
  refine hQ _ _ ⟨_,x,rfl,⟨hg,h1.fr hf (by simp),fun hx=>by have:=hlt _ hx; omega,by omega⟩,h2.trans hf,fun i hi=>?_⟩
  rcases List.mem_cons.1 hi with rfl | hi
  · exact h2.1
  · exact h3 i hi

def gD (c:Int) (T:List Int) (t:Int):List Int×Bool×Int :=
  if chk T t≠0 then (T,false,chk T t) else if 0 < c then (T++[t],false,0) else (T,true,0)
theorem oT (h:LaIs st b x c T g) (hg0:g < 1000000) (t:Int):aZ Go.Proofs.Try.prog n_f76 [.ptr b 0,.lit (.int .i64 t)] st (fun r st' =>
    ∃ g',r = .tup [.lit (.bool (gD c T t).2.1),.lit (.int .i64 (gD c T t).2.2)]∧LaIs st' b x c (gD c T t).1 g'∧g'≤g + 1∧Oth st st' x.ids):=by
  have hg:=h.get
  have hcb:=h.cb
  have hck:=check1 h.ln t
  refine aX hmix k_f76 rfl rfl fun Q hQ=>?_
  unfold aFun c_f76
  unfold gD at hQ
  by_cases h0:chk T t = 0
  case neg =>
    rw [if_pos h0] at hQ
    simp (config:=KF) (disch:=omega) only [bZ,ao,ev_f,putS,Sf.set,Sf.reg,getR,setR,aa,aO,id,↓reduceIte,Nat.reduceEqDiff,reduceCtorEq,Nat.zero_add,f76_1e,f76_2e,f76_2l,f76_3e,f76_4e,f76_5e,f76_5l]
    refine aF rfl e_f74 h.z rfl ?_
    simp (config:=KF) (disch:=omega) only [bZ,and_self,aw,aq,aM,dq,ao,ar,aS,bslV,List.reduceReplicate,addA,ag,cE,ev_f,putS,Sf.set,Sf.reg,getR,setR,aa,id,eG,ca,b8,af,List.length_cons,List.length_nil,List.all_cons,List.all_nil,List.drop_zero,List.drop_succ_cons,List.set_cons_zero,↓reduceIte,Nat.reduceEqDiff,Nat.reduceLT,Bool.and_true,and_true,reduceCtorEq,Nat.zero_add,f76_6e,f76_9e,f76_10e,f76_11e,f76_11l,hg]
    refine aF rfl e_f64 hck rfl ?_
    simp (config:=KF) (disch:=omega) only [bZ,retI,resI,resL,az,cH,putS,Sf.set,Sf.reg,getR,setR,aa,Sf.disAt,aT,List.all_cons,List.all_nil,↓reduceIte,Nat.reduceEqDiff,Bool.true_and,Bool.and_true,and_true,true_and,reduceCtorEq,not_false_eq_true,decide_true,f76_12e,f76_13e,f76_13l,f76_14e,f76_15e,f76_16e,f76_16l,h0]
    exact hQ _ _ ⟨g,rfl,h,by omega,.refl ..⟩
  rw [if_neg (by simpa using h0)] at hQ
  obtain ⟨t0,t1⟩:=mU h0
  rw [h0] at hck
  by_cases h1:0 < c
  · rw [if_pos h1] at hQ
    have hc0:¬ c = 0:=by omega
    simp (config:=KF) (disch:=omega) only [bZ,ao,ev_f,putS,Sf.set,Sf.reg,getR,setR,aa,aO,id,↓reduceIte,Nat.reduceEqDiff,reduceCtorEq,Nat.zero_add,f76_1e,f76_2e,f76_2l,f76_3e,f76_4e,f76_5e,f76_5l]
    refine aF rfl e_f74 h.z rfl ?_
    simp (config:=KF) (disch:=omega) only [bZ,and_self,aw,aq,aM,dq,ao,ar,aS,bslV,List.reduceReplicate,addA,ag,cE,ev_f,putS,Sf.set,Sf.reg,getR,setR,aa,id,eG,ca,b8,af,List.length_cons,List.length_nil,List.all_cons,List.all_nil,List.drop_zero,List.drop_succ_cons,List.set_cons_zero,↓reduceIte,Nat.reduceEqDiff,Nat.reduceLT,Bool.and_true,and_true,reduceCtorEq,Nat.zero_add,f76_6e,f76_9e,f76_10e,f76_11e,f76_11l,hg]
    refine aF rfl e_f64 hck rfl ?_
    simp (config:=KF) (disch:=omega) only [bZ,aw,aq,aM,az,ao,ar,aS,addA,ag,cH,fm,ev_f,putS,Sf.set,Sf.reg,getR,setR,aa,Sf.disAt,id,List.drop_zero,List.drop_succ_cons,↓reduceIte,Nat.reduceEqDiff,reduceCtorEq,Nat.zero_add,Nat.add_zero,not_true_eq_false,decide_false,bq,f76_12e,f76_13e,f76_13l,f76_14e,f76_17e,f76_18e,f76_19e,f76_19l,f76_20e,f76_21e,f76_21l,hg]
    refine ba rfl e_f65 (ff h.ln hg0 t0 t1) rfl fun r st1 hr=>?_
    obtain ⟨rfl,h2,ho⟩:=hr
    have h3:=h.of ho h2
    have hg1:=h3.get
    simp (config:=KF) (disch:=omega) only [bZ,retI,resI,resL,aw,aq,aM,az,ar,aS,addA,ag,bW,putS,Sf.set,Sf.reg,getR,setR,aa,Sf.disAt,aT,List.all_cons,List.all_nil,List.drop_zero,↓reduceIte,Nat.reduceEqDiff,Bool.true_and,Bool.and_true,and_true,true_and,reduceCtorEq,Nat.add_zero,decide_false,f76_22e,f76_23e,f76_23l,hg1,hc0]
    exact hQ _ _ ⟨_,rfl,h3,by omega,ho⟩
  · rw [if_neg h1] at hQ
    have hc0:c = 0:=by omega
    subst hc0
    simp (config:=KF) (disch:=omega) only [bZ,ao,ev_f,putS,Sf.set,Sf.reg,getR,setR,aa,aO,id,↓reduceIte,Nat.reduceEqDiff,reduceCtorEq,Nat.zero_add,f76_1e,f76_2e,f76_2l,f76_3e,f76_4e,f76_5e,f76_5l]
    refine aF rfl e_f74 h.z rfl ?_
    simp (config:=KF) (disch:=omega) only [bZ,and_self,aw,aq,aM,dq,ao,ar,aS,bslV,List.reduceReplicate,addA,ag,cE,ev_f,putS,Sf.set,Sf.reg,getR,setR,aa,id,eG,ca,b8,af,List.length_cons,List.length_nil,List.all_cons,List.all_nil,List.drop_zero,List.drop_succ_cons,List.set_cons_zero,↓reduceIte,Nat.reduceEqDiff,Nat.reduceLT,Bool.and_true,and_true,reduceCtorEq,Nat.zero_add,f76_6e,f76_9e,f76_10e,f76_11e,f76_11l,hg]
    refine aF rfl e_f64 hck rfl ?_
    simp (config:=KF) (disch:=omega) only [bZ,retI,resI,resL,aw,aq,aM,az,ar,aS,addA,ag,bW,cH,fm,putS,Sf.set,Sf.reg,getR,setR,aa,Sf.disAt,aT,List.all_cons,List.all_nil,List.drop_zero,↓reduceIte,Nat.reduceEqDiff,Bool.true_and,Bool.and_true,and_true,true_and,reduceCtorEq,Nat.add_zero,not_true_eq_false,decide_true,decide_false,bH,f76_12e,f76_13e,f76_13l,f76_14e,f76_17e,f76_18e,f76_19e,f76_19l,f76_20e,f76_22e,f76_23e,f76_23l,hg]
    exact hQ _ _ ⟨g,rfl,h,by omega,.refl ..⟩

def fk (c:Int) (T:List Int) (n:Int):(Int×List Int)×List Int×Int :=
  if n < 1 then ((c,T),[],2) else if c < n then ((c,T),[],3) else if 0 < c - n then ((c - n,T),[],0) else ((c - n,[]),T,0)
theorem oU (h:LaIs st b x c T g) (hg0:g < 1000000) (n:Int):aZ Go.Proofs.Try.prog n_f37 [.ptr b 0,.lit (.int .i64 n)] st (fun r st' =>
    r = .tup [lAV (fk c T n).2.1,.lit (.int .i64 (fk c T n).2.2)]∧LaIs st' b x (fk c T n).1.1 (fk c T n).1.2 g∧Oth st st' (b::x.ids)):=by
  have hg:=h.get
  have hcb:=h.cb
  have lb:=c9 hg
  refine aX hmix k_f37 rfl rfl fun Q hQ=>?_
  unfold aFun c_f37
  unfold fk at hQ
  by_cases h1:n < 1
  · rw [if_pos h1] at hQ
    simp (config:=KF) (disch:=omega) only [bZ,ao,ev_f,putS,Sf.set,Sf.reg,getR,setR,aa,aO,id,↓reduceIte,Nat.reduceEqDiff,reduceCtorEq,Nat.zero_add,f37_1e,f37_2e,f37_2l,f37_3e,f37_4e,f37_5e,f37_6e,f37_6l]
    refine aF rfl e_f74 h.z rfl ?_
    simp (config:=KF) (disch:=omega) only [bZ,cx,retI,resI,resL,az,bS,putS,Sf.set,Sf.reg,getR,setR,aa,Sf.disAt,aT,List.all_cons,List.all_nil,↓reduceIte,Nat.reduceEqDiff,Bool.true_and,Bool.and_true,and_true,true_and,reduceCtorEq,bq,f37_7e,f37_10e,f37_11e,f37_11l,f37_12e,f37_13e,f37_14e,f37_14l]
    exact hQ _ _ ⟨rfl,h,.refl ..⟩
  rw [if_neg h1] at hQ
  by_cases h2:c < n
  · rw [if_pos h2] at hQ
    simp (config:=KF) (disch:=omega) only [bZ,ao,ev_f,putS,Sf.set,Sf.reg,getR,setR,aa,aO,id,↓reduceIte,Nat.reduceEqDiff,reduceCtorEq,Nat.zero_add,f37_1e,f37_2e,f37_2l,f37_3e,f37_4e,f37_5e,f37_6e,f37_6l]
    refine aF rfl e_f74 h.z rfl ?_
    simp (config:=KF) (disch:=omega) only [bZ,cx,retI,resI,resL,aw,aq,aM,az,ar,aS,addA,ag,bS,fm,putS,Sf.set,Sf.reg,getR,setR,aa,Sf.disAt,aT,List.all_cons,List.all_nil,List.drop_zero,↓reduceIte,Nat.reduceEqDiff,Bool.true_and,Bool.and_true,and_true,true_and,reduceCtorEq,Nat.add_zero,bq,bH,f37_7e,f37_10e,f37_11e,f37_11l,f37_12e,f37_15e,f37_16e,f37_16l,f37_17e,f37_18e,f37_19e,f37_19l,hg]
    exact hQ _ _ ⟨rfl,h,.refl ..⟩
  rw [if_neg h2] at hQ
  have ho:Oth st (st.set b [.lit (.int .i64 (c - n)),.ptr x.l 0]) [b]:=Oth.set _ _ _ (by simp)
  have h3:LaIs (st.set b [.lit (.int .i64 (c - n)),.ptr x.l 0]) b x (c - n) T g:=⟨cD lb,h.ln.oth ho (fun i hi hx=>h.nb (by simp at hx; exact hx ▸ hi)),h.nb,by omega⟩
  have hg3:=h3.get
  by_cases h4:0 < c - n
  · rw [if_pos h4] at hQ
    simp (config:=KF) (disch:=omega) only [bZ,ao,ev_f,putS,Sf.set,Sf.reg,getR,setR,aa,aO,id,↓reduceIte,Nat.reduceEqDiff,reduceCtorEq,Nat.zero_add,f37_1e,f37_2e,f37_2l,f37_3e,f37_4e,f37_5e,f37_6e,f37_6l]
    refine aF rfl e_f74 h.z rfl ?_
    simp (config:=KF) (disch:=omega) only [bZ,aD,retI,resI,resL,aw,aq,aM,az,aG,ar,aS,boxX,aR,addA,ag,n_sub,bS,fm,au,aE,putS,Sf.set,Sf.reg,getR,setR,aa,Sf.disAt,aA,ae,af,aT,List.length_cons,List.length_nil,List.all_cons,List.all_nil,List.drop_zero,List.set_cons_zero,↓reduceIte,Nat.reduceEqDiff,Nat.reduceAdd,Nat.reduceLeDiff,Bool.true_and,Bool.and_true,and_true,true_and,reduceCtorEq,Nat.zero_add,Nat.add_zero,bq,bH,IntWalk.i64_in,cD,am,aj,f37_7e,f37_10e,f37_11e,f37_11l,f37_12e,f37_15e,f37_16e,f37_16l,f37_17e,f37_20e,f37_21e,f37_21l,f37_22e,f37_23e,f37_24e,f37_24l,f37_25e,f37_26e,f37_27e,f37_27l,hg]
    exact hQ _ _ ⟨rfl,h3,ho.mono (by simp)⟩
  · rw [if_neg h4] at hQ
    simp (config:=KF) (disch:=omega) only [bZ,ao,ev_f,putS,Sf.set,Sf.reg,getR,setR,aa,aO,id,↓reduceIte,Nat.reduceEqDiff,reduceCtorEq,Nat.zero_add,f37_1e,f37_2e,f37_2l,f37_3e,f37_4e,f37_5e,f37_6e,f37_6l]
    refine aF rfl e_f74 h.z rfl ?_
    simp (config:=KF) (disch:=omega) only [bZ,aD,aw,aq,aM,az,aG,ao,ar,aS,boxX,aR,addA,ag,n_sub,bS,fm,ev_f,au,aE,putS,Sf.set,Sf.reg,getR,setR,aa,Sf.disAt,id,aA,ae,af,List.length_cons,List.length_nil,List.all_cons,List.all_nil,List.drop_zero,List.drop_succ_cons,List.set_cons_zero,↓reduceIte,Nat.reduceEqDiff,Nat.reduceAdd,Nat.reduceLeDiff,Bool.true_and,Bool.and_true,and_true,true_and,reduceCtorEq,Nat.zero_add,Nat.add_zero,bH,IntWalk.i64_in,cD,am,aj,f37_7e,f37_10e,f37_11e,f37_11l,f37_12e,f37_15e,f37_16e,f37_16l,f37_17e,f37_20e,f37_21e,f37_21l,f37_22e,f37_23e,f37_24e,f37_24l,f37_25e,f37_28e,f37_29e,f37_29l,hg,hg3]
    refine ba rfl e_f66 (jA h3.ln hg0) rfl fun r st1 hr=>?_
    obtain ⟨rfl,h5,ho5⟩:=hr
    have hf:=hQ _ st1 ⟨rfl,h3.of ho5 h5,(ho.mono (by simp)).trans (ho5.mono (fun i hi=>List.mem_cons_of_mem _ hi))⟩
    rcases eu T with ⟨e,hz⟩ | ⟨e,hz⟩
    all_goals
      simp only [e] at hf ⊢
      simp (config:=KF) (disch:=omega) only [bZ,retI,resI,resL,az,putS,Sf.set,Sf.reg,getR,setR,aa,Sf.disAt,aI,eh,aT,List.all_cons,List.all_nil,↓reduceIte,Nat.reduceEqDiff,Bool.true_and,Bool.and_true,and_true,true_and,reduceCtorEq]
      exact hf

theorem lacan_calls (h:LaIs st b x c T g) (hg0:g < 1000000) (t:Int):aZ Go.Proofs.Try.prog n_f38 [.ptr b 0,.lit (.int .i64 t)] st (fun r st' =>
    r = .lit (.int .i64 (lCan T t).2)∧LaIs st' b x c (lCan T t).1 g∧Oth st st' x.ids):=by
  have hg:=h.get
  refine aX hmix k_f38 rfl rfl fun Q hQ=>?_
  unfold aFun c_f38
  simp (config:=KF) (disch:=omega) only [bZ,ao,ev_f,putS,Sf.set,Sf.reg,getR,setR,aa,aO,id,↓reduceIte,Nat.reduceEqDiff,reduceCtorEq,Nat.zero_add,f38_1e,f38_2e,f38_2l,f38_3e,f38_4e,f38_5e,f38_5l]
  refine aF rfl e_f74 h.z rfl ?_
  simp (config:=KF) (disch:=omega) only [bZ,aw,aq,aM,ao,ar,aS,addA,ag,ev_f,putS,Sf.set,Sf.reg,getR,setR,aa,id,List.drop_zero,List.drop_succ_cons,↓reduceIte,Nat.reduceEqDiff,reduceCtorEq,Nat.zero_add,f38_6e,f38_9e,f38_10e,f38_10l,hg]
  refine ba rfl e_f75 (go h.ln hg0 t) rfl fun r st1 hr=>?_
  obtain ⟨rfl,h2,ho⟩:=hr
  simp (config:=KF) (disch:=omega) only [bZ,retI,az,putS,Sf.set,Sf.reg,getR,setR,aa,Sf.disAt,↓reduceIte,Nat.reduceEqDiff,Bool.true_and,true_and,reduceCtorEq]
  exact hQ _ _ ⟨rfl,h.of ho h2,ho⟩
end

/-! A barrier. -/
structure BaIs (st:St) (b:Nat) (x:Ln) (p u:Int) (T:List Int) (g:Nat):Prop where
  get:st.get b = some [.lit (.int .i64 p),.lit (.int .i64 u),.ptr x.l 0]
  ln:LnIs st x T g
  nb:b ∉ x.ids
  pb:1≤p∧p≤64
  ub:0≤u∧u≤1000000
  few:(T.length:Int) < p
section
variable {st:St} {b:Nat} {x:Ln} {p u:Int} {T:List Int} {g:Nat}
theorem BaIs.lts (h:BaIs st b x p u T g):∀ i ∈ b::x.ids,i < st.boxes.length:=fun i hi=>by
  rcases List.mem_cons.1 hi with rfl | hi
  · exact c9 h.get
  · exact h.ln.lts i hi
theorem BaIs.fr {st':St} {S:List Nat} (h:BaIs st b x p u T g) (ho:Fr st st' S) (hd:∀ i ∈ b::x.ids,i ∉ S):BaIs st' b x p u T g :=
  ⟨(ib (ho.2 b (h.lts b (by simp)) (hd b (by simp)))).trans h.get,h.ln.fr ho fun i hi=>hd i (List.mem_cons_of_mem _ hi),h.nb,h.pb,h.ub,h.few⟩
theorem BaIs.of {st':St} {T':List Int} {g':Nat} (h:BaIs st b x p u T g) (ho:Oth st st' x.ids) (hl:LnIs st' x T' g') (hf:(T'.length:Int) < p):BaIs st' b x p u T' g' :=
  ⟨(ho.get h.nb).trans h.get,hl,h.nb,h.pb,h.ub,hf⟩
theorem BaIs.z (h:BaIs st b x p u T g):bg Go.Proofs.Try.prog n_f54 [.ptr b 0] st (.lit (.bool false)):=by
  have hg:=h.get
  refine cc hmix k_f54 rfl rfl fun Q hQ=>?_
  unfold aFun c_f54
  simp (config:=KF) (disch:=omega) only [bZ,retI,aL,AI.dst,bh,bu,aw,aq,aM,az,bA,ar,aS,fB,d7,cV,addA,ag,putS,Sf.set,Sf.reg,getR,setR,aa,Sf.disAt,aO,List.drop_zero,List.drop_succ_cons,↓reduceIte,Nat.reduceEqDiff,Bool.true_and,true_and,reduceCtorEq,Nat.zero_add,Bool.false_eq_true,f54_1e,f54_2e,f54_2l,f54_3e,f54_4e,f54_4l,hg]
  exact hQ _
theorem newba_calls {n:Int} (h:1≤n∧n≤64) (st:St):aZ Go.Proofs.Try.prog n_f9 [.lit (.int .i64 n)] st (fun r st'=>∃ b x,r = .tup [.ptr b 0,.lit (.int .i64 0)]∧BaIs st' b x n 0 [] 0∧Fr st st' []∧∀ i ∈ b::x.ids,st.boxes.length≤i):=by
  refine aX hmix k_f9 rfl rfl fun Q hQ=>?_
  unfold aFun c_f9
  simp (config:=KF) (disch:=omega) only [bZ,aL,AI.dst,bh,bu,ao,bA,bS,fm,ev_f,putS,Sf.set,Sf.reg,getR,setR,aa,aO,id,↓reduceIte,Nat.reduceEqDiff,reduceCtorEq,Bool.false_eq_true,bH,dl,f9_1e,f9_2e,f9_2l,f9_3e,f9_4e,f9_5e,f9_5l,f9_6e,f9_9e,f9_10e,f9_10l]
  refine ba rfl e_f51 (gn st) rfl fun r st1 hr=>?_
  obtain ⟨x,rfl,h1,h2,h3⟩:=hr
  simp (config:=KF) (disch:=omega) only [bZ,and_self,retI,resI,resL,cv,az,g9,bstV,boxX,bf,au,aE,putS,Sf.set,Sf.reg,getR,setR,aa,Sf.disAt,al,ah,fY,aA,ca,ai,ae,b8,af,fw,aT,List.length_cons,List.length_nil,List.getElem?_cons_zero,List.getElem?_cons_succ,List.all_cons,List.all_nil,List.set_cons_zero,List.set_cons_succ,↓reduceIte,Nat.reduceEqDiff,Nat.reduceAdd,Nat.reduceLeDiff,Bool.true_and,Bool.and_true,and_true,true_and,reduceCtorEq,Nat.zero_add,am,aj]
  have hg:=dx st1 [.lit (.int .i64 n),.lit (.int .i64 0),.ptr x.l 0]
  have hlt:=h1.lts
  have hf:Fr st1 (st1.push (.cells [.lit (.int .i64 n),.lit (.int .i64 0),.ptr x.l 0])) []:=⟨by rw [bU]; omega,fun i hi _=>dh hi⟩
  refine hQ _ _ ⟨_,x,rfl,⟨hg,h1.fr hf (by simp),fun hx=>by have:=hlt _ hx; omega,h,by omega,by simp; omega⟩,h2.trans hf,fun i hi=>?_⟩
  rcases List.mem_cons.1 hi with rfl | hi
  · exact h2.1
  · exact h3 i hi

/-- The turn, who waits, whether, who goes on, the error. -/
def fo (p u:Int) (T:List Int) (t:Int):(Int×List Int)×Bool×List Int×Int :=
  if chk T t≠0 then ((u,T),false,[],chk T t) else if (T.length:Int) + 1 < p then ((u,T++[t]),false,[],0) else ((u + 1,[]),true,T,0)
theorem baarr_calls (h:BaIs st b x p u T g) (hg0:g < 1000000) (hu:u < 1000000) (t:Int):aZ Go.Proofs.Try.prog n_f25 [.ptr b 0,.lit (.int .i64 t)] st (fun r st' =>
    ∃ g',r = .tup [.lit (.bool (fo p u T t).2.1),lAV (fo p u T t).2.2.1,.lit (.int .i64 (fo p u T t).2.2.2)]∧BaIs st' b x p (fo p u T t).1.1 (fo p u T t).1.2 g'∧g'≤g + 1∧Oth st st' (b::x.ids)):=by
  have hg:=h.get
  have hpb:=h.pb
  have hub:=h.ub
  have hfw:=h.few
  have lb:=c9 hg
  have hck:=check1 h.ln t
  refine aX hmix k_f25 rfl rfl fun Q hQ=>?_
  unfold aFun c_f25
  unfold fo at hQ
  by_cases h0:chk T t = 0
  case neg =>
    rw [if_pos h0] at hQ
    simp (config:=KF) (disch:=omega) only [bZ,ao,ev_f,putS,Sf.set,Sf.reg,getR,setR,aa,aO,id,↓reduceIte,Nat.reduceEqDiff,reduceCtorEq,Nat.zero_add,f25_1e,f25_2e,f25_2l,f25_3e,f25_4e,f25_5e,f25_5l]
    refine aF rfl e_f54 h.z rfl ?_
    simp (config:=KF) (disch:=omega) only [bZ,and_self,aw,aq,aM,dq,ao,ar,aS,bslV,List.reduceReplicate,addA,ag,cE,ev_f,putS,Sf.set,Sf.reg,getR,setR,aa,id,eG,ca,b8,af,List.length_cons,List.length_nil,List.all_cons,List.all_nil,List.drop_zero,List.drop_succ_cons,List.set_cons_zero,↓reduceIte,Nat.reduceEqDiff,Nat.reduceLT,Bool.and_true,and_true,reduceCtorEq,Nat.zero_add,f25_6e,f25_9e,f25_10e,f25_11e,f25_11l,hg]
    refine aF rfl e_f64 hck rfl ?_
    simp (config:=KF) (disch:=omega) only [bZ,retI,resI,resL,az,cH,putS,Sf.set,Sf.reg,getR,setR,aa,Sf.disAt,aT,List.all_cons,List.all_nil,↓reduceIte,Nat.reduceEqDiff,Bool.true_and,Bool.and_true,and_true,true_and,reduceCtorEq,not_false_eq_true,decide_true,f25_12e,f25_13e,f25_13l,f25_14e,f25_15e,f25_16e,f25_16l,h0]
    exact hQ _ _ ⟨g,rfl,h,by omega,.refl ..⟩
  rw [if_neg (by simpa using h0)] at hQ
  obtain ⟨t0,t1⟩:=mU h0
  rw [h0] at hck
  have hgl:=h.ln.get
  obtain ⟨L,hL,hq,_⟩:=h.ln.qi
  have hql:=nY hq
  rw [← iZ,hL] at hql
  by_cases h1:(T.length:Int) + 1 < p
  · rw [if_pos h1] at hQ
    simp (config:=KF) (disch:=omega) only [bZ,ao,ev_f,putS,Sf.set,Sf.reg,getR,setR,aa,aO,id,↓reduceIte,Nat.reduceEqDiff,reduceCtorEq,Nat.zero_add,f25_1e,f25_2e,f25_2l,f25_3e,f25_4e,f25_5e,f25_5l]
    refine aF rfl e_f54 h.z rfl ?_
    simp (config:=KF) (disch:=omega) only [bZ,and_self,aw,aq,aM,dq,ao,ar,aS,bslV,List.reduceReplicate,addA,ag,cE,ev_f,putS,Sf.set,Sf.reg,getR,setR,aa,id,eG,ca,b8,af,List.length_cons,List.length_nil,List.all_cons,List.all_nil,List.drop_zero,List.drop_succ_cons,List.set_cons_zero,↓reduceIte,Nat.reduceEqDiff,Nat.reduceLT,Bool.and_true,and_true,reduceCtorEq,Nat.zero_add,f25_6e,f25_9e,f25_10e,f25_11e,f25_11l,hg]
    refine aF rfl e_f64 hck rfl ?_
    simp (config:=KF) (disch:=omega) only [bZ,cp,dc,bV,bY,c8,ia,bC,az,ar,aS,addA,ag,cH,ev_f,putS,Sf.set,Sf.reg,getR,setR,aa,Sf.disAt,br,id,List.drop_zero,List.drop_succ_cons,↓reduceIte,Nat.reduceEqDiff,reduceCtorEq,Nat.zero_add,Nat.add_zero,not_true_eq_false,decide_false,f25_12e,f25_13e,f25_13l,f25_14e,f25_17e,f25_18e,f25_19e,f25_19h,f25_19l,hg,hgl]
    refine jx rfl e_f55 hql rfl ?_
    simp (config:=KF) (disch:=omega) only [bZ,dy,cp,dc,hh_bin,bV,bY,c8,fa,bC,cf,aw,aq,aM,ao,ar,aS,addA,ag,d4,bS,ev_f,putS,Sf.set,Sf.reg,getR,setR,aa,id,List.drop_zero,List.drop_succ_cons,↓reduceIte,Nat.reduceEqDiff,reduceCtorEq,Nat.zero_add,Nat.add_zero,bq,IntWalk.i64_in,cu,f25_20e,f25_21e,f25_22e,f25_22l,hg]
    refine ba rfl e_f65 (ff h.ln hg0 t0 t1) rfl fun r st1 hr=>?_
    obtain ⟨rfl,h2,ho⟩:=hr
    simp (config:=KF) (disch:=omega) only [bZ,retI,resI,resL,putS,Sf.set,Sf.reg,getR,setR,aa,aT,List.all_cons,List.all_nil,↓reduceIte,Nat.reduceEqDiff,Bool.true_and,Bool.and_true,and_true,true_and,reduceCtorEq,f25_23e,f25_24e,f25_24l]
    exact hQ _ _ ⟨_,rfl,h.of ho h2 (by simp; omega),by omega,ho.mono fun i hi=>List.mem_cons_of_mem _ hi⟩
  · rw [if_neg h1] at hQ
    have ho:Oth st (st.set b [.lit (.int .i64 p),.lit (.int .i64 (u + 1)),.ptr x.l 0]) [b]:=Oth.set _ _ _ (by simp)
    have h3:BaIs (st.set b [.lit (.int .i64 p),.lit (.int .i64 (u + 1)),.ptr x.l 0]) b x p (u + 1) T g:=⟨cD lb,h.ln.oth ho (fun i hi hx=>h.nb (by simp at hx; exact hx ▸ hi)),h.nb,h.pb,by omega,h.few⟩
    have hg3:=h3.get
    simp (config:=KF) (disch:=omega) only [bZ,ao,ev_f,putS,Sf.set,Sf.reg,getR,setR,aa,aO,id,↓reduceIte,Nat.reduceEqDiff,reduceCtorEq,Nat.zero_add,f25_1e,f25_2e,f25_2l,f25_3e,f25_4e,f25_5e,f25_5l]
    refine aF rfl e_f54 h.z rfl ?_
    simp (config:=KF) (disch:=omega) only [bZ,and_self,aw,aq,aM,dq,ao,ar,aS,bslV,List.reduceReplicate,addA,ag,cE,ev_f,putS,Sf.set,Sf.reg,getR,setR,aa,id,eG,ca,b8,af,List.length_cons,List.length_nil,List.all_cons,List.all_nil,List.drop_zero,List.drop_succ_cons,List.set_cons_zero,↓reduceIte,Nat.reduceEqDiff,Nat.reduceLT,Bool.and_true,and_true,reduceCtorEq,Nat.zero_add,f25_6e,f25_9e,f25_10e,f25_11e,f25_11l,hg]
    refine aF rfl e_f64 hck rfl ?_
    simp (config:=KF) (disch:=omega) only [bZ,cp,dc,bV,bY,c8,ia,bC,az,ar,aS,addA,ag,cH,ev_f,putS,Sf.set,Sf.reg,getR,setR,aa,Sf.disAt,br,id,List.drop_zero,List.drop_succ_cons,↓reduceIte,Nat.reduceEqDiff,reduceCtorEq,Nat.zero_add,Nat.add_zero,not_true_eq_false,decide_false,f25_12e,f25_13e,f25_13l,f25_14e,f25_17e,f25_18e,f25_19e,f25_19h,f25_19l,hg,hgl]
    refine jx rfl e_f55 hql rfl ?_
    simp (config:=KF) (disch:=omega) only [bZ,dy,cp,dc,hh_bin,bV,bY,c8,fa,bC,cf,aw,aq,aM,aG,ao,ar,aS,boxX,aR,addA,ag,d4,bS,ev_f,au,aE,putS,Sf.set,Sf.reg,getR,setR,aa,Sf.disAt,id,aA,ae,af,List.length_cons,List.length_nil,List.all_cons,List.all_nil,List.drop_zero,List.drop_succ_cons,List.set_cons_zero,List.set_cons_succ,↓reduceIte,Nat.reduceEqDiff,Nat.reduceAdd,Nat.reduceLeDiff,Bool.true_and,Bool.and_true,and_true,true_and,reduceCtorEq,Nat.zero_add,Nat.add_zero,bH,IntWalk.i64_in,cu,cD,am,aj,f25_20e,f25_25e,f25_26e,f25_26l,f25_27e,f25_28e,f25_28l,hg]
    refine ba rfl e_f66 (jA h3.ln hg0) rfl fun r st1 hr=>?_
    obtain ⟨rfl,h5,ho5⟩:=hr
    have hf:=hQ _ st1 ⟨g,rfl,h3.of ho5 h5 (by simp; omega),by omega,(ho.mono (by simp)).trans (ho5.mono (fun i hi=>List.mem_cons_of_mem _ hi))⟩
    rcases eu T with ⟨e,hz⟩ | ⟨e,hz⟩
    all_goals
      simp only [e] at hf ⊢
      simp (config:=KF) (disch:=omega) only [bZ,retI,resI,resL,az,putS,Sf.set,Sf.reg,getR,setR,aa,Sf.disAt,aI,eh,aT,List.all_cons,List.all_nil,↓reduceIte,Nat.reduceEqDiff,Bool.true_and,Bool.and_true,and_true,true_and,reduceCtorEq]
      exact hf
theorem lcan_len (T:List Int) (t:Int):(lCan T t).1.length≤T.length:=by
  unfold lCan
  split
  · exact Nat.le_refl _
  split
  · exact Nat.le_refl _
  · exact List.length_filter_le _ _
theorem bacan_calls (h:BaIs st b x p u T g) (hg0:g < 1000000) (t:Int):aZ Go.Proofs.Try.prog n_f53 [.ptr b 0,.lit (.int .i64 t)] st (fun r st' =>
    r = .lit (.int .i64 (lCan T t).2)∧BaIs st' b x p u (lCan T t).1 g∧Oth st st' x.ids):=by
  have hg:=h.get
  have hfw:=h.few
  have hll:=lcan_len T t
  refine aX hmix k_f53 rfl rfl fun Q hQ=>?_
  unfold aFun c_f53
  simp (config:=KF) (disch:=omega) only [bZ,ao,ev_f,putS,Sf.set,Sf.reg,getR,setR,aa,aO,id,↓reduceIte,Nat.reduceEqDiff,reduceCtorEq,Nat.zero_add,f53_1e,f53_2e,f53_2l,f53_3e,f53_4e,f53_5e,f53_5l]
  refine aF rfl e_f54 h.z rfl ?_
  simp (config:=KF) (disch:=omega) only [bZ,aw,aq,aM,ao,ar,aS,addA,ag,ev_f,putS,Sf.set,Sf.reg,getR,setR,aa,id,List.drop_zero,List.drop_succ_cons,↓reduceIte,Nat.reduceEqDiff,reduceCtorEq,Nat.zero_add,f53_6e,f53_9e,f53_10e,f53_10l,hg]
  refine ba rfl e_f75 (go h.ln hg0 t) rfl fun r st1 hr=>?_
  obtain ⟨rfl,h2,ho⟩:=hr
  simp (config:=KF) (disch:=omega) only [bZ,retI,az,putS,Sf.set,Sf.reg,getR,setR,aa,Sf.disAt,↓reduceIte,Nat.reduceEqDiff,Bool.true_and,true_and,reduceCtorEq]
  exact hQ _ _ ⟨rfl,h.of ho h2 (by omega),ho⟩
theorem baturn_pure (h:BaIs st b x p u T g):bg Go.Proofs.Try.prog n_f15 [.ptr b 0] st (.lit (.int .i64 u)):=by
  have hg:=h.get
  refine cc hmix k_f15 rfl rfl fun Q hQ=>?_
  unfold aFun c_f15
  simp (config:=KF) (disch:=omega) only [bZ,ao,ev_f,putS,Sf.set,Sf.reg,getR,setR,aa,aO,id,↓reduceIte,reduceCtorEq,f15_1e,f15_2e,f15_2l,f15_3e,f15_4e,f15_5e,f15_5l]
  refine aF rfl e_f54 h.z rfl ?_
  simp (config:=KF) (disch:=omega) only [bZ,retI,aw,aq,aM,az,ar,aS,addA,ag,putS,Sf.set,Sf.reg,getR,setR,aa,Sf.disAt,List.drop_zero,List.drop_succ_cons,↓reduceIte,Nat.reduceEqDiff,Bool.true_and,true_and,reduceCtorEq,Nat.zero_add,f15_6e,f15_9e,f15_10e,f15_10l,hg]
  exact hQ _
end
end Go.Fx.YtphaaebhgggbaaaFx

