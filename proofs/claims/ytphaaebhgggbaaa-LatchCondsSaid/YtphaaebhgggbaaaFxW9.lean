/- What the functions that the statement reaches compute: part 9. -/
import Derived.Test.YtphaaebhgggbaaaFxW8
namespace Go.Fx.YtphaaebhgggbaaaFx
open Go Go.Fx
attribute [local irreducible] aC runI bD cO

set_option maxRecDepth 100000
set_option maxHeartbeats 4000000

/-! A condition with its lock. -/
def CInv (o:Int) (T U:List Int):Prop:=(T++U).Nodup∧o ∉ T++U
theorem jB {o:Int} {T U:List Int} (h:CInv o T U):CInv (a8 o T).1.1 (a8 o T).1.2 U:=by
  unfold a8
  split
  · exact h
  cases T with
  | nil=>exact h
  | cons t B =>
    obtain ⟨h1,_⟩:=h
    rw [List.cons_append] at h1
    exact ⟨(List.nodup_cons.1 h1).2,(List.nodup_cons.1 h1).1⟩
theorem ly {o t:Int} {T U:List Int} (h:CInv o T U) (hp:∀ x ∈ T++U,0≤x):CInv (cm o t).1 T U:=by
  unfold cm
  split
  · exact h
  split
  · exact h
  · exact ⟨h.1,fun e=>by have:=hp _ e; omega⟩
theorem owEnt_inv {o t:Int} {T U:List Int} (h:CInv o T U):CInv (cn o T U t).1.1 (cn o T U t).1.2 U:=by
  unfold cn
  by_cases h0:chk (U++T) t = 0
  case neg=>rw [if_pos h0]; exact h
  rw [if_neg (by simpa using h0)]
  obtain ⟨_,h2⟩:=mU h0
  have h3:t ∉ U∧t ∉ T:=by simpa using h2
  split
  · exact h
  rename_i h1
  split
  · exact ⟨h.1,by simp [h3]⟩
  · obtain ⟨n1,n2⟩:=h
    have n3:o ∉ T∧o ∉ U:=by simpa using n2
    refine ⟨?_,by simp [n3,h1]⟩
    rw [List.append_assoc]
    obtain ⟨a1,a2,a3⟩:=List.nodup_append.1 n1
    refine List.nodup_append.2 ⟨a1,by simp [a2,h3],fun x hx y hy e=>?_⟩
    subst e
    rcases List.mem_append.1 hy with hy | hy
    · simp at hy; exact h3.2 (hy ▸ hx)
    · exact a3 x hx x hy rfl

structure CoIs (st:St) (b:Nat) (x y:Ln) (o:Int) (T U:List Int) (g k:Nat):Prop where
  ow:OwIs st b x (.ptr y.l 0) o T g
  sl:LnIs st y U k
  nb:b ∉ y.ids
  dj:∀ i ∈ x.ids,i ∉ y.ids
  inv:CInv o T U

section
variable {st:St} {b:Nat} {x y:Ln} {o:Int} {T U:List Int} {g k:Nat}
theorem CoIs.lts (h:CoIs st b x y o T U g k):∀ i ∈ b::(x.ids++y.ids),i < st.boxes.length:=fun i hi=>by
  rcases List.mem_cons.1 hi with rfl | hi
  · exact c9 h.ow.get
  rcases List.mem_append.1 hi with hi | hi
  · exact h.ow.ln.lts i hi
  · exact h.sl.lts i hi
theorem CoIs.fr {st':St} {S:List Nat} (h:CoIs st b x y o T U g k) (ho:Fr st st' S) (hd:∀ i ∈ b::(x.ids++y.ids),i ∉ S):CoIs st' b x y o T U g k :=
  ⟨h.ow.fr ho fun i hi=>hd i (by rcases List.mem_cons.1 hi with rfl | hi <;> simp [*]),h.sl.fr ho fun i hi=>hd i (by simp [hi]),h.nb,h.dj,h.inv⟩
theorem CoIs.pos (h:CoIs st b x y o T U g k):∀ t ∈ T++U,0≤t∧t < 64:=fun t ht=>by
  rcases List.mem_append.1 ht with ht | ht
  · exact h.ow.ln.tk t ht
  · exact h.sl.tk t ht
/-- The lock's side changes. -/
theorem CoIs.low {st':St} {o':Int} {T':List Int} {g':Nat} (h:CoIs st b x y o T U g k) (ho:Oth st st' (b::x.ids)) (hw:OwIs st' b x (.ptr y.l 0) o' T' g') (hi:CInv o' T' U):CoIs st' b x y o' T' U g' k :=
  ⟨hw,h.sl.oth ho (fun i hi hx=>by
    rcases List.mem_cons.1 hx with rfl | hx
    · exact h.nb hi
    · exact h.dj i hx hi),h.nb,h.dj,hi⟩
/-- The condition's side changes. -/
theorem CoIs.lsl {st':St} {U':List Int} {k':Nat} (h:CoIs st b x y o T U g k) (ho:Oth st st' y.ids) (hs:LnIs st' y U' k') (hi:CInv o T U'):CoIs st' b x y o T U' g k' :=
  ⟨⟨(ho.get h.nb).trans h.ow.get,h.ow.ln.oth ho h.dj,h.ow.nb,h.ow.ob⟩,hs,h.nb,h.dj,hi⟩

theorem coz (h:CoIs st b x y o T U g k):bg Go.Proofs.Try.prog n_f62 [.ptr b 0] st (.lit (.bool false)):=by
  have hg:=h.ow.get
  refine cc hmix k_f62 rfl rfl fun Q hQ=>?_
  unfold aFun c_f62
  simp (config:=KF) (disch:=omega) only [bZ,retI,aL,AI.dst,bh,bu,aw,aq,aM,az,bA,ar,aS,fB,d7,cV,addA,ag,putS,Sf.set,Sf.reg,getR,setR,aa,Sf.disAt,aO,List.drop_zero,List.drop_succ_cons,↓reduceIte,Nat.reduceEqDiff,Bool.true_and,true_and,reduceCtorEq,Nat.zero_add,Nat.add_zero,Bool.false_eq_true,f62_1e,f62_2e,f62_2l,f62_3e,f62_4e,f62_4l,hg]
  exact hQ _

def bX (o:Int) (T:List Int) (t:Int):(Int×List Int)×List Int×Int :=
  if (cm o t).2≠0 then (((cm o t).1,T),[],(cm o t).2) else ((a8 (cm o t).1 T).1,(a8 (cm o t).1 T).2,0)
theorem lz (h:CoIs st b x y o T U g k) (hg0:g < 1000000) (t:Int):aZ Go.Proofs.Try.prog n_f58 [.ptr b 0,.lit (.int .i64 t)] st (fun r st' =>
    r = .tup [lAV (bX o T t).2.1,.lit (.int .i64 (bX o T t).2.2)]∧CoIs st' b x y (bX o T t).1.1 (bX o T t).1.2 U g k∧Oth st st' (b::x.ids)):=by
  have hg:=h.ow.get
  have hpos:=h.pos
  refine aX hmix k_f58 rfl rfl fun Q hQ=>?_
  unfold aFun c_f58
  unfold bX at hQ
  have hi1:=ly (t:=t) h.inv fun z hz=>(h.pos z hz).1
  have hi2:=jB hi1
  have hl:=jn h.ow t
  generalize (cm o t).1 = o' at *
  generalize (cm o t).2 = e at *
  simp (config:=KF) (disch:=omega) only [bZ,ao,ev_f,putS,Sf.set,Sf.reg,getR,setR,aa,aO,id,↓reduceIte,Nat.reduceEqDiff,reduceCtorEq,Nat.zero_add,f58_1e,f58_2e,f58_2l,f58_3e,f58_4e,f58_5e,f58_5l]
  refine aF rfl e_f62 (coz h) rfl ?_
  simp (config:=KF) (disch:=omega) only [bZ,aw,aM,ao,aS,addA,ev_f,putS,Sf.set,Sf.reg,getR,setR,aa,id,↓reduceIte,Nat.reduceEqDiff,reduceCtorEq,Nat.add_zero,f58_6e,f58_9e,f58_10e,f58_11e,f58_11l]
  refine ba rfl e_f71 hl rfl fun r st1 hr=>?_
  obtain ⟨rfl,h1,ho1⟩:=hr
  by_cases h0:e = 0
  case neg =>
    rw [if_pos h0] at hQ
    simp (config:=KF) (disch:=omega) only [bZ,retI,resI,resL,az,cH,putS,Sf.set,Sf.reg,getR,setR,aa,Sf.disAt,aT,List.all_cons,List.all_nil,↓reduceIte,Nat.reduceEqDiff,Bool.true_and,Bool.and_true,and_true,true_and,reduceCtorEq,not_false_eq_true,decide_true,f58_12e,f58_13e,f58_13l,f58_14e,f58_15e,f58_16e,f58_16l,h0]
    exact hQ _ _ ⟨rfl,h.low (ho1.mono (by simp)) h1 hi1,ho1.mono (by simp)⟩
  rw [if_neg (by simpa using h0)] at hQ
  rw [h0]
  have hg1:=h1.get
  simp (config:=KF) (disch:=omega) only [bZ,aw,aM,az,ao,aS,addA,cH,ev_f,putS,Sf.set,Sf.reg,getR,setR,aa,Sf.disAt,id,↓reduceIte,Nat.reduceEqDiff,reduceCtorEq,Nat.add_zero,not_true_eq_false,decide_false,f58_12e,f58_13e,f58_13l,f58_14e,f58_17e,f58_18e,f58_18l]
  refine ba rfl e_f72 (ik h1 hg0) rfl fun r st2 hr=>?_
  obtain ⟨rfl,h3,ho3⟩:=hr
  have ho:=(ho1.mono (by simp)).trans ho3
  have hf:=hQ _ st2 ⟨rfl,h.low ho h3 hi2,ho⟩
  generalize (a8 o' T).2 = M at hf ⊢
  unfold lAV at hf
  unfold gAV
  by_cases hz:M = []
  all_goals
    first | rw [if_pos hz] at hf ⊢ | rw [if_neg hz] at hf ⊢
    simp (config:=KF) (disch:=omega) only [bZ,retI,resI,resL,az,putS,Sf.set,Sf.reg,getR,setR,aa,Sf.disAt,aI,eh,aT,List.all_cons,List.all_nil,↓reduceIte,Nat.reduceEqDiff,Bool.true_and,Bool.and_true,and_true,true_and,reduceCtorEq]
    exact hf

theorem kh (h:CoIs st b x y o T U g k) (hg0:g < 1000000) (t:Int):aZ Go.Proofs.Try.prog n_f45 [.ptr b 0,.lit (.int .i64 t)] st (fun r st' =>
    ∃ g',r = .tup [.lit (.bool (cn o T U t).2.1),.lit (.int .i64 (cn o T U t).2.2)]∧CoIs st' b x y (cn o T U t).1.1 (cn o T U t).1.2 U g' k∧g'≤g + 1∧Oth st st' (b::x.ids)):=by
  have hg:=h.ow.get
  refine aX hmix k_f45 rfl rfl fun Q hQ=>?_
  unfold aFun c_f45
  simp (config:=KF) (disch:=omega) only [bZ,ao,ev_f,putS,Sf.set,Sf.reg,getR,setR,aa,aO,id,↓reduceIte,Nat.reduceEqDiff,reduceCtorEq,Nat.zero_add,f45_1e,f45_2e,f45_2l,f45_3e,f45_4e,f45_5e,f45_5l]
  refine aF rfl e_f62 (coz h) rfl ?_
  simp (config:=KF) (disch:=omega) only [bZ,dJ,cX,dP,d5,lM,bL,j9,mm_bsl,drawC_eq,atC_eq,and_self,ar,aS,bslV,List.reduceReplicate,addA,ag,cE,ev_f,putS,Sf.set,Sf.reg,getR,setR,aa,id,eG,ca,b8,af,List.length_cons,List.length_nil,List.all_cons,List.all_nil,List.nil_append,List.cons_append,List.drop_zero,List.drop_succ_cons,List.set_cons_zero,↓reduceIte,Nat.reduceEqDiff,Nat.reduceLT,Bool.true_and,Bool.and_true,and_true,true_and,reduceCtorEq,Nat.zero_add,Nat.add_zero,f45_6e,f45_9e,f45_10e,f45_10h,f45_10p,f45_10l,hg]
  refine call_c rfl e_f70 (oW h.ow h.sl hg0 t) rfl rfl ?_
  rintro r st1 ⟨g',rfl,h2,h3,h4⟩
  simp (config:=KF) (disch:=omega) only [bZ,dJ,cX,dP,mm_ext,dz,endC_eq,vs_val,retI,resI,resL,az,extV,putS,Sf.set,Sf.reg,getR,setR,aa,Sf.disAt,aT,List.getElem?_cons_zero,List.getElem?_cons_succ,List.all_cons,List.all_nil,List.nil_append,List.cons_append,↓reduceIte,Nat.reduceEqDiff,Bool.true_and,Bool.and_true,and_true,true_and,reduceCtorEq]
  exact hQ _ _ ⟨g',rfl,h.low h4 h2 (owEnt_inv h.inv),h3,h4⟩

def io (T U:List Int) (t:Int):(List Int×List Int)×Int :=
  if (lCan T t).2≠9 then (((lCan T t).1,U),(lCan T t).2) else ((T,(lCan U t).1),(lCan U t).2)
theorem lCan_sub (T:List Int) (t:Int):(lCan T t).1.Sublist T∧((lCan T t).2 = 9→(lCan T t).1 = T):=by
  unfold lCan
  split
  · exact ⟨List.Sublist.refl _,fun _=>rfl⟩
  split
  · exact ⟨List.Sublist.refl _,fun _=>rfl⟩
  · exact ⟨List.filter_sublist,fun h=>by simp at h⟩
theorem CInv.sub {T' U':List Int} (h:CInv o T U) (h1:T'.Sublist T) (h2:U'.Sublist U):CInv o T' U' :=
  ⟨h.1.sublist (h1.append h2),fun e=>h.2 ((h1.append h2).mem e)⟩
theorem cocan_calls (h:CoIs st b x y o T U g k) (hg0:g < 1000000) (hk0:k < 1000000) (t:Int):aZ Go.Proofs.Try.prog n_f61 [.ptr b 0,.lit (.int .i64 t)] st (fun r st' =>
    r = .lit (.int .i64 (io T U t).2)∧CoIs st' b x y o (io T U t).1.1 (io T U t).1.2 g k∧Oth st st' (b::(x.ids++y.ids))):=by
  have hg:=h.ow.get
  refine aX hmix k_f61 rfl rfl fun Q hQ=>?_
  unfold aFun c_f61
  unfold io at hQ
  obtain ⟨s1,s2⟩:=lCan_sub T t
  obtain ⟨s3,_⟩:=lCan_sub U t
  have hl:=go h.ow.ln hg0 t
  generalize (lCan T t).1 = T' at *
  generalize (lCan T t).2 = e at *
  simp (config:=KF) (disch:=omega) only [bZ,ao,ev_f,putS,Sf.set,Sf.reg,getR,setR,aa,aO,id,↓reduceIte,Nat.reduceEqDiff,reduceCtorEq,Nat.zero_add,f61_1e,f61_2e,f61_2l,f61_3e,f61_4e,f61_5e,f61_5l]
  refine aF rfl e_f62 (coz h) rfl ?_
  simp (config:=KF) (disch:=omega) only [bZ,aw,aq,aM,ao,ar,aS,addA,ag,ev_f,putS,Sf.set,Sf.reg,getR,setR,aa,id,List.drop_zero,List.drop_succ_cons,↓reduceIte,Nat.reduceEqDiff,reduceCtorEq,Nat.zero_add,Nat.add_zero,f61_6e,f61_9e,f61_10e,f61_11e,f61_11l,hg]
  refine ba rfl e_f75 hl rfl fun r st1 hr=>?_
  obtain ⟨rfl,h1,ho1⟩:=hr
  have ho1':=ho1.mono (S':=b::x.ids) fun i hi=>List.mem_cons_of_mem _ hi
  have h3:=h.low ho1' (h.ow.of ho1 h1) (h.inv.sub s1 (List.Sublist.refl _))
  have hg3:=h3.ow.get
  by_cases h0:e = 9
  case neg =>
    rw [if_pos h0] at hQ
    simp (config:=KF) (disch:=omega) only [bZ,retI,az,cH,putS,Sf.set,Sf.reg,getR,setR,aa,Sf.disAt,↓reduceIte,Nat.reduceEqDiff,Bool.true_and,true_and,reduceCtorEq,not_false_eq_true,decide_true,f61_12e,f61_13e,f61_13l,f61_14e,f61_15e,f61_16e,f61_16l,h0]
    exact hQ _ _ ⟨rfl,h3,ho1.mono (by simp +contextual)⟩
  rw [if_neg (by simpa using h0)] at hQ
  have s2:=s2 h0
  subst s2
  subst h0
  simp (config:=KF) (disch:=omega) only [bZ,aw,aq,aM,az,ao,ar,aS,addA,ag,cH,ev_f,putS,Sf.set,Sf.reg,getR,setR,aa,Sf.disAt,id,List.drop_zero,List.drop_succ_cons,↓reduceIte,Nat.reduceEqDiff,reduceCtorEq,Nat.zero_add,not_true_eq_false,decide_false,f61_12e,f61_13e,f61_13l,f61_14e,f61_17e,f61_18e,f61_18l,hg3]
  refine ba rfl e_f75 (go h3.sl hk0 t) rfl fun r st2 hr=>?_
  obtain ⟨rfl,h4,ho4⟩:=hr
  simp (config:=KF) (disch:=omega) only [bZ,retI,az,putS,Sf.set,Sf.reg,getR,setR,aa,Sf.disAt,↓reduceIte,Nat.reduceEqDiff,Bool.true_and,true_and,reduceCtorEq]
  exact hQ _ _ ⟨rfl,h3.lsl ho4 h4 (h.inv.sub (List.Sublist.refl _) s3),(ho1.mono (by simp +contextual)).trans (ho4.mono (by simp +contextual))⟩

theorem mX (h:CoIs st b x y o T U g k):bg Go.Proofs.Try.prog n_f19 [.ptr b 0] st (.tup [.lit (.int .i64 (max 0 o)),.lit (.bool (decide (0≤o)))]):=by
  have hg:=h.ow.get
  refine cc hmix k_f19 rfl rfl fun Q hQ=>?_
  unfold aFun c_f19
  have hQ:=hQ st
  by_cases h0:0≤o
  · rw [decide_eq_true h0,show max 0 o = o by omega] at hQ
    simp (config:=KF) (disch:=omega) only [bZ,ao,ev_f,putS,Sf.set,Sf.reg,getR,setR,aa,aO,id,↓reduceIte,Nat.reduceEqDiff,reduceCtorEq,f19_1e,f19_2e,f19_2l,f19_3e,f19_4e,f19_5e,f19_5l]
    refine aF rfl e_f62 (coz h) rfl ?_
    simp (config:=KF) (disch:=omega) only [bZ,retI,resI,resL,aL,AI.dst,bh,bu,aw,aq,aM,az,bA,ar,aS,addA,ag,bS,putS,Sf.set,Sf.reg,getR,setR,aa,Sf.disAt,aT,List.all_cons,List.all_nil,List.drop_zero,↓reduceIte,Nat.reduceEqDiff,Bool.true_and,Bool.and_true,and_true,true_and,reduceCtorEq,Nat.add_zero,Bool.false_eq_true,bH,f19_6e,f19_9e,f19_10e,f19_10l,hg]
    exact hQ
  · rw [decide_eq_false h0,show max 0 o = 0 by omega] at hQ
    simp (config:=KF) (disch:=omega) only [bZ,ao,ev_f,putS,Sf.set,Sf.reg,getR,setR,aa,aO,id,↓reduceIte,Nat.reduceEqDiff,reduceCtorEq,f19_1e,f19_2e,f19_2l,f19_3e,f19_4e,f19_5e,f19_5l]
    refine aF rfl e_f62 (coz h) rfl ?_
    simp (config:=KF) (disch:=omega) only [bZ,retI,resI,resL,aL,AI.dst,bh,bu,aw,aq,aM,bA,ar,aS,addA,ag,bS,putS,Sf.set,Sf.reg,getR,setR,aa,aT,List.all_cons,List.all_nil,List.drop_zero,↓reduceIte,Nat.reduceEqDiff,Bool.true_and,Bool.and_true,and_true,true_and,reduceCtorEq,Nat.add_zero,Bool.false_eq_true,bq,f19_6e,f19_7e,f19_8e,f19_8l,hg]
    exact hQ
theorem lC (h:CoIs st b x y o T U g k):bg Go.Proofs.Try.prog n_f20 [.ptr b 0] st (.tup [.lit (.int .i64 (T.length:Nat)),.lit (.int .i64 (U.length:Nat))]):=by
  have hg:=h.ow.get
  have hgl:=h.ow.ln.get
  have hgs:=h.sl.get
  have hql:=mW h.ow.ln
  have hqs:=mW h.sl
  refine cc hmix k_f20 rfl rfl fun Q hQ=>?_
  unfold aFun c_f20
  simp (config:=KF) (disch:=omega) only [bZ,ao,ev_f,putS,Sf.set,Sf.reg,getR,setR,aa,aO,id,↓reduceIte,Nat.reduceEqDiff,reduceCtorEq,f20_1e,f20_2e,f20_2l,f20_3e,f20_4e,f20_5e,f20_5l]
  refine aF rfl e_f62 (coz h) rfl ?_
  simp (config:=KF) (disch:=omega) only [bZ,cp,dc,bV,bY,c8,ia,bC,ar,aS,addA,ag,ev_f,putS,Sf.set,Sf.reg,getR,setR,aa,br,id,List.drop_zero,List.drop_succ_cons,↓reduceIte,Nat.reduceEqDiff,reduceCtorEq,Nat.zero_add,Nat.add_zero,f20_6e,f20_9e,f20_10e,f20_10h,f20_10l,hg,hgl]
  refine jx rfl e_f55 hql rfl ?_
  simp (config:=KF) (disch:=omega) only [bZ,dy,cp,dc,bV,bY,c8,fa,bC,cf,ao,ar,aS,addA,ag,ev_f,putS,Sf.set,Sf.reg,getR,setR,id,List.drop_zero,List.drop_succ_cons,↓reduceIte,Nat.reduceEqDiff,reduceCtorEq,Nat.zero_add,Nat.add_zero,hg,hgs]
  refine aF rfl e_f55 hqs rfl ?_
  simp (config:=KF) (disch:=omega) only [bZ,retI,resI,resL,az,putS,Sf.set,Sf.reg,getR,setR,aa,Sf.disAt,aT,List.all_cons,List.all_nil,↓reduceIte,Nat.reduceEqDiff,Bool.true_and,Bool.and_true,and_true,true_and,reduceCtorEq]
  exact hQ _
def n5 (o:Int) (T U:List Int) (t:Int):List Int:=if (bX o T t).2.2 = 0 then U++[t] else U
theorem owLeave_ok {o t:Int} (h:(cm o t).2 = 0):o = t∧0≤t∧t < 64∧(cm o t).1 = -1:=by
  unfold cm at *
  by_cases h0:chk [] t = 0
  case neg=>rw [if_pos h0] at h; exact absurd h h0
  rw [if_neg (by simpa using h0)] at h ⊢
  obtain ⟨a1,_⟩:=mU h0
  by_cases h1:o = t
  · rw [if_neg (by simpa using h1)]; exact ⟨h1,a1.1,a1.2,rfl⟩
  · rw [if_pos h1] at h; simp at h
theorem owNext_mem {o:Int} {T:List Int}:(a8 o T).1.2.Sublist T∧((a8 o T).1.1 = o∨(a8 o T).1.1 ∈ T):=by
  unfold a8
  split
  · exact ⟨List.Sublist.refl _,.inl rfl⟩
  cases T with
  | nil=>exact ⟨List.Sublist.refl _,.inl rfl⟩
  | cons t B=>exact ⟨List.sublist_cons_self _ _,.inr (by simp)⟩
theorem coWait_inv {t:Int} (h:CInv o T U) (hp:∀ x ∈ T++U,0≤x) (h0:(bX o T t).2.2 = 0):CInv (bX o T t).1.1 (bX o T t).1.2 (U++[t])∧(0≤t∧t < 64)∧t ∉ U:=by
  unfold bX at *
  by_cases h1:(cm o t).2 = 0
  case neg=>rw [if_pos h1] at h0; exact absurd h0 h1
  rw [if_neg (by simpa using h1)] at h0 ⊢
  obtain ⟨rfl,t0,t1,e⟩:=owLeave_ok h1
  have hi1:CInv (-1) T U:=by have:=ly (t:=o) h hp; rwa [e] at this
  rw [e]
  have hi2:=jB hi1
  obtain ⟨m1,m2⟩:=owNext_mem (o:=-1) (T:=T)
  simp only
  generalize (a8 (-1) T).1.1 = o' at *
  generalize (a8 (-1) T).1.2 = T' at *
  have hT:o ∉ T:=fun e=>h.2 (by simp [e])
  have hU:o ∉ U:=fun e=>h.2 (by simp [e])
  refine ⟨⟨?_,?_⟩,⟨t0,t1⟩,hU⟩
  · rw [← List.append_assoc]
    refine List.nodup_append.2 ⟨hi2.1,by simp,fun x hx y hy e=>?_⟩
    have hxo:x = o:=by exact e.trans (List.mem_singleton.1 hy)
    rw [hxo] at hx
    rcases List.mem_append.1 hx with hx | hx
    · exact hT (m1.mem hx)
    · exact hU hx
  · rw [← List.append_assoc]
    intro hx
    rcases List.mem_append.1 hx with hx | hx
    · exact hi2.2 hx
    · simp at hx
      rcases m2 with m2 | m2
      · omega
      · rw [hx] at m2; exact hT m2

theorem cowt_calls (h:CoIs st b x y o T U g k) (hg0:g < 1000000) (hk0:k < 1000000) (t:Int):aZ Go.Proofs.Try.prog n_f59 [.ptr b 0,.lit (.int .i64 t)] st (fun r st' =>
    ∃ k',r = .tup [lAV (bX o T t).2.1,.lit (.int .i64 (bX o T t).2.2)]∧CoIs st' b x y (bX o T t).1.1 (bX o T t).1.2 (n5 o T U t) g k'∧k'≤k + 1∧Oth st st' (b::(x.ids++y.ids))):=by
  refine aX hmix k_f59 rfl rfl fun Q hQ=>?_
  unfold aFun c_f59
  have hi:=coWait_inv (t:=t) h.inv fun z hz=>(h.pos z hz).1
  have hl:=lz h hg0 t
  unfold n5 at hQ
  generalize (bX o T t).1.1 = o' at *
  generalize (bX o T t).1.2 = T' at *
  generalize (bX o T t).2.1 = l at *
  generalize (bX o T t).2.2 = e at *
  simp (config:=KF) (disch:=omega) only [bZ,ao,ev_f,putS,Sf.set,Sf.reg,getR,setR,aa,aO,id,↓reduceIte,Nat.reduceEqDiff,reduceCtorEq,Nat.zero_add,f59_1e,f59_2e,f59_2l,f59_3e,f59_4e,f59_4l]
  refine ba rfl e_f58 hl rfl fun r st1 hr=>?_
  obtain ⟨rfl,h1,ho1⟩:=hr
  have hg:=h1.ow.get
  by_cases h0:e = 0
  case neg =>
    rw [if_neg h0] at hQ
    have hf:=hQ _ st1 ⟨k,rfl,h1,by omega,ho1.mono (by simp +contextual)⟩
    rcases eu l with ⟨e,hz⟩ | ⟨e,hz⟩
    all_goals
      simp only [e] at hf ⊢
      simp (config:=KF) (disch:=omega) only [bZ,retI,resI,resL,bJ,az,extV,bW,putS,Sf.set,Sf.reg,getR,setR,aa,Sf.disAt,aI,bp,bk,own2_sl,eh,aT,List.getElem?_cons_zero,List.getElem?_cons_succ,List.all_cons,List.all_nil,↓reduceIte,Nat.reduceEqDiff,Bool.true_and,Bool.and_true,and_true,true_and,reduceCtorEq,decide_false,f59_5e,f59_6e,f59_7e,f59_7l,f59_8e,f59_10e,f59_11e,f59_11l,h0]
      exact hf
  rw [if_pos h0] at hQ
  obtain ⟨a1,a2,a3⟩:=hi h0
  subst h0
  have hw:∀ (r:AV) (st2:St),(r = .tup []∧LnIs st2 y (U++[t]) (k + 1)∧Oth st1 st2 y.ids)→Q (.tup [lAV l,.lit (.int .i64 0)]) st2:=fun r st2 hr=>by
    obtain ⟨_,h2,ho2⟩:=hr
    exact hQ _ _ ⟨k + 1,rfl,h1.lsl ho2 h2 a1,by omega,(ho1.mono (by simp +contextual)).trans (ho2.mono (by simp +contextual))⟩
  rcases eu l with ⟨e,hz⟩ | ⟨e,hz⟩
  all_goals
    simp only [e] at hw ⊢
    simp (config:=KF) (disch:=omega) only [bZ,bJ,aw,aq,aM,az,ao,extV,ar,aS,addA,ag,bW,ev_f,putS,Sf.set,Sf.reg,getR,setR,aa,Sf.disAt,id,aI,bp,bk,own2_sl,List.getElem?_cons_zero,List.getElem?_cons_succ,List.drop_zero,List.drop_succ_cons,↓reduceIte,Nat.reduceEqDiff,reduceCtorEq,Nat.zero_add,decide_true,f59_5e,f59_6e,f59_7e,f59_7l,f59_8e,f59_9e,f59_9l,hg]
    refine ba rfl e_f65 (ff h1.sl hk0 a2 a3) rfl fun r st2 hr=>?_
    have hf:=hw r st2 hr
    obtain ⟨rfl,_⟩:=hr
    simp (config:=KF) (disch:=omega) only [bZ,retI,resI,resL,az,putS,Sf.set,Sf.reg,getR,setR,aa,Sf.disAt,aI,eh,aT,List.all_cons,List.all_nil,↓reduceIte,Nat.reduceEqDiff,Bool.true_and,Bool.and_true,and_true,true_and,reduceCtorEq,f59_10e,f59_11e,f59_11l]
    exact hf

theorem ki {st0:St} (h0:CoIs st0 b x y o T U g k) (hg0:g + 100 < 1000000) (hk0:k < 1000000) (n:Nat) (hn:n≤64):aZ Go.Proofs.Try.prog n_f77 [.ptr b 0,.lit (.int .i64 (n:Nat))] st0 (fun r st' =>
    ∃ g',r = .tup [lAV (a8 o (T++U.take n)).2,.lit (.int .i64 0)]∧CoIs st' b x y (a8 o (T++U.take n)).1.1 (a8 o (T++U.take n)).1.2 (U.drop n) g' k∧g'≤g + 64∧Oth st0 st' (b::(x.ids++y.ids))):=by
  have hgg:=h0.ow.get
  refine aX hmix k_f77 rfl rfl fun Q hQ=>?_
  unfold aFun c_f77
  simp (config:=KF) (disch:=omega) only [bZ,ao,ev_f,putS,Sf.set,Sf.reg,getR,setR,aa,aO,id,↓reduceIte,Nat.reduceEqDiff,reduceCtorEq,Nat.zero_add,f77_1e,f77_2e,f77_2l,f77_3e,f77_4e,f77_5e,f77_5l]
  refine aF rfl e_f62 (coz h0) rfl ?_
  simp (config:=KF) (disch:=omega) only [bZ,putS,Sf.set,Sf.reg,getR,setR,aa,↓reduceIte,Nat.reduceEqDiff,reduceCtorEq,f77_6e,f77_9e,f77_10e,f77_11e,f77_11l,f77_12e]
  -- behind the loop
  have htail:∀ (st:St) (g':Nat),CoIs st b x y o (T++U.take n) (U.drop n) g' k→g'≤g + 64→Oth st0 st (b::(x.ids++y.ids)) →
      aC Go.Proofs.Try.prog id false f77_28 ⟨[(0,.ptr b 0)],[]⟩ st (retQ [RI.tmp 4,RI.tmp 5] Q):=fun st g' h1 hgl ho=>by
    have hg:=h1.ow.get
    simp (config:=KF) (disch:=omega) only [bZ,aw,aM,ao,aS,addA,ev_f,putS,Sf.set,Sf.reg,getR,setR,id,↓reduceIte,Nat.reduceEqDiff,reduceCtorEq,Nat.add_zero,f77_28e,f77_29e,f77_29l]
    refine ba rfl e_f72 (ik h1.ow (by omega)) rfl fun r st2 hr=>?_
    obtain ⟨rfl,h3,ho3⟩:=hr
    have hf:=hQ _ st2 ⟨g',rfl,h1.low ho3 h3 (jB h1.inv),hgl,ho.trans (ho3.mono (by simp +contextual))⟩
    generalize (a8 o (T++U.take n)).2 = M at hf ⊢
    unfold lAV at hf
    unfold gAV
    by_cases hz:M = []
    all_goals
      first | rw [if_pos hz] at hf ⊢ | rw [if_neg hz] at hf ⊢
      simp (config:=KF) (disch:=omega) only [bZ,retI,resI,resL,az,putS,Sf.set,Sf.reg,getR,setR,aa,Sf.disAt,aI,eh,aT,List.all_cons,List.all_nil,↓reduceIte,Nat.reduceEqDiff,Bool.true_and,Bool.and_true,and_true,true_and,reduceCtorEq]
      exact hf
  rw [f77_13w]
  refine ef (A:=Nat×St) (fun a=>n - a.1) (fun a=>⟨[(0,.ptr b 0),(10,.lit (.int .i64 (n:Nat))),(11,.lit (.int .i64 (a.1:Nat)))],[]⟩) (fun a=>a.2)
    (fun a=>a.1≤n∧a.1≤U.length∧CoIs a.2 b x y o (T++U.take a.1) (U.drop a.1) (g + a.1) k∧Oth st0 a.2 (b::(x.ids++y.ids))) (0,st0) ⟨by simp,by simp,by simpa using h0,.refl ..⟩ (Sf.le_refl _) rfl ?_
  rintro ⟨i,st⟩ ⟨hin,hiU,h1,ho⟩ K hK hKe hKr
  simp only at hin hiU h1 ho
  dsimp only
  have hg:=h1.ow.get
  by_cases hi:i < n
  case neg =>
    have e:i = n:=by omega
    subst e
    simp (config:=KF) (disch:=omega) only [bZ,cT,dX,bS,putS,Sf.set,Sf.reg,getR,setR,aa,↓reduceIte,Nat.reduceEqDiff,reduceCtorEq,bH,f77_14e,f77_15e,f77_15l,f77_16e,f77_17e]
    refine hKe _ _ _ ?_
    simp (config:=KF) (disch:=omega) only [bZ,ci,↓reduceIte]
    exact htail st _ h1 (by omega) ho
  by_cases hU:i < U.length
  case neg =>
    have e:U.drop i = []:=List.drop_of_length_le (by omega)
    have e2:U.drop n = U.drop i:=by rw [e,List.drop_of_length_le (by omega)]
    have e3:U.take n = U.take i:=by rw [List.take_of_length_le (by omega),List.take_of_length_le (by omega)]
    rw [e2,e3] at htail
    have h2:=h1.sl
    rw [e] at h2
    simp (config:=KF) (disch:=omega) only [bZ,aw,aq,aM,ao,ar,aS,addA,ag,bS,ev_f,putS,Sf.set,Sf.reg,getR,setR,aa,id,List.drop_zero,List.drop_succ_cons,↓reduceIte,Nat.reduceEqDiff,reduceCtorEq,Nat.zero_add,bq,f77_14e,f77_15e,f77_15l,f77_16e,f77_17e,f77_18e,f77_19e,f77_20e,f77_21e,f77_21l,hg]
    refine ba rfl e_f83 (mT h2) rfl fun r st1 hr=>?_
    obtain ⟨rfl,h3,ho3⟩:=hr
    simp (config:=KF) (disch:=omega) only [bZ,cT,ci,dX,o_un,bJ,az,extV,unA,putS,Sf.set,Sf.reg,getR,setR,aa,Sf.disAt,bp,bk,List.getElem?_cons_zero,List.getElem?_cons_succ,↓reduceIte,Nat.reduceEqDiff,reduceCtorEq,Bool.not_false,f77_22e,f77_23e,f77_24e,f77_24l,f77_25e]
    refine hKe _ _ _ ?_
    simp (config:=KF) (disch:=omega) only [bZ,ci,↓reduceIte]
    rw [← e] at h3
    exact htail st1 _ (h1.lsl ho3 h3 h1.inv) (by omega) (ho.trans (ho3.mono (by simp +contextual)))
  obtain ⟨t,B,hB⟩:∃ t B,U.drop i = t::B:=⟨U[i],U.drop (i + 1),(List.getElem_cons_drop hU).symm⟩
  have hB1:U.drop (i + 1) = B:=by rw [← List.drop_drop,hB]; rfl
  have hT1:U.take (i + 1) = U.take i++[t]:=by
    rw [List.take_succ_eq_append_getElem hU]
    have:=List.getElem_cons_drop hU
    rw [hB] at this
    rw [(List.cons.inj this).1]
  have hinv:=h1.inv
  rw [hB] at hinv h1
  obtain ⟨n1,n2⟩:=hinv
  have tT:t ∉ T++U.take i:=fun e=>(List.nodup_append.1 n1).2.2 t e t (by simp) rfl
  have tp:=h1.sl.tk t (by simp)
  have hinv1:CInv o (T++U.take i) B:=⟨n1.sublist (List.Sublist.append (List.Sublist.refl _) (List.sublist_cons_self _ _)),fun e=>n2 (by
    rcases List.mem_append.1 e with e | e
    · exact List.mem_append_left _ e
    · exact List.mem_append_right _ (List.mem_cons_of_mem _ e))⟩
  have hinv2:CInv o (T++U.take i++[t]) B:=by
    rw [show (T++U.take i)++t::B = (T++U.take i++[t])++B by simp] at n1 n2
    exact ⟨n1,n2⟩
  simp (config:=KF) (disch:=omega) only [bZ,aw,aq,aM,ao,ar,aS,addA,ag,bS,ev_f,putS,Sf.set,Sf.reg,getR,setR,aa,id,List.drop_zero,List.drop_succ_cons,↓reduceIte,Nat.reduceEqDiff,reduceCtorEq,Nat.zero_add,bq,f77_14e,f77_15e,f77_15l,f77_16e,f77_17e,f77_18e,f77_19e,f77_20e,f77_21e,f77_21l,hg]
  refine ba rfl e_f83 (kQ h1.sl hk0) rfl fun r st1 hr=>?_
  obtain ⟨rfl,h3,ho3⟩:=hr
  have h4:=h1.lsl ho3 h3 hinv1
  have hg4:=h4.ow.get
  simp (config:=KF) (disch:=omega) only [bZ,o_un,bJ,aw,aq,aM,az,ao,extV,ar,aS,addA,ag,unA,ev_f,putS,Sf.set,Sf.reg,getR,setR,aa,Sf.disAt,id,bp,bk,List.getElem?_cons_zero,List.getElem?_cons_succ,List.drop_zero,List.drop_succ_cons,↓reduceIte,Nat.reduceEqDiff,reduceCtorEq,Nat.zero_add,Nat.add_zero,Bool.not_true,f77_22e,f77_23e,f77_24e,f77_24l,f77_25e,f77_26e,f77_26l,hg4]
  refine ba rfl e_f65 (ff h4.ow.ln (by omega) tp tT) rfl fun r st2 hr=>?_
  obtain ⟨rfl,h5,ho5⟩:=hr
  simp (config:=KF) (disch:=omega) only [bZ,aD,d4,putS,Sf.set,Sf.reg,getR,setR,aa,↓reduceIte,Nat.reduceEqDiff,reduceCtorEq,IntWalk.i64_in,cu,f77_27e,f77_27l]
  have h6:=h4.low (ho5.mono (fun i hi=>List.mem_cons_of_mem _ hi)) (h4.ow.of ho5 h5) hinv2
  refine hK (i + 1,st2) _ ⟨by omega,by omega,?_,(ho.trans (ho3.mono (by simp +contextual))).trans (ho5.mono (by simp +contextual))⟩ (by simp only; omega) (Sf.le_refl _)
  simp only
  rw [hT1,hB1,← List.append_assoc,← Nat.add_assoc]
  exact h6

theorem cosig_calls (h:CoIs st b x y o T U g k) (hg0:g + 100 < 1000000) (hk0:k < 1000000):aZ Go.Proofs.Try.prog n_f60 [.ptr b 0] st (fun r st' =>
    ∃ g',r = .tup [lAV (a8 o (T++U.take 1)).2,.lit (.int .i64 0)]∧CoIs st' b x y (a8 o (T++U.take 1)).1.1 (a8 o (T++U.take 1)).1.2 (U.drop 1) g' k∧g'≤g + 64∧Oth st st' (b::(x.ids++y.ids))):=by
  refine aX hmix k_f60 rfl rfl fun Q hQ=>?_
  unfold aFun c_f60
  have hl:=ki h hg0 hk0 1 (by decide)
  simp (config:=KF) (disch:=omega) only [bZ,ao,ev_f,putS,Sf.set,Sf.reg,getR,setR,aa,aO,id,↓reduceIte,Nat.reduceEqDiff,reduceCtorEq,f60_1e,f60_2e,f60_2l,f60_3e,f60_4e,f60_4l]
  refine ba rfl e_f77 hl rfl fun r st1 hr=>?_
  have hf:Q r st1:=hQ _ _ hr
  obtain ⟨g',rfl,_⟩:=hr
  rcases eu (a8 o (T++U.take 1)).2 with ⟨e,hz⟩ | ⟨e,hz⟩
  all_goals
    simp only [e] at hf ⊢
    simp (config:=KF) (disch:=omega) only [bZ,retI,resI,resL,bJ,az,extV,putS,Sf.set,Sf.reg,getR,setR,aa,Sf.disAt,aI,eh,aT,List.getElem?_cons_zero,List.getElem?_cons_succ,List.all_cons,List.all_nil,↓reduceIte,Nat.reduceEqDiff,Bool.true_and,Bool.and_true,and_true,true_and,reduceCtorEq]
    exact hf
theorem lE (h:CoIs st b x y o T U g k) (hg0:g + 100 < 1000000) (hk0:k < 1000000):aZ Go.Proofs.Try.prog n_f46 [.ptr b 0] st (fun r st' =>
    ∃ g',r = .tup [lAV (a8 o (T++U)).2,.lit (.int .i64 0)]∧CoIs st' b x y (a8 o (T++U)).1.1 (a8 o (T++U)).1.2 [] g' k∧g'≤g + 64∧Oth st st' (b::(x.ids++y.ids))):=by
  refine aX hmix k_f46 rfl rfl fun Q hQ=>?_
  unfold aFun c_f46
  have hl:=ki h hg0 hk0 64 (by decide)
  have hc:=h.sl.cnt
  rw [List.take_of_length_le hc,List.drop_of_length_le hc] at hl
  simp (config:=KF) (disch:=omega) only [bZ,ao,ev_f,putS,Sf.set,Sf.reg,getR,setR,aa,aO,id,↓reduceIte,Nat.reduceEqDiff,reduceCtorEq,f46_1e,f46_2e,f46_2l,f46_3e,f46_4e,f46_4l]
  refine ba rfl e_f77 hl rfl fun r st1 hr=>?_
  have hf:Q r st1:=hQ _ _ hr
  obtain ⟨g',rfl,_⟩:=hr
  rcases eu (a8 o (T++U)).2 with ⟨e,hz⟩ | ⟨e,hz⟩
  all_goals
    simp only [e] at hf ⊢
    simp (config:=KF) (disch:=omega) only [bZ,retI,resI,resL,bJ,az,extV,putS,Sf.set,Sf.reg,getR,setR,aa,Sf.disAt,aI,eh,aT,List.getElem?_cons_zero,List.getElem?_cons_succ,List.all_cons,List.all_nil,↓reduceIte,Nat.reduceEqDiff,Bool.true_and,Bool.and_true,and_true,true_and,reduceCtorEq]
    exact hf

theorem lF (st:St):aZ Go.Proofs.Try.prog n_f12 [] st (fun r st'=>∃ b x y,r = .ptr b 0∧CoIs st' b x y (-1) [] [] 0 0∧Fr st st' []∧∀ i ∈ b::(x.ids++y.ids),st.boxes.length≤i):=by
  refine aX hmix k_f12 rfl rfl fun Q hQ=>?_
  unfold aFun c_f12
  simp (config:=KF) (disch:=omega) only [bZ,ao,ev_f,putS,Sf.set,setR,aa,aO,id,Int.reduceNeg,f12_1e,f12_2e,f12_2l,f12_3e,f12_4e,f12_4l]
  refine ba rfl e_f51 (gn st) rfl fun r st1 hr=>?_
  obtain ⟨x,rfl,h1,f1,b1⟩:=hr
  simp (config:=KF) (disch:=omega) only [bZ,and_self,cv,ao,bstV,bf,ev_f,putS,Sf.set,Sf.reg,getR,setR,id,aA,ca,ai,ae,b8,af,List.length_cons,List.length_nil,List.getElem?_cons_zero,List.getElem?_cons_succ,List.all_cons,List.all_nil,List.set_cons_zero,List.set_cons_succ,↓reduceIte,Nat.reduceEqDiff,Nat.reduceAdd,Nat.reduceLeDiff,Int.reduceNeg,Bool.and_true,and_true,Nat.zero_add,am,aj]
  refine ba rfl e_f51 (gn st1) rfl fun r st2 hr=>?_
  obtain ⟨y,rfl,h2,f2,b2⟩:=hr
  simp (config:=KF) (disch:=omega) only [bZ,and_self,retI,cv,az,g9,bstV,boxX,bf,au,aE,putS,Sf.set,Sf.reg,getR,setR,aa,Sf.disAt,al,ah,fY,ca,ai,ae,b8,af,fw,List.length_cons,List.length_nil,List.getElem?_cons_zero,List.getElem?_cons_succ,List.all_cons,List.all_nil,List.set_cons_zero,List.set_cons_succ,↓reduceIte,Nat.reduceEqDiff,Nat.reduceAdd,Nat.reduceLeDiff,Int.reduceNeg,Bool.true_and,Bool.and_true,and_true,true_and,reduceCtorEq,Nat.zero_add,am,aj]
  have hg:=dx st2 [.lit (.int .i64 (-1)),.ptr x.l 0,.ptr y.l 0]
  have l1:=h1.lts
  have l2:=h2.lts
  have hf:Fr st2 (st2.push (.cells [.lit (.int .i64 (-1)),.ptr x.l 0,.ptr y.l 0])) []:=⟨by rw [bU]; omega,fun i hi _=>dh hi⟩
  have h3:=h1.fr f2 (by simp)
  have l3:=h3.lts
  refine hQ _ _ ⟨_,x,y,rfl,⟨⟨hg,h3.fr hf (by simp),fun hx=>by have:=l3 _ hx; omega,by omega⟩,h2.fr hf (by simp),fun hx=>by have:=l2 _ hx; omega,fun i hi hj=>by have:=l1 _ hi; have:=b2 _ hj; omega,⟨by simp,by simp⟩⟩,(f1.trans f2).trans hf,fun i hi=>?_⟩
  have e1:=f1.1
  have e2:=f2.1
  rcases List.mem_cons.1 hi with rfl | hi
  · omega
  rcases List.mem_append.1 hi with hi | hi
  · exact b1 i hi
  · have:=b2 i hi; omega
end
end Go.Fx.YtphaaebhgggbaaaFx

