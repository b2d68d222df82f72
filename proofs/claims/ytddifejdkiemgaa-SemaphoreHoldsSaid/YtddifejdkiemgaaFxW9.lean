/- What the functions that the statement reaches compute: part 9. -/
import Derived.Test.YtddifejdkiemgaaFxW8
namespace Go.Fx.YtddifejdkiemgaaFx
open Go Go.Fx
attribute [local irreducible] aC runI dg ep

set_option maxRecDepth 100000
set_option maxHeartbeats 4000000

section
variable {st:St} {b q mid wid g:Nat} {sz nw:Int} {H:List Int} {V:List Vt}

/-- What Release and Cancel come to: what is held, who waits, the grants, the error. -/
abbrev Rt:=List Int×List Vt×List Gt×Int
def sRel (sz:Int) (H:List Int) (V:List Vt) (t n:Int):Rt :=
  let e:=sChk sz V t n
  if e≠0 then (H,V,[],e) else if getH H t < n then (H,V,[],9) else
    ((df sz (addH H t (0 - n)) V).1,(df sz (addH H t (0 - n)) V).2.1,(df sz (addH H t (0 - n)) V).2.2,0)
def kz (V:List Vt) (t:Int):List Vt:=V.filter fun v=>v.1≠t
def sCan (sz:Int) (H:List Int) (V:List Vt) (t:Int):Rt :=
  if t < 0∨64≤t then (H,V,[],2) else if t ∉ vtk V then (H,V,[],9) else
    ((df sz H (kz V t)).1,(df sz H (kz V t)).2.1,(df sz H (kz V t)).2.2,0)

def qu (st:St) (b q mid wid:Nat) (sz nw:Int) (g:Nat) (x:Rt) (r:AV) (st':St):Prop :=
  ∃ v,r = .tup [v,.lit (.int .i64 x.2.2.2)]∧GB v st' x.2.2.1∧SmIs st' b q mid wid sz nw x.1 x.2.1 g∧GFr st st' [b,q,mid,wid]∧∀ i ∈ cL v,st.boxes.length≤i

theorem qu.err (h:SmIs st b q mid wid sz nw H V g) (e:Int):qu st b q mid wid sz nw g (H,V,[],e) (.tup [.lit (.slice none 0 0),.lit (.int .i64 e)]) st :=
  ⟨_,rfl,.inl ⟨rfl,rfl⟩,h,.refl _ _,fun i hi=>by simp [cL] at hi⟩

theorem qv (h:SmIs st b q mid wid sz nw H V g) (hg0:g < 1000000):dt Go.Proofs.Try.prog n_f64 [.ptr b 0,.lit (.slice none 0 0)] st (fun r st' =>
      GB r st' (df sz H V).2.2∧SmIs st' b q mid wid sz nw (df sz H V).1 (df sz H V).2.1 g∧GFr st st' [b,q,mid,wid]∧(∀ i ∈ cL r,st.boxes.length≤i)) :=
  (nA h hg0 (v0:=.lit (.slice none 0 0)) (l0:=[]) (.inl ⟨rfl,rfl⟩) (fun i hi=>by simp [cL] at hi) (by simp)).mono fun r st' ⟨a1,a2,a3,a4⟩ =>
    ⟨by simpa using a1,a2,by simpa [cL] using a3,fun i hi=>by have:=a4 i hi; simpa [cL] using this⟩

theorem ma (h:SmIs st b q mid wid sz nw H V g) (hg0:g < 1000000) (t n:Int):dt Go.Proofs.Try.prog n_f37 [.ptr b 0,.lit (.int .i64 t),.lit (.int .i64 n)] st (qu st b q mid wid sz nw g (sRel sz H V t n)):=by
  have hg:=h.get
  refine dN hmix k_f37 rfl rfl fun Q hQ=>?_
  unfold aFun c_f37
  unfold sRel at hQ
  have hck:=lh h t n
  obtain ⟨e,he⟩:∃ e,e = sChk sz V t n:=⟨_,rfl⟩
  rw [← he] at hck hQ
  simp only at hQ
  by_cases h0:e = 0
  case neg =>
    rw [if_pos h0] at hQ
    simp (config:=KF) (disch:=omega) only [bZ,aI,ev_f,putS,Sf.set,Sf.reg,getR,setR,aD,da,id,↓reduceIte,Nat.reduceEqDiff,Nat.reduceAdd,reduceCtorEq,Nat.zero_add,f37_1e,f37_2e,f37_2l,f37_3e,f37_4e,f37_5e,f37_5l]
    refine cF rfl e_f61 hck rfl ?_
    simp (config:=KF) (disch:=omega) only [bZ,retI,resI,resL,bH,eE,putS,Sf.set,Sf.reg,getR,setR,aD,Sf.disAt,dE,List.all_cons,List.all_nil,↓reduceIte,Nat.reduceEqDiff,Bool.true_and,Bool.and_true,and_true,true_and,reduceCtorEq,cU,f37_6e,f37_7e,f37_7l,f37_8e,f37_9e,f37_10e,f37_10l]
    exact hQ _ _ (.err h e)
  rw [if_neg (by simpa using h0)] at hQ
  rw [h0] at hck he
  obtain ⟨⟨t0,t1⟩,⟨n0,n1⟩,hnm⟩:=sA he.symm
  obtain ⟨r,hr⟩:=qq (sz:=sz) (lf:=sz - H.sum) (nw:=nw) (q:=q) (wid:=wid) h.hl (i:=t) t0 t1
  have hgb:=h.getb t0 t1
  have hsz:=h.szb
  have hs0:=h.sum0
  have hs1:=h.hs
  by_cases h1:getH H t < n
  · rw [if_pos h1] at hQ
    simp (config:=KF) (disch:=omega) only [bZ,aI,ev_f,putS,Sf.set,Sf.reg,getR,setR,aD,da,id,↓reduceIte,Nat.reduceEqDiff,Nat.reduceAdd,reduceCtorEq,Nat.zero_add,f37_1e,f37_2e,f37_2l,f37_3e,f37_4e,f37_5e,f37_5l]
    refine cF rfl e_f61 hck rfl ?_
    simp (config:=KF) (disch:=omega) only [bZ,retI,resI,resL,cf,o_ixA,ca,ce,bH,bK,cB,ixA,addA,a8,eE,dx,cE,putS,Sf.set,Sf.reg,getR,setR,aD,Sf.disAt,dE,List.all_cons,List.all_nil,Int.cast_ofNat_Int,↓reduceIte,Nat.reduceEqDiff,Bool.true_and,Bool.and_true,and_true,true_and,reduceCtorEq,Nat.zero_add,not_true_eq_false,decide_false,dC,cU,dI,Nat.mul_one,f37_6e,f37_7e,f37_7l,f37_8e,f37_11e,f37_12e,f37_13e,f37_13l,f37_14e,f37_15e,f37_16e,f37_16l,hg,hr]
    exact hQ _ _ (.err h 9)
  rw [if_neg h1] at hQ
  simp (config:=KF) (disch:=omega) only [bZ,aI,ev_f,putS,Sf.set,Sf.reg,getR,setR,aD,da,id,↓reduceIte,Nat.reduceEqDiff,Nat.reduceAdd,reduceCtorEq,Nat.zero_add,f37_1e,f37_2e,f37_2l,f37_3e,f37_4e,f37_5e,f37_5l]
  refine cF rfl e_f61 hck rfl ?_
  simp (config:=KF) (disch:=omega) only [bZ,o_un,cf,o_ixA,ca,ce,bH,aI,bK,cB,ixA,addA,a8,unA,eE,dx,cE,ev_f,putS,Sf.set,Sf.reg,getR,setR,aD,Sf.disAt,id,Int.cast_ofNat_Int,↓reduceIte,Nat.reduceEqDiff,reduceCtorEq,Nat.zero_add,not_true_eq_false,decide_false,dC,dL,IntWalk.i64_in,dI,Nat.mul_one,f37_6e,f37_7e,f37_7l,f37_8e,f37_11e,f37_12e,f37_13e,f37_13l,f37_14e,f37_17e,f37_18e,f37_18l,hg,hr]
  refine du rfl e_f63 (jI h (x:=0 - n) ⟨t0,t1⟩ (by omega) (by omega)) rfl fun r st1 hr=>?_
  obtain ⟨rfl,h2,ho⟩:=hr
  simp (config:=KF) (disch:=omega) only [bZ,aI,ev_f,putS,Sf.set,Sf.reg,getR,setR,aD,id,↓reduceIte,Nat.reduceEqDiff,reduceCtorEq,f37_19e,f37_20e,f37_20l]
  refine du rfl e_f64 (qv h2 hg0) rfl fun r st2 hr=>?_
  obtain ⟨a1,a2,a3,a4⟩:=hr
  have hfin:∀ v,v = r→Q (.tup [v,.lit (.int .i64 0)]) st2:=fun v e=>hQ _ _ ⟨v,rfl,e ▸ a1,a2,(GFr.oth ho (S':=[b,q,mid,wid]) (by simp)).trans a3 (fun x hx=>.inl hx),fun i hi=>by have:=a4 i (e ▸ hi); rw [ho.1] at this; exact this⟩
  rcases a1.cases with ⟨rfl,_⟩ | ⟨ib,ln,cap,rfl,_⟩
  all_goals
    simp (config:=KF) (disch:=omega) only [bZ,retI,resI,resL,bH,putS,Sf.set,Sf.reg,getR,setR,aD,Sf.disAt,d4,dE,p0,List.all_cons,List.all_nil,↓reduceIte,Nat.reduceEqDiff,Bool.true_and,Bool.and_true,and_true,true_and,reduceCtorEq]
    exact hfin _ rfl

theorem without_at {A B:List Vt} {t n d:Int} (hnd:(vtk (A++(t,n,d)::B)).Nodup):kz (A++(t,n,d)::B) t = A++B:=by
  rw [o8,show vtk ((t,n,d)::B) = t::vtk B from rfl] at hnd
  obtain ⟨_,h2,h3⟩:=List.nodup_append.1 hnd
  have hB:=(List.nodup_cons.1 h2).1
  unfold kz
  rw [List.filter_append,List.filter_cons_of_neg (by simp)]
  congr 1
  · refine List.filter_eq_self.2 fun v hv=>?_
    have:=h3 v.1 (List.mem_map.2 ⟨v,hv,rfl⟩) t (by simp)
    simpa using this
  · refine List.filter_eq_self.2 fun v hv=>?_
    have:v.1≠t:=fun e=>hB (e ▸ List.mem_map.2 ⟨v,hv,rfl⟩)
    simpa using this

theorem qw (h:SmIs st b q mid wid sz nw H V g) (hg0:g < 1000000) (t:Int):dt Go.Proofs.Try.prog n_f38 [.ptr b 0,.lit (.int .i64 t)] st (qu st b q mid wid sz nw g (sCan sz H V t)):=by
  have hg:=h.get
  refine dN hmix k_f38 rfl rfl fun Q hQ=>?_
  unfold aFun c_f38
  unfold sCan at hQ
  have h65:=qp (q:=q) (wid:=wid) h.hl
  by_cases hb:t < 0∨64≤t
  · rw [if_pos hb] at hQ
    by_cases h1:t < 0
    · simp (config:=KF) (disch:=omega) only [bZ,aI,ev_f,putS,Sf.set,Sf.reg,getR,setR,aD,da,id,↓reduceIte,Nat.reduceEqDiff,reduceCtorEq,Nat.zero_add,f38_1e,f38_2e,f38_2l,f38_3e,f38_4e,f38_5e,f38_5l]
      refine cF rfl e_f59 h.z rfl ?_
      simp (config:=KF) (disch:=omega) only [bZ,retI,resI,resL,aS,eX,AI.dst,dY,c8,ea,dx,putS,Sf.set,Sf.reg,getR,setR,aD,dE,List.all_cons,List.all_nil,↓reduceIte,Nat.reduceEqDiff,Bool.true_and,Bool.and_true,and_true,true_and,reduceCtorEq,Bool.false_eq_true,fd,f38_6e,f38_9e,f38_10e,f38_11e,f38_11l,f38_12e,f38_13e,f38_14e,f38_14l]
      exact hQ _ _ (.err h 2)
    · have h2:64≤t:=by omega
      simp (config:=KF) (disch:=omega) only [bZ,aI,ev_f,putS,Sf.set,Sf.reg,getR,setR,aD,da,id,↓reduceIte,Nat.reduceEqDiff,reduceCtorEq,Nat.zero_add,f38_1e,f38_2e,f38_2l,f38_3e,f38_4e,f38_5e,f38_5l]
      refine cF rfl e_f59 h.z rfl ?_
      simp (config:=KF) (disch:=omega) only [bZ,retI,resI,resL,aS,AI.dst,ck,c8,cV,dx,j1,putS,Sf.set,Sf.reg,getR,setR,aD,dE,List.all_cons,List.all_nil,↓reduceIte,Nat.reduceEqDiff,Bool.true_and,Bool.and_true,and_true,true_and,reduceCtorEq,Bool.false_eq_true,cU,d8,f38_6e,f38_9e,f38_10e,f38_11e,f38_11l,f38_12e,f38_13e,f38_14e,f38_14l]
      exact hQ _ _ (.err h 2)
  rw [if_neg hb] at hQ
  by_cases hm:t ∉ vtk V
  · rw [if_pos hm] at hQ
    have hk:=(h.look t (.agg [.lit (.int .i64 0),.lit (.int .u64 0),.lit (.int .u64 0)]) true).1 hm
    simp only [if_true] at hk
    simp (config:=KF) (disch:=omega) only [bZ,aI,ev_f,putS,Sf.set,Sf.reg,getR,setR,aD,da,id,↓reduceIte,Nat.reduceEqDiff,reduceCtorEq,Nat.zero_add,f38_1e,f38_2e,f38_2l,f38_3e,f38_4e,f38_5e,f38_5l]
    refine cF rfl e_f59 h.z rfl ?_
    simp (config:=KF) (disch:=omega) only [bZ,retI,resI,resL,aS,AI.dst,ck,c8,o_un,fH,cf,ca,ce,gm,bH,iz,dT,cV,extV,bK,cB,boxX,d9,addA,a8,unA,dx,j1,dG,dH,putS,Sf.set,Sf.reg,getR,setR,aD,Sf.disAt,Sf.newLoc,Sf.setLoc,look,gh,fo,dK,dD,ei,dk,dW,kY,cP,bU,cR,dE,ey,eI,gn,eA,j0,List.length_cons,List.length_nil,List.getElem?_cons_zero,List.getElem?_cons_succ,List.all_cons,List.all_nil,List.drop_succ_cons,↓reduceIte,Nat.reduceEqDiff,Nat.reduceAdd,Nat.reduceLeDiff,Bool.true_and,Bool.and_true,and_true,true_and,reduceCtorEq,Nat.zero_add,Bool.not_false,Bool.false_eq_true,dL,d8,cD,b4,f38_6e,f38_9e,f38_10e,f38_11e,f38_11l,f38_12e,f38_15e,f38_16e,f38_17e,f38_17l,f38_18e,f38_19e,f38_19l,f38_20e,f38_21e,f38_22e,f38_22l,hg,h65,hk]
    exact hQ _ _ (.err h 9)
  rw [if_neg hm] at hQ
  obtain ⟨A,n',d',B,rfl⟩:=vtk_mem (Decidable.not_not.1 hm)
  rw [without_at h.nd] at hQ
  obtain ⟨k,hk⟩:=(h.look t (.agg [.lit (.int .i64 0),.lit (.int .u64 0),.lit (.int .u64 0)]) true).2 A n' d' B rfl
  simp only [if_true] at hk
  simp (config:=KF) (disch:=omega) only [bZ,aI,ev_f,putS,Sf.set,Sf.reg,getR,setR,aD,da,id,↓reduceIte,Nat.reduceEqDiff,reduceCtorEq,Nat.zero_add,f38_1e,f38_2e,f38_2l,f38_3e,f38_4e,f38_5e,f38_5l]
  refine cF rfl e_f59 h.z rfl ?_
  simp (config:=KF) (disch:=omega) only [bZ,aS,AI.dst,ck,c8,o_un,fH,cf,ca,ce,gm,bH,iz,dT,aI,cV,extV,bK,cB,boxX,d9,addA,a8,unA,dx,j1,ev_f,dG,dH,putS,Sf.set,Sf.reg,getR,setR,aD,Sf.disAt,Sf.newLoc,Sf.setLoc,look,gh,fo,id,dK,dD,ei,dk,dW,kY,cP,bU,cR,ey,eI,gn,eA,j0,List.length_cons,List.length_nil,List.getElem?_cons_zero,List.getElem?_cons_succ,List.all_cons,List.all_nil,List.drop_succ_cons,↓reduceIte,Nat.reduceEqDiff,Nat.reduceAdd,Nat.reduceLeDiff,Bool.true_and,Bool.and_true,and_true,true_and,reduceCtorEq,Nat.zero_add,Bool.not_true,Bool.false_eq_true,dL,d8,cD,b4,f38_6e,f38_9e,f38_10e,f38_11e,f38_11l,f38_12e,f38_15e,f38_16e,f38_17e,f38_17l,f38_18e,f38_19e,f38_19l,f38_20e,f38_23e,f38_24e,f38_24l,hg,h65,hk,seAV]
  refine du rfl e_f65 (li h hg0) rfl fun r st1 hr=>?_
  obtain ⟨rfl,h2,ho⟩:=hr
  simp (config:=KF) (disch:=omega) only [bZ,aI,ev_f,putS,Sf.set,Sf.reg,getR,setR,aD,id,↓reduceIte,Nat.reduceEqDiff,reduceCtorEq,f38_25e,f38_26e,f38_26l]
  refine du rfl e_f64 (qv h2 hg0) rfl fun r st2 hr=>?_
  obtain ⟨a1,a2,a3,a4⟩:=hr
  have hfin:∀ v,v = r→Q (.tup [v,.lit (.int .i64 0)]) st2:=fun v e=>hQ _ _ ⟨v,rfl,e ▸ a1,a2,(GFr.oth ho (S':=[b,q,mid,wid]) (by simp)).trans a3 (fun x hx=>.inl hx),fun i hi=>by have:=a4 i (e ▸ hi); rw [ho.1] at this; exact this⟩
  rcases a1.cases with ⟨rfl,_⟩ | ⟨ib,ln,cap,rfl,_⟩
  all_goals
    simp (config:=KF) (disch:=omega) only [bZ,retI,resI,resL,bH,putS,Sf.set,Sf.reg,getR,setR,aD,Sf.disAt,d4,dE,p0,List.all_cons,List.all_nil,↓reduceIte,Nat.reduceEqDiff,Bool.true_and,Bool.and_true,and_true,true_and,reduceCtorEq]
    exact hfin _ rfl
end
end Go.Fx.YtddifejdkiemgaaFx

