/- What the functions that the statement reaches compute: part 13. -/
import Derived.Test.YtddifejdkiemgaaFxW12
namespace Go.Fx.YtddifejdkiemgaaFx
open Go Go.Fx
attribute [local irreducible] aC runI dg ep

set_option maxRecDepth 100000
set_option maxHeartbeats 4000000

/-- What Advance comes to. -/
def advV (sz to:Int):Nat→List Int→List Vt→List Int×List Vt×List Gt
  | 0,H,V=>(H,V,[])
  | k + 1, H, V => if to < dy V then (H, V, []) else
    let r:=df sz H (eC (dy V) V)
    let s:=advV sz to k r.1 r.2.1
    (s.1,s.2.1,expD (dy V) V++r.2.2++s.2.2)
def sAdv (sz nw:Int) (H:List Int) (V:List Vt) (to:Int):Rt×Int :=
  if to < nw∨to = nev then ((H,V,[],3),nw) else (((advV sz to (V.length + 1) H V).1,(advV sz to (V.length + 1) H V).2.1,(advV sz to (V.length + 1) H V).2.2,0),to)
theorem keepD_lt {V:List Vt} {to:Int} (h1:to < nev) (h2:¬ to < dy V):(eC (dy V) V).length + (expD (dy V) V).length = V.length∧(eC (dy V) V).length < V.length:=by
  have hsum:∀ l:List Vt,(eC (dy V) l).length + (expD (dy V) l).length = l.length:=by
    intro l
    induction l with
    | nil=>rfl
    | cons v l ih =>
      simp only [eC,expD,List.length_map,List.filter_cons] at ih ⊢
      by_cases e:v.2.2 = dy V
      · simp [e] at ih ⊢; omega
      · simp [e] at ih ⊢; omega
  refine ⟨hsum V,?_⟩
  rcases nx V with e | ⟨v,hv,e⟩
  · omega
  · have:0 < (expD (dy V) V).length:=by
      simp only [expD,List.length_map]
      exact List.length_pos_of_mem (List.mem_filter.2 ⟨hv,by simpa using e⟩)
    have:=hsum V
    omega

section
variable {b q mid wid g:Nat} {sz nw:Int} {H:List Int} {V:List Vt}

theorem sadv_outer {st0:St} (h:SmIs st0 b q mid wid sz nw H V g) (hg0:g < 1000000) (to:Int) (hto:to < nev) (Q:Exit→Sf→St→Prop)
    (hQ:∀ v st',GB v st' (advV sz to (V.length + 1) H V).2.2→SmIs st' b q mid wid sz nw (advV sz to (V.length + 1) H V).1 (advV sz to (V.length + 1) H V).2.1 g→to < dy (advV sz to (V.length + 1) H V).2.1→Gw st0 st' b q mid wid (.lit (.slice none 0 0)) v→Q (.exit 0) ⟨[(0,.ptr b 0),(1,.lit (.int .u64 to)),(6,v)],[]⟩ st') :
    aC Go.Proofs.Try.prog id false f39_21 ⟨[(0,.ptr b 0),(1,.lit (.int .u64 to)),(6,.lit (.slice none 0 0)),(7,.lit (.int .u64 (dy V)))],[]⟩ st0 Q:=by
  have hcn0:=h.cnt
  rw [f39_21w]
  refine im (A:=Nat×List Int×List Vt×List Gt×AV×St) (fun a=>a.2.2.1.length) (fun a=>⟨[(0,.ptr b 0),(1,.lit (.int .u64 to)),(6,a.2.2.2.2.1),(7,.lit (.int .u64 (dy a.2.2.1)))],[]⟩) (fun a=>a.2.2.2.2.2)
    (fun a=>a.2.2.1.length < a.1∧SmIs a.2.2.2.2.2 b q mid wid sz nw a.2.1 a.2.2.1 g∧GB a.2.2.2.2.1 a.2.2.2.2.2 a.2.2.2.1∧Gw st0 a.2.2.2.2.2 b q mid wid (.lit (.slice none 0 0)) a.2.2.2.2.1∧a.2.2.1.length + a.2.2.2.1.length≤V.length ∧
      advV sz to (V.length + 1) H V = ((advV sz to a.1 a.2.1 a.2.2.1).1,(advV sz to a.1 a.2.1 a.2.2.1).2.1,a.2.2.2.1++(advV sz to a.1 a.2.1 a.2.2.1).2.2)) (V.length + 1,H,V,[],.lit (.slice none 0 0),st0) ⟨by simp,h,.inl ⟨rfl,rfl⟩,.refl (by simp [cL]),by simp,by simp⟩ (Sf.le_refl _) rfl ?_
  rintro ⟨k,H1,V1,l,v,st⟩ ⟨h1,h2,hv,hw,hln,he⟩ K hK hKe hKr
  simp only at h1 h2 hv hw hln he
  obtain ⟨k,rfl⟩:∃ k',k = k' + 1:=⟨k - 1,by omega⟩
  by_cases hc:to < dy V1
  · have e1:advV sz to (k + 1) H1 V1 = (H1,V1,[]):=by rw [advV,if_pos hc]
    rw [e1] at he
    rw [he] at hQ
    have hr:=hQ v st (by simpa using hv) h2 hc hw
    rcases hv.k with rfl | ⟨ib,ln,cap,rfl⟩
    all_goals
      simp (config:=KF) (disch:=omega) only [bZ,en,fP,nj,putS,Sf.set,Sf.reg,getR,setR,aD,↓reduceIte,Nat.reduceEqDiff,reduceCtorEq,dL,f39_22e,f39_23e,f39_24e,f39_24l,f39_25e]
      refine hKe _ _ _ ?_
      exact hr
  have e1:advV sz to (k + 1) H1 V1 = ((advV sz to k (df sz H1 (eC (dy V1) V1)).1 (df sz H1 (eC (dy V1) V1)).2.1).1,(advV sz to k (df sz H1 (eC (dy V1) V1)).1 (df sz H1 (eC (dy V1) V1)).2.1).2.1,
      expD (dy V1) V1++(df sz H1 (eC (dy V1) V1)).2.2++(advV sz to k (df sz H1 (eC (dy V1) V1)).1 (df sz H1 (eC (dy V1) V1)).2.1).2.2):=by rw [advV,if_neg hc]
  rw [e1] at he
  obtain ⟨kd1,kd2⟩:=keepD_lt hto hc
  have hsl:=jA sz (eC (dy V1) V1) H1
  have hlv:(ints (vtk V1)).length = V1.length:=by simp [ints,vtk]
  have hwt:=io h2
  obtain ⟨T,hT⟩:∃ T,T = ints (vtk V1):=⟨_,rfl⟩
  have hinner:∀ st1,st.boxes.length≤st1.boxes.length→(∀ id,id < st.boxes.length→st1.boxes[id]? = st.boxes[id]?)→SmIs st1 b q mid wid sz nw H1 V1 g∧GB v st1 l∧Gw st0 st1 b q mid wid (.lit (.slice none 0 0)) v:=fun st1 a1 a2=>by
    have hlt:=h2.lts
    refine ⟨h2.at fun i hi=>a2 i (hlt i hi),hv.at fun i hi=>a2 i (hv.lt i hi),hw.trans ⟨⟨a1,fun i hi _=>a2 i hi⟩,fun i hi=>.inl hi,hw.dj⟩⟩
  have hfin:∀ v1 st2,GB v1 st2 (l++expD (dy V1) V1)→SmIs st2 b q mid wid sz nw H1 (eC (dy V1) V1) g→Gw st0 st2 b q mid wid (.lit (.slice none 0 0)) v1 →
      dt Go.Proofs.Try.prog n_f64 [.ptr b 0,v1] st2 (fun r st'=>GBk r∧dJ Go.Proofs.Try.prog n_f42 [.ptr b 0] st' (.lit (.int .u64 (dy (df sz H1 (eC (dy V1) V1)).2.1))) ∧
        ∀ sf,sf = (⟨[(0,.ptr b 0),(1,.lit (.int .u64 to)),(6,r),(7,.lit (.int .u64 (dy (df sz H1 (eC (dy V1) V1)).2.1)))],[]⟩:Sf)→K .normal sf st'):=fun v1 st2 b1 b2 b3=>by
    have hlt2:=b2.lts
    refine (nA b2 hg0 b1 b3.dj (by simp only [List.length_append]; omega)).mono fun r st3 ⟨c1,c2,c3,c4⟩=>⟨c1.k,kw c2,fun sf hsf=>?_⟩
    subst hsf
    refine hK (k,(df sz H1 (eC (dy V1) V1)).1,(df sz H1 (eC (dy V1) V1)).2.1,l++expD (dy V1) V1++(df sz H1 (eC (dy V1) V1)).2.2,r,st3) _ ⟨by simp only; omega,c2,c1,b3.trans (.of hlt2 b3.dj c3 c4),by simp only [List.length_append]; omega,by rw [he]; simp⟩ (by simp only; omega) ?_
    rcases c1.k with rfl | ⟨ib,ln,cap,rfl⟩ <;> exact Sf.le_refl _
  rcases hv.k with rfl | ⟨ib,ln,cap,rfl⟩
  all_goals
    simp (config:=KF) (disch:=omega) only [bZ,aI,nj,ev_f,putS,Sf.set,Sf.reg,getR,setR,aD,id,↓reduceIte,Nat.reduceEqDiff,reduceCtorEq,cU,f39_22e,f39_23e,f39_24e,f39_24l,f39_25e,f39_26e,f39_27e,f39_28e,f39_29e,f39_30e,f39_30l]
    refine du rfl e_f34 hwt rfl fun r st1 hr=>?_
    obtain ⟨rfl,a1,a2⟩:=hr
    obtain ⟨d1,d2,d3⟩:=hinner st1 a1 a2
    simp (config:=KF) (disch:=omega) only [bZ,er,lenI,putS,Sf.set,Sf.reg,getR,setR,aD,↓reduceIte,Nat.reduceEqDiff,reduceCtorEq,f39_31e,hlv]
    refine sadv_inner d1 hg0 d2 d3.dj (by omega) (dy V1) to _ fun v1 st2 b1 b2 b3=>?_
    have hsv:=hfin v1 st2 b1 b2 (d3.trans b3)
    rcases b1.k with rfl | ⟨ib',ln',cap',rfl⟩
    all_goals
      simp (config:=KF) (disch:=omega) only [bZ,dV,aI,ev_f,putS,Sf.set,Sf.reg,getR,setR,id,d4,↓reduceIte,Nat.reduceEqDiff,reduceCtorEq,f39_48e,f39_48l]
      refine du rfl e_f64 hsv rfl fun r st3 hr=>?_
      obtain ⟨c1,c2,c3⟩:=hr
      rcases c1 with rfl | ⟨ib2,ln2,cap2,rfl⟩
      all_goals
        simp (config:=KF) (disch:=omega) only [bZ,bG,bH,aI,ev_f,putS,Sf.set,Sf.reg,getR,setR,aD,Sf.disAt,id,d4,↓reduceIte,Nat.reduceEqDiff,reduceCtorEq,f39_49e,f39_49l]
        refine cF rfl e_f42 c2 rfl ?_
        simp (config:=KF) (disch:=omega) only [bZ,bH,putS,Sf.set,Sf.reg,getR,setR,aD,Sf.disAt,↓reduceIte,Nat.reduceEqDiff,reduceCtorEq]
        exact c3 _ rfl

theorem l5 {st:St} (h:SmIs st b q mid wid sz nw H V g) (hg0:g < 1000000) (to:Int) (hto0:0≤to) (hto:to≤nev):dt Go.Proofs.Try.prog n_f39 [.ptr b 0,.lit (.int .u64 to)] st (fun r st' =>
    qu st b q mid wid sz (sAdv sz nw H V to).2 g (sAdv sz nw H V to).1 r st'):=by
  have hg:=h.get
  refine dN hmix k_f39 rfl rfl fun Q hQ=>?_
  unfold aFun c_f39
  unfold sAdv at hQ
  by_cases h1:to < nw
  · rw [if_pos (.inl h1)] at hQ
    simp (config:=KF) (disch:=omega) only [bZ,aI,ev_f,putS,Sf.set,Sf.reg,getR,setR,aD,da,id,↓reduceIte,Nat.reduceEqDiff,reduceCtorEq,Nat.zero_add,f39_1e,f39_2e,f39_2l,f39_3e,f39_4e,f39_5e,f39_5l]
    refine cF rfl e_f59 h.z rfl ?_
    simp (config:=KF) (disch:=omega) only [bZ,retI,resI,resL,aS,eX,AI.dst,dY,c8,cf,ca,ce,ea,bK,cB,addA,a8,dx,putS,Sf.set,Sf.reg,getR,setR,aD,dE,List.all_cons,List.all_nil,List.drop_zero,List.drop_succ_cons,↓reduceIte,Nat.reduceEqDiff,Bool.true_and,Bool.and_true,and_true,true_and,reduceCtorEq,Nat.zero_add,Bool.false_eq_true,fd,f39_6e,f39_9e,f39_10e,f39_11e,f39_11l,f39_12e,f39_13e,f39_14e,f39_14l,hg]
    exact hQ _ _ (.err h 3)
  by_cases h2:to = nev
  · rw [if_pos (.inr h2)] at hQ
    have h2':to = 18446744073709551615:=h2
    simp (config:=KF) (disch:=omega) only [bZ,aI,ev_f,putS,Sf.set,Sf.reg,getR,setR,aD,da,id,↓reduceIte,Nat.reduceEqDiff,reduceCtorEq,Nat.zero_add,f39_1e,f39_2e,f39_2l,f39_3e,f39_4e,f39_5e,f39_5l]
    refine cF rfl e_f59 h.z rfl ?_
    simp (config:=KF) (disch:=omega) only [bZ,retI,resI,resL,aS,AI.dst,ck,c8,cf,ca,ce,cV,bK,cB,addA,a8,fa,dx,putS,Sf.set,Sf.reg,getR,setR,aD,dE,List.all_cons,List.all_nil,List.drop_zero,List.drop_succ_cons,↓reduceIte,Nat.reduceEqDiff,Bool.true_and,Bool.and_true,and_true,true_and,reduceCtorEq,Nat.zero_add,Bool.false_eq_true,cU,d8,f39_6e,f39_9e,f39_10e,f39_11e,f39_11l,f39_12e,f39_13e,f39_14e,f39_14l,hg]
    exact hQ _ _ (.err h 3)
  rw [if_neg (by rintro (e | e); exact h1 e; exact h2 e)] at hQ
  have h2':¬ to = 18446744073709551615:=h2
  simp (config:=KF) (disch:=omega) only [bZ,aI,ev_f,putS,Sf.set,Sf.reg,getR,setR,aD,da,id,↓reduceIte,Nat.reduceEqDiff,reduceCtorEq,Nat.zero_add,f39_1e,f39_2e,f39_2l,f39_3e,f39_4e,f39_5e,f39_5l]
  refine cF rfl e_f59 h.z rfl ?_
  simp (config:=KF) (disch:=omega) only [bZ,aS,AI.dst,ck,c8,cf,ca,ce,aI,cV,bK,cB,addA,a8,fa,dx,ev_f,putS,Sf.set,Sf.reg,getR,setR,aD,id,List.drop_zero,List.drop_succ_cons,↓reduceIte,Nat.reduceEqDiff,reduceCtorEq,Nat.zero_add,Bool.false_eq_true,dL,d8,f39_6e,f39_9e,f39_10e,f39_11e,f39_11l,f39_12e,f39_15e,f39_16e,f39_16l,f39_17e,f39_18e,f39_19e,f39_19l,hg]
  refine cF rfl e_f42 (kw h) rfl ?_
  simp (config:=KF) (disch:=omega) only [bZ,bH,putS,Sf.set,Sf.reg,getR,setR,aD,Sf.disAt,↓reduceIte,Nat.reduceEqDiff,reduceCtorEq,f39_20e]
  refine sadv_outer h hg0 to (by unfold nev at *; omega) _ fun v st' a1 a2 a3 a4=>?_
  obtain ⟨H',hH⟩:∃ H',H' = (advV sz to (V.length + 1) H V).1:=⟨_,rfl⟩
  obtain ⟨V',hV⟩:∃ V',V' = (advV sz to (V.length + 1) H V).2.1:=⟨_,rfl⟩
  rw [← hH,← hV] at a2 hQ
  rw [← hV] at a3
  have hg2:=a2.get
  have hlt:=fA hg2
  have hlts:=a2.lts
  obtain ⟨i1,i2,i3,i4,i5⟩:=a2.ids
  have hfin:∀ st2,st2 = st'.set b (smC sz (sz - H'.sum) to H' q wid)→Q (.tup [v,.lit (.int .i64 0)]) st2:=fun st2 e2=>by
    subst e2
    have ho:Oth st' (st'.set b (smC sz (sz - H'.sum) to H' q wid)) [b]:=Oth.set _ _ _ (by simp)
    obtain ⟨W,w1,w2,m,w3,w4⟩:=a2.qi
    refine hQ _ _ ⟨v,rfl,a1.at fun i hi=>ho.2 i (by have:=a4.dj i hi; simp at this ⊢; exact this.1),⟨el hlt,⟨W,w1,w2.oth ho (by simp; omega) (by simp; omega),m,w3.oth ho (by simp; omega),w4⟩,a2.hl,a2.hb,a2.hs,a2.szb,⟨hto0,by show to < nev; omega⟩,a2.nd,fun x hx=>?_,a2.ids⟩,(a4.fr.mono (by simp [cL])).trans (.oth ho (S':=[b,q,mid,wid]) (by simp)) (fun x hx=>.inl hx),fun i hi=>?_⟩
    · obtain ⟨k1,k2,k3⟩:=a2.wk x hx
      have:=(qf V').2 x hx
      exact ⟨k1,k2,by omega,k3.2⟩
    · have:=a4.ids i hi
      simpa [cL] using this
  rcases a1.k with rfl | ⟨ib,ln,cap,rfl⟩
  all_goals
    simp (config:=KF) (disch:=omega) only [bZ,dV,retI,resI,resL,cf,ce,bH,dT,cB,boxX,d9,addA,dG,dH,putS,Sf.set,Sf.reg,getR,setR,aD,Sf.disAt,d4,cN,bU,cR,dE,p0,List.length_cons,List.length_nil,List.all_cons,List.all_nil,List.set_cons_zero,List.set_cons_succ,↓reduceIte,Nat.reduceEqDiff,Nat.reduceAdd,Nat.reduceLeDiff,Bool.true_and,Bool.and_true,and_true,true_and,reduceCtorEq,Nat.zero_add,cD,b4,f39_50e,f39_51e,f39_51l,f39_52e,f39_53e,f39_53l,hg2]
    exact hfin _ rfl
end
end Go.Fx.YtddifejdkiemgaaFx

