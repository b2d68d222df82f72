/- What the functions that the statement reaches compute: part 8. -/
import Derived.Test.YtddifejdkiemgaaFxW7
namespace Go.Fx.YtddifejdkiemgaaFx
open Go Go.Fx
attribute [local irreducible] aC runI dg ep

set_option maxRecDepth 100000
set_option maxHeartbeats 4000000

section
variable {st:St} {b q mid wid g:Nat} {sz nw:Int} {H:List Int} {V:List Vt}

/-- What Try comes to. -/
def sTry (sz:Int) (H:List Int) (V:List Vt) (t n:Int):List Int×Int :=
  let e:=sChk sz V t n
  if e≠0 then (H,e) else if sz < getH H t + n then (H,7) else if V≠[]∨sz - H.sum < n then (H,16) else (addH H t n,0)

theorem qt (h:SmIs st b q mid wid sz nw H V g) (t n:Int):dt Go.Proofs.Try.prog n_f36 [.ptr b 0,.lit (.int .i64 t),.lit (.int .i64 n)] st (fun r st' =>
    r = .lit (.int .i64 (sTry sz H V t n).2)∧SmIs st' b q mid wid sz nw (sTry sz H V t n).1 V g∧Oth st st' [b]):=by
  have hg:=h.get
  refine dN hmix k_f36 rfl rfl fun Q hQ=>?_
  unfold aFun c_f36
  unfold sTry at hQ
  have hck:=lh h t n
  obtain ⟨e,he⟩:∃ e,e = sChk sz V t n:=⟨_,rfl⟩
  rw [← he] at hck hQ
  simp only at hQ
  by_cases h0:e = 0
  case neg =>
    rw [if_pos h0] at hQ
    simp (config:=KF) (disch:=omega) only [bZ,aI,ev_f,putS,Sf.set,Sf.reg,getR,setR,aD,da,id,↓reduceIte,Nat.reduceEqDiff,Nat.reduceAdd,reduceCtorEq,Nat.zero_add,f36_1e,f36_2e,f36_2l,f36_3e,f36_4e,f36_5e,f36_5l]
    refine cF rfl e_f61 hck rfl ?_
    simp (config:=KF) (disch:=omega) only [bZ,retI,bH,eE,putS,Sf.set,Sf.reg,getR,setR,aD,Sf.disAt,↓reduceIte,Nat.reduceEqDiff,Bool.true_and,true_and,reduceCtorEq,cU,f36_6e,f36_7e,f36_7l,f36_8e,f36_9e,f36_10e,f36_10l]
    exact hQ _ _ ⟨rfl,h,Oth.refl _ _⟩
  rw [if_neg (by simpa using h0)] at hQ
  rw [h0] at hck he
  obtain ⟨⟨t0,t1⟩,⟨n0,n1⟩,hnm⟩:=sA he.symm
  obtain ⟨r,hr⟩:=qq (sz:=sz) (lf:=sz - H.sum) (nw:=nw) (q:=q) (wid:=wid) h.hl (i:=t) t0 t1
  have h64:=rI (q:=q) (wid:=wid) h.hl
  have hgb:=h.getb t0 t1
  have hsz:=h.szb
  have hs0:=h.sum0
  have hs1:=h.hs
  by_cases h1:sz < getH H t + n
  · rw [if_pos h1] at hQ
    simp (config:=KF) (disch:=omega) only [bZ,aI,ev_f,putS,Sf.set,Sf.reg,getR,setR,aD,da,id,↓reduceIte,Nat.reduceEqDiff,Nat.reduceAdd,reduceCtorEq,Nat.zero_add,f36_1e,f36_2e,f36_2l,f36_3e,f36_4e,f36_5e,f36_5l]
    refine cF rfl e_f61 hck rfl ?_
    simp (config:=KF) (disch:=omega) only [bZ,fp,ek,fq,lc,e7,n7,dU,eJ,dz,dA,retI,bH,bK,cB,ixA,addA,a8,gC,eE,fw,cE,putS,Sf.set,Sf.reg,getR,setR,aD,Sf.disAt,dn,List.drop_zero,Int.cast_ofNat_Int,↓reduceIte,Nat.reduceEqDiff,Bool.true_and,true_and,reduceCtorEq,Nat.zero_add,Nat.add_zero,not_true_eq_false,decide_false,dC,cU,IntWalk.i64_in,dI,Nat.mul_one,f36_6e,f36_7e,f36_7l,f36_8e,f36_11e,f36_12e,f36_13e,f36_13h,f36_13l,f36_14e,f36_15e,f36_16e,f36_16l,hg,hr]
    exact hQ _ _ ⟨rfl,h,Oth.refl _ _⟩
  rw [if_neg h1] at hQ
  obtain ⟨W,hW,hq,m,hm,hl⟩:=h.qi
  have hql:=oe hq
  rw [o7,hW] at hql
  have hcn:=h.cnt
  simp (config:=KF) (disch:=omega) only [bZ,aI,ev_f,putS,Sf.set,Sf.reg,getR,setR,aD,da,id,↓reduceIte,Nat.reduceEqDiff,Nat.reduceAdd,reduceCtorEq,Nat.zero_add,f36_1e,f36_2e,f36_2l,f36_3e,f36_4e,f36_5e,f36_5l]
  refine cF rfl e_f61 hck rfl ?_
  simp (config:=KF) (disch:=omega) only [bZ,fp,ek,fq,lc,e7,n7,dU,eJ,dz,dA,cf,ca,ce,bH,aI,bK,cB,ixA,addA,a8,gC,eE,fw,cE,ev_f,putS,Sf.set,Sf.reg,getR,setR,aD,Sf.disAt,dn,id,List.drop_zero,List.drop_succ_cons,Int.cast_ofNat_Int,↓reduceIte,Nat.reduceEqDiff,reduceCtorEq,Nat.zero_add,Nat.add_zero,not_true_eq_false,decide_false,dC,dL,IntWalk.i64_in,dI,Nat.mul_one,f36_6e,f36_7e,f36_7l,f36_8e,f36_11e,f36_12e,f36_13e,f36_13h,f36_13l,f36_14e,f36_17e,f36_18e,f36_19e,f36_19l,hg,hr,h64]
  refine cF rfl e_f47 hql rfl ?_
  by_cases h2:V = []
  · have hVl:(V.length:Int) = 0:=by rw [h2]; rfl
    by_cases h3:sz - H.sum < n
    · rw [if_pos (.inr h3)] at hQ
      simp (config:=KF) (disch:=omega) only [bZ,retI,aS,AI.dst,ck,c8,cf,ca,ce,cV,bK,cB,addA,a8,fw,putS,Sf.set,Sf.reg,getR,setR,aD,List.drop_zero,List.drop_succ_cons,↓reduceIte,Nat.reduceEqDiff,Bool.true_and,true_and,reduceCtorEq,Nat.zero_add,Bool.false_eq_true,cU,d8,f36_20e,f36_21e,f36_22e,f36_22l,hg,hVl]
      exact hQ _ _ ⟨rfl,h,Oth.refl _ _⟩
    · rw [if_neg (by rintro (e | e); exact e h2; exact h3 e)] at hQ
      simp (config:=KF) (disch:=omega) only [bZ,aS,AI.dst,ck,c8,cf,ca,ce,aI,cV,bK,cB,addA,a8,fw,ev_f,putS,Sf.set,Sf.reg,getR,setR,aD,id,List.drop_zero,List.drop_succ_cons,↓reduceIte,Nat.reduceEqDiff,reduceCtorEq,Nat.zero_add,Bool.false_eq_true,dL,d8,f36_20e,f36_23e,f36_24e,f36_24l,hg,hVl]
      refine du rfl e_f63 (jI h ⟨t0,t1⟩ (by omega) (by omega)) rfl fun r st1 hr=>?_
      obtain ⟨rfl,hr1,ho1⟩:=hr
      simp (config:=KF) (disch:=omega) only [bZ,retI,putS,Sf.set,Sf.reg,getR,setR,aD,↓reduceIte,Nat.reduceEqDiff,Bool.true_and,true_and,reduceCtorEq,f36_25e,f36_26e,f36_26l]
      exact hQ _ _ ⟨rfl,hr1,ho1⟩
  · rw [if_pos (.inl h2)] at hQ
    have hVl:0 < (V.length:Int):=by
      have:=List.length_pos_iff.2 h2
      omega
    simp (config:=KF) (disch:=omega) only [bZ,retI,aS,eX,AI.dst,dY,c8,ea,fw,putS,Sf.set,Sf.reg,getR,setR,aD,↓reduceIte,Nat.reduceEqDiff,Bool.true_and,true_and,reduceCtorEq,decide_true,Bool.false_eq_true,f36_20e,f36_21e,f36_22e,f36_22l,hVl]
    exact hQ _ _ ⟨rfl,h,Oth.refl _ _⟩

/-- What serve comes to: what is held, who waits, the grants. -/
def df (sz:Int):List Int→List Vt→List Int×List Vt×List Gt
  | H,[]=>(H,[],[])
  | H, v :: V => if sz - H.sum < v.2.1 then (H, v :: V, []) else
    ((df sz (addH H v.1 v.2.1) V).1,(df sz (addH H v.1 v.2.1) V).2.1,(v.1,0)::(df sz (addH H v.1 v.2.1) V).2.2)
theorem jA (sz:Int):∀ (V:List Vt) (H:List Int),(df sz H V).2.1.length + (df sz H V).2.2.length = V.length
  | [],H=>rfl
  | v :: V, H => by
    unfold df
    split
    · simp
    · have:=jA sz V (addH H v.1 v.2.1)
      simp only [List.length_cons]; omega

theorem nA {st0:St} (h:SmIs st0 b q mid wid sz nw H V g) (hg0:g < 1000000) {v0:AV} {l0:List Gt} (hv0:GB v0 st0 l0) (hd0:∀ i ∈ cL v0,i ∉ [b,q,mid,wid]) (hl0:l0.length≤1000) :
    dt Go.Proofs.Try.prog n_f64 [.ptr b 0,v0] st0 (fun r st' =>
      GB r st' (l0++(df sz H V).2.2)∧SmIs st' b q mid wid sz nw (df sz H V).1 (df sz H V).2.1 g∧GFr st0 st' ([b,q,mid,wid]++cL v0)∧(∀ i ∈ cL r,i ∈ cL v0∨st0.boxes.length≤i)):=by
  refine dN hmix k_f64 rfl rfl fun Q hQ=>?_
  unfold aFun c_f64
  have hcn0:=h.cnt
  have hlts0:=h.lts
  obtain ⟨i1,i2,i3,i4,i5⟩:=h.ids
  have hst:aC Go.Proofs.Try.prog id false f64_5 ⟨[(0,.ptr b 0),(1,v0)],[]⟩ st0 (jL 0 (seqQ (aC Go.Proofs.Try.prog id false f64_24) (retQ [RI.tmp 4] Q))):=by
    rw [f64_5w]
    refine im (A:=List Int×List Vt×List Gt×AV×St) (fun a=>a.2.1.length) (fun a=>⟨[(0,.ptr b 0),(1,a.2.2.2.1)],[]⟩) (fun a=>a.2.2.2.2)
      (fun a=>SmIs a.2.2.2.2 b q mid wid sz nw a.1 a.2.1 g∧GB a.2.2.2.1 a.2.2.2.2 (l0++a.2.2.1)∧GFr st0 a.2.2.2.2 ([b,q,mid,wid]++cL v0)∧(∀ i ∈ cL a.2.2.2.1,i ∈ cL v0∨st0.boxes.length≤i)∧(∀ i ∈ cL a.2.2.2.1,i ∉ [b,q,mid,wid]) ∧
        df sz H V = ((df sz a.1 a.2.1).1,(df sz a.1 a.2.1).2.1,a.2.2.1++(df sz a.1 a.2.1).2.2)∧a.2.1.length + a.2.2.1.length = V.length) (H,V,[],v0,st0) ⟨h,by simpa using hv0,.refl _ _,fun i hi=>.inl hi,hd0,by simp,by simp⟩ (Sf.le_refl _) rfl ?_
    rintro ⟨H1,V1,d,v,st⟩ ⟨h1,hv,hfr,hid,hni,hsv,hln⟩ K hK hKe hKr
    simp only at h1 hv hfr hid hni hsv hln
    have hg:=h1.get
    have h64:=rI (q:=q) (wid:=wid) h1.hl
    have h65:=qp (q:=q) (wid:=wid) h1.hl
    obtain ⟨W,hW,hq,m,hm,hl⟩:=h1.qi
    have hql:=oe hq
    rw [o7,hW] at hql
    have hcn:=h1.cnt
    rcases V1 with _ | ⟨⟨t,n,dl⟩,V1⟩
    · have hr:=hQ v st ⟨by rw [hsv]; simpa [df] using hv,by rw [hsv]; exact h1,hfr,hid⟩
      rcases hv.cases with ⟨rfl,_⟩ | ⟨ib,ln,cap,rfl,_⟩
      all_goals
        simp (config:=KF) (disch:=omega) only [bZ,cf,ca,ce,aI,bK,cB,addA,a8,ev_f,putS,Sf.set,Sf.reg,getR,setR,id,List.drop_succ_cons,↓reduceIte,Nat.reduceEqDiff,reduceCtorEq,Nat.zero_add,f64_6e,f64_7e,f64_8e,f64_8l,hg,h64]
        refine cF rfl e_f47 hql rfl ?_
        simp (config:=KF) (disch:=omega) only [bZ,en,fP,fw,putS,Sf.set,Sf.reg,getR,setR,aD,List.length_nil,Int.cast_ofNat_Int,↓reduceIte,Nat.reduceEqDiff,reduceCtorEq,dL,f64_9e]
        refine hKe _ _ _ ?_
        simp (config:=KF) (disch:=omega) only [bZ,dV,retI,bH,putS,Sf.set,Sf.reg,getR,setR,aD,Sf.disAt,d4,p0,↓reduceIte,Nat.reduceEqDiff,Bool.true_and,true_and,f64_24e,f64_25e,f64_25l]
        exact hr
    obtain ⟨⟨k,t',n',d'⟩,WB,rfl,hw,hB'⟩:=List.map_eq_cons_iff.1 hW
    obtain ⟨rfl,rfl,rfl⟩:t' = t∧n' = n∧d' = dl:=by simpa using hw
    have hfront:=qfront_cons (show QIs st q mid ((k,t')::quW WB) g from hq)
    obtain ⟨k',hk⟩:=(h1.look t' (.agg [.lit (.int .i64 0),.lit (.int .u64 0),.lit (.int .u64 0)]) false).2 [] n' d' V1 rfl
    simp only [Bool.false_eq_true,if_false] at hk
    have hwk:=h1.wk (t',n',d') (by simp)
    simp only at hwk
    obtain ⟨⟨t0,t1⟩,⟨n0,n1⟩,_⟩:=hwk
    have hs0:=h1.sum0
    have hs1:=h1.hs
    have hszb:=h1.szb
    have hgb:=h1.getb t0 t1
    have hVl:0 < (((t',n',d')::V1).length:Int):=by simp only [List.length_cons]; omega
    by_cases hc:sz - H1.sum < n'
    · have hs:df sz H1 ((t',n',d')::V1) = (H1,(t',n',d')::V1,[]):=by unfold df; rw [if_pos hc]
      have hr:=hQ v st ⟨by rw [hsv,hs]; simpa using hv,by rw [hsv,hs]; exact h1,hfr,hid⟩
      rcases hv.cases with ⟨rfl,_⟩ | ⟨ib,ln,cap,rfl,_⟩
      all_goals
        simp (config:=KF) (disch:=omega) only [bZ,cf,ca,ce,aI,bK,cB,addA,a8,ev_f,putS,Sf.set,Sf.reg,getR,setR,id,List.drop_succ_cons,↓reduceIte,Nat.reduceEqDiff,reduceCtorEq,Nat.zero_add,f64_6e,f64_7e,f64_8e,f64_8l,hg,h64]
        refine cF rfl e_f47 hql rfl ?_
        simp (config:=KF) (disch:=omega) only [bZ,cf,ca,ce,aI,bK,cB,addA,a8,fw,ev_f,putS,Sf.set,Sf.reg,getR,setR,aD,id,List.length_cons,List.drop_succ_cons,↓reduceIte,Nat.reduceEqDiff,reduceCtorEq,Nat.zero_add,cU,f64_9e,f64_10e,f64_11e,f64_12e,f64_12l,hg,h64]
        refine cF rfl e_f70 hfront rfl ?_
        simp (config:=KF) (disch:=omega) only [bZ,List.contains_nil,fp,ek,fq,e7,dU,eJ,dz,dA,en,dV,fP,fH,cf,ca,ce,gm,bH,iz,dT,extV,bK,cB,boxX,d9,addA,a8,fw,dG,dH,putS,Sf.set,Sf.reg,getR,setR,aD,Sf.disAt,Sf.newLoc,Sf.setLoc,look,gh,fo,dn,dK,dD,ei,dk,dW,cP,bU,cR,ey,eI,gn,eA,kill_bs,List.length_cons,List.length_nil,List.getElem?_cons_zero,List.getElem?_cons_succ,List.all_cons,List.all_nil,List.drop_zero,List.drop_succ_cons,List.set_cons_zero,List.set_cons_succ,↓reduceIte,Nat.reduceEqDiff,Nat.reduceAdd,Nat.reduceLeDiff,Bool.true_and,Bool.and_true,and_true,true_and,reduceCtorEq,Nat.zero_add,Nat.add_zero,Bool.false_eq_true,cU,cD,b4,f64_13e,f64_14e,f64_14l,f64_15e,f64_16e,f64_17e,f64_17h,f64_17l,f64_18e,hg,h65,hk,seAV]
        refine hKe _ _ _ ?_
        simp (config:=KF) (disch:=omega) only [bZ,dV,retI,bH,putS,Sf.set,Sf.reg,getR,setR,aD,Sf.disAt,d4,p0,↓reduceIte,Nat.reduceEqDiff,Bool.true_and,true_and,f64_24e,f64_25e,f64_25l]
        exact hr
    have hs:df sz H1 ((t',n',d')::V1) = ((df sz (addH H1 t' n') V1).1,(df sz (addH H1 t' n') V1).2.1,(t',0)::(df sz (addH H1 t' n') V1).2.2):=by
      rw [df]; simp only; rw [if_neg hc]
    have hnx:∀ v' st',SmIs st' b q mid wid sz nw (addH H1 t' n') V1 g→GB v' st' (l0++d++[(t',0)])→GFr st0 st' ([b,q,mid,wid]++cL v0)→(∀ i ∈ cL v',i ∈ cL v0∨st0.boxes.length≤i)→(∀ i ∈ cL v',i ∉ [b,q,mid,wid])→K .normal ⟨[(0,.ptr b 0),(1,v')],[]⟩ st':=fun v' st' a1 a2 a3 a4 a5 =>
      hK (addH H1 t' n',V1,d++[(t',0)],v',st') ⟨[(0,.ptr b 0),(1,v')],[]⟩ ⟨a1,by simpa [List.append_assoc] using a2,a3,a4,a5,by rw [hsv,hs]; simp,by simp only [List.length_append,List.length_cons,List.length_nil] at hln ⊢; omega⟩ (by simp) (by
        have:=a2.cases
        rcases this with ⟨rfl,_⟩ | ⟨ib,ln,cap,rfl,_⟩ <;> exact Sf.le_refl _)
    have hdone:∀ st1 st2,SmIs st1 b q mid wid sz nw H1 V1 g→Oth st st1 [b,q,mid,wid]→SmIs st2 b q mid wid sz nw (addH H1 t' n') V1 g→Oth st1 st2 [b]→GB v st2 (l0++d)∧GFr st0 st2 ([b,q,mid,wid]++cL v0)∧st.boxes.length = st2.boxes.length:=by
      intro st1 st2 a1 a2 a3 a4
      have ho:Oth st st2 [b,q,mid,wid]:=a2.trans (a4.mono (by simp))
      exact ⟨hv.at fun i hi=>ho.2 i (hni i hi),hfr.trans (.oth ho (S':=[b,q,mid,wid]) (fun x hx=>hx)) (fun x hx=>.inl (List.mem_append_left _ hx)),ho.1.symm⟩
    have happ:∀ st2,SmIs st2 b q mid wid sz nw (addH H1 t' n') V1 g→GB v st2 (l0++d)→GFr st0 st2 ([b,q,mid,wid]++cL v0)→∀ C:AV→St→Prop,(∀ v' st',K .normal ⟨[(0,.ptr b 0),(1,v')],[]⟩ st'→(v' = .lit (.slice none 0 0)∨∃ ib ln cap,v' = .bs ib 2 0 ln cap)→C v' st')→appX false 2 16 v C st2 [.agg [.lit (.int .i64 t'),.lit (.int .i64 0)]]:=by
      intro st2 a1 a2 a3 C hC
      refine a2.app (by simp only [List.length_append]; omega) _ _ fun v' st' b1 b2 b3=>?_
      refine hC v' st' ?_ (b1.cases.imp (·.1) fun ⟨a,b,c,d,_⟩=>⟨a,b,c,d⟩)
      have hlt2:=a1.lts
      have hb0:∀ i ∈ [b,q,mid,wid],i < st0.boxes.length:=hlts0
      refine hnx v' st' (a1.at fun i hi=>b2.2 i (hlt2 i hi) fun e=>hni i e hi) b1 (a3.trans b2 fun x hx=>?_) (fun i hi=>?_) (fun i hi=>?_)
      · rcases hid x hx with e | e
        · exact .inl (List.mem_append_right _ e)
        · exact .inr e
      · rcases b3 i hi with e | e
        · exact hid i e
        · exact .inr (Nat.le_trans a3.1 e)
      · rcases b3 i hi with e | e
        · exact hni i e
        · intro hx
          have:=hlt2 i hx; omega
    rcases hv.cases with ⟨rfl,hz⟩ | ⟨ib,ln,cap,rfl,hz⟩
    all_goals
      simp (config:=KF) (disch:=omega) only [bZ,cf,ca,ce,aI,bK,cB,addA,a8,ev_f,putS,Sf.set,Sf.reg,getR,setR,id,List.drop_succ_cons,↓reduceIte,Nat.reduceEqDiff,reduceCtorEq,Nat.zero_add,f64_6e,f64_7e,f64_8e,f64_8l,hg,h64]
      refine cF rfl e_f47 hql rfl ?_
      simp (config:=KF) (disch:=omega) only [bZ,cf,ca,ce,aI,bK,cB,addA,a8,fw,ev_f,putS,Sf.set,Sf.reg,getR,setR,aD,id,List.length_cons,List.drop_succ_cons,↓reduceIte,Nat.reduceEqDiff,reduceCtorEq,Nat.zero_add,cU,f64_9e,f64_10e,f64_11e,f64_12e,f64_12l,hg,h64]
      refine cF rfl e_f70 hfront rfl ?_
      simp (config:=KF) (disch:=omega) only [bZ,List.contains_nil,fp,ek,fq,e7,dU,eJ,dz,dA,fH,cf,ca,ce,gm,bH,iz,dT,aI,extV,bK,cB,boxX,d9,addA,a8,fw,ev_f,dG,dH,putS,Sf.set,Sf.reg,getR,setR,aD,Sf.disAt,Sf.newLoc,Sf.setLoc,look,gh,fo,dn,id,dK,dD,ei,dk,dW,cP,bU,cR,ey,eI,gn,eA,kill_bs,List.length_cons,List.length_nil,List.getElem?_cons_zero,List.getElem?_cons_succ,List.all_cons,List.all_nil,List.drop_zero,List.drop_succ_cons,List.set_cons_zero,List.set_cons_succ,↓reduceIte,Nat.reduceEqDiff,Nat.reduceAdd,Nat.reduceLeDiff,Bool.true_and,Bool.and_true,and_true,true_and,reduceCtorEq,Nat.zero_add,Nat.add_zero,Bool.false_eq_true,dL,cD,b4,f64_13e,f64_14e,f64_14l,f64_15e,f64_16e,f64_17e,f64_17h,f64_17l,f64_18e,f64_19e,f64_20e,f64_20l,hg,h65,hk,seAV]
      refine du rfl e_f65 (li (A:=[]) h1 hg0) rfl fun r st1 hr=>?_
      obtain ⟨rfl,a1,a2⟩:=hr
      simp (config:=KF) (disch:=omega) only [bZ,cf,ca,aI,bK,addA,a8,ev_f,putS,Sf.set,Sf.reg,getR,setR,aD,look,id,List.drop_zero,↓reduceIte,Nat.reduceEqDiff,reduceCtorEq,Nat.add_zero,f64_21e,f64_22e,f64_22l]
      refine du rfl e_f63 (jI a1 ⟨t0,t1⟩ (by omega) (by omega)) rfl fun r st2 hr=>?_
      obtain ⟨rfl,a3,a4⟩:=hr
      obtain ⟨c1,c2,c3⟩:=hdone st1 st2 a1 a2 a3 a4
      simp (config:=KF) (disch:=omega) only [bZ,and_self,pW,oF,bH,o_x,bslV,bstV,eg,List.reduceReplicate,srcA,iL,eF,putS,Sf.set,Sf.reg,getR,setR,aD,Sf.disAt,dD,d4,dk,cN,cP,bU,cR,List.length_cons,List.length_nil,List.getElem?_cons_zero,List.all_cons,List.all_nil,List.set_cons_zero,↓reduceIte,Nat.reduceEqDiff,Nat.reduceAdd,Nat.reduceLT,Nat.reduceLeDiff,Bool.and_true,and_true,reduceCtorEq,Nat.zero_add,cD,b4,f64_23e,f64_23l]
      refine happ st2 a3 c1 c2 _ fun v' st' hk' hv'=>?_
      rcases hv' with rfl | ⟨ib',ln',cap',rfl⟩
      all_goals
        simp (config:=KF) (disch:=omega) only [bZ,bG,m9,bH,putS,Sf.set,Sf.reg,getR,setR,aD,Sf.disAt,d4,↓reduceIte,Nat.reduceEqDiff,reduceCtorEq]
        exact hk'
  rcases hv0.cases with ⟨rfl,hz⟩ | ⟨ib,ln,cap,rfl,hz⟩
  all_goals
    simp (config:=KF) (disch:=omega) only [bZ,putS,Sf.set,getR,setR,aD,da,d4,↓reduceIte,Nat.reduceEqDiff,reduceCtorEq,Nat.zero_add,f64_1e,f64_2e,f64_2l,f64_3e,f64_4e]
    exact hst
end
end Go.Fx.YtddifejdkiemgaaFx

