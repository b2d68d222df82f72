/- What the functions that the statement reaches compute: part 6. -/
import Derived.Test.YtddifejdkiemgaaFxW5
namespace Go.Fx.YtddifejdkiemgaaFx
open Go Go.Fx
attribute [local irreducible] aC runI dg ep

set_option maxRecDepth 100000
set_option maxHeartbeats 4000000

section
variable {st:St} {b q mid wid g:Nat} {sz nw:Int} {H:List Int} {V:List Vt}

theorem li {A B:List Vt} {t n d:Int} (h:SmIs st b q mid wid sz nw H (A++(t,n,d)::B) g) (hg0:g < 1000000):dt Go.Proofs.Try.prog n_f65 [.ptr b 0,.lit (.int .i64 t)] st (fun r st' =>
    r = .tup []∧SmIs st' b q mid wid sz nw H (A++B) g∧Oth st st' [b,q,mid,wid]):=by
  have hg:=h.get
  obtain ⟨W,hW,hq,m,hm,hl⟩:=h.qi
  obtain ⟨WA,WB',rfl,hA,hB⟩:=List.map_eq_append_iff.1 hW
  obtain ⟨⟨k,t',n',d'⟩,WB,rfl,hw,hB'⟩:=List.map_eq_cons_iff.1 hB
  obtain ⟨rfl,rfl,rfl⟩:t' = t∧n' = n∧d' = d:=by simpa using hw
  have hn1:(ej (entW (WA++(k,t',n',d')::WB))).Nodup:=by rw [kb,hW]; exact h.nd
  rw [iH,show entW ((k,t',n',d')::WB) = (t',n',d',k)::entW WB from rfl] at hn1
  obtain ⟨s1,s2⟩:=ku hn1
  have hk:∀ z,e6 (.int .i64) z false st (.map wid) (.lit (.int .i64 t')) = .ok (seAV (n',d',k)):=fun z=>by
    have hx:dB t' (entW (WA++(k,t',n',d')::WB)) = some (n',d',k):=by
      rw [iH]; exact s1
    rw [fC hm,hl,hx]; rfl
  have h64:=rI (q:=q) (wid:=wid) h.hl
  have h65:=qp (q:=q) (wid:=wid) h.hl
  obtain ⟨i1,i2,i3,i4,i5⟩:=h.ids
  refine dN hmix k_f65 rfl rfl fun Q hQ=>?_
  unfold aFun c_f65
  simp (config:=KF) (disch:=omega) only [bZ,fp,ek,fq,hh_field,e7,dU,eJ,i7,dz,dA,aI,kU,bK,cB,addA,a8,ev_f,putS,Sf.set,Sf.reg,getR,setR,dn,da,id,dK,List.drop_zero,List.drop_succ_cons,↓reduceIte,Nat.reduceEqDiff,reduceCtorEq,Nat.zero_add,f65_1e,f65_2e,f65_2h,f65_2l,hg,h64,h65,hk,seAV]
  have hq':QIs st q mid (quW WA++(k,t')::quW WB) g:=by
    have:=hq
    rw [sy] at this; exact this
  refine du rfl e_f51 (qI hq' hg0) rfl fun r st1 hr=>?_
  obtain ⟨rfl,hq1,ho1⟩:=hr
  have hg1:st1.get b = _:=(ho1.get (by simp; omega)).trans hg
  have hm1:=hm.oth ho1 (by simp; omega)
  simp (config:=KF) (disch:=omega) only [bZ,cf,ca,ce,o_del,bK,cB,addA,a8,putS,Sf.set,Sf.reg,getR,setR,aD,dK,List.drop_succ_cons,↓reduceIte,Nat.reduceEqDiff,reduceCtorEq,Nat.zero_add,f65_3e,f65_3l,hg1,h65]
  refine del_step hm1 fun st2 hm2 ho2=>?_
  simp (config:=KF) (disch:=omega) only [bZ,kT,retI,resL,aD,dE,List.all_nil,↓reduceIte,Bool.true_and,true_and]
  have ho:Oth st st2 [b,q,mid,wid]:=(ho1.mono (by simp)).trans (ho2.mono (by simp))
  have hsub:∀ v ∈ A++B,v ∈ A++(t',n',d')::B:=fun v hv=>by
    rcases List.mem_append.1 hv with hv | hv
    · exact List.mem_append.2 (.inl hv)
    · exact List.mem_append.2 (.inr (List.mem_cons_of_mem _ hv))
  refine hQ _ _ ⟨rfl,⟨(ho2.get (by simp; omega)).trans hg1,⟨WA++WB,by rw [noT_app]; unfold noT; rw [hA,hB'],by rw [sy]; exact hq1.oth ho2 (by simp; omega) (by simp; omega),_,hm2,fun c=>?_⟩,h.hl,h.hb,h.hs,h.szb,h.nwb,?_,fun v hv=>h.wk v (hsub v hv),h.ids⟩,ho⟩
  · rw [qd _ _ hm.nd,hl,iH WA WB,s2,iH]; rfl
  · have:=h.nd
    rw [o8] at this ⊢
    rw [show vtk ((t',n',d')::B) = t'::vtk B from rfl] at this
    exact (List.nodup_append.1 this) |> fun ⟨a1,a2,a3⟩=>List.nodup_append.2 ⟨a1,(List.nodup_cons.1 a2).2,fun x hx y hy=>a3 x hx y (List.mem_cons_of_mem _ hy)⟩

/-- What Acquire comes to: the state, the ticket, whether, the error. -/
def sAcq (sz nw:Int) (H:List Int) (V:List Vt) (g:Nat) (t n d:Int):(List Int×List Vt×Nat)×Bool×Int :=
  let e:=sChk sz V t n
  if e≠0 then ((H,V,g),false,e) else if sz < getH H t + n then ((H,V,g),false,7) else if d≤nw then ((H,V,g),false,12)
  else if V = []∧n≤sz - H.sum then ((addH H t n,V,g),true,0) else ((H,V++[(t,n,d)],g + 1),false,0)

theorem sA {t n:Int} (h:sChk sz V t n = 0):(0≤t∧t < 64)∧(1≤n∧n≤sz)∧t ∉ vtk V:=by
  unfold sChk at h
  split at h
  · cases h
  · split at h
    · cases h
    · exact ⟨by omega,by omega,by assumption⟩

theorem passed_pure (d nw:Int) (hn:nw < nev) (st:St):dJ Go.Proofs.Try.prog n_f62 [.lit (.int .u64 d),.lit (.int .u64 nw)] st (.lit (.bool (decide (d≤nw)))):=by
  refine eo hmix k_f62 rfl rfl fun Q hQ=>?_
  unfold aFun c_f62
  have h1:¬ nw = 18446744073709551615:=by unfold nev at hn; omega
  simp (config:=KF) (disch:=omega) only [bZ,retI,aS,AI.dst,dY,c8,bH,ea,eE,nj,putS,Sf.set,Sf.reg,getR,setR,aD,Sf.disAt,da,↓reduceIte,Nat.reduceEqDiff,Bool.true_and,true_and,reduceCtorEq,Nat.zero_add,fd,f62_1e,f62_2e,f62_2l,f62_3e,f62_4e,f62_4l]
  exact hQ _

theorem qs (h:SmIs st b q mid wid sz nw H V g) (hg0:g < 900000) {t n d:Int} (hd:d≤nev):dt Go.Proofs.Try.prog n_f35 [.ptr b 0,.lit (.int .i64 t),.lit (.int .i64 n),.lit (.int .u64 d)] st (fun r st' =>
    r = .tup [.lit (.bool (sAcq sz nw H V g t n d).2.1),.lit (.int .i64 (sAcq sz nw H V g t n d).2.2)]∧SmIs st' b q mid wid sz nw (sAcq sz nw H V g t n d).1.1 (sAcq sz nw H V g t n d).1.2.1 (sAcq sz nw H V g t n d).1.2.2∧Oth st st' [b,q,mid,wid]):=by
  have hg:=h.get
  refine dN hmix k_f35 rfl rfl fun Q hQ=>?_
  unfold aFun c_f35
  unfold sAcq at hQ
  have hck:=lh h t n
  obtain ⟨e,he⟩:∃ e,e = sChk sz V t n:=⟨_,rfl⟩
  rw [← he] at hck hQ
  simp only at hQ
  by_cases h0:e = 0
  case neg =>
    rw [if_pos h0] at hQ
    simp (config:=KF) (disch:=omega) only [bZ,aI,ev_f,putS,Sf.set,Sf.reg,getR,setR,aD,da,id,↓reduceIte,Nat.reduceEqDiff,Nat.reduceAdd,reduceCtorEq,Nat.zero_add,f35_1e,f35_2e,f35_2l,f35_3e,f35_4e,f35_5e,f35_5l]
    refine cF rfl e_f61 hck rfl ?_
    simp (config:=KF) (disch:=omega) only [bZ,retI,resI,resL,bH,eE,putS,Sf.set,Sf.reg,getR,setR,aD,Sf.disAt,dE,List.all_cons,List.all_nil,↓reduceIte,Nat.reduceEqDiff,Bool.true_and,Bool.and_true,and_true,true_and,reduceCtorEq,cU,f35_6e,f35_7e,f35_7l,f35_8e,f35_9e,f35_10e,f35_10l]
    exact hQ _ _ ⟨rfl,h,Oth.refl _ _⟩
  rw [if_neg (by simpa using h0)] at hQ
  rw [h0] at hck he
  obtain ⟨⟨t0,t1⟩,⟨n0,n1⟩,hnm⟩:=sA he.symm
  obtain ⟨r,hr⟩:=qq (sz:=sz) (lf:=sz - H.sum) (nw:=nw) (q:=q) (wid:=wid) h.hl (i:=t) t0 t1
  have h64:=rI (q:=q) (wid:=wid) h.hl
  have h65:=qp (q:=q) (wid:=wid) h.hl
  have hgb:=h.getb t0 t1
  have hsz:=h.szb
  have hnw:=h.nwb
  have hps:=passed_pure d nw hnw.2 st
  have hs0:=h.sum0
  have hs1:=h.hs
  by_cases h1:sz < getH H t + n
  · rw [if_pos h1] at hQ
    simp (config:=KF) (disch:=omega) only [bZ,aI,ev_f,putS,Sf.set,Sf.reg,getR,setR,aD,da,id,↓reduceIte,Nat.reduceEqDiff,Nat.reduceAdd,reduceCtorEq,Nat.zero_add,f35_1e,f35_2e,f35_2l,f35_3e,f35_4e,f35_5e,f35_5l]
    refine cF rfl e_f61 hck rfl ?_
    simp (config:=KF) (disch:=omega) only [bZ,fp,ek,fq,lc,e7,n7,dU,eJ,dz,dA,retI,resI,resL,bH,bK,cB,ixA,addA,a8,gC,eE,fw,cE,putS,Sf.set,Sf.reg,getR,setR,aD,Sf.disAt,dn,dE,List.all_cons,List.all_nil,List.drop_zero,Int.cast_ofNat_Int,↓reduceIte,Nat.reduceEqDiff,Bool.true_and,Bool.and_true,and_true,true_and,reduceCtorEq,Nat.zero_add,Nat.add_zero,not_true_eq_false,decide_false,dC,cU,IntWalk.i64_in,dI,Nat.mul_one,f35_6e,f35_7e,f35_7l,f35_8e,f35_11e,f35_12e,f35_13e,f35_13h,f35_13l,f35_14e,f35_15e,f35_16e,f35_16l,hg,hr]
    exact hQ _ _ ⟨rfl,h,Oth.refl _ _⟩
  rw [if_neg h1] at hQ
  by_cases h2:d≤nw
  · rw [if_pos h2] at hQ
    rw [decide_eq_true h2] at hps
    simp (config:=KF) (disch:=omega) only [bZ,aI,ev_f,putS,Sf.set,Sf.reg,getR,setR,aD,da,id,↓reduceIte,Nat.reduceEqDiff,Nat.reduceAdd,reduceCtorEq,Nat.zero_add,f35_1e,f35_2e,f35_2l,f35_3e,f35_4e,f35_5e,f35_5l]
    refine cF rfl e_f61 hck rfl ?_
    simp (config:=KF) (disch:=omega) only [bZ,fp,ek,fq,lc,e7,n7,dU,eJ,dz,dA,cf,ca,ce,bH,aI,bK,cB,ixA,addA,a8,gC,eE,fw,cE,ev_f,putS,Sf.set,Sf.reg,getR,setR,aD,Sf.disAt,dn,id,List.drop_zero,List.drop_succ_cons,Int.cast_ofNat_Int,↓reduceIte,Nat.reduceEqDiff,reduceCtorEq,Nat.zero_add,Nat.add_zero,not_true_eq_false,decide_false,dC,dL,IntWalk.i64_in,dI,Nat.mul_one,f35_6e,f35_7e,f35_7l,f35_8e,f35_11e,f35_12e,f35_13e,f35_13h,f35_13l,f35_14e,f35_17e,f35_18e,f35_19e,f35_19l,hg,hr]
    refine cF rfl e_f62 hps rfl ?_
    simp (config:=KF) (disch:=omega) only [bZ,retI,resI,resL,putS,Sf.set,Sf.reg,getR,setR,aD,dE,List.all_cons,List.all_nil,↓reduceIte,Nat.reduceEqDiff,Bool.true_and,Bool.and_true,and_true,true_and,reduceCtorEq,f35_20e,f35_21e,f35_22e,f35_22l]
    exact hQ _ _ ⟨rfl,h,Oth.refl _ _⟩
  rw [if_neg h2] at hQ
  rw [decide_eq_false h2] at hps
  obtain ⟨W,hW,hq,m,hm,hl⟩:=h.qi
  have hql:=oe hq
  rw [o7,hW] at hql
  have hcn:=h.cnt
  simp (config:=KF) (disch:=omega) only [bZ,aI,ev_f,putS,Sf.set,Sf.reg,getR,setR,aD,da,id,↓reduceIte,Nat.reduceEqDiff,Nat.reduceAdd,reduceCtorEq,Nat.zero_add,f35_1e,f35_2e,f35_2l,f35_3e,f35_4e,f35_5e,f35_5l]
  refine cF rfl e_f61 hck rfl ?_
  simp (config:=KF) (disch:=omega) only [bZ,fp,ek,fq,lc,e7,n7,dU,eJ,dz,dA,cf,ca,ce,bH,aI,bK,cB,ixA,addA,a8,gC,eE,fw,cE,ev_f,putS,Sf.set,Sf.reg,getR,setR,aD,Sf.disAt,dn,id,List.drop_zero,List.drop_succ_cons,Int.cast_ofNat_Int,↓reduceIte,Nat.reduceEqDiff,reduceCtorEq,Nat.zero_add,Nat.add_zero,not_true_eq_false,decide_false,dC,dL,IntWalk.i64_in,dI,Nat.mul_one,f35_6e,f35_7e,f35_7l,f35_8e,f35_11e,f35_12e,f35_13e,f35_13h,f35_13l,f35_14e,f35_17e,f35_18e,f35_19e,f35_19l,hg,hr]
  refine cF rfl e_f62 hps rfl ?_
  simp (config:=KF) (disch:=omega) only [bZ,cf,ca,ce,aI,bK,cB,addA,a8,ev_f,putS,Sf.set,Sf.reg,getR,setR,aD,id,List.drop_succ_cons,↓reduceIte,Nat.reduceEqDiff,reduceCtorEq,Nat.zero_add,f35_20e,f35_23e,f35_24e,f35_25e,f35_25l,hg,h64]
  refine cF rfl e_f47 hql rfl ?_
  by_cases h3:V = []∧n≤sz - H.sum
  · rw [if_pos h3] at hQ
    obtain ⟨h3,h4⟩:=h3
    have hVl:(V.length:Int) = 0:=by rw [h3]; rfl
    simp (config:=KF) (disch:=omega) only [bZ,aS,AI.dst,dY,c8,cf,ca,ce,aI,ea,bK,cB,addA,a8,fa,nj,ev_f,putS,Sf.set,Sf.reg,getR,setR,aD,id,List.drop_zero,List.drop_succ_cons,↓reduceIte,Nat.reduceEqDiff,reduceCtorEq,Nat.zero_add,decide_true,cU,f35_26e,f35_27e,f35_28e,f35_28l,hg,hVl]
    refine du rfl e_f63 (jI h ⟨t0,t1⟩ (by omega) (by omega)) rfl fun r st1 hr=>?_
    obtain ⟨rfl,hr1,ho1⟩:=hr
    simp (config:=KF) (disch:=omega) only [bZ,retI,resI,resL,putS,Sf.set,Sf.reg,getR,setR,aD,dE,List.all_cons,List.all_nil,↓reduceIte,Nat.reduceEqDiff,Bool.true_and,Bool.and_true,and_true,true_and,reduceCtorEq,f35_29e,f35_30e,f35_30l]
    exact hQ _ _ ⟨rfl,hr1,ho1.mono (by simp)⟩
  rw [if_neg h3] at hQ
  have hpush:=qpush_calls (v:=t) hq (by rw [o7,hW]; omega) (by omega)
  obtain ⟨i1,i2,i3,i4,i5⟩:=h.ids
  have fin:∀ st1,QIs st1 q mid (quW W++[(g + 1,t)]) (g + 1)→Oth st st1 [q,mid]→∀ K:Sf→St→Prop,∀ sf,(∀ st2,SmIs st2 b q mid wid sz nw H (V++[(t,n,d)]) (g + 1)→Oth st st2 [b,q,mid,wid]→K sf st2)→updX false (.int .i64) (.map wid) (.lit (.int .i64 t)) (seAV (n,d,g + 1)) K sf st1:=by
    intro st1 hq1 ho1 K sf hK
    have hg1:st1.get b = _:=(ho1.get (by simp; omega)).trans hg
    have hm1:=hm.oth ho1 (by simp; omega)
    refine jy (b:=(n,d,g + 1)) hm1 rfl rfl fun st2 hm2 ho2=>?_
    have ho:Oth st st2 [b,q,mid,wid]:=(ho1.mono (by simp)).trans (ho2.mono (by simp))
    have hW2:noT (W++[(g + 1,t,n,d)]) = V++[(t,n,d)]:=by rw [noT_app,hW]; rfl
    have hnd:(vtk (V++[(t,n,d)])).Nodup:=by
      rw [o8]
      refine List.nodup_append.2 ⟨h.nd,by simp [vtk],fun x hx y hy e=>?_⟩
      simp [vtk] at hy
      subst hy; subst e; exact hnm hx
    have hn1:(ej (entW W++[(t,n,d,g + 1)])).Nodup:=by
      have:=kb (W++[(g + 1,t,n,d)])
      rw [iH] at this
      rw [show entW W++[(t,n,d,g + 1)] = entW W++entW [(g + 1,t,n,d)] from rfl,this,hW2]
      exact hnd
    obtain ⟨s1,s2⟩:=ku (A:=entW W) (B:=[]) hn1
    refine hK _ ⟨(ho2.get (by simp; omega)).trans hg1,⟨W++[(g + 1,t,n,d)],hW2,by rw [sy]; exact hq1.oth ho2 (by simp; omega) (by simp; omega),_,hm2,fun c=>?_⟩,h.hl,h.hb,h.hs,h.szb,h.nwb,hnd,fun v hv=>?_,h.ids⟩ ho
    · rw [gI,hl,iH]
      by_cases e:c = t
      · rw [if_pos e,e]; exact s1.symm
      · have:=s2 c
        rw [if_neg e,List.append_nil] at this
        rw [if_neg e,this]; rfl
    · rcases List.mem_append.1 hv with hv | hv
      · exact h.wk v hv
      · simp at hv
        subst hv
        exact ⟨⟨t0,t1⟩,⟨n0,n1⟩,Int.not_le.1 h2,hd⟩
  by_cases h5:V = []
  · have h6:¬ n≤sz - H.sum:=fun e=>h3 ⟨h5,e⟩
    have hVl:(V.length:Int) = 0:=by rw [h5]; rfl
    simp (config:=KF) (disch:=omega) only [bZ,aS,AI.dst,dY,c8,cf,ca,ce,aI,ea,bK,cB,addA,a8,fa,nj,ev_f,putS,Sf.set,Sf.reg,getR,setR,aD,id,List.drop_zero,List.drop_succ_cons,↓reduceIte,Nat.reduceEqDiff,reduceCtorEq,Nat.zero_add,decide_true,dL,f35_26e,f35_31e,f35_32e,f35_32l,hg,hVl,h64]
    refine du rfl e_f48 hpush rfl fun r st1 hr=>?_
    obtain ⟨rfl,hq1,ho1⟩:=hr
    have hg1:st1.get b = _:=(ho1.get (by simp; omega)).trans hg
    simp (config:=KF) (disch:=omega) only [bZ,and_self,fH,cf,ca,ce,oF,bH,oG,extV,bK,cB,bstV,addA,a8,eF,eE,putS,Sf.set,Sf.reg,getR,setR,aD,Sf.disAt,dK,ei,dW,cN,cP,bU,cR,List.length_cons,List.length_nil,List.getElem?_cons_zero,List.getElem?_cons_succ,List.all_cons,List.all_nil,List.drop_succ_cons,List.set_cons_zero,List.set_cons_succ,↓reduceIte,Nat.reduceEqDiff,Nat.reduceAdd,Nat.reduceLeDiff,Bool.and_true,and_true,reduceCtorEq,Nat.zero_add,not_true_eq_false,decide_false,cD,b4,f35_33e,f35_34e,f35_35e,f35_35l,f35_36e,f35_39e,f35_40e,f35_40l,hg1,h65]
    refine fin st1 hq1 ho1 _ _ fun st2 a1 a2=>?_
    simp (config:=KF) (disch:=omega) only [bZ,retI,resI,resL,putS,Sf.set,Sf.reg,getR,setR,aD,dE,List.all_cons,List.all_nil,↓reduceIte,Nat.reduceEqDiff,Bool.true_and,Bool.and_true,and_true,true_and,f35_41e,f35_42e,f35_42l]
    exact hQ _ _ ⟨rfl,a1,a2⟩
  · have hVl:¬ (V.length:Int) = 0:=by
      have:=List.length_pos_iff.2 h5
      omega
    simp (config:=KF) (disch:=omega) only [bZ,aS,eX,AI.dst,ck,c8,cf,ca,ce,aI,cV,bK,cB,addA,a8,fa,ev_f,putS,Sf.set,Sf.reg,getR,setR,aD,id,List.drop_succ_cons,↓reduceIte,Nat.reduceEqDiff,reduceCtorEq,Nat.zero_add,decide_false,f35_26e,f35_31e,f35_32e,f35_32l,hg,hVl,h64]
    refine du rfl e_f48 hpush rfl fun r st1 hr=>?_
    obtain ⟨rfl,hq1,ho1⟩:=hr
    have hg1:st1.get b = _:=(ho1.get (by simp; omega)).trans hg
    simp (config:=KF) (disch:=omega) only [bZ,and_self,fH,cf,ca,ce,oF,bH,oG,extV,bK,cB,bstV,addA,a8,eF,eE,putS,Sf.set,Sf.reg,getR,setR,aD,Sf.disAt,dK,ei,dW,cN,cP,bU,cR,List.length_cons,List.length_nil,List.getElem?_cons_zero,List.getElem?_cons_succ,List.all_cons,List.all_nil,List.drop_succ_cons,List.set_cons_zero,List.set_cons_succ,↓reduceIte,Nat.reduceEqDiff,Nat.reduceAdd,Nat.reduceLeDiff,Bool.and_true,and_true,reduceCtorEq,Nat.zero_add,not_true_eq_false,decide_false,cD,b4,f35_33e,f35_34e,f35_35e,f35_35l,f35_36e,f35_39e,f35_40e,f35_40l,hg1,h65]
    refine fin st1 hq1 ho1 _ _ fun st2 a1 a2=>?_
    simp (config:=KF) (disch:=omega) only [bZ,retI,resI,resL,putS,Sf.set,Sf.reg,getR,setR,aD,dE,List.all_cons,List.all_nil,↓reduceIte,Nat.reduceEqDiff,Bool.true_and,Bool.and_true,and_true,true_and,f35_41e,f35_42e,f35_42l]
    exact hQ _ _ ⟨rfl,a1,a2⟩
end
end Go.Fx.YtddifejdkiemgaaFx

