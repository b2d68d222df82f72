/- What the functions that the statement reaches compute: part 5. -/
import Derived.Test.YtddifejdkiemgaaFxW4
namespace Go.Fx.YtddifejdkiemgaaFx
open Go Go.Fx
attribute [local irreducible] aC runI dg ep

set_option maxRecDepth 100000
set_option maxHeartbeats 4000000

theorem snew_err {sz nw:Int} (h:sz < 1∨1048576 < sz∨nw = nev) (st:St):dJ Go.Proofs.Try.prog n_f29 [.lit (.int .i64 sz),.lit (.int .u64 nw)] st (.tup [.lit (.pointer none),.lit (.int .i64 2)]):=by
  refine eo hmix k_f29 rfl rfl fun Q hQ=>?_
  unfold aFun c_f29
  by_cases h1:sz < 1
  · simp (config:=KF) (disch:=omega) only [bZ,retI,resI,resL,aS,eX,AI.dst,dY,c8,ea,dx,putS,Sf.set,Sf.reg,getR,setR,aD,da,dE,List.all_cons,List.all_nil,↓reduceIte,Nat.reduceEqDiff,Bool.true_and,Bool.and_true,and_true,true_and,reduceCtorEq,Nat.zero_add,Bool.false_eq_true,fd,f29_1e,f29_2e,f29_2l,f29_3e,f29_4e,f29_5e,f29_5l,f29_6e,f29_7e,f29_8e,f29_8l]
    exact hQ _
  by_cases h2:1048576 < sz
  · simp (config:=KF) (disch:=omega) only [bZ,retI,resI,resL,aS,eX,AI.dst,dY,ck,c8,ea,cV,dx,fw,putS,Sf.set,Sf.reg,getR,setR,aD,da,dE,List.all_cons,List.all_nil,↓reduceIte,Nat.reduceEqDiff,Bool.true_and,Bool.and_true,and_true,true_and,reduceCtorEq,Nat.zero_add,Bool.false_eq_true,fd,d8,f29_1e,f29_2e,f29_2l,f29_3e,f29_4e,f29_5e,f29_5l,f29_6e,f29_7e,f29_8e,f29_8l]
    exact hQ _
  have h3:nw = 18446744073709551615:=by rcases h with h | h | h <;> first | omega | exact h
  simp (config:=KF) (disch:=omega) only [bZ,retI,resI,resL,aS,AI.dst,ck,c8,cV,fa,dx,fw,putS,Sf.set,Sf.reg,getR,setR,aD,da,dE,List.all_cons,List.all_nil,↓reduceIte,Nat.reduceEqDiff,Bool.true_and,Bool.and_true,and_true,true_and,reduceCtorEq,Nat.zero_add,Bool.false_eq_true,cU,d8,f29_1e,f29_2e,f29_2l,f29_3e,f29_4e,f29_5e,f29_5l,f29_6e,f29_7e,f29_8e,f29_8l]
  exact hQ _

theorem qr {sz nw:Int} (hs:1≤sz∧sz≤1048576) (hn:0≤nw∧nw < nev) (st:St):dt Go.Proofs.Try.prog n_f29 [.lit (.int .i64 sz),.lit (.int .u64 nw)] st (fun r st' =>
    r = .tup [.ptr (st.boxes.length + 3) 0,.lit (.int .i64 0)]∧SmIs st' (st.boxes.length + 3) (st.boxes.length + 1) st.boxes.length (st.boxes.length + 2) sz nw (List.replicate 64 0) [] 0∧st'.boxes.length = st.boxes.length + 4∧∀ id,id < st.boxes.length→st'.boxes[id]? = st.boxes[id]?):=by
  refine dN hmix k_f29 rfl rfl fun Q hQ=>?_
  unfold aFun c_f29
  have hnw:¬ nw = 18446744073709551615:=by have:=hn.2; unfold nev at this; omega
  simp (config:=KF) (disch:=omega) only [bZ,aS,AI.dst,ck,c8,aI,cV,fa,dx,fw,ev_f,putS,Sf.set,Sf.reg,getR,setR,aD,da,id,↓reduceIte,Nat.reduceEqDiff,reduceCtorEq,Nat.zero_add,Bool.false_eq_true,dL,d8,f29_1e,f29_2e,f29_2l,f29_3e,f29_4e,f29_5e,f29_5l,f29_6e,f29_9e,f29_10e,f29_10l]
  refine du rfl e_f45 (qnew_calls st) rfl fun r st1 hr=>?_
  obtain ⟨rfl,hq1,hl1,hk1⟩:=hr
  simp (config:=KF) (disch:=omega) only [bZ,and_self,retI,resI,resL,oF,bH,o_boxB,o_mkmap,bstV,boxX,eF,dG,dH,putS,Sf.set,Sf.reg,getR,setR,aD,Sf.disAt,dK,dD,dk,own1_ptr,pY,cN,rt,n4,cP,bU,pZ,kr,cR,ng,dE,List.length_cons,List.length_nil,List.getElem?_cons_zero,List.getElem?_cons_succ,List.all_cons,List.all_nil,List.set_cons_zero,List.set_cons_succ,↓reduceIte,Nat.reduceEqDiff,Nat.reduceAdd,Nat.reduceLeDiff,Bool.true_and,Bool.and_true,and_true,true_and,reduceCtorEq,Nat.zero_add,eB,cD,b4,hl1]
  have hm:=(MapIs.new st1 .i64 seAV).push (.cells (smC sz sz nw (List.replicate 64 0) (st.boxes.length + 1) (st.boxes.length + 2)))
  have hg:=gp (st1.push (.mp [] [] 0)) (smC sz sz nw (List.replicate 64 0) (st.boxes.length + 1) (st.boxes.length + 2))
  rw [eB,hl1] at hg
  rw [hl1] at hm
  have hat:∀ x,x < st.boxes.length + 2→((st1.push (.mp [] [] 0)).push (.cells (smC sz sz nw (List.replicate 64 0) (st.boxes.length + 1) (st.boxes.length + 2)))).boxes[x]? = st1.boxes[x]?:=fun x hx=>by
    rw [e9 (by rw [eB]; omega),e9 (by omega)]
  have hz:(List.replicate 64 (0:Int)).sum = 0:=by decide
  refine hQ _ _ ⟨by simp,⟨by rw [hz,Int.sub_zero]; exact hg,⟨[],rfl,hq1.at (hat _ (by omega)) (hat _ (by omega)),[],hm,fun _=>rfl⟩,by simp,by simp,by rw [hz]; omega,hs,hn,by simp [vtk],by simp,by omega⟩,by simp [eB,hl1],fun x hx=>?_⟩
  have:=hat x (by omega)
  exact this.trans (hk1 x hx)

section
variable {st:St} {b q mid wid g:Nat} {sz nw:Int} {H:List Int} {V:List Vt}

/-- The error of a task and units. -/
def sChk (sz:Int) (V:List Vt) (t n:Int):Int:=if t < 0∨64≤t∨n < 1∨sz < n then 2 else if t ∈ vtk V then 11 else 0

theorem SmIs.look (h:SmIs st b q mid wid sz nw H V g) (t:Int) (z:AV) (ok:Bool):(t ∉ vtk V→e6 (.int .i64) z ok st (.map wid) (.lit (.int .i64 t)) = .ok (if ok then .tup [z,.lit (.bool false)] else z)) ∧
    (∀ A n d B,V = A++(t,n,d)::B→∃ k:Nat,e6 (.int .i64) z ok st (.map wid) (.lit (.int .i64 t)) = .ok (if ok then .tup [seAV (n,d,k),.lit (.bool true)] else seAV (n,d,k))):=by
  obtain ⟨W,h1,h2,m,hm,hl⟩:=h.qi
  refine ⟨fun hn=>?_,fun A n d B e=>?_⟩
  · rw [fC hm,hl,lC (by rw [kb,h1]; exact hn)]
  · have hnd:=h.nd
    rw [e] at h1
    obtain ⟨WA,WB,rfl,ha,hb⟩:=List.map_eq_append_iff.1 h1
    obtain ⟨w,WB',rfl,hw,hb'⟩:=List.map_eq_cons_iff.1 hb
    have hn1:(ej (entW (WA++w::WB'))).Nodup:=by rw [kb,show noT (WA++w::WB') = V from by rw [e]; exact h1]; exact hnd
    rw [iH,show entW (w::WB') = (w.2.1,w.2.2.1,w.2.2.2,w.1)::entW WB' from rfl] at hn1
    obtain ⟨s1,_⟩:=ku hn1
    have ht:w.2.1 = t:=by rw [hw]
    have hx:dB t (entW (WA++w::WB')) = some (n,d,w.1):=by
      rw [iH,show entW (w::WB') = (w.2.1,w.2.2.1,w.2.2.2,w.1)::entW WB' from rfl,← ht,s1,hw]
    exact ⟨w.1,by rw [fC hm,hl,hx]; rfl⟩

theorem vtk_mem {V:List Vt} {t:Int} (h:t ∈ vtk V):∃ A n d B,V = A++(t,n,d)::B:=by
  simp only [vtk,List.mem_map] at h
  obtain ⟨⟨t',n,d⟩,hv,rfl⟩:=h
  obtain ⟨A,B,rfl⟩:=List.append_of_mem hv
  exact ⟨A,n,d,B,rfl⟩

theorem lh (h:SmIs st b q mid wid sz nw H V g) (t n:Int):dJ Go.Proofs.Try.prog n_f61 [.ptr b 0,.lit (.int .i64 t),.lit (.int .i64 n)] st (.lit (.int .i64 (sChk sz V t n))):=by
  have hg:=h.get
  refine eo hmix k_f61 rfl rfl fun Q hQ=>?_
  unfold aFun c_f61
  unfold sChk at hQ
  have h65:=qp (q:=q) (wid:=wid) h.hl
  by_cases hb:t < 0∨64≤t∨n < 1∨sz < n
  · rw [if_pos hb] at hQ
    by_cases h1:t < 0
    · simp (config:=KF) (disch:=omega) only [bZ,aI,ev_f,putS,Sf.set,Sf.reg,getR,setR,aD,da,id,↓reduceIte,Nat.reduceEqDiff,Nat.reduceAdd,reduceCtorEq,Nat.zero_add,f61_1e,f61_2e,f61_2l,f61_3e,f61_4e,f61_5e,f61_6e,f61_6l]
      refine cF rfl e_f59 h.z rfl ?_
      simp (config:=KF) (disch:=omega) only [bZ,eh,retI,aS,eX,AI.dst,dY,c8,bH,ea,dx,putS,Sf.set,Sf.reg,getR,setR,aD,Sf.disAt,↓reduceIte,Nat.reduceEqDiff,Bool.true_and,true_and,reduceCtorEq,Bool.false_eq_true,fd,f61_7e,f61_10e,f61_11e,f61_11l,f61_12e,f61_13e,f61_14e,f61_14l]
      exact hQ _
    by_cases h2:64≤t
    · simp (config:=KF) (disch:=omega) only [bZ,aI,ev_f,putS,Sf.set,Sf.reg,getR,setR,aD,da,id,↓reduceIte,Nat.reduceEqDiff,Nat.reduceAdd,reduceCtorEq,Nat.zero_add,f61_1e,f61_2e,f61_2l,f61_3e,f61_4e,f61_5e,f61_6e,f61_6l]
      refine cF rfl e_f59 h.z rfl ?_
      simp (config:=KF) (disch:=omega) only [bZ,eh,retI,aS,eX,AI.dst,dY,ck,c8,bH,ea,cV,dx,j1,putS,Sf.set,Sf.reg,getR,setR,aD,Sf.disAt,↓reduceIte,Nat.reduceEqDiff,Bool.true_and,true_and,reduceCtorEq,Bool.false_eq_true,fd,d8,f61_7e,f61_10e,f61_11e,f61_11l,f61_12e,f61_13e,f61_14e,f61_14l]
      exact hQ _
    by_cases h3:n < 1
    · simp (config:=KF) (disch:=omega) only [bZ,aI,ev_f,putS,Sf.set,Sf.reg,getR,setR,aD,da,id,↓reduceIte,Nat.reduceEqDiff,Nat.reduceAdd,reduceCtorEq,Nat.zero_add,f61_1e,f61_2e,f61_2l,f61_3e,f61_4e,f61_5e,f61_6e,f61_6l]
      refine cF rfl e_f59 h.z rfl ?_
      simp (config:=KF) (disch:=omega) only [bZ,eh,retI,aS,eX,AI.dst,dY,ck,c8,bH,ea,cV,dx,j1,putS,Sf.set,Sf.reg,getR,setR,aD,Sf.disAt,↓reduceIte,Nat.reduceEqDiff,Bool.true_and,true_and,reduceCtorEq,Bool.false_eq_true,fd,d8,f61_7e,f61_10e,f61_11e,f61_11l,f61_12e,f61_13e,f61_14e,f61_14l]
      exact hQ _
    have h4:sz < n:=by omega
    simp (config:=KF) (disch:=omega) only [bZ,aI,ev_f,putS,Sf.set,Sf.reg,getR,setR,aD,da,id,↓reduceIte,Nat.reduceEqDiff,Nat.reduceAdd,reduceCtorEq,Nat.zero_add,f61_1e,f61_2e,f61_2l,f61_3e,f61_4e,f61_5e,f61_6e,f61_6l]
    refine cF rfl e_f59 h.z rfl ?_
    simp (config:=KF) (disch:=omega) only [bZ,eh,retI,aS,AI.dst,ck,c8,cf,ca,ce,bH,cV,bK,cB,addA,a8,dx,fw,j1,putS,Sf.set,Sf.reg,getR,setR,aD,Sf.disAt,List.drop_zero,↓reduceIte,Nat.reduceEqDiff,Bool.true_and,true_and,reduceCtorEq,Nat.add_zero,Bool.false_eq_true,cU,d8,f61_7e,f61_10e,f61_11e,f61_11l,f61_12e,f61_13e,f61_14e,f61_14l,hg]
    exact hQ _
  rw [if_neg hb] at hQ
  by_cases hm:t ∈ vtk V
  · rw [if_pos hm] at hQ
    obtain ⟨A,n',d',B,e⟩:=vtk_mem hm
    obtain ⟨k,hk⟩:=(h.look t (.agg [.lit (.int .i64 0),.lit (.int .u64 0),.lit (.int .u64 0)]) true).2 A n' d' B e
    simp only [if_true] at hk
    simp (config:=KF) (disch:=omega) only [bZ,aI,ev_f,putS,Sf.set,Sf.reg,getR,setR,aD,da,id,↓reduceIte,Nat.reduceEqDiff,Nat.reduceAdd,reduceCtorEq,Nat.zero_add,f61_1e,f61_2e,f61_2l,f61_3e,f61_4e,f61_5e,f61_6e,f61_6l]
    refine cF rfl e_f59 h.z rfl ?_
    simp (config:=KF) (disch:=omega) only [bZ,bG,retI,aS,AI.dst,ck,c8,fH,cf,ca,ce,gm,bH,iz,dT,cV,extV,bK,cB,boxX,d9,addA,a8,dx,fw,j1,dG,dH,putS,Sf.set,Sf.reg,getR,setR,aD,Sf.disAt,Sf.newLoc,Sf.setLoc,look,gh,fo,dK,dD,ei,dk,dW,kY,cP,bU,cR,ey,eI,gn,eA,j0,List.length_cons,List.length_nil,List.getElem?_cons_zero,List.getElem?_cons_succ,List.all_cons,List.all_nil,List.drop_zero,List.drop_succ_cons,↓reduceIte,Nat.reduceEqDiff,Nat.reduceAdd,Nat.reduceLeDiff,Bool.true_and,Bool.and_true,and_true,true_and,reduceCtorEq,Nat.zero_add,Nat.add_zero,Bool.false_eq_true,dL,d8,cD,b4,f61_7e,f61_10e,f61_11e,f61_11l,f61_12e,f61_15e,f61_16e,f61_17e,f61_17l,f61_18e,f61_19e,f61_19l,f61_20e,f61_21e,f61_22e,f61_22l,hg,h65,hk,seAV]
    exact hQ _
  · rw [if_neg hm] at hQ
    have hk:=(h.look t (.agg [.lit (.int .i64 0),.lit (.int .u64 0),.lit (.int .u64 0)]) true).1 hm
    simp only [if_true] at hk
    simp (config:=KF) (disch:=omega) only [bZ,aI,ev_f,putS,Sf.set,Sf.reg,getR,setR,aD,da,id,↓reduceIte,Nat.reduceEqDiff,Nat.reduceAdd,reduceCtorEq,Nat.zero_add,f61_1e,f61_2e,f61_2l,f61_3e,f61_4e,f61_5e,f61_6e,f61_6l]
    refine cF rfl e_f59 h.z rfl ?_
    simp (config:=KF) (disch:=omega) only [bZ,bG,retI,aS,AI.dst,ck,c8,fH,cf,ca,ce,gm,bH,iz,dT,cV,extV,bK,cB,boxX,d9,addA,a8,dx,fw,j1,dG,dH,putS,Sf.set,Sf.reg,getR,setR,aD,Sf.disAt,Sf.newLoc,Sf.setLoc,look,gh,fo,dK,dD,ei,dk,dW,kY,cP,bU,cR,ey,eI,gn,eA,j0,List.length_cons,List.length_nil,List.getElem?_cons_zero,List.getElem?_cons_succ,List.all_cons,List.all_nil,List.drop_zero,List.drop_succ_cons,↓reduceIte,Nat.reduceEqDiff,Nat.reduceAdd,Nat.reduceLeDiff,Bool.true_and,Bool.and_true,and_true,true_and,reduceCtorEq,Nat.zero_add,Nat.add_zero,Bool.false_eq_true,dL,d8,cD,b4,f61_7e,f61_10e,f61_11e,f61_11l,f61_12e,f61_15e,f61_16e,f61_17e,f61_17l,f61_18e,f61_19e,f61_19l,f61_20e,f61_23e,f61_24e,f61_24l,hg,h65,hk]
    exact hQ _

theorem jI (h:SmIs st b q mid wid sz nw H V g) {i x:Int} (h0:0≤i∧i < 64) (h1:0≤getH H i + x) (h2:H.sum + x≤sz) :
    dt Go.Proofs.Try.prog n_f63 [.ptr b 0,.lit (.int .i64 i),.lit (.int .i64 x)] st (fun r st'=>r = .tup []∧SmIs st' b q mid wid sz nw (addH H i x) V g∧Oth st st' [b]):=by
  have hg:=h.get
  have hlt:=fA hg
  have hgb:=h.getb h0.1 h0.2
  have hsz:=h.szb
  have hs0:=h.sum0
  have hii:i.toNat < H.length:=by rw [h.hl]; omega
  refine dN hmix k_f63 rfl rfl fun Q hQ=>?_
  unfold aFun c_f63
  obtain ⟨r,hr⟩:=qq (sz:=sz) (lf:=sz - H.sum) (nw:=nw) (q:=q) (wid:=wid) h.hl (i:=i) h0.1 h0.2
  have hst:∀ y,(smC sz (sz - H.sum) nw H q wid).set (3 + i.toNat) (.lit (.int .i64 y)) = smC sz (sz - H.sum) nw (H.set i.toNat y) q wid:=fun y=>smC_set hii
  have hgs:∀ cs,(st.set b cs).get b = some cs:=fun cs=>el hlt
  simp (config:=KF) (disch:=omega) only [bZ,fp,ek,fq,lc,e7,n7,dU,eJ,dz,dA,kT,retI,resL,cf,o_ixA,ca,ce,dT,bK,cB,boxX,d9,ixA,addA,a8,gC,n_sub,cE,dG,dH,putS,Sf.set,Sf.reg,getR,setR,aD,Sf.disAt,dn,da,cN,bU,cR,dE,List.length_cons,List.length_nil,List.all_cons,List.all_nil,List.drop_zero,List.drop_succ_cons,List.set_cons_zero,List.set_cons_succ,Int.cast_ofNat_Int,↓reduceIte,Nat.reduceEqDiff,Nat.reduceAdd,Nat.reduceLeDiff,Bool.true_and,Bool.and_true,and_true,true_and,reduceCtorEq,Nat.zero_add,dC,IntWalk.i64_in,dI,cD,b4,np,Nat.mul_one,f63_1e,f63_2e,f63_2h,f63_2l,f63_3e,f63_3l,hg,hr,hst,hgs]
  have hsum:=addH_sum H i x hii
  refine ⟨by simp only [hC,List.length_append,eZ,h.hl,List.length_cons,List.length_nil]; omega,hQ _ _ ⟨rfl,?_,Oth.set _ _ _ (by simp)⟩⟩
  obtain ⟨W,w1,w2,m,w3,w4⟩:=h.qi
  obtain ⟨i1,i2,i3,i4,i5⟩:=h.ids
  refine ⟨?_,⟨W,w1,w2.oth (Oth.set _ _ _ (S:=[b]) (by simp)) (by simp; omega) (by simp; omega),m,w3.oth (Oth.set _ _ _ (S:=[b]) (by simp)) (by simp; omega),w4⟩,by rw [addH_len]; exact h.hl,fun y hy=>?_,by omega,h.szb,h.nwb,h.nd,h.wk,h.ids⟩
  · rw [hgs,hsum,show sz - (H.sum + x) = sz - H.sum - x by omega]; rfl
  · unfold addH at hy
    rcases List.mem_or_eq_of_mem_set hy with hy | rfl
    · exact h.hb y hy
    · exact h1
end
end Go.Fx.YtddifejdkiemgaaFx

