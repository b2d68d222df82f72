/- What the functions that the statement reaches compute: part 20. -/
import Derived.Test.YtddifejdkiemgaaFxW19
namespace Go.Fx.YtddifejdkiemgaaFx
open Go Go.Fx
attribute [local irreducible] aC runI dg ep

set_option maxRecDepth 100000
set_option maxHeartbeats 8000000

def saAV (a:St5):AV:=.agg [.lit (.int .i64 a.1),.lit (.int .i64 a.2.1),.lit (.int .i64 a.2.2.1),.lit (.int .u64 a.2.2.2)]
def ssAV (l:List St5):AV:=.sl false 4 (l.map saAV)

theorem qk (sz:Int) (H:List Int) (V:List Vt) (t n:Int):(srvd (sRel sz H V t n).2.2.1).Sublist (vtk V)∧(sRel sz H V t n).2.2.1.length≤V.length:=by
  unfold sRel
  simp only
  split
  · exact ⟨by simp [srvd],by simp⟩
  split
  · exact ⟨by simp [srvd],by simp⟩
  · have:=jA sz V (addH H t (0 - n))
    exact ⟨srvd_pre _ _ _,by simp only; omega⟩
theorem ql (sz:Int) (H:List Int) (V:List Vt) (t:Int):(srvd (sCan sz H V t).2.2.1).Sublist (vtk V)∧(sCan sz H V t).2.2.1.length≤V.length:=by
  unfold sCan
  split
  · exact ⟨by simp [srvd],by simp⟩
  split
  · exact ⟨by simp [srvd],by simp⟩
  · have:=jA sz (kz V t) H
    have h2:(kz V t).length≤V.length:=List.length_filter_le _ _
    exact ⟨(srvd_pre _ _ _).trans (vtk_sub List.filter_sublist),by simp only; omega⟩
theorem qm (sz nw:Int) (H:List Int) (V:List Vt) (to:Int) (hto:to≤nev):(srvd (sAdv sz nw H V to).1.2.2.1).Sublist (vtk V)∧(sAdv sz nw H V to).1.2.2.1.length≤V.length:=by
  unfold sAdv
  split
  · exact ⟨by simp [srvd],by simp⟩
  · rename_i hc
    have:=adv_len sz to (by omega) (V.length + 1) H V
    exact ⟨srvd_adv _ _ _ _ _,by simp only; omega⟩
theorem qn (sz nw:Int) (H:List Int) (V:List Vt) (g:Nat) (t n d:Int):((sAcq sz nw H V g t n d).1.2.1 = V∨(sAcq sz nw H V g t n d).1.2.1 = V++[(t,n,d)])∧(sAcq sz nw H V g t n d).1.2.2≤g + 1:=by
  unfold sAcq
  simp only
  split
  · exact ⟨.inl rfl,by simp⟩
  split
  · exact ⟨.inl rfl,by simp⟩
  split
  · exact ⟨.inl rfl,by simp⟩
  split
  · exact ⟨.inl rfl,by simp⟩
  · exact ⟨.inr rfl,by simp⟩

theorem sholds_loop {b q mid wid:Nat} {sz:Int} {st0:St} {H0:List Int} (h0:SmIs st0 b q mid wid sz 0 H0 [] 0) (l:List St5) (hl:l.length≤40) (hd:∀ a ∈ l,0≤a.2.2.2∧a.2.2.2≤nev) (Q:Exit→Sf→St→Prop)
    (hQ:∀ st,Q (.exit 0) ⟨[],[]⟩ st) :
    aC Go.Proofs.Try.prog id false f10_21 ⟨[(0,.lit (.int .i64 sz)),(1,ssAV l),(5,.ptr b 0),(7,.lit (.int .i64 0))],[]⟩ st0 Q:=by
  rw [f10_21w]
  refine im (A:=Nat×Int×List Int×List Vt×Nat×St) (fun a=>l.length - a.1) (fun a=>⟨[(0,.lit (.int .i64 sz)),(1,ssAV l),(5,.ptr b 0),(7,.lit (.int .i64 (a.1:Nat)))],[]⟩) (fun a=>a.2.2.2.2.2)
    (fun a=>a.1≤l.length∧SmIs a.2.2.2.2.2 b q mid wid sz a.2.1 a.2.2.1 a.2.2.2.1 a.2.2.2.2.1∧a.2.2.2.2.1≤a.1) (0,0,H0,[],0,st0) ⟨by simp,h0,by simp⟩ (Sf.le_refl _) rfl ?_
  rintro ⟨i,nw,H,V,g,st⟩ ⟨h1,h2,h3⟩ K hK hKe hKr
  simp only at h1 h2 h3
  have hml:(l.map saAV).length = l.length:=by simp
  have hcn:=h2.cnt
  have hvl:(vtk V).length = V.length:=by simp [vtk]
  by_cases hi:i < l.length
  · obtain ⟨⟨w,t,n,d⟩,hw⟩:∃ a,a = l[i]:=⟨_,rfl⟩
    have hdd:=hd l[i] (List.getElem_mem hi)
    rw [← hw] at hdd
    have e1:(l.map saAV).getD i .any = .agg [.lit (.int .i64 w),.lit (.int .i64 t),.lit (.int .i64 n),.lit (.int .u64 d)]:=by simp [List.getD,hi,← hw,saAV]
    have hgo:∀ (nw':Int) (H':List Int) (V':List Vt) (g':Nat) (st':St) (v:AV) (gr:List Gt),SmIs st' b q mid wid sz nw' H' V' g'→g'≤i + 1→GB v st' gr→gr.length≤V.length→(srvd gr).Sublist (vtk V) →
        (w = 0∨w = 1→vtk V≠[]→(vtk V).length≤(vtk V').length∧(vtk V').head? = (vtk V).head?) →
        aC Go.Proofs.Try.prog id false f10_55 ⟨[(0,.lit (.int .i64 sz)),(1,ssAV l),(5,.ptr b 0),(7,.lit (.int .i64 (i:Nat))),(8,.sl false 1 (ints (vtk V))),(9,.lptr 9 0),(10,v)],[(9,[.lit (.int .i64 w),.lit (.int .i64 t),.lit (.int .i64 n),.lit (.int .u64 d)])]⟩ st' (jL 1 (seqQ (aC Go.Proofs.Try.prog id false f10_107) K)):=by
      intro nw' H' V' g' st' v gr a1 a2 a3 a4 a5 a6
      refine holds_tail a1 (ssAV l) i (vtk V) w t n d v gr a3 (by omega) (by omega) a5 a6 _ fun s hsub=>?_
      have hnx:=hK (i + 1,nw',H',V',g',s) ⟨[(0,.lit (.int .i64 sz)),(1,ssAV l),(5,.ptr b 0),(7,.lit (.int .i64 ((i:Int) + 1)))],[]⟩ ⟨by simp only; omega,a1.sub hsub,a2⟩ (by simp only; omega) (Sf.le_refl _)
      simp (config:=KF) (disch:=omega) only [bZ,bG,bH,gC,putS,Sf.set,Sf.reg,getR,setR,aD,Sf.disAt,↓reduceIte,Nat.reduceEqDiff,reduceCtorEq,IntWalk.i64_in,fk,f10_107e,f10_107l]
      exact hnx
    have hsrv0:(srvd ([]:List Gt)).Sublist (vtk V):=by simp [srvd]
    have hWa:=io h2
    have hat:∀ st1,(∀ id,id < st.boxes.length→st1.boxes[id]? = st.boxes[id]?)→SmIs st1 b q mid wid sz nw H V g:=fun st1 k=>by
      have hlt:=h2.lts
      exact h2.at fun j hj=>k j (hlt j hj)
    unfold ssAV at hgo ⊢
    simp (config:=KF) (disch:=omega) only [bZ,er,aI,lenI,dx,ev_f,putS,Sf.set,Sf.reg,getR,setR,aD,id,di,↓reduceIte,Nat.reduceEqDiff,reduceCtorEq,cU,f10_22e,f10_23e,f10_24e,f10_24l,f10_25e,f10_26e,f10_27e,f10_28e,f10_29e,f10_29l,hml]
    refine du rfl e_f34 hWa rfl fun r st1 hr=>?_
    obtain ⟨rfl,_,k1⟩:=hr
    have h4:=hat st1 k1
    by_cases w0:w = 0
    · subst w0
      simp (config:=KF) (disch:=omega) only [bZ,cf,kV,ca,bH,iz,dT,aI,ixSV,bK,boxX,d9,ixA,addA,a8,dR,fa,cE,eY,ev_f,dG,dH,putS,Sf.set,Sf.reg,getR,setR,aD,Sf.disAt,Sf.newLoc,Sf.setLoc,look,gh,fo,id,di,dD,dk,cP,bU,cR,ey,eI,jZ,ni,eA,List.length_cons,List.length_nil,List.all_cons,List.all_nil,List.drop_zero,List.drop_succ_cons,List.take_succ_cons,List.take_zero,List.set_cons_zero,List.set_cons_succ,Int.toNat_natCast,↓reduceIte,Nat.reduceEqDiff,Nat.reduceAdd,Nat.reduceLeDiff,Bool.true_and,Bool.and_true,and_true,true_and,reduceCtorEq,Nat.zero_add,Nat.add_zero,decide_true,dC,dI,cD,b4,f10_30e,f10_31e,f10_31l,f10_32e,f10_33e,f10_33l,f10_34e,f10_35e,f10_36e,f10_36l,f10_37e,f10_38e,f10_39e,f10_39l,f10_40e,f10_41e,f10_41l,hml,e1]
      refine du rfl e_f35 (qs h4 (by omega) hdd.2) rfl fun r st2 hr=>?_
      obtain ⟨rfl,a1,a2⟩:=hr
      obtain ⟨f1,f2⟩:=qn sz nw H V g t n d
      have hf:=hgo _ _ _ _ _ (.lit (.slice none 0 0)) [] a1 (by omega) (.inl ⟨rfl,rfl⟩) (by simp) hsrv0 (fun _ hne=>by
        rcases f1 with e | e <;> rw [e]
        · exact ⟨Nat.le_refl _,rfl⟩
        · rw [o8]
          refine ⟨by simp,?_⟩
          cases hv:vtk V with
          | nil=>exact absurd hv hne
          | cons x xs=>rfl)
      simp (config:=KF) (disch:=omega) only [bZ,bG,putS,Sf.set,getR,setR,aD,look,↓reduceIte,Nat.reduceEqDiff,reduceCtorEq]
      exact hf
    by_cases w1:w = 1
    · subst w1
      simp (config:=KF) (disch:=omega) only [bZ,cf,kV,ca,bH,iz,dT,aI,ixSV,bK,boxX,d9,ixA,addA,a8,dR,fa,cE,eY,ev_f,dG,dH,putS,Sf.set,Sf.reg,getR,setR,aD,Sf.disAt,Sf.newLoc,Sf.setLoc,look,gh,fo,id,di,dD,dk,cP,bU,cR,ey,eI,jZ,ni,eA,List.length_cons,List.length_nil,List.all_cons,List.all_nil,List.drop_zero,List.drop_succ_cons,List.take_succ_cons,List.take_zero,List.set_cons_zero,List.set_cons_succ,Int.toNat_natCast,↓reduceIte,Nat.reduceEqDiff,Nat.reduceAdd,Nat.reduceLeDiff,Int.reduceEq,Bool.true_and,Bool.and_true,and_true,true_and,reduceCtorEq,Nat.zero_add,Nat.add_zero,decide_true,decide_false,dC,dI,cD,b4,f10_30e,f10_31e,f10_31l,f10_32e,f10_33e,f10_33l,f10_34e,f10_35e,f10_36e,f10_36l,f10_37e,f10_38e,f10_39e,f10_39l,f10_40e,f10_42e,f10_43e,f10_43l,f10_44e,f10_45e,f10_45l,hml,e1]
      refine du rfl e_f36 (qt h4 t n) rfl fun r st2 hr=>?_
      obtain ⟨rfl,a1,a2⟩:=hr
      have hf:=hgo _ _ _ _ _ (.lit (.slice none 0 0)) [] a1 (by omega) (.inl ⟨rfl,rfl⟩) (by simp) hsrv0 (fun _ hne=>⟨Nat.le_refl _,rfl⟩)
      simp (config:=KF) (disch:=omega) only [bZ,bG,putS,Sf.set,getR,setR,aD,look,↓reduceIte,Nat.reduceEqDiff,reduceCtorEq]
      exact hf
    by_cases w2:w = 2
    · subst w2
      simp (config:=KF) (disch:=omega) only [bZ,cf,kV,ca,bH,iz,dT,aI,ixSV,bK,boxX,d9,ixA,addA,a8,dR,fa,cE,eY,ev_f,dG,dH,putS,Sf.set,Sf.reg,getR,setR,aD,Sf.disAt,Sf.newLoc,Sf.setLoc,look,gh,fo,id,di,dD,dk,cP,bU,cR,ey,eI,jZ,ni,eA,List.length_cons,List.length_nil,List.all_cons,List.all_nil,List.drop_zero,List.drop_succ_cons,List.take_succ_cons,List.take_zero,List.set_cons_zero,List.set_cons_succ,Int.toNat_natCast,↓reduceIte,Nat.reduceEqDiff,Nat.reduceAdd,Nat.reduceLeDiff,Int.reduceEq,Bool.true_and,Bool.and_true,and_true,true_and,reduceCtorEq,Nat.zero_add,Nat.add_zero,decide_true,decide_false,dC,dI,cD,b4,f10_30e,f10_31e,f10_31l,f10_32e,f10_33e,f10_33l,f10_34e,f10_35e,f10_36e,f10_36l,f10_37e,f10_38e,f10_39e,f10_39l,f10_40e,f10_42e,f10_43e,f10_43l,f10_44e,f10_46e,f10_47e,f10_47l,f10_48e,f10_49e,f10_49l,hml,e1]
      refine du rfl e_f37 (ma h4 (by omega) t n) rfl fun r st2 hr=>?_
      obtain ⟨v,rfl,a1,a2,_⟩:=hr
      obtain ⟨f1,f2⟩:=qk sz H V t n
      have hf:=hgo _ _ _ _ _ v _ a2 (by omega) a1 f2 f1 (fun e=>by omega)
      rcases a1.k with rfl | ⟨ib,ln,cap,rfl⟩
      all_goals
        simp (config:=KF) (disch:=omega) only [bZ,bG,fH,bH,extV,putS,Sf.set,Sf.reg,getR,setR,aD,Sf.disAt,look,ei,d4,dW,kq,List.getElem?_cons_zero,List.getElem?_cons_succ,↓reduceIte,Nat.reduceEqDiff,reduceCtorEq]
        exact hf
    by_cases w3:w = 3
    · subst w3
      simp (config:=KF) (disch:=omega) only [bZ,cf,kV,ca,bH,iz,dT,aI,ixSV,bK,boxX,d9,ixA,addA,a8,dR,fa,cE,eY,ev_f,dG,dH,putS,Sf.set,Sf.reg,getR,setR,aD,Sf.disAt,Sf.newLoc,Sf.setLoc,look,gh,fo,id,di,dD,dk,cP,bU,cR,ey,eI,jZ,ni,eA,List.length_cons,List.length_nil,List.all_cons,List.all_nil,List.drop_zero,List.drop_succ_cons,List.take_succ_cons,List.take_zero,List.set_cons_zero,List.set_cons_succ,Int.toNat_natCast,↓reduceIte,Nat.reduceEqDiff,Nat.reduceAdd,Nat.reduceLeDiff,Int.reduceEq,Bool.true_and,Bool.and_true,and_true,true_and,reduceCtorEq,Nat.zero_add,Nat.add_zero,decide_true,decide_false,dC,dI,cD,b4,f10_30e,f10_31e,f10_31l,f10_32e,f10_33e,f10_33l,f10_34e,f10_35e,f10_36e,f10_36l,f10_37e,f10_38e,f10_39e,f10_39l,f10_40e,f10_42e,f10_43e,f10_43l,f10_44e,f10_46e,f10_47e,f10_47l,f10_48e,f10_50e,f10_51e,f10_51l,f10_52e,f10_53e,f10_53l,hml,e1]
      refine du rfl e_f38 (qw h4 (by omega) t) rfl fun r st2 hr=>?_
      obtain ⟨v,rfl,a1,a2,_⟩:=hr
      obtain ⟨f1,f2⟩:=ql sz H V t
      have hf:=hgo _ _ _ _ _ v _ a2 (by omega) a1 f2 f1 (fun e=>by omega)
      rcases a1.k with rfl | ⟨ib,ln,cap,rfl⟩
      all_goals
        simp (config:=KF) (disch:=omega) only [bZ,bG,fH,bH,extV,putS,Sf.set,Sf.reg,getR,setR,aD,Sf.disAt,look,ei,d4,dW,kq,List.getElem?_cons_zero,List.getElem?_cons_succ,↓reduceIte,Nat.reduceEqDiff,reduceCtorEq]
        exact hf
    · simp (config:=KF) (disch:=omega) only [bZ,cf,kV,ca,bH,iz,dT,aI,ixSV,bK,boxX,d9,ixA,addA,a8,dR,fa,cE,eY,ev_f,dG,dH,putS,Sf.set,Sf.reg,getR,setR,aD,Sf.disAt,Sf.newLoc,Sf.setLoc,look,gh,fo,id,di,dD,dk,cP,bU,cR,ey,eI,jZ,ni,eA,List.length_cons,List.length_nil,List.all_cons,List.all_nil,List.drop_zero,List.drop_succ_cons,List.take_succ_cons,List.take_zero,List.set_cons_zero,List.set_cons_succ,Int.toNat_natCast,↓reduceIte,Nat.reduceEqDiff,Nat.reduceAdd,Nat.reduceLeDiff,Bool.true_and,Bool.and_true,and_true,true_and,reduceCtorEq,Nat.zero_add,Nat.add_zero,decide_true,decide_false,dC,dI,cD,b4,f10_30e,f10_31e,f10_31l,f10_32e,f10_33e,f10_33l,f10_34e,f10_35e,f10_36e,f10_36l,f10_37e,f10_38e,f10_39e,f10_39l,f10_40e,f10_42e,f10_43e,f10_43l,f10_44e,f10_46e,f10_47e,f10_47l,f10_48e,f10_50e,f10_51e,f10_51l,f10_52e,f10_54e,f10_54l,hml,e1,w0,w1,w2,w3]
      refine du rfl e_f39 (l5 h4 (by omega) d hdd.1 hdd.2) rfl fun r st2 hr=>?_
      obtain ⟨v,rfl,a1,a2,_⟩:=hr
      obtain ⟨f1,f2⟩:=qm sz nw H V d hdd.2
      have hf:=hgo _ _ _ _ _ v _ a2 (by omega) a1 f2 f1 (fun e=>by omega)
      rcases a1.k with rfl | ⟨ib,ln,cap,rfl⟩
      all_goals
        simp (config:=KF) (disch:=omega) only [bZ,bG,fH,bH,extV,putS,Sf.set,Sf.reg,getR,setR,aD,Sf.disAt,look,ei,d4,dW,kq,List.getElem?_cons_zero,List.getElem?_cons_succ,↓reduceIte,Nat.reduceEqDiff,reduceCtorEq]
        exact hf
  · unfold ssAV
    simp (config:=KF) (disch:=omega) only [bZ,en,fP,er,lenI,dx,putS,Sf.set,Sf.reg,getR,setR,aD,di,↓reduceIte,Nat.reduceEqDiff,reduceCtorEq,dL,f10_22e,f10_23e,f10_24e,f10_24l,f10_25e,hml]
    refine hKe _ _ _ ?_
    exact hQ _

theorem l8 (sz:Int) (l:List St5) (hd:∀ a ∈ l,0≤a.2.2.2∧a.2.2.2≤nev):dt Go.Proofs.Try.prog n_f10 [.lit (.int .i64 sz),ssAV l] ⟨[]⟩ (fun v _=>v = .lit (.bool true)):=by
  refine dN hmix k_f10 rfl rfl fun Q hQ=>?_
  unfold aFun c_f10
  have hml:(l.map saAV).length = l.length:=by simp
  by_cases hb:sz < 1∨1048576 < sz
  · have hne:=snew_err (sz:=sz) (nw:=0) (hb.imp_right .inl) ⟨[]⟩
    unfold ssAV
    by_cases h1:sz < 1
    · simp (config:=KF) (disch:=omega) only [bZ,aI,ev_f,putS,Sf.set,Sf.reg,getR,setR,aD,da,id,di,↓reduceIte,Nat.reduceEqDiff,reduceCtorEq,Nat.zero_add,f10_1e,f10_2e,f10_2l,f10_3e,f10_4e,f10_4l]
      refine cF rfl e_f29 hne rfl ?_
      simp (config:=KF) (disch:=omega) only [bZ,aS,eX,AI.dst,dY,c8,fH,bH,aI,ea,extV,dx,ev_f,putS,Sf.set,Sf.reg,getR,setR,aD,Sf.disAt,id,ei,dW,List.getElem?_cons_zero,List.getElem?_cons_succ,↓reduceIte,Nat.reduceEqDiff,reduceCtorEq,Bool.false_eq_true,fd,f10_5e,f10_6e,f10_7e,f10_7l,f10_8e,f10_9e,f10_10e,f10_10l]
      refine du rfl e_f31 (nz _) rfl fun r st1 hr=>?_
      subst hr
      simp (config:=KF) (disch:=omega) only [bZ,retI,bH,putS,Sf.set,Sf.reg,getR,setR,aD,Sf.disAt,↓reduceIte,Nat.reduceEqDiff,Bool.true_and,true_and,reduceCtorEq]
      exact hQ _ _ rfl
    · have h2:1000 < sz:=by omega
      simp (config:=KF) (disch:=omega) only [bZ,aI,ev_f,putS,Sf.set,Sf.reg,getR,setR,aD,da,id,di,↓reduceIte,Nat.reduceEqDiff,reduceCtorEq,Nat.zero_add,f10_1e,f10_2e,f10_2l,f10_3e,f10_4e,f10_4l]
      refine cF rfl e_f29 hne rfl ?_
      simp (config:=KF) (disch:=omega) only [bZ,aS,eX,AI.dst,dY,ck,c8,fH,bH,aI,ea,cV,extV,dx,fw,ev_f,putS,Sf.set,Sf.reg,getR,setR,aD,Sf.disAt,id,ei,dW,List.getElem?_cons_zero,List.getElem?_cons_succ,↓reduceIte,Nat.reduceEqDiff,reduceCtorEq,Bool.false_eq_true,fd,d8,f10_5e,f10_6e,f10_7e,f10_7l,f10_8e,f10_9e,f10_10e,f10_10l]
      refine du rfl e_f31 (nz _) rfl fun r st1 hr=>?_
      subst hr
      simp (config:=KF) (disch:=omega) only [bZ,retI,bH,putS,Sf.set,Sf.reg,getR,setR,aD,Sf.disAt,↓reduceIte,Nat.reduceEqDiff,Bool.true_and,true_and,reduceCtorEq]
      exact hQ _ _ rfl
  have hsz:1≤sz∧sz≤1048576:=by omega
  have hnew:=qr hsz (nw:=0) ⟨by omega,by decide⟩ ⟨[]⟩
  generalize (St.boxes ⟨[]⟩).length + 3 = b at *
  generalize (St.boxes ⟨[]⟩).length + 1 = q at *
  generalize (St.boxes ⟨[]⟩).length + 2 = wid at *
  generalize (St.boxes ⟨[]⟩).length = mid at *
  by_cases h1:1000 < sz
  · unfold ssAV
    simp (config:=KF) (disch:=omega) only [bZ,aI,ev_f,putS,Sf.set,Sf.reg,getR,setR,aD,da,id,di,↓reduceIte,Nat.reduceEqDiff,reduceCtorEq,Nat.zero_add,f10_1e,f10_2e,f10_2l,f10_3e,f10_4e,f10_4l]
    refine du rfl e_f29 hnew rfl fun r st0 hr=>?_
    obtain ⟨rfl,h0,_⟩:=hr
    simp (config:=KF) (disch:=omega) only [bZ,aS,eX,AI.dst,dY,ck,c8,fH,bH,aI,ea,cV,extV,dx,fw,ev_f,putS,Sf.set,Sf.reg,getR,setR,aD,Sf.disAt,id,ei,dW,kX,List.getElem?_cons_zero,List.getElem?_cons_succ,↓reduceIte,Nat.reduceEqDiff,reduceCtorEq,Bool.false_eq_true,fd,d8,f10_5e,f10_6e,f10_7e,f10_7l,f10_8e,f10_9e,f10_10e,f10_10l]
    refine du rfl e_f31 (nz _) rfl fun r st1 hr=>?_
    subst hr
    simp (config:=KF) (disch:=omega) only [bZ,retI,bH,putS,Sf.set,Sf.reg,getR,setR,aD,Sf.disAt,↓reduceIte,Nat.reduceEqDiff,Bool.true_and,true_and,reduceCtorEq]
    exact hQ _ _ rfl
  by_cases h3:40 < l.length
  · unfold ssAV
    simp (config:=KF) (disch:=omega) only [bZ,aI,ev_f,putS,Sf.set,Sf.reg,getR,setR,aD,da,id,di,↓reduceIte,Nat.reduceEqDiff,reduceCtorEq,Nat.zero_add,f10_1e,f10_2e,f10_2l,f10_3e,f10_4e,f10_4l]
    refine du rfl e_f29 hnew rfl fun r st0 hr=>?_
    obtain ⟨rfl,h0,_⟩:=hr
    simp (config:=KF) (disch:=omega) only [bZ,aS,AI.dst,ck,c8,fH,er,bH,aI,cV,extV,lenI,dx,fw,ev_f,putS,Sf.set,Sf.reg,getR,setR,aD,Sf.disAt,id,di,ei,dW,kX,List.getElem?_cons_zero,List.getElem?_cons_succ,↓reduceIte,Nat.reduceEqDiff,reduceCtorEq,Bool.false_eq_true,cU,d8,f10_5e,f10_6e,f10_7e,f10_7l,f10_8e,f10_9e,f10_10e,f10_10l,hml]
    refine du rfl e_f31 (nz _) rfl fun r st1 hr=>?_
    subst hr
    simp (config:=KF) (disch:=omega) only [bZ,retI,bH,putS,Sf.set,Sf.reg,getR,setR,aD,Sf.disAt,↓reduceIte,Nat.reduceEqDiff,Bool.true_and,true_and,reduceCtorEq]
    exact hQ _ _ rfl
  have hlp:=fun st0 H0 h0=>sholds_loop (b:=b) (q:=q) (mid:=mid) (wid:=wid) (sz:=sz) (st0:=st0) (H0:=H0) h0 l (by omega) hd
  unfold ssAV at hlp ⊢
  simp (config:=KF) (disch:=omega) only [bZ,aI,ev_f,putS,Sf.set,Sf.reg,getR,setR,aD,da,id,di,↓reduceIte,Nat.reduceEqDiff,reduceCtorEq,Nat.zero_add,f10_1e,f10_2e,f10_2l,f10_3e,f10_4e,f10_4l]
  refine du rfl e_f29 hnew rfl fun r st0 hr=>?_
  obtain ⟨rfl,h0,_⟩:=hr
  simp (config:=KF) (disch:=omega) only [bZ,aS,AI.dst,ck,c8,fH,er,bH,cV,extV,lx,iw,fv,lenI,eE,dx,fw,putS,Sf.set,Sf.reg,getR,setR,aD,Sf.disAt,di,ei,dW,kX,List.getElem?_cons_zero,List.getElem?_cons_succ,↓reduceIte,Nat.reduceEqDiff,reduceCtorEq,not_true_eq_false,decide_false,Bool.false_eq_true,dL,d8,f10_5e,f10_6e,f10_7e,f10_7l,f10_8e,f10_11e,f10_12e,f10_13e,f10_13l,f10_14e,f10_17e,f10_18e,f10_19e,f10_19l,f10_20e,hml]
  refine hlp st0 _ h0 _ fun st1=>?_
  simp (config:=KF) (disch:=omega) only [bZ,dV,aI,ev_f,id,↓reduceIte,f10_108e,f10_109e,f10_109l]
  refine du rfl e_f31 (nz _) rfl fun r st1 hr=>?_
  subst hr
  simp (config:=KF) (disch:=omega) only [bZ,retI,bH,putS,Sf.set,Sf.reg,getR,setR,aD,Sf.disAt,↓reduceIte,Nat.reduceEqDiff,Bool.true_and,true_and]
  exact hQ _ _ rfl

theorem ss_lit (l:List (Int×Int×Int×Int×Unit)):AV.sl false 4 (l.map fun x=>.agg [.lit (.int .i64 x.1),.lit (.int .i64 x.2.1),.lit (.int .i64 x.2.2.1),.lit (.int .u64 x.2.2.2.1)]) = ssAV (l.map fun x=>(x.1,x.2.1,x.2.2.1,x.2.2.2.1)):=by
  simp only [ssAV,List.map_map]; rfl
theorem l9 {sz:Int} {l:List (Int×Int×Int×Int×Unit)} (hd:∀ x ∈ l,0≤x.2.2.2.1∧x.2.2.2.1≤nev):dt Go.Proofs.Try.prog n_f10 [.lit (.int .i64 sz),.sl false 4 (l.map fun x=>.agg [.lit (.int .i64 x.1),.lit (.int .i64 x.2.1),.lit (.int .i64 x.2.2.1),.lit (.int .u64 x.2.2.2.1)])] ⟨[]⟩ (fun v _=>v = .lit (.bool true)):=by
  rw [ss_lit]
  refine l8 sz _ fun a ha=>?_
  obtain ⟨x,hx,rfl⟩:=List.mem_map.1 ha
  exact hd x hx
end Go.Fx.YtddifejdkiemgaaFx

