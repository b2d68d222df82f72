/- What the functions that the statement reaches compute: part 3. -/
import Derived.Test.YtddifejdkiemgaaFxW2
namespace Go.Fx.YtddifejdkiemgaaFx
open Go Go.Fx
attribute [local irreducible] aC runI dg ep

set_option maxRecDepth 100000
set_option maxHeartbeats 4000000

theorem sw {mid:Nat} {m:List (Int×Nd)} {st:St} (h:MapIs st mid .u64 ndAV m):dt Go.Proofs.Try.prog n_f77 [.map mid] st (fun r st'=>r = .map st.boxes.length∧st' = st.push (.mp (encM .u64 ndAV m) (st.getB mid).1 (st.getB mid).2)):=by
  refine dN hmix k_f77 rfl rfl fun Q hQ=>?_
  unfold aFun c_f77
  have hg:=h.get
  simp (config:=KF) (disch:=omega) only [bZ,retI,m9,o_mkif,o_tas,bH,o_x,tasV,mkifV,eg,lx,iw,fv,putS,Sf.set,Sf.reg,getR,setR,aD,Sf.disAt,da,dK,kr,noL_map,↓reduceIte,Nat.reduceEqDiff,Bool.true_and,true_and,reduceCtorEq,f77_1e,f77_2e,f77_2l,f77_3e,f77_4e,f77_5e,f77_5l,f77_6e,f77_9e,f77_10e,f77_10l,mI,hg]
  exact hQ _ _ ⟨rfl,rfl⟩

/-- A copy of a queue: new boxes only. -/
theorem qcopy_calls {q mid g:Nat} {L:Qu} {st:St} (h:QIs st q mid L g):dt Go.Proofs.Try.prog n_f67 [.ptr q 0] st
    (fun r st'=>r = .ptr (st.boxes.length + 1) 0∧QIs st' (st.boxes.length + 1) st.boxes.length L g∧st'.boxes.length = st.boxes.length + 2∧∀ id,id < st.boxes.length→st'.boxes[id]? = st.boxes[id]?):=by
  refine dN hmix k_f67 rfl rfl fun Q hQ=>?_
  unfold aFun c_f67
  have hg:=h.get
  obtain ⟨m,hm,hl,hml⟩:=h.mp
  simp (config:=KF) (disch:=omega) only [bZ,aI,ev_f,putS,Sf.set,Sf.reg,getR,setR,aD,da,id,↓reduceIte,reduceCtorEq,f67_1e,f67_2e,f67_2l,f67_3e,f67_4e,f67_5e,f67_5l]
  refine cF rfl e_f68 (iD hg) rfl ?_
  simp (config:=KF) (disch:=omega) only [bZ,putS,Sf.set,Sf.reg,getR,setR,aD,↓reduceIte,Nat.reduceEqDiff,Bool.true_and,true_and,reduceCtorEq,f67_6e,f67_9e,f67_10e,f67_10h,f67_10p,f67_10l]
  refine draw_s ?_
  simp (config:=KF) (disch:=omega) only [bZ,m_nil,m_none,m_val,j7,o6,lA,mm_nilck,atM_eq,q7,dropP,dropQ,aiDrop,bK,cB,addA,a8,dR,cE,eY,ev_f,putS,Sf.set,Sf.reg,getR,setR,dn,id,dK,dD,dk,List.length_cons,List.length_nil,List.append_nil,List.nil_append,List.cons_append,List.drop_zero,List.drop_succ_cons,List.take_succ_cons,List.take_zero,↓reduceIte,Nat.reduceEqDiff,Nat.reduceAdd,Nat.reduceLeDiff,reduceCtorEq,Nat.zero_add,Nat.add_zero,decide_true,hg]
  refine call_m rfl e_f77 (sw hm) rfl ?_
  simp (config:=KF) (disch:=omega) only [List.contains_nil,ksB,d7,eW,fJ,eR,nstB,fK,hm_nil,holeK_eq,putS,Sf.set,setR,List.all_nil,List.append_nil,↓reduceIte,Nat.reduceEqDiff,Bool.true_and,Bool.and_true,and_true,true_and,reduceCtorEq,Bool.not_false]
  rintro r st1 ⟨rfl,rfl⟩
  refine ⟨St.sub_push _ _,?_⟩
  simp (config:=KF) (disch:=omega) only [bZ,List.contains_nil,ksB,d7,eW,fJ,eR,gj,fj,nstB,fK,m_nil,postM_eq,compM_nil,tailM_eq,finK_eq,and_self,retI,oF,bH,o_boxB,bstV,boxX,eF,dG,dH,putS,Sf.set,Sf.reg,getR,setR,aD,Sf.disAt,dK,dD,dk,pY,n4,cP,bU,kr,cR,ng,List.length_cons,List.length_nil,List.getElem?_cons_zero,List.getElem?_cons_succ,List.all_cons,List.all_nil,List.append_nil,List.set_cons_zero,List.set_cons_succ,↓reduceIte,Nat.reduceEqDiff,Nat.reduceAdd,Nat.reduceLeDiff,Bool.true_and,Bool.and_true,and_true,true_and,reduceCtorEq,Nat.zero_add,Bool.not_false,eB,cD,b4]
  refine hQ _ _ ⟨by simp [eB],h.clone ?_ fun m' hm'=>?_,by simp [eB],fun id hid=>?_⟩
  · have:=gp (st.push (.mp (encM .u64 ndAV m) (st.getB mid).1 (st.getB mid).2)) [.lit (.int .u64 (dh L 0:Nat)),.lit (.int .u64 (db 0 L:Nat)),.lit (.int .u64 (g:Nat)),.map st.boxes.length]
    rw [eB] at this
    exact this
  · have e:encM .u64 ndAV m' = encM .u64 ndAV m:=by
      have:=hm'.get.symm.trans hm.get
      exact Option.some.inj this
    have:=hm'.clone
    rw [e] at this
    exact this.push _
  · rw [e9 (by rw [eB]; omega),e9 hid]

/-- The iterator over a queue that is not changed. -/
theorem iter_calls {o q mid g:Nat} {L:Qu} (y:Nat) (J:Nat→St→Prop) (Jx:St→Prop) (hkeep:∀ i st',J i st'→st'.get o = some [.ptr q 0]∧QIs st' q mid L g)
    (hround:∀ (i:Nat) (hi:i < L.length) (st':St),J i st'→km Go.Proofs.Try.prog y [.lit (.int .u64 (L[i].1:Nat)),.lit (.int .i64 L[i].2)] st' (fun t st''=>(t = true∧J (i + 1) st'')∨(t = false∧Jx st''))) {st:St} (h0:J 0 st) :
    dt Go.Proofs.Try.prog n_f69 [.yld y,.ptr o 0] st (fun _ st'=>J L.length st'∨Jx st'):=by
  refine dN hmix k_f69 rfl rfl fun Q hQ=>?_
  unfold aFun c_f69
  obtain ⟨ho,hq⟩:=hkeep 0 st h0
  have hg:=hq.get
  simp (config:=KF) (disch:=omega) only [bZ,cf,ca,ce,bH,bK,cB,lx,iw,fv,addA,a8,putS,Sf.set,Sf.reg,getR,setR,aD,Sf.disAt,da,dis_yld,List.drop_zero,↓reduceIte,Nat.reduceEqDiff,reduceCtorEq,Nat.zero_add,Nat.add_zero,f69_1e,f69_2e,f69_3e,f69_3l,f69_4e,f69_5e,f69_6e,f69_6l,f69_7e,ho,hg]
  rw [f69_8w]
  refine im (A:=Nat×St) (fun a=>L.length - a.1) (fun a=>⟨[(0,.yld y),(1,.ptr o 0),(3,.lit (.int .u64 (dh (L.drop a.1) 0:Nat)))],[]⟩) (fun a=>a.2) (fun a=>a.1≤L.length∧J a.1 a.2) (0,st) ⟨by simp,h0⟩ (by rw [List.drop_zero]; exact Sf.le_refl _) rfl ?_
  rintro ⟨i,st⟩ ⟨h1,h2⟩ K hK hKe hKr
  simp only at h1 h2
  obtain ⟨ho,hq⟩:=hkeep i st h2
  have hg:=hq.get
  obtain ⟨m,hm,hl,hml⟩:=hq.mp
  by_cases hi:i < L.length
  · have ht:=nxt_drop hi
    have hp:=(hq.pos _ (tick_get hi)).1
    have hn:=nodeA_get hq.nd hi
    have hk:∀ z,e6 (.int .u64) z false st (.map mid) (.lit (.int .u64 (L[i].1:Nat))) = .ok (ndAV (L[i].2,db 0 (L.take i),dh (L.drop (i + 1)) 0)):=fun z=>by
      rw [fC hm,hl,hn]; rfl
    rw [ht]
    have hne:((L[i].1:Nat):Int)≠0:=by omega
    simp (config:=KF) (disch:=omega) only [bZ,oY,cf,ca,ce,gm,aI,kU,bK,cB,addA,a8,eE,putS,Sf.set,Sf.reg,getR,setR,aD,dis_yld,dK,List.drop_zero,List.drop_succ_cons,↓reduceIte,Nat.reduceEqDiff,reduceCtorEq,Nat.zero_add,not_false_eq_true,decide_true,f69_9e,f69_10e,f69_11e,f69_11l,f69_12e,f69_13e,f69_14e,f69_15e,f69_16e,f69_16l,ho,hg,hk,ndAV,hne]
    refine call_y rfl (hround i hi st h2) rfl fun t st1 hr=>?_
    rcases hr with ⟨rfl,hJ⟩ | ⟨rfl,hJ⟩
    · obtain ⟨ho1,hq1⟩:=hkeep (i + 1) st1 hJ
      have hg1:=hq1.get
      obtain ⟨m1,hm1,hl1,hml1⟩:=hq1.mp
      have hk1:∀ z,e6 (.int .u64) z false st1 (.map mid) (.lit (.int .u64 (L[i].1:Nat))) = .ok (ndAV (L[i].2,db 0 (L.take i),dh (L.drop (i + 1)) 0)):=fun z=>by
        rw [fC hm1,hl1,hn]; rfl
      simp (config:=KF) (disch:=omega) only [bZ,bG,o_un,oY,cf,ca,ce,gm,bH,kU,bK,cB,addA,a8,unA,putS,Sf.set,Sf.reg,getR,setR,aD,Sf.disAt,dK,List.drop_zero,List.drop_succ_cons,↓reduceIte,Nat.reduceEqDiff,reduceCtorEq,Nat.zero_add,Bool.not_true,f69_17e,f69_18e,f69_18l,ho1,hg1,hk1,ndAV]
      exact hK (i + 1,st1) _ ⟨by simp only; omega,hJ⟩ (by simp only; omega) (Sf.le_refl _)
    · simp (config:=KF) (disch:=omega) only [bZ,eh,o_un,unA,putS,Sf.set,Sf.reg,getR,setR,aD,↓reduceIte,Nat.reduceEqDiff,reduceCtorEq,Bool.not_false,f69_17e]
      exact hKr _ _ (by simp (config:=KF) (disch:=omega) only [bZ,eh,retI,resL,dE,List.all_nil,↓reduceIte,Bool.true_and,true_and]; exact hQ _ _ (.inr hJ))
  · have hiL:i = L.length:=by omega
    subst hiL
    rw [List.drop_length]
    simp (config:=KF) (disch:=omega) only [bZ,en,fP,eE,putS,Sf.set,Sf.reg,getR,setR,aD,Int.cast_ofNat_Int,↓reduceIte,Nat.reduceEqDiff,reduceCtorEq,not_true_eq_false,decide_false,f69_9e,f69_10e,f69_11e,f69_11l,f69_12e,dh]
    exact hKe _ _ _ (by simp (config:=KF) (disch:=omega) only [bZ,dV,kT,retI,resL,dE,List.all_nil,↓reduceIte,Bool.true_and,true_and]; exact hQ _ _ (.inl h2))

/-- The place of a value. -/
theorem qall_calls {q mid g:Nat} {L:Qu} {st:St} (h:QIs st q mid L g):dt Go.Proofs.Try.prog n_f49 [.ptr q 0] st
    (fun r st'=>∃ o q' mid',r = .fn (.func n_f69) [] [.ptr o 0]∧st'.get o = some [.ptr q' 0]∧QIs st' q' mid' L g∧st.boxes.length≤o∧st.boxes.length≤q'∧st.boxes.length≤mid'∧st.boxes.length≤st'.boxes.length∧∀ id,id < st.boxes.length→st'.boxes[id]? = st.boxes[id]?):=by
  refine dN hmix k_f49 rfl rfl fun Q hQ=>?_
  unfold aFun c_f49
  simp (config:=KF) (disch:=omega) only [bZ,aI,ev_f,putS,Sf.set,Sf.reg,getR,setR,aD,da,id,↓reduceIte,reduceCtorEq,f49_1e,f49_2e,f49_2l,f49_3e,f49_4e,f49_4l]
  refine du rfl e_f67 (qcopy_calls h) rfl fun r st1 hr=>?_
  obtain ⟨rfl,hq,hlen,hold⟩:=hr
  simp (config:=KF) (disch:=omega) only [bZ,retI,o_mkfn,bH,o_newB,dT,mkfnV,boxX,d9,dG,dH,putS,Sf.set,Sf.reg,getR,setR,aD,Sf.disAt,id,dis_fn,rt,pZ,cR,noL_fn,List.length_cons,List.length_nil,List.all_cons,List.all_nil,List.nil_append,List.set_cons_zero,↓reduceIte,Nat.reduceEqDiff,Nat.reduceLeDiff,Bool.true_and,Bool.and_true,and_true,true_and,reduceCtorEq,Nat.zero_add,gp,set_push,cD,b4,f49_5e,f49_6e,f49_6l]
  refine hQ _ _ ⟨st1.boxes.length,_,_,rfl,gp ..,hq.at (e9 (by omega)) (e9 (by omega)),by omega,by omega,by omega,by rw [eB]; omega,fun id hid=>?_⟩
  rw [e9 (by omega),hold id hid]

theorem qfront_cons {q mid g u:Nat} {y:Int} {r:Qu} {st:St} (h:QIs st q mid ((u,y)::r) g):dJ Go.Proofs.Try.prog n_f70 [.ptr q 0] st (.tup [.lit (.int .i64 y),.lit (.int .u64 (u:Nat)),.lit (.int .i64 0)]):=qfront_pure h

end Go.Fx.YtddifejdkiemgaaFx

