/- What the functions that the statement reaches compute: part 3. -/
import Derived.Test.YtddifejdkiemgaaFxW2
namespace Go.Fx.YtddifejdkiemgaaFx
open Go Go.Fx
attribute [local irreducible] aC runI a9 cd

set_option maxRecDepth 100000
set_option maxHeartbeats 4000000

theorem o6 {mid:Nat} {m:List (Int×Nd)} {st:St} (h:MapIs st mid .u64 ndAV m):bz Go.Proofs.Try.prog n_f77 [.map mid] st (fun r st'=>r = .map st.boxes.length∧st' = st.push (.mp (encM .u64 ndAV m) (st.getB mid).1 (st.getB mid).2)):=by
  refine bB hmix k_f77 rfl rfl fun Q hQ=>?_
  unfold aFun c_f77
  have hg:=h.get
  simp (config:=KF) (disch:=omega) only [bZ,retI,fd,o_mkif,o_tas,aw,o_x,tasV,mkifV,cv,gZ,ez,dn,putS,Sf.set,Sf.reg,getR,setR,ae,Sf.disAt,aO,b7,fH,noL_map,↓reduceIte,Nat.reduceEqDiff,Bool.true_and,true_and,reduceCtorEq,f77_1e,f77_2e,f77_2l,f77_3e,f77_4e,f77_5e,f77_5l,f77_6e,f77_9e,f77_10e,f77_10l,jT,hg]
  exact hQ _ _ ⟨rfl,rfl⟩

/-- A copy of a queue: new boxes only. -/
theorem ly {q mid g:Nat} {L:Qu} {st:St} (h:QIs st q mid L g):bz Go.Proofs.Try.prog n_f67 [.ptr q 0] st
    (fun r st'=>r = .ptr (st.boxes.length + 1) 0∧QIs st' (st.boxes.length + 1) st.boxes.length L g∧st'.boxes.length = st.boxes.length + 2∧∀ id,id < st.boxes.length→st'.boxes[id]? = st.boxes[id]?):=by
  refine bB hmix k_f67 rfl rfl fun Q hQ=>?_
  unfold aFun c_f67
  have hg:=h.get
  obtain ⟨m,hm,hl,hml⟩:=h.mp
  simp (config:=KF) (disch:=omega) only [bZ,au,ev_f,putS,Sf.set,Sf.reg,getR,setR,ae,aO,id,↓reduceIte,reduceCtorEq,f67_1e,f67_2e,f67_2l,f67_3e,f67_4e,f67_5e,f67_5l]
  refine aL rfl e_f68 (eL hg) rfl ?_
  simp (config:=KF) (disch:=omega) only [bZ,putS,Sf.set,Sf.reg,getR,setR,ae,↓reduceIte,Nat.reduceEqDiff,Bool.true_and,true_and,reduceCtorEq,f67_6e,f67_9e,f67_10e,f67_10h,f67_10p,f67_10l]
  refine draw_s ?_
  simp (config:=KF) (disch:=omega) only [bZ,oq,mM,m_val,im,oZ,ia,mm_nilck,atM_eq,jj,dropP,dropQ,mo,aq,bg,addA,aj,ai,ak,aA,ev_f,putS,Sf.set,Sf.reg,getR,setR,bu,id,b7,ah,aa,List.length_cons,List.length_nil,List.append_nil,List.nil_append,List.cons_append,List.drop_zero,List.drop_succ_cons,List.take_succ_cons,List.take_zero,↓reduceIte,Nat.reduceEqDiff,Nat.reduceAdd,Nat.reduceLeDiff,reduceCtorEq,Nat.zero_add,Nat.add_zero,decide_true,hg]
  refine call_m rfl e_f77 (o6 hm) rfl ?_
  simp (config:=KF) (disch:=omega) only [List.contains_nil,ksB,b6,cF,cU,cp,nstB,cV,hm_nil,mP,putS,Sf.set,setR,List.all_nil,List.append_nil,↓reduceIte,Nat.reduceEqDiff,Bool.true_and,Bool.and_true,and_true,true_and,reduceCtorEq,Bool.not_false]
  rintro r st1 ⟨rfl,rfl⟩
  refine ⟨St.sub_push _ _,?_⟩
  simp (config:=KF) (disch:=omega) only [bZ,List.contains_nil,ksB,b6,cF,cU,cp,dq,cX,nstB,cV,oq,mO,kR,mQ,o0,and_self,retI,eZ,aw,o_boxB,bstV,boxX,cu,ar,aG,putS,Sf.set,Sf.reg,getR,setR,ae,Sf.disAt,b7,ah,aa,mE,iU,ag,af,fH,al,iV,List.length_cons,List.length_nil,List.getElem?_cons_zero,List.getElem?_cons_succ,List.all_cons,List.all_nil,List.append_nil,List.set_cons_zero,List.set_cons_succ,↓reduceIte,Nat.reduceEqDiff,Nat.reduceAdd,Nat.reduceLeDiff,Bool.true_and,Bool.and_true,and_true,true_and,reduceCtorEq,Nat.zero_add,Bool.not_false,cM,aQ,am]
  refine hQ _ _ ⟨by simp [cM],h.clone ?_ fun m' hm'=>?_,by simp [cM],fun id hid=>?_⟩
  · have:=dw (st.push (.mp (encM .u64 ndAV m) (st.getB mid).1 (st.getB mid).2)) [.lit (.int .u64 (bN L 0:Nat)),.lit (.int .u64 (bI 0 L:Nat)),.lit (.int .u64 (g:Nat)),.map st.boxes.length]
    rw [cM] at this
    exact this
  · have e:encM .u64 ndAV m' = encM .u64 ndAV m:=by
      have:=hm'.get.symm.trans hm.get
      exact Option.some.inj this
    have:=hm'.clone
    rw [e] at this
    exact this.push _
  · rw [cY (by rw [cM]; omega),cY hid]

/-- The iterator over a queue that is not changed. -/
theorem iter_calls {o q mid g:Nat} {L:Qu} (y:Nat) (J:Nat→St→Prop) (Jx:St→Prop) (hkeep:∀ i st',J i st'→st'.get o = some [.ptr q 0]∧QIs st' q mid L g)
    (hround:∀ (i:Nat) (hi:i < L.length) (st':St),J i st'→gU Go.Proofs.Try.prog y [.lit (.int .u64 (L[i].1:Nat)),.lit (.int .i64 L[i].2)] st' (fun t st''=>(t = true∧J (i + 1) st'')∨(t = false∧Jx st''))) {st:St} (h0:J 0 st) :
    bz Go.Proofs.Try.prog n_f69 [.yld y,.ptr o 0] st (fun _ st'=>J L.length st'∨Jx st'):=by
  refine bB hmix k_f69 rfl rfl fun Q hQ=>?_
  unfold aFun c_f69
  obtain ⟨ho,hq⟩:=hkeep 0 st h0
  have hg:=hq.get
  simp (config:=KF) (disch:=omega) only [bZ,az,ap,a7,aw,aq,bg,gZ,ez,dn,addA,aj,putS,Sf.set,Sf.reg,getR,setR,ae,Sf.disAt,aO,dis_yld,List.drop_zero,↓reduceIte,Nat.reduceEqDiff,reduceCtorEq,Nat.zero_add,Nat.add_zero,f69_1e,f69_2e,f69_3e,f69_3l,f69_4e,f69_5e,f69_6e,f69_6l,f69_7e,ho,hg]
  rw [f69_8w]
  refine dh (A:=Nat×St) (fun a=>L.length - a.1) (fun a=>⟨[(0,.yld y),(1,.ptr o 0),(3,.lit (.int .u64 (bN (L.drop a.1) 0:Nat)))],[]⟩) (fun a=>a.2) (fun a=>a.1≤L.length∧J a.1 a.2) (0,st) ⟨by simp,h0⟩ (by rw [List.drop_zero]; exact Sf.le_refl _) rfl ?_
  rintro ⟨i,st⟩ ⟨h1,h2⟩ K hK hKe hKr
  simp only at h1 h2
  obtain ⟨ho,hq⟩:=hkeep i st h2
  have hg:=hq.get
  obtain ⟨m,hm,hl,hml⟩:=hq.mp
  by_cases hi:i < L.length
  · have ht:=nxt_drop hi
    have hp:=(hq.pos _ (tick_get hi)).1
    have hn:=nodeA_get hq.nd hi
    have hk:∀ z,dg (.int .u64) z false st (.map mid) (.lit (.int .u64 (L[i].1:Nat))) = .ok (ndAV (L[i].2,bI 0 (L.take i),bN (L.drop (i + 1)) 0)):=fun z=>by
      rw [dy hm,hl,hn]; rfl
    rw [ht]
    have hne:((L[i].1:Nat):Int)≠0:=by omega
    simp (config:=KF) (disch:=omega) only [bZ,lC,az,ap,a7,dW,au,iF,aq,bg,addA,aj,cA,putS,Sf.set,Sf.reg,getR,setR,ae,dis_yld,b7,List.drop_zero,List.drop_succ_cons,↓reduceIte,Nat.reduceEqDiff,reduceCtorEq,Nat.zero_add,not_false_eq_true,decide_true,f69_9e,f69_10e,f69_11e,f69_11l,f69_12e,f69_13e,f69_14e,f69_15e,f69_16e,f69_16l,ho,hg,hk,ndAV,hne]
    refine call_y rfl (hround i hi st h2) rfl fun t st1 hr=>?_
    rcases hr with ⟨rfl,hJ⟩ | ⟨rfl,hJ⟩
    · obtain ⟨ho1,hq1⟩:=hkeep (i + 1) st1 hJ
      have hg1:=hq1.get
      obtain ⟨m1,hm1,hl1,hml1⟩:=hq1.mp
      have hk1:∀ z,dg (.int .u64) z false st1 (.map mid) (.lit (.int .u64 (L[i].1:Nat))) = .ok (ndAV (L[i].2,bI 0 (L.take i),bN (L.drop (i + 1)) 0)):=fun z=>by
        rw [dy hm1,hl1,hn]; rfl
      simp (config:=KF) (disch:=omega) only [bZ,aJ,o_un,lC,az,ap,a7,dW,aw,iF,aq,bg,addA,aj,unA,putS,Sf.set,Sf.reg,getR,setR,ae,Sf.disAt,b7,List.drop_zero,List.drop_succ_cons,↓reduceIte,Nat.reduceEqDiff,reduceCtorEq,Nat.zero_add,Bool.not_true,f69_17e,f69_18e,f69_18l,ho1,hg1,hk1,ndAV]
      exact hK (i + 1,st1) _ ⟨by simp only; omega,hJ⟩ (by simp only; omega) (Sf.le_refl _)
    · simp (config:=KF) (disch:=omega) only [bZ,ca,o_un,unA,putS,Sf.set,Sf.reg,getR,setR,ae,↓reduceIte,Nat.reduceEqDiff,reduceCtorEq,Bool.not_false,f69_17e]
      exact hKr _ _ (by simp (config:=KF) (disch:=omega) only [bZ,ca,retI,resL,aR,List.all_nil,↓reduceIte,Bool.true_and,true_and]; exact hQ _ _ (.inr hJ))
  · have hiL:i = L.length:=by omega
    subst hiL
    rw [List.drop_length]
    simp (config:=KF) (disch:=omega) only [bZ,b8,cL,cA,putS,Sf.set,Sf.reg,getR,setR,ae,Int.cast_ofNat_Int,↓reduceIte,Nat.reduceEqDiff,reduceCtorEq,not_true_eq_false,decide_false,f69_9e,f69_10e,f69_11e,f69_11l,f69_12e,bN]
    exact hKe _ _ _ (by simp (config:=KF) (disch:=omega) only [bZ,bM,iE,retI,resL,aR,List.all_nil,↓reduceIte,Bool.true_and,true_and]; exact hQ _ _ (.inl h2))

/-- The place of a value. -/
theorem qall_calls {q mid g:Nat} {L:Qu} {st:St} (h:QIs st q mid L g):bz Go.Proofs.Try.prog n_f49 [.ptr q 0] st
    (fun r st'=>∃ o q' mid',r = .fn (.func n_f69) [] [.ptr o 0]∧st'.get o = some [.ptr q' 0]∧QIs st' q' mid' L g∧st.boxes.length≤o∧st.boxes.length≤q'∧st.boxes.length≤mid'∧st.boxes.length≤st'.boxes.length∧∀ id,id < st.boxes.length→st'.boxes[id]? = st.boxes[id]?):=by
  refine bB hmix k_f49 rfl rfl fun Q hQ=>?_
  unfold aFun c_f49
  simp (config:=KF) (disch:=omega) only [bZ,au,ev_f,putS,Sf.set,Sf.reg,getR,setR,ae,aO,id,↓reduceIte,reduceCtorEq,f49_1e,f49_2e,f49_2l,f49_3e,f49_4e,f49_4l]
  refine bE rfl e_f67 (ly h) rfl fun r st1 hr=>?_
  obtain ⟨rfl,hq,hlen,hold⟩:=hr
  simp (config:=KF) (disch:=omega) only [bZ,retI,o_mkfn,aw,o_newB,aH,mkfnV,boxX,aU,ar,aG,putS,Sf.set,Sf.reg,getR,setR,ae,Sf.disAt,id,dis_fn,kL,jy,al,noL_fn,List.length_cons,List.length_nil,List.all_cons,List.all_nil,List.nil_append,List.set_cons_zero,↓reduceIte,Nat.reduceEqDiff,Nat.reduceLeDiff,Bool.true_and,Bool.and_true,and_true,true_and,reduceCtorEq,Nat.zero_add,dw,set_push,aQ,am,f49_5e,f49_6e,f49_6l]
  refine hQ _ _ ⟨st1.boxes.length,_,_,rfl,dw ..,hq.at (cY (by omega)) (cY (by omega)),by omega,by omega,by omega,by rw [cM]; omega,fun id hid=>?_⟩
  rw [cY (by omega),hold id hid]

theorem qfront_cons {q mid g u:Nat} {y:Int} {r:Qu} {st:St} (h:QIs st q mid ((u,y)::r) g):bF Go.Proofs.Try.prog n_f70 [.ptr q 0] st (.tup [.lit (.int .i64 y),.lit (.int .u64 (u:Nat)),.lit (.int .i64 0)]):=qfront_pure h

end Go.Fx.YtddifejdkiemgaaFx

