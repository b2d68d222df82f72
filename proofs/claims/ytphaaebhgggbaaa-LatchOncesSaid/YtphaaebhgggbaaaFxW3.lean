/- What the functions that the statement reaches compute: part 3. -/
import Derived.Test.YtphaaebhgggbaaaFxW2
namespace Go.Fx.YtphaaebhgggbaaaFx
open Go Go.Fx
attribute [local irreducible] aC runI bu cN

set_option maxRecDepth 100000
set_option maxHeartbeats 4000000

theorem oo {mid:Nat} {m:List (Int×Nd)} {st:St} (h:MapIs st mid .u64 ndAV m):aY Go.Proofs.Try.prog n_f85 [.map mid] st (fun r st'=>r = .map st.boxes.length∧st' = st.push (.mp (encM .u64 ndAV m) (st.getB mid).1 (st.getB mid).2)):=by
  refine aQ hmix k_f85 rfl rfl fun Q hQ=>?_
  unfold aFun c_f85
  have hg:=h.get
  simp (config:=KF) (disch:=omega) only [bZ,retI,n4,o_mkif,o_tas,au,o_x,tasV,mkifV,cD,fc,dU,cU,putS,Sf.set,Sf.reg,getR,setR,aa,Sf.disAt,aG,ck,fH,noL_map,↓reduceIte,Nat.reduceEqDiff,Bool.true_and,true_and,reduceCtorEq,f85_1e,f85_2e,f85_2l,f85_3e,f85_4e,f85_5e,f85_5l,f85_6e,f85_9e,f85_10e,f85_10l,jD,hg]
  exact hQ _ _ ⟨rfl,rfl⟩

/-- A copy of a queue: new boxes only. -/
theorem qcopy_calls {q mid g:Nat} {L:Qu} {st:St} (h:QIs st q mid L g):aY Go.Proofs.Try.prog n_f80 [.ptr q 0] st
    (fun r st'=>r = .ptr (st.boxes.length + 1) 0∧QIs st' (st.boxes.length + 1) st.boxes.length L g∧st'.boxes.length = st.boxes.length + 2∧∀ id,id < st.boxes.length→st'.boxes[id]? = st.boxes[id]?):=by
  refine aQ hmix k_f80 rfl rfl fun Q hQ=>?_
  unfold aFun c_f80
  have hg:=h.get
  obtain ⟨m,hm,hl,hml⟩:=h.mp
  simp (config:=KF) (disch:=omega) only [bZ,ak,ev_f,putS,Sf.set,Sf.reg,getR,setR,aa,aG,id,↓reduceIte,reduceCtorEq,f80_1e,f80_2e,f80_2l,f80_3e,f80_4e,f80_5e,f80_5l]
  refine aK rfl e_f79 (eJ hg) rfl ?_
  simp (config:=KF) (disch:=omega) only [bZ,putS,Sf.set,Sf.reg,getR,setR,aa,↓reduceIte,Nat.reduceEqDiff,Bool.true_and,true_and,reduceCtorEq,f80_6e,f80_9e,f80_10e,f80_10h,f80_10p,f80_10l]
  refine draw_s ?_
  simp (config:=KF) (disch:=omega) only [bZ,ee,dm,er,ef,jX,cg,iu,gM,eV,ib,ic,fD,ap,aL,addA,af,ao,aB,aP,ev_f,putS,Sf.set,Sf.reg,getR,setR,bB,id,ck,al,ai,List.length_cons,List.length_nil,List.append_nil,List.nil_append,List.cons_append,List.drop_zero,List.drop_succ_cons,List.take_succ_cons,List.take_zero,↓reduceIte,Nat.reduceEqDiff,Nat.reduceAdd,Nat.reduceLeDiff,reduceCtorEq,Nat.zero_add,Nat.add_zero,decide_true,hg]
  refine gO rfl e_f85 (oo hm) rfl ?_
  simp (config:=KF) (disch:=omega) only [List.contains_nil,ksB,ba,bF,bM,bf,nstB,bN,gL,ew,putS,Sf.set,setR,List.all_nil,List.append_nil,↓reduceIte,Nat.reduceEqDiff,Bool.true_and,Bool.and_true,and_true,true_and,reduceCtorEq,Bool.not_false]
  rintro r st1 ⟨rfl,rfl⟩
  refine ⟨St.sub_push _ _,?_⟩
  simp (config:=KF) (disch:=omega) only [bZ,List.contains_nil,ksB,ba,bF,bM,bf,cI,co,nstB,bN,ee,eu,dP,d1,fd,and_self,retI,cd,au,gJ,bstV,boxX,a8,aA,aO,putS,Sf.set,Sf.reg,getR,setR,aa,Sf.disAt,ck,al,ai,jR,iE,ag,ae,fH,ah,e9,List.length_cons,List.length_nil,List.getElem?_cons_zero,List.getElem?_cons_succ,List.all_cons,List.all_nil,List.append_nil,List.set_cons_zero,List.set_cons_succ,↓reduceIte,Nat.reduceEqDiff,Nat.reduceAdd,Nat.reduceLeDiff,Bool.true_and,Bool.and_true,and_true,true_and,reduceCtorEq,Nat.zero_add,Bool.not_false,bP,aq,aj]
  refine hQ _ _ ⟨by simp [bP],h.clone ?_ fun m' hm'=>?_,by simp [bP],fun id hid=>?_⟩
  · have:=dq (st.push (.mp (encM .u64 ndAV m) (st.getB mid).1 (st.getB mid).2)) [.lit (.int .u64 (bz L 0:Nat)),.lit (.int .u64 (bq 0 L:Nat)),.lit (.int .u64 (g:Nat)),.map st.boxes.length]
    rw [bP] at this
    exact this
  · have e:encM .u64 ndAV m' = encM .u64 ndAV m:=by
      have:=hm'.get.symm.trans hm.get
      exact Option.some.inj this
    have:=hm'.clone
    rw [e] at this
    exact this.push _
  · rw [dn (by rw [bP]; omega),dn hid]

end Go.Fx.YtphaaebhgggbaaaFx

