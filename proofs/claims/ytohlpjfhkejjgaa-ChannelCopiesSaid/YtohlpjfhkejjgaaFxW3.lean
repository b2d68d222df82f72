/- What the functions that the statement reaches compute: part 3. -/
import Derived.Test.YtohlpjfhkejjgaaFxW2
namespace Go.Fx.YtohlpjfhkejjgaaFx
open Go Go.Fx
attribute [local irreducible] aC runI aY cF

set_option maxRecDepth 100000
set_option maxHeartbeats 4000000

theorem oX {mid:Nat} {m:List (Int×Nd)} {st:St} (h:MapIs st mid .u64 ndAV m):bj Go.Proofs.Try.prog n_f47 [.map mid] st (fun r st'=>r = .map st.boxes.length∧st' = st.push (.mp (encM .u64 ndAV m) (st.getB mid).1 (st.getB mid).2)):=by
  refine bf hmix k_f47 rfl rfl fun Q hQ=>?_
  unfold aFun c_f47
  have hg:=h.get
  simp (config:=KF) (disch:=omega) only [bZ,retI,d9,o_mkif,o_tas,aA,o_x,tasV,mkifV,cf,fZ,ec,cZ,putS,Sf.set,Sf.reg,getR,setR,ae,Sf.disAt,bt,cb,eR,noL_map,↓reduceIte,Nat.reduceEqDiff,Bool.true_and,true_and,reduceCtorEq,f47_1e,f47_2e,f47_2l,f47_3e,f47_4e,f47_5e,f47_5l,f47_6e,f47_9e,f47_10e,f47_10l,jy,hg]
  exact hQ _ _ ⟨rfl,rfl⟩

/-- A copy of a queue: new boxes only. -/
theorem lf {q mid g:Nat} {L:Qu} {st:St} (h:QIs st q mid L g):bj Go.Proofs.Try.prog n_f36 [.ptr q 0] st
    (fun r st'=>r = .ptr (st.boxes.length + 1) 0∧QIs st' (st.boxes.length + 1) st.boxes.length L g∧st'.boxes.length = st.boxes.length + 2∧∀ id,id < st.boxes.length→st'.boxes[id]? = st.boxes[id]?):=by
  refine bf hmix k_f36 rfl rfl fun Q hQ=>?_
  unfold aFun c_f36
  have hg:=h.get
  obtain ⟨m,hm,hl,hml⟩:=h.mp
  simp (config:=KF) (disch:=omega) only [bZ,az,ev_f,putS,Sf.set,Sf.reg,getR,setR,ae,bt,id,↓reduceIte,reduceCtorEq,f36_1e,f36_2e,f36_2l,f36_3e,f36_4e,f36_5e,f36_5l]
  refine bA rfl e_f41 (eU hg) rfl ?_
  simp (config:=KF) (disch:=omega) only [bZ,putS,Sf.set,Sf.reg,getR,setR,ae,↓reduceIte,Nat.reduceEqDiff,Bool.true_and,true_and,reduceCtorEq,f36_6e,f36_9e,f36_10e,f36_10h,f36_10p,f36_10l]
  refine draw_s ?_
  simp (config:=KF) (disch:=omega) only [bZ,k7,ip,k8,mw,lz,eC,jS,oK,hZ,nt,nu,kq,au,aZ,addA,ak,al,am,aG,ev_f,putS,Sf.set,Sf.reg,getR,setR,bk,id,cb,ao,aj,List.length_cons,List.length_nil,List.append_nil,List.nil_append,List.cons_append,List.drop_zero,List.drop_succ_cons,List.take_succ_cons,List.take_zero,↓reduceIte,Nat.reduceEqDiff,Nat.reduceAdd,Nat.reduceLeDiff,reduceCtorEq,Nat.zero_add,Nat.add_zero,decide_true,hg]
  refine oM rfl e_f47 (oX hm) rfl ?_
  simp (config:=KF) (disch:=omega) only [List.contains_nil,ksB,bz,bY,ci,bG,nstB,ck,oI,jU,putS,Sf.set,setR,List.all_nil,List.append_nil,↓reduceIte,Nat.reduceEqDiff,Bool.true_and,Bool.and_true,and_true,true_and,reduceCtorEq,Bool.not_false]
  rintro r st1 ⟨rfl,rfl⟩
  refine ⟨St.sub_push _ _,?_⟩
  simp (config:=KF) (disch:=omega) only [bZ,List.contains_nil,ksB,bz,bY,ci,bG,cO,cu,nstB,ck,k7,jT,iG,jV,lA,and_self,retI,bT,aA,o_boxB,bstV,boxX,aQ,ap,aE,putS,Sf.set,Sf.reg,getR,setR,ae,Sf.disAt,cb,ao,aj,jO,iE,ag,aa,eR,ai,lx,List.length_cons,List.length_nil,List.getElem?_cons_zero,List.getElem?_cons_succ,List.all_cons,List.all_nil,List.append_nil,List.set_cons_zero,List.set_cons_succ,↓reduceIte,Nat.reduceEqDiff,Nat.reduceAdd,Nat.reduceLeDiff,Bool.true_and,Bool.and_true,and_true,true_and,reduceCtorEq,Nat.zero_add,Bool.not_false,cr,ah,af]
  refine hQ _ _ ⟨by simp [cr],h.clone ?_ fun m' hm'=>?_,by simp [cr],fun id hid=>?_⟩
  · have:=dj (st.push (.mp (encM .u64 ndAV m) (st.getB mid).1 (st.getB mid).2)) [.lit (.int .u64 (bH L 0:Nat)),.lit (.int .u64 (bC 0 L:Nat)),.lit (.int .u64 (g:Nat)),.map st.boxes.length]
    rw [cr] at this
    exact this
  · have e:encM .u64 ndAV m' = encM .u64 ndAV m:=by
      have:=hm'.get.symm.trans hm.get
      exact Option.some.inj this
    have:=hm'.clone
    rw [e] at this
    exact this.push _
  · rw [dK (by rw [cr]; omega),dK hid]

end Go.Fx.YtohlpjfhkejjgaaFx

