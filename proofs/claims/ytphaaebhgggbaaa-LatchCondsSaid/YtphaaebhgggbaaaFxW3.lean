/- What the functions that the statement reaches compute: part 3. -/
import Derived.Test.YtphaaebhgggbaaaFxW2
namespace Go.Fx.YtphaaebhgggbaaaFx
open Go Go.Fx
attribute [local irreducible] aC runI bD cO

set_option maxRecDepth 100000
set_option maxHeartbeats 4000000

theorem oR {mid:Nat} {m:List (Int×Nd)} {st:St} (h:MapIs st mid .u64 ndAV m):aZ Go.Proofs.Try.prog n_f85 [.map mid] st (fun r st'=>r = .map st.boxes.length∧st' = st.push (.mp (encM .u64 ndAV m) (st.getB mid).1 (st.getB mid).2)):=by
  refine aX hmix k_f85 rfl rfl fun Q hQ=>?_
  unfold aFun c_f85
  have hg:=h.get
  simp (config:=KF) (disch:=omega) only [bZ,retI,oE,o_mkif,o_tas,az,o_x,tasV,mkifV,cF,fB,d7,cV,putS,Sf.set,Sf.reg,getR,setR,aa,Sf.disAt,aO,cr,f0,noL_map,↓reduceIte,Nat.reduceEqDiff,Bool.true_and,true_and,reduceCtorEq,f85_1e,f85_2e,f85_2l,f85_3e,f85_4e,f85_5e,f85_5l,f85_6e,f85_9e,f85_10e,f85_10l,jO,hg]
  exact hQ _ _ ⟨rfl,rfl⟩

/-- A copy of a queue: new boxes only. -/
theorem qcopy_calls {q mid g:Nat} {L:Qu} {st:St} (h:QIs st q mid L g):aZ Go.Proofs.Try.prog n_f80 [.ptr q 0] st
    (fun r st'=>r = .ptr (st.boxes.length + 1) 0∧QIs st' (st.boxes.length + 1) st.boxes.length L g∧st'.boxes.length = st.boxes.length + 2∧∀ id,id < st.boxes.length→st'.boxes[id]? = st.boxes[id]?):=by
  refine aX hmix k_f80 rfl rfl fun Q hQ=>?_
  unfold aFun c_f80
  have hg:=h.get
  obtain ⟨m,hm,hl,hml⟩:=h.mp
  simp (config:=KF) (disch:=omega) only [bZ,ao,ev_f,putS,Sf.set,Sf.reg,getR,setR,aa,aO,id,↓reduceIte,reduceCtorEq,f80_1e,f80_2e,f80_2l,f80_3e,f80_4e,f80_5e,f80_5l]
  refine aF rfl e_f79 (eV hg) rfl ?_
  simp (config:=KF) (disch:=omega) only [bZ,putS,Sf.set,Sf.reg,getR,setR,aa,↓reduceIte,Nat.reduceEqDiff,Bool.true_and,true_and,reduceCtorEq,f80_6e,f80_9e,f80_10e,f80_10h,f80_10p,f80_10l]
  refine draw_s ?_
  simp (config:=KF) (disch:=omega) only [bZ,dJ,cX,dP,d5,lM,bL,j9,gf,eL,gJ,gK,eR,ar,aS,addA,ag,ak,ap,aH,ev_f,putS,Sf.set,Sf.reg,getR,setR,br,id,cr,al,ah,List.length_cons,List.length_nil,List.append_nil,List.nil_append,List.cons_append,List.drop_zero,List.drop_succ_cons,List.take_succ_cons,List.take_zero,↓reduceIte,Nat.reduceEqDiff,Nat.reduceAdd,Nat.reduceLeDiff,reduceCtorEq,Nat.zero_add,Nat.add_zero,decide_true,hg]
  refine gg rfl e_f85 (oR hm) rfl ?_
  simp (config:=KF) (disch:=omega) only [List.contains_nil,ksB,a9,bG,bO,bd,nstB,bP,ge,dR,putS,Sf.set,setR,List.all_nil,List.append_nil,↓reduceIte,Nat.reduceEqDiff,Bool.true_and,Bool.and_true,and_true,true_and,reduceCtorEq,Bool.not_false]
  rintro r st1 ⟨rfl,rfl⟩
  refine ⟨St.sub_push _ _,?_⟩
  simp (config:=KF) (disch:=omega) only [bZ,List.contains_nil,ksB,a9,bG,bO,bd,cG,co,nstB,bP,dJ,dQ,dn,dz,eH,and_self,retI,cv,az,g9,bstV,boxX,bf,au,aE,putS,Sf.set,Sf.reg,getR,setR,aa,Sf.disAt,cr,al,ah,j4,iT,ai,ae,f0,af,fw,List.length_cons,List.length_nil,List.getElem?_cons_zero,List.getElem?_cons_succ,List.all_cons,List.all_nil,List.append_nil,List.set_cons_zero,List.set_cons_succ,↓reduceIte,Nat.reduceEqDiff,Nat.reduceAdd,Nat.reduceLeDiff,Bool.true_and,Bool.and_true,and_true,true_and,reduceCtorEq,Nat.zero_add,Bool.not_false,bU,am,aj]
  refine hQ _ _ ⟨by simp [bU],h.clone ?_ fun m' hm'=>?_,by simp [bU],fun id hid=>?_⟩
  · have:=dx (st.push (.mp (encM .u64 ndAV m) (st.getB mid).1 (st.getB mid).2)) [.lit (.int .u64 (bF L 0:Nat)),.lit (.int .u64 (bB 0 L:Nat)),.lit (.int .u64 (g:Nat)),.map st.boxes.length]
    rw [bU] at this
    exact this
  · have e:encM .u64 ndAV m' = encM .u64 ndAV m:=by
      have:=hm'.get.symm.trans hm.get
      exact Option.some.inj this
    have:=hm'.clone
    rw [e] at this
    exact this.push _
  · rw [dh (by rw [bU]; omega),dh hid]

end Go.Fx.YtphaaebhgggbaaaFx

