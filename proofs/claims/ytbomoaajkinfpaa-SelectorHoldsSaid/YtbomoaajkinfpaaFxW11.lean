/- What the functions that the statement reaches compute: part 11. -/
import Derived.Test.YtbomoaajkinfpaaFxW10
namespace Go.Fx.YtbomoaajkinfpaaFx
open Go Go.Fx
attribute [local irreducible] aC runI aw aB

set_option maxRecDepth 100000
set_option maxHeartbeats 4000000

theorem oP {mid:Nat} {m:List (Int×Nd)} {st:St} (h:MapIs st mid .u64 ndAV m):aA Go.Proofs.Try.prog n_f82 [.map mid] st (fun r st'=>r = .map st.boxes.length∧st' = st.push (.mp (encM .u64 ndAV m) (st.getB mid).1 (st.getB mid).2)):=by
  refine ap hmix k_f82 rfl rfl fun Q hQ=>?_
  unfold aFun c_f82
  have hg:=h.get
  simp (config:=KF) (disch:=omega) only [bZ,retI,bB,o_mkif,o_tas,o_x,tasV,mkifV,bb,cT,cb,bz,cZ,noL_map,↓reduceIte,Nat.reduceEqDiff,reduceCtorEq,iV,hg]
  exact hQ _ _ ⟨rfl,rfl⟩

/-- A copy of a queue: new boxes only. -/
theorem km {q mid g:Nat} {L:Qu} {st:St} (h:QIs st q mid L g):aA Go.Proofs.Try.prog n_f70 [.ptr q 0] st
    (fun r st'=>r = .ptr (st.boxes.length + 1) 0∧QIs st' (st.boxes.length + 1) st.boxes.length L g∧st'.boxes.length = st.boxes.length + 2∧∀ id,id < st.boxes.length→st'.boxes[id]? = st.boxes[id]?):=by
  refine ap hmix k_f70 rfl rfl fun Q hQ=>?_
  unfold aFun c_f70
  have hg:=h.get
  obtain ⟨m,hm,hl,hml⟩:=h.mp
  simp (config:=KF) (disch:=omega) only [bZ,id,↓reduceIte,reduceCtorEq]
  refine ao rfl e_f62 (dU hg) rfl ?_
  simp (config:=KF) (disch:=omega) only [bZ,↓reduceIte,Nat.reduceEqDiff,reduceCtorEq]
  refine draw_s ?_
  simp (config:=KF) (disch:=omega) only [bZ,im,gx,kj,l8,gS,e9,gy,ma,f9,lF,lG,iy,ai,addA,aa,id,List.nil_append,List.cons_append,↓reduceIte,Nat.reduceEqDiff,Nat.reduceAdd,Nat.reduceLeDiff,reduceCtorEq,hg]
  refine mc rfl e_f82 (oP hm) rfl ?_
  simp (config:=KF) (disch:=omega) only [bZ,ksB,aR,bA,bQ,aT,nstB,bR,l9,gA,↓reduceIte,Nat.reduceEqDiff,reduceCtorEq]
  rintro r st1 ⟨rfl,rfl⟩
  refine ⟨St.sub_push _ _,?_⟩
  simp (config:=KF) (disch:=omega) only [bZ,ksB,aR,bA,bQ,aT,cX,b9,nstB,bR,im,gz,fB,gB,ji,retI,iD,fv,ep,cZ,fU,↓reduceIte,Nat.reduceEqDiff,Nat.reduceAdd,Nat.reduceLeDiff,reduceCtorEq,aK]
  refine hQ _ _ ⟨by simp [aK],h.clone ?_ fun m' hm'=>?_,by simp [aK],fun id hid=>?_⟩
  · have:=bI (st.push (.mp (encM .u64 ndAV m) (st.getB mid).1 (st.getB mid).2)) [.lit (.int .u64 (aI L 0:Nat)),.lit (.int .u64 (aF 0 L:Nat)),.lit (.int .u64 (g:Nat)),.map st.boxes.length]
    rw [aK] at this
    exact this
  · have e:encM .u64 ndAV m' = encM .u64 ndAV m:=by
      have:=hm'.get.symm.trans hm.get
      exact Option.some.inj this
    have:=hm'.clone
    rw [e] at this
    exact this.push _
  · rw [bu (by rw [aK]; omega),bu hid]

end Go.Fx.YtbomoaajkinfpaaFx

