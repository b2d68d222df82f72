/- What the functions that the statement reaches compute: part 3. -/
import Derived.Test.YtbdjfccgkdgbfaaFxW2
namespace Go.Fx.YtbdjfccgkdgbfaaFx
open Go Go.Fx
attribute [local irreducible] aC runI az ar

set_option maxRecDepth 100000
set_option maxHeartbeats 4000000

theorem qN {mid:Nat} {m:List (Int×Nd)} {st:St} (h:MapIs st mid .u64 ndAV m):am Go.Proofs.Try.prog n_f60 [.map mid] st (fun r st'=>r = .map st.boxes.length∧st' = st.push (.mp (encM .u64 ndAV m) (st.getB mid).1 (st.getB mid).2)):=by
 refine ap hmix k_f60 rfl rfl fun Q hQ=>?_
 unfold aFun c_f60
 have hg:=h.get
 simp (config:=KF) (disch:=omega) only [bZ,retI,bt,o_mkif,o_tas,tasV,mkifV,aW,cH,bp,aY,bu,gQ,noL_map,↓reduceIte,Nat.reduceEqDiff,reduceCtorEq,kr,hg]
 exact hQ _ _ ⟨rfl,rfl⟩

/-- A copy of a queue: new boxes only. -/
theorem qcopy_calls {q mid g:Nat} {L:Qu} {st:St} (h:QIs st q mid L g):am Go.Proofs.Try.prog n_f41 [.ptr q 0] st
  (fun r st'=>r = .ptr (st.boxes.length + 1) 0∧QIs st' (st.boxes.length + 1) st.boxes.length L g∧st'.boxes.length = st.boxes.length + 2∧∀ id,id < st.boxes.length→st'.boxes[id]? = st.boxes[id]?):=by
 refine ap hmix k_f41 rfl rfl fun Q hQ=>?_
 unfold aFun c_f41
 have hg:=h.get
 obtain ⟨m,hm,hl,hml⟩:=h.mp
 simp (config:=KF) (disch:=omega) only [bZ,id,↓reduceIte,reduceCtorEq]
 refine ak rfl e_f59 (eP hg) rfl ?_
 simp (config:=KF) (disch:=omega) only [bZ,↓reduceIte,Nat.reduceEqDiff,reduceCtorEq]
 refine draw_s ?_
 simp (config:=KF) (disch:=omega) only [bZ,g7,fI,iD,jy,ff,i9,ez,nU,eD,lW,lX,io,al,addA,ae,id,bu,List.nil_append,List.cons_append,↓reduceIte,Nat.reduceEqDiff,Nat.reduceAdd,Nat.reduceLeDiff,reduceCtorEq,hg]
 refine nV rfl e_f60 (qN hm) rfl ?_
 simp (config:=KF) (disch:=omega) only [bZ,ksB,aJ,bg,bD,aK,nstB,bE,ln,gz,↓reduceIte,Nat.reduceEqDiff,reduceCtorEq]
 rintro r st1 ⟨rfl,rfl⟩
 refine ⟨St.sub_push _ _,?_⟩
 simp (config:=KF) (disch:=omega) only [bZ,ksB,aJ,bg,bD,aK,cB,bS,nstB,bE,g7,gy,fq,gA,ja,retI,ei,jM,bstV,aV,bu,nF,li,gQ,bT,↓reduceIte,Nat.reduceEqDiff,Nat.reduceAdd,Nat.reduceLeDiff,reduceCtorEq,aE,af,aa]
 refine hQ _ _ ⟨by simp [aE],h.clone ?_ fun m' hm'=>?_,by simp [aE],fun id hid=>?_⟩
 ·have:=bq (st.push (.mp (encM .u64 ndAV m) (st.getB mid).1 (st.getB mid).2)) [.lit (.int .u64 (aT L 0:Nat)),.lit (.int .u64 (aP 0 L:Nat)),.lit (.int .u64 (g:Nat)),.map st.boxes.length]
  rw [aE] at this
  exact this
 ·have e:encM .u64 ndAV m' = encM .u64 ndAV m:=by
   have:=hm'.get.symm.trans hm.get
   exact Option.some.inj this
  have:=hm'.clone
  rw [e] at this
  exact this.push _
 ·rw [bG (by rw [aE]; omega),bG hid]

end Go.Fx.YtbdjfccgkdgbfaaFx

