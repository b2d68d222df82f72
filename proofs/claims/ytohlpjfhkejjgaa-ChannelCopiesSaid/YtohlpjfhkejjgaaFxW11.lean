/- What the functions that the statement reaches compute: part 11. -/
import Derived.Test.YtohlpjfhkejjgaaFxW10
namespace Go.Fx.YtohlpjfhkejjgaaFx
open Go Go.Fx
attribute [local irreducible] aC runI aY cF

set_option maxRecDepth 100000
set_option maxHeartbeats 4000000

theorem cnew_err {n:Int} (hn:n < 0∨4096 < n) (st:St):bF Go.Proofs.Try.prog n_f9 [.lit (.int .i64 n)] st (.tup [.lit (.pointer none),.lit (.int .i64 2)]):=by
  refine cC hmix k_f9 rfl rfl fun Q hQ=>?_
  unfold aFun c_f9
  simp (config:=KF) (disch:=omega) only [bZ,aw,AI.dst,cI,putS,Sf.set,Sf.reg,getR,setR,ae,bt,↓reduceIte,Nat.reduceEqDiff,reduceCtorEq,f9_1e,f9_2e,f9_2l,f9_3e,f9_4e,f9_5e,f9_5l]
  refine c8 (fun h1=>?_) (fun h1=>?_)
  · simp (config:=KF) (disch:=omega) only [bZ,retI,resI,resL,aw,cQ,AI.dst,bX,a7,bQ,putS,Sf.set,Sf.reg,getR,setR,ae,aJ,List.all_cons,List.all_nil,↓reduceIte,Nat.reduceEqDiff,Bool.true_and,Bool.and_true,and_true,true_and,reduceCtorEq,Bool.false_eq_true,f9_6e,f9_7e,f9_8e,f9_8l]
    exact hQ _
  · simp (config:=KF) (disch:=omega) only [bZ,retI,resI,resL,aw,AI.dst,a9,a7,bN,ez,putS,Sf.set,Sf.reg,getR,setR,ae,aJ,List.all_cons,List.all_nil,↓reduceIte,Nat.reduceEqDiff,Bool.true_and,Bool.and_true,and_true,true_and,reduceCtorEq,Bool.false_eq_true,cN,f9_6e,f9_7e,f9_8e,f9_8l]
    exact hQ _

def newP (n:Nat):ChP:=⟨false,n,[],[],[],0,0⟩

theorem cnew_calls {n:Nat} (hn:n≤4096) (st:St):bj Go.Proofs.Try.prog n_f9 [.lit (.int .i64 (n:Nat))] st (fun r st' =>
    r = .tup [.ptr (st.boxes.length + 5) 0,.lit (.int .i64 0)]∧ChIs st' (st.boxes.length + 5) (newP n) (st.boxes.length + 1) st.boxes.length (st.boxes.length + 3) (st.boxes.length + 2) (st.boxes.length + 4) (.lit (.slice none 0 0))∧Kp st st' []):=by
  refine bf hmix k_f9 rfl rfl fun Q hQ=>?_
  unfold aFun c_f9
  simp (config:=KF) (disch:=omega) only [bZ,aw,AI.dst,a9,a7,az,bN,cI,ez,ev_f,putS,Sf.set,Sf.reg,getR,setR,ae,bt,id,↓reduceIte,Nat.reduceEqDiff,reduceCtorEq,Bool.false_eq_true,cB,dP,f9_1e,f9_2e,f9_2l,f9_3e,f9_4e,f9_5e,f9_5l,f9_6e,f9_9e,f9_10e,f9_10l]
  refine ba rfl e_f24 (mz st) rfl fun r st1 hr=>?_
  obtain ⟨rfl,hq1,hl1,hk1⟩:=hr
  simp (config:=KF) (disch:=omega) only [bZ,az,ev_f,putS,Sf.set,setR,id,↓reduceIte,Nat.reduceEqDiff,reduceCtorEq]
  refine ba rfl e_f24 (mz st1) rfl fun r st2 hr=>?_
  obtain ⟨rfl,hq2,hl2,hk2⟩:=hr
  rw [hl1] at hq2 hl2 hk2 ⊢
  simp (config:=KF) (disch:=omega) only [bZ,and_self,retI,resI,resL,bT,o_bar,aA,o_boxB,oD,bstV,barV,boxX,aQ,ap,aE,putS,Sf.set,Sf.reg,getR,setR,ae,Sf.disAt,cb,ao,aj,mh,jO,ar,nN,iE,ag,aa,jd,eR,ai,lx,aJ,List.length_cons,List.length_nil,List.getElem?_cons_zero,List.getElem?_cons_succ,List.all_cons,List.all_nil,List.set_cons_zero,List.set_cons_succ,↓reduceIte,Nat.reduceEqDiff,Nat.reduceAdd,Nat.reduceLeDiff,Bool.true_and,Bool.and_true,and_true,true_and,reduceCtorEq,Nat.zero_add,cr,ah,af,Nat.mul_one,hl2]
  have hm:=(MapIs.new st2 .i64 wtAV).push (.cells [.lit (.bool true),.lit (.bool false),.lit (.int .i64 (n:Nat)),.lit (.slice none 0 0),.ptr (st.boxes.length + 1) 0,.ptr (st.boxes.length + 2 + 1) 0,.map (st.boxes.length + 2 + 2)])
  have hg:=dj (st2.push (.mp [] [] 0)) [.lit (.bool true),.lit (.bool false),.lit (.int .i64 (n:Nat)),.lit (.slice none 0 0),.ptr (st.boxes.length + 1) 0,.ptr (st.boxes.length + 2 + 1) 0,.map (st.boxes.length + 2 + 2)]
  rw [cr,hl2] at hg
  rw [hl2] at hm
  have hat:∀ x,x < st.boxes.length + 2 + 2→((st2.push (.mp [] [] 0)).push (.cells [.lit (.bool true),.lit (.bool false),.lit (.int .i64 (n:Nat)),.lit (.slice none 0 0),.ptr (st.boxes.length + 1) 0,.ptr (st.boxes.length + 2 + 1) 0,.map (st.boxes.length + 2 + 2)])).boxes[x]? = st2.boxes[x]?:=fun x hx=>by
    rw [dK (by rw [cr]; omega),dK (by omega)]
  refine hQ _ _ ⟨by simp,⟨?_,.inl ⟨rfl,rfl⟩,(hq1.at (hk2 _ (by omega)) (hk2 _ (by omega))).at (hat _ (by omega)) (hat _ (by omega)),hq2.at (hat _ (by omega)) (hat _ (by omega)),⟨[],hm,fun _=>rfl⟩,by simp <;> omega,by simp [bh],by simp [newP,entC,wEnt,aP],by simp [newP,entC,wEnt,aP],by simp [newP]⟩,⟨by simp only [cr]; omega,fun x hx _=>?_⟩⟩
  · simpa [newP,Nat.add_assoc] using hg
  · rw [hat x (by omega),hk2 x (by omega),hk1 x hx]
end Go.Fx.YtohlpjfhkejjgaaFx

