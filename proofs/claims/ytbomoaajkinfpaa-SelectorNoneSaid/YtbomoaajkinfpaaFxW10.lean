/- What the functions that the statement reaches compute: part 10. -/
import Derived.Test.YtbomoaajkinfpaaFxW9
namespace Go.Fx.YtbomoaajkinfpaaFx
open Go Go.Fx
attribute [local irreducible] aC runI aT bM

set_option maxRecDepth 100000
set_option maxHeartbeats 4000000

theorem cnew_err {n:Int} (hn:n < 0∨4096 < n) (st:St):bh Go.Proofs.Try.prog n_f12 [.lit (.int .i64 n)] st (.tup [.lit (.pointer none),.lit (.int .i64 2)]):=by
  refine aR hmix k_f12 rfl rfl fun Q hQ=>?_
  unfold aFun c_f12
  simp (config:=KF) (disch:=omega) only [bZ,ai,AI.dst,cn,putS,Sf.set,Sf.reg,getR,setR,aa,aY,↓reduceIte,Nat.reduceEqDiff,reduceCtorEq,f12_1e,f12_2e,f12_2l,f12_3e,f12_4e,f12_5e,f12_5l]
  refine cQ (fun h1=>?_) (fun h1=>?_)
  · simp (config:=KF) (disch:=omega) only [bZ,retI,resI,resL,ai,bX,AI.dst,bP,a9,cm,putS,Sf.set,Sf.reg,getR,setR,aa,aU,List.all_cons,List.all_nil,↓reduceIte,Nat.reduceEqDiff,Bool.true_and,Bool.and_true,and_true,true_and,reduceCtorEq,Bool.false_eq_true,f12_6e,f12_7e,f12_8e,f12_8l]
    exact hQ _
  · simp (config:=KF) (disch:=omega) only [bZ,retI,resI,resL,ai,AI.dst,aL,a9,bA,jU,putS,Sf.set,Sf.reg,getR,setR,aa,aU,List.all_cons,List.all_nil,↓reduceIte,Nat.reduceEqDiff,Bool.true_and,Bool.and_true,and_true,true_and,reduceCtorEq,Bool.false_eq_true,df,f12_6e,f12_7e,f12_8e,f12_8l]
    exact hQ _

def newP (n:Nat):ChP:=⟨false,n,[],[],[],0,0⟩

theorem cnew_calls {n:Nat} (hn:n≤4096) (st:St):bf Go.Proofs.Try.prog n_f12 [.lit (.int .i64 (n:Nat))] st (fun r st' =>
    r = .tup [.ptr (st.boxes.length + 5) 0,.lit (.int .i64 0)]∧ChIs st' (st.boxes.length + 5) (newP n) (st.boxes.length + 1) st.boxes.length (st.boxes.length + 3) (st.boxes.length + 2) (st.boxes.length + 4) (.lit (.slice none 0 0))∧Kp st st' []):=by
  refine aZ hmix k_f12 rfl rfl fun Q hQ=>?_
  unfold aFun c_f12
  simp (config:=KF) (disch:=omega) only [bZ,ai,AI.dst,aL,a9,ak,bA,cn,jU,ev_f,putS,Sf.set,Sf.reg,getR,setR,aa,aY,id,↓reduceIte,Nat.reduceEqDiff,reduceCtorEq,Bool.false_eq_true,d7,jV,f12_1e,f12_2e,f12_2l,f12_3e,f12_4e,f12_5e,f12_5l,f12_6e,f12_9e,f12_10e,f12_10l]
  refine bw rfl e_f36 (mT st) rfl fun r st1 hr=>?_
  obtain ⟨rfl,hq1,hl1,hk1⟩:=hr
  simp (config:=KF) (disch:=omega) only [bZ,ak,ev_f,putS,Sf.set,setR,id,↓reduceIte,Nat.reduceEqDiff,reduceCtorEq]
  refine bw rfl e_f36 (mT st1) rfl fun r st2 hr=>?_
  obtain ⟨rfl,hq2,hl2,hk2⟩:=hr
  rw [hl1] at hq2 hl2 hk2 ⊢
  simp (config:=KF) (disch:=omega) only [bZ,and_self,retI,resI,resL,cP,o_bar,ao,kF,pf,bstV,barV,boxX,bt,aO,aS,putS,Sf.set,Sf.reg,getR,setR,aa,Sf.disAt,bJ,aE,ar,own1_ptr,mK,aB,om,kH,al,ae,gR,jm,ah,lL,aU,List.length_cons,List.length_nil,List.getElem?_cons_zero,List.getElem?_cons_succ,List.all_cons,List.all_nil,List.set_cons_zero,List.set_cons_succ,↓reduceIte,Nat.reduceEqDiff,Nat.reduceAdd,Nat.reduceLeDiff,Bool.true_and,Bool.and_true,and_true,true_and,reduceCtorEq,Nat.zero_add,cu,am,af,Nat.mul_one,hl2]
  have hm:=(MapIs.new st2 .i64 wtAV).push (.cells [.lit (.bool true),.lit (.bool false),.lit (.int .i64 (n:Nat)),.lit (.slice none 0 0),.ptr (st.boxes.length + 1) 0,.ptr (st.boxes.length + 2 + 1) 0,.map (st.boxes.length + 2 + 2)])
  have hg:=dg (st2.push (.mp [] [] 0)) [.lit (.bool true),.lit (.bool false),.lit (.int .i64 (n:Nat)),.lit (.slice none 0 0),.ptr (st.boxes.length + 1) 0,.ptr (st.boxes.length + 2 + 1) 0,.map (st.boxes.length + 2 + 2)]
  rw [cu,hl2] at hg
  rw [hl2] at hm
  have hat:∀ x,x < st.boxes.length + 2 + 2→((st2.push (.mp [] [] 0)).push (.cells [.lit (.bool true),.lit (.bool false),.lit (.int .i64 (n:Nat)),.lit (.slice none 0 0),.ptr (st.boxes.length + 1) 0,.ptr (st.boxes.length + 2 + 1) 0,.map (st.boxes.length + 2 + 2)])).boxes[x]? = st2.boxes[x]?:=fun x hx=>by
    rw [dA (by rw [cu]; omega),dA (by omega)]
  refine hQ _ _ ⟨by simp,⟨?_,.inl ⟨rfl,rfl⟩,(hq1.at (hk2 _ (by omega)) (hk2 _ (by omega))).at (hat _ (by omega)) (hat _ (by omega)),hq2.at (hat _ (by omega)) (hat _ (by omega)),⟨[],hm,fun _=>rfl⟩,by simp <;> omega,by simp [aj],by simp [newP,entC,wEnt,bk],by simp [newP,entC,wEnt,bk],by simp [newP]⟩,⟨by simp only [cu]; omega,fun x hx _=>?_⟩⟩
  · simpa [newP,Nat.add_assoc] using hg
  · rw [hat x (by omega),hk2 x (by omega),hk1 x hx]
end Go.Fx.YtbomoaajkinfpaaFx

