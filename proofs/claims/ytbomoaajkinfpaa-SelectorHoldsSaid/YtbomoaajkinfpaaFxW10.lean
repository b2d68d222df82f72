/- What the functions that the statement reaches compute: part 10. -/
import Derived.Test.YtbomoaajkinfpaaFxW9
namespace Go.Fx.YtbomoaajkinfpaaFx
open Go Go.Fx
attribute [local irreducible] aC runI aw aB

set_option maxRecDepth 100000
set_option maxHeartbeats 4000000

theorem cnew_err {n:Int} (hn:n < 0∨4096 < n) (st:St):aL Go.Proofs.Try.prog n_f12 [.lit (.int .i64 n)] st (.tup [.lit (.pointer none),.lit (.int .i64 2)]):=by
  refine aD hmix k_f12 rfl rfl fun Q hQ=>?_
  unfold aFun c_f12
  simp (config:=KF) (disch:=omega) only [bZ,AI.dst,↓reduceIte,Nat.reduceEqDiff,reduceCtorEq]
  refine bw (fun h1=>?_) (fun h1=>?_)
  · simp (config:=KF) (disch:=omega) only [bZ,retI,AI.dst,↓reduceIte,Nat.reduceEqDiff,reduceCtorEq]
    exact hQ _
  · simp (config:=KF) (disch:=omega) only [bZ,retI,AI.dst,dZ,↓reduceIte,Nat.reduceEqDiff,reduceCtorEq,aM]
    exact hQ _

def newP (n:Nat):ChP:=⟨false,n,[],[],[],0,0⟩

theorem cnew_calls {n:Nat} (hn:n≤4096) (st:St):aA Go.Proofs.Try.prog n_f12 [.lit (.int .i64 (n:Nat))] st (fun r st' =>
    r = .tup [.ptr (st.boxes.length + 5) 0,.lit (.int .i64 0)]∧ChIs st' (st.boxes.length + 5) (newP n) (st.boxes.length + 1) st.boxes.length (st.boxes.length + 3) (st.boxes.length + 2) (st.boxes.length + 4) (.lit (.slice none 0 0))∧Kp st st' []):=by
  refine ap hmix k_f12 rfl rfl fun Q hQ=>?_
  unfold aFun c_f12
  simp (config:=KF) (disch:=omega) only [bZ,AI.dst,dZ,id,↓reduceIte,Nat.reduceEqDiff,reduceCtorEq,aY,cp]
  refine au rfl e_f36 (mg st) rfl fun r st1 hr=>?_
  obtain ⟨rfl,hq1,hl1,hk1⟩:=hr
  simp (config:=KF) (disch:=omega) only [bZ,id,↓reduceIte,Nat.reduceEqDiff,reduceCtorEq]
  refine au rfl e_f36 (mg st1) rfl fun r st2 hr=>?_
  obtain ⟨rfl,hq2,hl2,hk2⟩:=hr
  rw [hl1] at hq2 hl2 hk2 ⊢
  simp (config:=KF) (disch:=omega) only [bZ,retI,o_bar,iD,gO,barV,lT,fv,gP,ep,dt,cZ,fU,↓reduceIte,Nat.reduceEqDiff,Nat.reduceAdd,Nat.reduceLeDiff,reduceCtorEq,aK,hl2]
  have hm:=(MapIs.new st2 .i64 wtAV).push (.cells [.lit (.bool true),.lit (.bool false),.lit (.int .i64 (n:Nat)),.lit (.slice none 0 0),.ptr (st.boxes.length + 1) 0,.ptr (st.boxes.length + 2 + 1) 0,.map (st.boxes.length + 2 + 2)])
  have hg:=bI (st2.push (.mp [] [] 0)) [.lit (.bool true),.lit (.bool false),.lit (.int .i64 (n:Nat)),.lit (.slice none 0 0),.ptr (st.boxes.length + 1) 0,.ptr (st.boxes.length + 2 + 1) 0,.map (st.boxes.length + 2 + 2)]
  rw [aK,hl2] at hg
  rw [hl2] at hm
  have hat:∀ x,x < st.boxes.length + 2 + 2→((st2.push (.mp [] [] 0)).push (.cells [.lit (.bool true),.lit (.bool false),.lit (.int .i64 (n:Nat)),.lit (.slice none 0 0),.ptr (st.boxes.length + 1) 0,.ptr (st.boxes.length + 2 + 1) 0,.map (st.boxes.length + 2 + 2)])).boxes[x]? = st2.boxes[x]?:=fun x hx=>by
    rw [bu (by rw [aK]; omega),bu (by omega)]
  refine hQ _ _ ⟨by simp,⟨?_,.inl ⟨rfl,rfl⟩,(hq1.at (hk2 _ (by omega)) (hk2 _ (by omega))).at (hat _ (by omega)) (hat _ (by omega)),hq2.at (hat _ (by omega)) (hat _ (by omega)),⟨[],hm,fun _=>rfl⟩,by simp <;> omega,by simp [ae],by simp [newP,entC,wEnt,az],by simp [newP,entC,wEnt,az],by simp [newP]⟩,⟨by simp only [aK]; omega,fun x hx _=>?_⟩⟩
  · simpa [newP,Nat.add_assoc] using hg
  · rw [hat x (by omega),hk2 x (by omega),hk1 x hx]
end Go.Fx.YtbomoaajkinfpaaFx

