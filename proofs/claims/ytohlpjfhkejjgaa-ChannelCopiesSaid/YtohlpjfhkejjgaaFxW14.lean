/- What the functions that the statement reaches compute: part 14. -/
import Derived.Test.YtohlpjfhkejjgaaFxW13
namespace Go.Fx.YtohlpjfhkejjgaaFx
open Go Go.Fx
attribute [local irreducible] aC runI aY cF

set_option maxRecDepth 100000
set_option maxHeartbeats 4000000

theorem bd_send {P:ChP} {n:Nat} (h:Bd P n) (v:Int):Bd (bI P v).1 (n + 1)∧(bI P v).2.1.length≤1:=by
  unfold Bd at *
  unfold bI
  split
  · exact ⟨by first | omega | (simp only; omega),by simp⟩
  · split
    · rename_i hV
      have:P.V.length = _:=congrArg List.length hV
      simp only [List.length_cons] at this
      exact ⟨by simp only; omega,by simp⟩
    · split
      · simp only [List.length_append,List.length_singleton]; exact ⟨by first | omega | (simp only; omega),by simp⟩
      · exact ⟨by first | omega | (simp only; omega),by simp⟩
theorem bd_recv {P:ChP} {n:Nat} (h:Bd P n):Bd (aO P).1 (n + 1)∧(aO P).2.2.1.length≤1:=by
  unfold Bd at *
  unfold aO
  split
  · rename_i hS
    have:P.S.length = _:=congrArg List.length hS
    simp only [List.length_cons] at this
    simp only [List.length_tail,List.length_append,List.length_singleton]
    exact ⟨by first | omega | (simp only; omega),by simp⟩
  · split
    · exact ⟨by first | omega | (simp only; omega),by simp⟩
    · rename_i hB
      have:P.buf.length = _:=congrArg List.length hB
      simp only [List.length_cons] at this
      exact ⟨by simp only; omega,by simp⟩
theorem fR {P:ChP} {n:Nat} (h:Bd P n) (a:Ca):Bd (pDo P a).1 (n + 1)∧(pDo P a).2.2.2.1.length≤2 * n + 1:=by
  have h1:=fun v=>bd_send h v
  have h2:=bd_recv h
  unfold pDo
  split
  · unfold eJ
    split
    · unfold Bd at *; exact ⟨by simp only; omega,by simp⟩
    · split
      · unfold Bd at *; simp only [List.length_append,List.length_singleton]; exact ⟨by first | omega | (simp only; omega),by simp⟩
      · exact ⟨(h1 _).1,by have:=(h1 a.2.2).2; simp only; omega⟩
  split
  · unfold co
    split
    · unfold Bd at *; exact ⟨by simp only; omega,by simp⟩
    · split
      · unfold Bd at *; simp only [List.length_append,List.length_singleton]; exact ⟨by first | omega | (simp only; omega),by simp⟩
      · exact ⟨h2.1,by have:=h2.2; simp only; omega⟩
  split
  · exact ⟨(h1 _).1,by have:=(h1 a.2.2).2; simp only; omega⟩
  split
  · exact ⟨h2.1,by have:=h2.2; simp only; omega⟩
  split
  · unfold dw
    have f1:=List.length_filter_le (fun x:W3=>x.2.1 != a.2.1) P.S
    have f2:=List.length_filter_le (fun x:W3=>x.2.1 != a.2.1) P.V
    unfold Bd at *
    split
    · exact ⟨by simp only; omega,by simp⟩
    · split <;> exact ⟨by simp only; omega,by simp⟩
  · unfold dm
    unfold Bd at *
    split
    · exact ⟨by simp only; omega,by simp⟩
    · simp only [List.length_append,List.length_map,List.length_nil]
      exact ⟨by omega,by omega⟩

section
variable {st:St} {c q0 m0 q1 m1 wid:Nat} {bv:AV} {P:ChP}

theorem mA (x:Rs):(rsAV x).dis = rsAV x∧(rsAV x).noL = true:=by
  obtain ⟨w1,w2,w3,w4,w5,w6,w7⟩:=bE x.2.2.1
  simp only [rsAV,AV.dis,List.map_cons,List.map_nil,w2]
  exact ⟨rfl,rfl⟩

theorem mB (h:ChIs st c P q0 m0 q1 m1 wid bv) (a:Ca) (y:Rs) {n:Nat} (hb:Bd P n∧n < 3000) (hy:y.2.2.1.length≤1000) :
    bj Go.Proofs.Try.prog n_f25 [.ptr c 0,caAV a,rsAV y] st (fun r st'=>r = .lit (.bool (decide ((pDo P a).2 = y)))∧cV st c (pDo P a).1 q0 m0 q1 m1 wid bv st'):=by
  have hd:=nX h a hb
  have hl:=(fR hb.1 a).2
  obtain ⟨w1,w2,w3,w4,w5,w6,w7⟩:=bE y.2.2.1
  have he:∀ st,bF Go.Proofs.Try.prog n_f23 [(rsAV (pDo P a).2).dis,(rsAV y).dis] st (.lit (.bool (decide ((pDo P a).2 = y)))):=fun st=>by
    rw [(mA _).1,(mA _).1]
    exact la _ _ (by omega) (by omega) st
  generalize pDo P a = R at *
  obtain ⟨P',x⟩:=R
  simp only at hd hl he
  obtain ⟨u1,u2,u3,u4,u5,u6,u7⟩:=bE x.2.2.1
  refine bf hmix k_f25 rfl rfl fun Q hQ=>?_
  unfold aFun c_f25
  simp (config:=KF) (disch:=omega) only [bZ,dO,boxX,ap,putS,Sf.set,Sf.reg,getR,setR,ae,Sf.newLoc,look,bW,aR,bt,ao,aj,ag,aa,ai,cn,bO,aX,List.length_cons,List.length_nil,List.all_cons,List.all_nil,↓reduceIte,Nat.reduceEqDiff,Nat.reduceAdd,Bool.true_and,Bool.and_true,and_true,true_and,reduceCtorEq,Nat.zero_add,f25_1e,f25_2e,f25_2l,f25_3e,f25_4e,f25_4h,f25_4p,f25_4l,caAV,rsAV,w2,w4]
  refine draw_m ⟨[]⟩ (St.sub_nil _) ?_
  simp (config:=KF) (disch:=omega) only [bZ,List.contains_nil,k7,ip,k8,mw,eC,oK,hZ,nt,nu,kq,au,ak,al,am,aG,ev_f,putS,Sf.set,Sf.reg,getR,setR,look,bk,id,ao,aj,List.length_cons,List.length_nil,List.append_nil,List.nil_append,List.cons_append,List.drop_zero,List.take_succ_cons,List.take_zero,↓reduceIte,Nat.reduceEqDiff,Nat.reduceAdd,Nat.reduceLeDiff,reduceCtorEq,Nat.zero_add,decide_true,Bool.false_eq_true]
  refine oM rfl e_f11 hd rfl ?_
  simp (config:=KF) (disch:=omega) only [bZ,List.contains_nil,ksB,bz,bY,ci,bG,nstB,ck,eC,oI,oJ,hm_val,jU,au,ak,al,am,aG,putS,Sf.set,Sf.reg,getR,setR,look,ao,aj,List.length_cons,List.length_nil,List.all_nil,List.nil_append,List.cons_append,List.drop_zero,List.take_succ_cons,List.take_zero,↓reduceIte,Nat.reduceEqDiff,Nat.reduceAdd,Nat.reduceLeDiff,Bool.true_and,Bool.and_true,and_true,true_and,reduceCtorEq,Nat.zero_add,decide_true,Bool.not_false,rsAV,w2]
  rintro r st1 ⟨rfl,h1⟩
  refine ⟨St.sub_nil _,?_⟩
  simp (config:=KF) (disch:=omega) only [bZ,List.contains_nil,ksB,bz,bY,ci,bG,cO,cu,nstB,ck,k7,ip,k8,eC,jT,iG,oL,jV,lA,and_self,az,au,ak,al,am,aG,ev_f,putS,Sf.set,Sf.reg,getR,setR,look,id,ao,aj,List.length_cons,List.length_nil,List.all_nil,List.nil_append,List.cons_append,List.drop_zero,List.take_succ_cons,List.take_zero,↓reduceIte,Nat.reduceEqDiff,Nat.reduceAdd,Nat.reduceLeDiff,Bool.true_and,Bool.and_true,and_true,true_and,reduceCtorEq,Nat.zero_add,decide_true,Bool.not_false,w2]

  refine bA rfl e_f23 (he _) rfl ?_
  simp (config:=KF) (disch:=omega) only [bZ,retI,aA,putS,Sf.set,Sf.reg,getR,setR,ae,Sf.disAt,↓reduceIte,Nat.reduceEqDiff,Bool.true_and,true_and,reduceCtorEq]
  exact hQ _ _ ⟨rfl,h1⟩
end
end Go.Fx.YtohlpjfhkejjgaaFx

