/- What the functions that the statement reaches compute: part 17. -/
import Derived.Test.YtohlpjfhkejjgaaFxW16
namespace Go.Fx.YtohlpjfhkejjgaaFx
open Go Go.Fx
attribute [local irreducible] aC runI aY cF

set_option maxRecDepth 100000
set_option maxHeartbeats 4000000

/-- Where a task waits, from k on. -/
def atR (t:Int):List W3→Nat→Int
  | [],_=>-1
  | x::r,k=>if x.2.1 = t then (k:Int) else atR t r (k + 1)

theorem oT (l:List W3) (t:Int) (hl:l.length≤1000000) (st:St):bF Go.Proofs.Try.prog n_f54 [wlAV l,.lit (.int .i64 t)] st (.lit (.int .i64 (atR t l 0))):=by
  refine cC hmix k_f54 rfl rfl fun Q hQ=>?_
  unfold aFun c_f54
  simp (config:=KF) (disch:=omega) only [bZ,putS,Sf.set,getR,setR,ae,bt,aW,↓reduceIte,Nat.reduceEqDiff,reduceCtorEq,Nat.zero_add,f54_1e,f54_2e,f54_2l,f54_3e,f54_4e,f54_5e,f54_5l,f54_6e,wlAV]
  rw [f54_7w]
  refine gM (A:=Nat) (fun a=>l.length - a) (fun a=>⟨[(0,.sl false 2 (l.map wAV)),(1,.lit (.int .i64 t)),(5,.lit (.int .i64 (a:Nat)))],[]⟩) (fun _=>st)
    (fun a=>a≤l.length∧atR t l 0 = atR t (l.drop a) a) 0 ⟨by omega,rfl⟩ (Sf.le_refl _) rfl ?_
  rintro i ⟨h1,h2⟩ K hK hKe hKr
  by_cases h:i < l.length
  · have e1:(l.map wAV).getD i .any = wAV l[i]:=by simp [List.getD,h]
    rw [List.drop_eq_getElem_cons h] at h2
    simp only [atR] at h2
    simp (config:=KF) (disch:=omega) only [bZ,aD,nK,aq,cM,ixSV,au,ixA,lenI,addA,ak,bR,cI,am,putS,Sf.set,Sf.reg,getR,setR,ae,aW,ag,List.drop_zero,Int.toNat_natCast,↓reduceIte,Nat.reduceEqDiff,reduceCtorEq,List.length_map,du,cN,eA,f54_8e,f54_9e,f54_10e,f54_10l,f54_11e,f54_12e,f54_13e,f54_14e,f54_15e,f54_15l,f54_16e,e1,wAV]
    refine bV (fun h3=>?_) (fun h3=>?_)
    · simp (config:=KF) (disch:=omega) only [bZ,bU,aA,putS,Sf.set,Sf.reg,getR,setR,ae,Sf.disAt,↓reduceIte,Nat.reduceEqDiff,reduceCtorEq,f54_17e,f54_18e,f54_18l]
      refine hKr _ _ ?_
      simp (config:=KF) (disch:=omega) only [bZ,bU,retI,Sf.reg,getR,↓reduceIte,Bool.true_and,true_and]
      rw [if_pos h3] at h2
      rw [h2] at hQ
      exact hQ _
    · simp (config:=KF) (disch:=omega) only [bZ,aV,aA,eI,putS,Sf.set,Sf.reg,getR,setR,ae,Sf.disAt,↓reduceIte,Nat.reduceEqDiff,reduceCtorEq,IntWalk.i64_in,dV,f54_19e,f54_19l]
      rw [if_neg h3] at h2
      exact hK (i + 1) _ ⟨by omega,h2⟩ (by omega) (Sf.le_refl _)
  · have e:i = l.length:=by omega
    rw [e,List.drop_length] at h2
    simp only [atR] at h2
    simp (config:=KF) (disch:=omega) only [bZ,el,fY,cM,lenI,cI,putS,Sf.set,Sf.reg,getR,setR,ae,aW,↓reduceIte,Nat.reduceEqDiff,reduceCtorEq,List.length_map,cB,f54_8e,f54_9e,f54_10e,f54_10l,f54_11e]
    refine hKe _ _ _ ?_
    simp (config:=KF) (disch:=omega) only [bZ,dp,retI,putS,Sf.set,Sf.reg,getR,setR,ae,↓reduceIte,Int.reduceNeg,Bool.true_and,true_and,f54_20e,f54_21e,f54_21l]
    rw [h2] at hQ
    exact hQ _

theorem ji (P:ChP) (t:Int) (hl:P.S.length≤1000000∧P.V.length≤1000000) (st:St):bF Go.Proofs.Try.prog n_f49 [bu P,.lit (.int .i64 t)] st (.lit (.bool (decide (0≤atR t P.S 0∨0≤atR t P.V 0)))):=by
  have h0:=fun st=>oT P.S t hl.1 st
  have h1:=fun st=>oT P.V t hl.2 st
  refine cC hmix k_f49 rfl rfl fun Q hQ=>?_
  unfold aFun c_f49
  unfold wlAV at *
  simp (config:=KF) (disch:=omega) only [bZ,aD,aq,dO,az,au,boxX,addA,ak,ev_f,ap,putS,Sf.set,Sf.reg,getR,setR,ae,Sf.newLoc,look,bW,aR,bt,id,aW,ao,aj,aL,ag,aa,aB,ai,bD,aX,List.length_cons,List.length_nil,List.all_cons,List.all_nil,List.drop_zero,List.drop_succ_cons,↓reduceIte,Nat.reduceEqDiff,Nat.reduceAdd,Bool.true_and,Bool.and_true,and_true,true_and,reduceCtorEq,Nat.zero_add,f49_1e,f49_2e,f49_2l,f49_3e,f49_4e,f49_4l,bu,wlAV]
  refine bA rfl e_f54 (h0 _) rfl ?_
  simp (config:=KF) (disch:=omega) only [bZ,aw,AI.dst,ik,putS,Sf.set,Sf.reg,getR,setR,↓reduceIte,Nat.reduceEqDiff]
  refine c8 (fun h=>?_) (fun h=>?_)
  · simp (config:=KF) (disch:=omega) only [bZ,retI,aw,cQ,AI.dst,bX,a7,aA,bQ,putS,Sf.set,Sf.reg,getR,setR,ae,Sf.disAt,↓reduceIte,Nat.reduceEqDiff,Bool.true_and,true_and,Bool.false_eq_true]
    rw [decide_eq_true (by omega)] at hQ
    exact hQ _
  · simp (config:=KF) (disch:=omega) only [bZ,aw,AI.dst,a9,aD,aq,az,au,addA,ak,ev_f,putS,Sf.set,Sf.reg,getR,setR,look,id,aW,List.drop_zero,List.drop_succ_cons,↓reduceIte,Nat.reduceEqDiff,Nat.zero_add,Bool.false_eq_true]
    refine bA rfl e_f54 (h1 _) rfl ?_
    simp (config:=KF) (disch:=omega) only [bZ,retI,aw,AI.dst,a9,a7,aA,bN,ik,putS,Sf.set,Sf.reg,getR,setR,ae,Sf.disAt,↓reduceIte,Nat.reduceEqDiff,Bool.true_and,true_and,Bool.false_eq_true]
    have:decide (0≤atR t P.S 0∨0≤atR t P.V 0) = decide (0≤atR t P.V 0):=by
      simp only [h,false_or]
    rw [this] at hQ
    exact hQ _

theorem nY (l:List W3) (k:Nat) (t v:Int) (hl:l.length≤100000) (st:St):bF Go.Proofs.Try.prog n_f50 [wlAV l,wAV (k,t,v)] st (wlAV (l++[(k,t,v)])):=by
  refine f8 hmix k_f50 rfl rfl (mC _) (by simp [mC,wAV_nb]) (fun Q hQ=>?_) st
  unfold aFun c_f50
  rcases l with _ | ⟨x,l⟩
  · simp (config:=KF) (disch:=omega) only [bZ,List.contains_nil,da,cd,cX,cc,mq,mt,bp,tail_nil,and_self,retI,aA,fI,dO,au,bslV,gt,boxX,List.isEmpty_cons,List.isEmpty_nil,List.reduceReplicate,ak,al,cR,srcA,dg,am,aG,ap,putS,Sf.set,Sf.reg,getR,setR,ae,Sf.disAt,Sf.newLoc,look,bW,aR,bk,bt,c5,aW,ao,aj,ag,aa,ai,je,df,aX,List.length_cons,List.length_nil,List.all_cons,List.all_nil,List.drop_zero,List.take_succ_cons,List.take_zero,List.set_cons_zero,↓reduceIte,Nat.reduceEqDiff,Nat.reduceAdd,Nat.reduceLT,Nat.reduceLeDiff,Bool.true_and,Bool.and_true,and_true,true_and,reduceCtorEq,Nat.zero_add,decide_true,Bool.false_eq_true,c9,f50_1e,f50_2e,f50_2l,f50_3e,f50_4e,f50_4h,f50_4l,wlAV,wAV]
    exact hQ _ _ (.own _ _)
  · simp only [List.length_cons] at hl
    simp (config:=KF) (disch:=omega) only [bZ,List.contains_nil,da,cd,cX,cc,mq,mt,bp,tail_nil,and_self,retI,aA,fI,dO,au,bslV,gt,boxX,List.isEmpty_cons,List.reduceReplicate,ak,al,cR,eV,srcA,dg,am,aG,ap,putS,Sf.set,Sf.reg,getR,setR,ae,Sf.disAt,Sf.newLoc,look,bW,aR,bk,bt,c5,aW,ao,aj,ag,aa,ai,je,df,aX,List.length_cons,List.length_nil,List.all_cons,List.all_nil,List.cons_append,List.drop_zero,List.take_succ_cons,List.take_zero,List.set_cons_zero,↓reduceIte,Nat.reduceEqDiff,Nat.reduceAdd,Nat.reduceLT,Nat.reduceLeDiff,Bool.true_and,Bool.and_true,and_true,true_and,reduceCtorEq,Nat.zero_add,decide_true,Bool.false_eq_true,List.length_map,c9,f50_1e,f50_2e,f50_2l,f50_3e,f50_4e,f50_4h,f50_4l,wlAV,wAV,wl_dis]
    refine hQ _ _ ?_
    have:wlAV (x::l++[(k,t,v)]) = .sl false 2 (wAV x::(l.map wAV++[wAV (k,t,v)])):=by simp [wlAV]
    rw [this]
    exact .own _ _

theorem mE {t:Int}:∀ {l:List W3} {k:Nat},t ∉ aP (wEnt 0 l)→atR t l k = -1
  | [],_,_=>rfl
  | x :: l, k, h => by
    simp only [wEnt,aP,List.map_cons,List.mem_cons,not_or] at h
    simp only [atR]
    rw [if_neg fun e=>h.1 e.symm]
    exact mE h.2
theorem atR_some {t:Int} {x:W3} {B:List W3} (hx:x.2.1 = t):∀ {A:List W3} {k:Nat},t ∉ aP (wEnt 0 A)→atR t (A++x::B) k = ((k + A.length:Nat):Int)
  | [],k,_=>by simp only [List.nil_append,atR]; rw [if_pos hx]; rfl
  | y :: A, k, h => by
    simp only [wEnt,aP,List.map_cons,List.mem_cons,not_or] at h
    simp only [List.cons_append,atR]
    rw [if_neg fun e=>h.1 e.symm,atR_some hx h.2,List.length_cons]
    congr 1; omega

theorem jX (l:List W3) (t:Int) (hl:l.length≤100000) (hnd:(aP (wEnt 0 l)).Nodup) (st:St):bF Go.Proofs.Try.prog n_f51 [wlAV l,.lit (.int .i64 t)] st (wlAV (l.filter fun x=>x.2.1 != t)):=by
  refine f8 hmix k_f51 rfl rfl (mC _) (by simp [mC,eQ]) (fun Q hQ=>?_) st
  unfold aFun c_f51
  have hat:=oT l t (by omega) ⟨[]⟩
  by_cases hi:t ∈ aP (wEnt 0 l)
  · obtain ⟨A,k,v,B,rfl⟩:=gP hi
    have hA:t ∉ aP (wEnt 0 A):=by
      intro e
      simp only [wEnt,aP,List.map_append,List.map_cons,List.nodup_append] at hnd e
      exact hnd.2.2 t e t (by simp) rfl
    have hB:t ∉ aP (wEnt 0 B):=by
      intro e
      simp only [wEnt,aP,List.map_append,List.map_cons,List.nodup_append,List.nodup_cons] at hnd e
      exact hnd.2.1.1 e
    rw [atR_some (x:=(k,t,v)) rfl hA,Nat.zero_add] at hat
    have hf:((A++(k,t,v)::B).filter fun x=>x.2.1 != t) = A++B:=by
      rw [List.filter_append,List.filter_cons,eF (d:=0) hA,eF (d:=0) hB]
      simp
    rw [hf] at hQ
    simp only [List.length_append,List.length_cons] at hl
    have hlen:((A++(k,t,v)::B).map wAV).length = A.length + (B.length + 1):=by simp
    have htk:((A++(k,t,v)::B).map wAV).take A.length = A.map wAV:=by
      rw [← List.map_take]; simp
    have hdr:((A++(k,t,v)::B).map wAV).drop (A.length + 1) = B.map wAV:=by
      rw [← List.map_drop]; simp [List.drop_append]
    simp only [wlAV] at hat
    simp (config:=KF) (disch:=omega) only [bZ,az,ev_f,putS,Sf.set,Sf.reg,getR,setR,ae,bt,id,aW,↓reduceIte,Nat.reduceEqDiff,reduceCtorEq,Nat.zero_add,f51_1e,f51_2e,f51_2l,f51_3e,f51_4e,f51_4l,wlAV]
    refine bA rfl e_f54 hat rfl ?_
    have hres:Q (.sl true 2 (A.map wAV++B.map wAV)) ⟨[]⟩:=hQ _ _ (by rw [wlAV,List.map_append]; exact .own _ _)
    have hdA:=wl_dis A
    have hdB:=wl_dis B
    have hnil:A.map wAV = []→B.map wAV = []→Q (.lit (.slice none 0 0)) ⟨[]⟩:=fun e1 e2=>hQ _ _ (by
      rw [wlAV,List.map_append,e1,e2]; exact .nil _ _)
    have hlA:(A.map wAV).length = A.length:=List.length_map ..
    have hlB:(B.map wAV).length = B.length:=List.length_map ..
    have hta:((A++(k,t,v)::B).map wAV).take (A.length + (B.length + 1)) = (A++(k,t,v)::B).map wAV:=List.take_of_length_le (by omega)
    clear hat hQ hf
    generalize ((A++(k,t,v)::B).map wAV) = M at *
    generalize A.map wAV = MA at *
    generalize B.map wAV = MB at *
    rcases MA with _ | ⟨a,MA⟩
    · rcases MB with _ | ⟨b,MB⟩
      · simp (config:=KF) (disch:=omega) only [bZ,da,cd,cX,mo,jQ,mt,bp,tail_nil,retI,aA,fI,gS,gt,List.isEmpty_nil,ixTo,cR,srcA,eI,cI,am,putS,Sf.set,Sf.reg,getR,setR,ae,Sf.disAt,bk,aW,Option.map_some,Option.map_none,List.drop_zero,Int.toNat_natCast,↓reduceIte,Nat.reduceEqDiff,Bool.true_and,true_and,reduceCtorEq,du,cB,IntWalk.i64_in,dV,eA,f51_5e,f51_6e,f51_7e,f51_7l,f51_8e,f51_11e,f51_12e,f51_12h,f51_12l,hlen,hta,htk,hdr]
        exact hnil rfl rfl
      · simp only [List.length_cons] at hlB
        simp (config:=KF) (disch:=omega) only [bZ,da,cd,cX,mo,jQ,mt,bp,tail_nil,retI,aA,fI,gS,gt,List.isEmpty_cons,List.isEmpty_nil,ixTo,cR,srcA,eI,cI,am,aG,putS,Sf.set,Sf.reg,getR,setR,ae,Sf.disAt,bk,aW,je,List.length_cons,Option.map_some,Option.map_none,List.drop_zero,Int.toNat_natCast,↓reduceIte,Nat.reduceEqDiff,Bool.true_and,true_and,reduceCtorEq,Bool.false_eq_true,du,c9,cB,IntWalk.i64_in,dV,eA,f51_5e,f51_6e,f51_7e,f51_7l,f51_8e,f51_11e,f51_12e,f51_12h,f51_12l,hlen,hta,htk,hdr,hdB]
        exact hres
    · simp only [List.length_cons] at hlA
      simp (config:=KF) (disch:=omega) only [bZ,da,cd,cX,mo,jQ,mt,bp,tail_nil,retI,aA,fI,gS,gt,List.isEmpty_cons,ixTo,cR,eV,srcA,eI,cI,am,aG,putS,Sf.set,Sf.reg,getR,setR,ae,Sf.disAt,bk,aW,je,List.length_cons,Option.map_some,Option.map_none,List.cons_append,List.drop_zero,Int.toNat_natCast,↓reduceIte,Nat.reduceEqDiff,Bool.true_and,true_and,reduceCtorEq,Bool.false_eq_true,du,c9,cB,IntWalk.i64_in,dV,eA,f51_5e,f51_6e,f51_7e,f51_7l,f51_8e,f51_11e,f51_12e,f51_12h,f51_12l,hlen,hta,htk,hdr,hdA,hdB]
      exact hres
  · rw [mE hi] at hat
    have hf:(l.filter fun x=>x.2.1 != t) = l:=eF (d:=0) hi
    rw [hf] at hQ
    simp only [wlAV] at hat
    simp (config:=KF) (disch:=omega) only [bZ,az,ev_f,putS,Sf.set,Sf.reg,getR,setR,ae,bt,id,aW,↓reduceIte,Nat.reduceEqDiff,reduceCtorEq,Nat.zero_add,f51_1e,f51_2e,f51_2l,f51_3e,f51_4e,f51_4l,wlAV]
    refine bA rfl e_f54 hat rfl ?_
    simp (config:=KF) (disch:=omega) only [bZ,retI,aA,cI,putS,Sf.set,Sf.reg,getR,setR,ae,Sf.disAt,aW,je,↓reduceIte,Nat.reduceEqDiff,Int.reduceLT,Int.reduceNeg,Bool.true_and,true_and,reduceCtorEq,decide_true,f51_5e,f51_6e,f51_7e,f51_7l,f51_8e,f51_9e,f51_10e,f51_10l]
    exact hQ _ _ (.refl _)
end Go.Fx.YtohlpjfhkejjgaaFx

