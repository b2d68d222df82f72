/- What the functions that the statement reaches compute: part 19. -/
import Derived.Test.YtphaaebhgggbaaaFxW18
namespace Go.Fx.YtphaaebhgggbaaaFx
open Go Go.Fx
attribute [local irreducible] aC runI bD cO

set_option maxRecDepth 100000
set_option maxHeartbeats 8000000

/-! LatchConds: printed by wip/dev/gen_lt25.py. -/
theorem rCan_co {T U:List Int} (t:Int) (hn:(T++U).Nodup):rCan T U t = io T U t:=by
  have hT:t ∉ T→T.filter (·≠t) = T:=fun h=>List.filter_eq_self.2 fun v hv=>by
    have:v≠t:=fun e=>h (e ▸ hv)
    simpa using this
  have hU:t ∉ U→U.filter (·≠t) = U:=fun h=>List.filter_eq_self.2 fun v hv=>by
    have:v≠t:=fun e=>h (e ▸ hv)
    simpa using this
  unfold rCan io lCan
  by_cases h:t < 0∨64≤t
  · simp only [if_pos h]; rfl
  simp only [if_neg h]
  by_cases h1:t ∈ T
  · have h2:t ∉ U:=fun hu=>(List.nodup_append.1 hn).2.2 t h1 t hu rfl
    rw [if_neg (fun h=>h.1 h1),hU h2]
    simp only [h1,not_true_eq_false,if_false,ne_eq,show ¬ (0:Int) = 9 by decide,not_false_eq_true,if_true]
  · by_cases h2:t ∈ U
    · rw [if_neg (fun h=>h.2 h2),hT h1]
      simp only [h1,h2,not_true_eq_false,if_false,ne_eq,not_false_eq_true,if_true]
    · rw [if_pos ⟨h1,h2⟩]
      simp only [h1,h2,not_true_eq_false,if_false,ne_eq,not_false_eq_true,if_true]
theorem jz (o:Int) (T:List Int):(a8 o T).2.length≤1:=by
  unfold a8
  split
  · simp
  cases T <;> simp
theorem n0 (o:Int) (T:List Int) (t:Int):(bX o T t).2.1.length≤1:=by
  unfold bX
  split
  · simp
  · exact jz _ _

section
variable {l:List Ac} {st:St} {b:Nat} {x y:Ln} {o:Int} {T U:List Int} {g k:Nat} {i:Nat}
theorem oQ (h:CoIs st b x y o T U g k) {Q:Exit→Sf→St→Prop} (hQ:Q .normal ⟨[(0,.sl false 4 (l.map acAV)),(3,.ptr b 0),(4,.lptr 4 0),(5,.lit (.int .i64 (i:Nat))),(133,.lit (.bool false))],[(4,[.lit (.int .i64 0),.lit (.int .i64 0),.lit (.int .i64 0),.lit (.int .i64 o),.lit (.bool false),.sl false 1 (ints T),.sl false 1 (ints U)])]⟩ st) :
    aC Go.Proofs.Try.prog id false f7_79 ⟨[(0,.sl false 4 (l.map acAV)),(3,.ptr b 0),(4,.lptr 4 0),(5,.lit (.int .i64 (i:Nat))),(49,.lit (.bool false))],[(4,[.lit (.int .i64 0),.lit (.int .i64 0),.lit (.int .i64 0),.lit (.int .i64 o),.lit (.bool false),.sl false 1 (ints T),.sl false 1 (ints U)])]⟩ st Q:=by
  have lT:=cM T
  have lU:=cM U
  have hob:=h.ow.ob
  have how:=mX h
  have hwt:=lC h
  have lt1:=h.ow.ln.cnt
  have lt2:=h.sl.cnt
  by_cases h0:0≤o
  · have hm:max 0 o = o:=by omega
    have hd:decide (0≤o) = true:=by simpa using h0
    have hd2:decide (o ≥ 0) = true:=by simpa using h0
    have hmn:(if o < 0 then (0:Int) else o) = o:=if_neg (by omega)
    have hmn2:(if 0 < o then o else (0:Int)) = o:=by split <;> omega
    rw [hm,hd] at how
    simp (config:=KF) (disch:=omega) only [bZ,ao,ev_f,putS,Sf.set,Sf.reg,getR,setR,id,↓reduceIte,Nat.reduceEqDiff,reduceCtorEq,f7_79e,f7_80e,f7_80l]
    refine aF rfl e_f19 how rfl ?_
    simp (config:=KF) (disch:=omega) only [bZ,bJ,az,ao,extV,ev_f,putS,Sf.set,Sf.reg,getR,setR,aa,Sf.disAt,look,id,bp,bk,List.getElem?_cons_zero,List.getElem?_cons_succ,↓reduceIte,Nat.reduceEqDiff,reduceCtorEq,f7_81e,f7_82e,f7_82l]
    refine aF rfl e_f20 hwt rfl ?_
    simp (config:=KF) (disch:=omega) only [bZ,aL,AI.dst,bh,bu,bJ,aw,aq,cw,o_mn,az,bA,extV,ar,b_neq,lenI,addA,ag,ey,cH,ep,putS,Sf.set,Sf.reg,getR,setR,aa,Sf.disAt,look,aI,bp,bk,List.getElem?_cons_zero,List.getElem?_cons_succ,List.drop_zero,List.drop_succ_cons,↓reduceIte,Nat.reduceEqDiff,reduceCtorEq,Nat.zero_add,not_true_eq_false,decide_false,Bool.not_true,Bool.false_eq_true,f7_83e,f7_84e,f7_84l,f7_85e,lT,lU,hd2,hmn2,beq_self_eq_true]
    exact hQ
  · have hm:max 0 o = 0:=by omega
    have hd:decide (0≤o) = false:=by simpa using h0
    have hd2:decide (o ≥ 0) = false:=by simpa using h0
    have hmn:(if o < 0 then (0:Int) else o) = 0:=if_pos (by omega)
    have hmn2:(if 0 < o then o else (0:Int)) = 0:=if_neg (by omega)
    rw [hm,hd] at how
    simp (config:=KF) (disch:=omega) only [bZ,ao,ev_f,putS,Sf.set,Sf.reg,getR,setR,id,↓reduceIte,Nat.reduceEqDiff,reduceCtorEq,f7_79e,f7_80e,f7_80l]
    refine aF rfl e_f19 how rfl ?_
    simp (config:=KF) (disch:=omega) only [bZ,bJ,az,ao,extV,ev_f,putS,Sf.set,Sf.reg,getR,setR,aa,Sf.disAt,look,id,bp,bk,List.getElem?_cons_zero,List.getElem?_cons_succ,↓reduceIte,Nat.reduceEqDiff,reduceCtorEq,f7_81e,f7_82e,f7_82l]
    refine aF rfl e_f20 hwt rfl ?_
    simp (config:=KF) (disch:=omega) only [bZ,aL,AI.dst,bh,bu,bJ,aw,aq,cw,o_mn,az,bA,extV,ar,b_neq,lenI,addA,ag,ey,cH,ep,putS,Sf.set,Sf.reg,getR,setR,aa,Sf.disAt,look,aI,bp,bk,List.getElem?_cons_zero,List.getElem?_cons_succ,List.drop_zero,List.drop_succ_cons,↓reduceIte,Nat.reduceEqDiff,reduceCtorEq,Nat.zero_add,not_true_eq_false,decide_false,Bool.not_true,Bool.false_eq_true,if_neg,f7_83e,f7_84e,f7_84l,f7_85e,lT,lU,hd2,beq_self_eq_true]
    exact hQ
theorem d2 (h:CoIs st b x y o T U g k) {Q:Exit→Sf→St→Prop} (hQ:Q .normal ⟨[(0,.sl false 4 (l.map acAV)),(3,.ptr b 0),(4,.lptr 4 0),(5,.lit (.int .i64 (i:Nat))),(133,.lit (.bool false))],[(4,[.lit (.int .i64 0),.lit (.int .i64 0),.lit (.int .i64 0),.lit (.int .i64 o),.lit (.bool false),.sl false 1 (ints T),.sl false 1 (ints U)])]⟩ st) :
    aC Go.Proofs.Try.prog id false f7_79 ⟨[(0,.sl false 4 (l.map acAV)),(3,.ptr b 0),(4,.lptr 4 0),(5,.lit (.int .i64 (i:Nat))),(97,.lit (.bool false))],[(4,[.lit (.int .i64 0),.lit (.int .i64 0),.lit (.int .i64 0),.lit (.int .i64 o),.lit (.bool false),.sl false 1 (ints T),.sl false 1 (ints U)])]⟩ st Q:=by
  have lT:=cM T
  have lU:=cM U
  have hob:=h.ow.ob
  have how:=mX h
  have hwt:=lC h
  have lt1:=h.ow.ln.cnt
  have lt2:=h.sl.cnt
  by_cases h0:0≤o
  · have hm:max 0 o = o:=by omega
    have hd:decide (0≤o) = true:=by simpa using h0
    have hd2:decide (o ≥ 0) = true:=by simpa using h0
    have hmn:(if o < 0 then (0:Int) else o) = o:=if_neg (by omega)
    have hmn2:(if 0 < o then o else (0:Int)) = o:=by split <;> omega
    rw [hm,hd] at how
    simp (config:=KF) (disch:=omega) only [bZ,ao,ev_f,putS,Sf.set,Sf.reg,getR,setR,id,↓reduceIte,Nat.reduceEqDiff,reduceCtorEq,f7_79e,f7_80e,f7_80l]
    refine aF rfl e_f19 how rfl ?_
    simp (config:=KF) (disch:=omega) only [bZ,bJ,az,ao,extV,ev_f,putS,Sf.set,Sf.reg,getR,setR,aa,Sf.disAt,look,id,bp,bk,List.getElem?_cons_zero,List.getElem?_cons_succ,↓reduceIte,Nat.reduceEqDiff,reduceCtorEq,f7_81e,f7_82e,f7_82l]
    refine aF rfl e_f20 hwt rfl ?_
    simp (config:=KF) (disch:=omega) only [bZ,aL,AI.dst,bh,bu,bJ,aw,aq,cw,o_mn,az,bA,extV,ar,b_neq,lenI,addA,ag,ey,cH,ep,putS,Sf.set,Sf.reg,getR,setR,aa,Sf.disAt,look,aI,bp,bk,List.getElem?_cons_zero,List.getElem?_cons_succ,List.drop_zero,List.drop_succ_cons,↓reduceIte,Nat.reduceEqDiff,reduceCtorEq,Nat.zero_add,not_true_eq_false,decide_false,Bool.not_true,Bool.false_eq_true,f7_83e,f7_84e,f7_84l,f7_85e,lT,lU,hd2,hmn2,beq_self_eq_true]
    exact hQ
  · have hm:max 0 o = 0:=by omega
    have hd:decide (0≤o) = false:=by simpa using h0
    have hd2:decide (o ≥ 0) = false:=by simpa using h0
    have hmn:(if o < 0 then (0:Int) else o) = 0:=if_pos (by omega)
    have hmn2:(if 0 < o then o else (0:Int)) = 0:=if_neg (by omega)
    rw [hm,hd] at how
    simp (config:=KF) (disch:=omega) only [bZ,ao,ev_f,putS,Sf.set,Sf.reg,getR,setR,id,↓reduceIte,Nat.reduceEqDiff,reduceCtorEq,f7_79e,f7_80e,f7_80l]
    refine aF rfl e_f19 how rfl ?_
    simp (config:=KF) (disch:=omega) only [bZ,bJ,az,ao,extV,ev_f,putS,Sf.set,Sf.reg,getR,setR,aa,Sf.disAt,look,id,bp,bk,List.getElem?_cons_zero,List.getElem?_cons_succ,↓reduceIte,Nat.reduceEqDiff,reduceCtorEq,f7_81e,f7_82e,f7_82l]
    refine aF rfl e_f20 hwt rfl ?_
    simp (config:=KF) (disch:=omega) only [bZ,aL,AI.dst,bh,bu,bJ,aw,aq,cw,o_mn,az,bA,extV,ar,b_neq,lenI,addA,ag,ey,cH,ep,putS,Sf.set,Sf.reg,getR,setR,aa,Sf.disAt,look,aI,bp,bk,List.getElem?_cons_zero,List.getElem?_cons_succ,List.drop_zero,List.drop_succ_cons,↓reduceIte,Nat.reduceEqDiff,reduceCtorEq,Nat.zero_add,not_true_eq_false,decide_false,Bool.not_true,Bool.false_eq_true,if_neg,f7_83e,f7_84e,f7_84l,f7_85e,lT,lU,hd2,beq_self_eq_true]
    exact hQ
end
structure CA where
  i:Nat
  st:St
  b:Nat
  x:Ln
  y:Ln
  o:Int
  T:List Int
  U:List Int
  g:Nat
  k:Nat
theorem conds_loop {l:List Ac} {st0:St} {b0:Nat} {x0 y0:Ln} (h0:CoIs st0 b0 x0 y0 (-1) [] [] 0 0) (hl:l.length≤60) (Q:Exit→Sf→St→Prop) (hQ:∀ st,Q .normal ⟨[],[]⟩ st) :
    aC Go.Proofs.Try.prog id false f7_22 ⟨[(0,.sl false 4 (l.map acAV)),(3,.ptr b0 0),(4,.lptr 4 0),(5,.lit (.int .i64 0))],[(4,[.lit (.int .i64 0),.lit (.int .i64 0),.lit (.int .i64 0),.lit (.int .i64 (-1)),.lit (.bool false),.lit (.slice none 0 0),.lit (.slice none 0 0)])]⟩ st0 Q:=by
  simp (config:=KF) (disch:=omega) only [Int.reduceNeg,f7_22e]
  rw [f7_23w]
  refine ef (A:=CA) (fun a=>l.length - a.i) (fun a=>⟨[(0,.sl false 4 (l.map acAV)),(3,.ptr a.b 0),(4,.lptr 4 0),(5,.lit (.int .i64 (a.i:Nat)))],[(4,[.lit (.int .i64 0),.lit (.int .i64 0),.lit (.int .i64 0),.lit (.int .i64 a.o),.lit (.bool false),.sl false 1 (ints a.T),.sl false 1 (ints a.U)])]⟩) (fun a=>a.st)
    (fun a=>a.i≤l.length∧CoIs a.st a.b a.x a.y a.o a.T a.U a.g a.k∧a.g≤64 * a.i∧a.k≤a.i) ⟨0,st0,b0,x0,y0,-1,[],[],0,0⟩ ⟨by simp,h0,by simp,by simp⟩ ⟨⟨rfl,.refl _,rfl,.refl _,rfl,.refl _,rfl,.refl _,trivial⟩,.inl ⟨rfl,⟨.refl _,.refl _,.refl _,.refl _,.refl _,.nil _ _,.nil _ _,trivial⟩,trivial⟩⟩ rfl ?_
  rintro ⟨i,st,b,x,y,o,T,U,g,k⟩ ⟨hi,h1,lg,lk⟩ K hK hKe hKr
  simp only at hi h1 lg lk
  dsimp only
  have hcn:=h1.ow.ln.cnt
  have hcu:=h1.sl.cnt
  by_cases h:i < l.length
  case neg =>
    simp (config:=KF) (disch:=omega) only [bZ,cT,dX,cw,lenI,bS,putS,Sf.set,Sf.reg,getR,setR,aa,look,aI,↓reduceIte,Nat.reduceEqDiff,reduceCtorEq,List.length_map,bH,f7_24e,f7_25e,f7_26e,f7_26l,f7_27e]
    refine hKe _ _ _ ?_
    simp (config:=KF) (disch:=omega) only [ci,↓reduceIte]
    exact hQ st
  obtain ⟨w,t,n,s,ha⟩:∃ w t n s,l[i] = (w,t,n,s):=⟨_,_,_,_,rfl⟩
  have e1:(l.map acAV).getD i .any = .agg [.lit (.int .i64 w),.lit (.int .i64 t),.lit (.int .i64 n),.lit (.bool s)]:=by
    have:(l.map acAV).getD i .any = acAV l[i]:=by simp [List.getD,h]
    rw [this,ha]; rfl
  by_cases hc:w < 0∨5 < w
  · have hcp:∀ Z:Prop,(aC Go.Proofs.Try.prog id false f7_38 ⟨[(0,.sl false 4 (l.map acAV)),(3,.ptr b 0),(4,.lptr 4 0),(5,.lit (.int .i64 (i:Nat))),(6,.lptr 6 0),(7,.lptr 7 0),(38,.lit (.bool true))],[(4,[.lit (.int .i64 0),.lit (.int .i64 0),.lit (.int .i64 0),.lit (.int .i64 o),.lit (.bool false),.sl false 1 (ints T),.sl false 1 (ints U)]),(6,[.lit (.int .i64 w),.lit (.int .i64 t),.lit (.int .i64 n),.lit (.bool s)]),(7,[.lit (.bool false),.lit (.bool false),.lit (.slice none 0 0),.lit (.int .i64 0)])]⟩ st (seqQ (aC Go.Proofs.Try.prog id false f7_79) (iD 1 (seqQ (aC Go.Proofs.Try.prog id false f7_88) K)))→Z)→Z:=fun Z hZ=>hZ (by
      simp (config:=KF) (disch:=omega) only [bZ,az,ao,ev_f,putS,Sf.set,Sf.reg,getR,setR,aa,Sf.disAt,look,id,↓reduceIte,Nat.reduceEqDiff,reduceCtorEq,f7_38e,f7_39e,f7_39l,f7_40e,f7_41e,f7_41l]
      refine ba rfl e_f44 (oP h1) rfl fun r st1 hr=>?_
      obtain ⟨b',x',y',rfl,k1,k2,k3⟩:=hr
      have k4:=h1.fr k2 (by simp)
      have dj:∀ j ∈ b'::(x'.ids++y'.ids),j ∉ b::(x.ids++y.ids):=ig h1.lts k3
      simp (config:=KF) (disch:=omega) only [bZ,aw,aq,az,ao,ar,addA,ag,ev_f,putS,Sf.set,Sf.reg,getR,setR,aa,Sf.disAt,look,id,List.drop_zero,List.drop_succ_cons,↓reduceIte,Nat.reduceEqDiff,reduceCtorEq,Nat.zero_add,f7_42e,f7_43e,f7_43l]
      refine ba rfl e_f45 (kh k4 (by omega) t) rfl fun r st2 hr=>?_
      obtain ⟨g2,rfl,k5,k6,k7⟩:=hr
      have kf0:=k1.fr (Fr.of k7 fun i hi=>by rcases List.mem_cons.1 hi with rfl | hi <;> simp [*]) dj
      generalize (cn o T U t).1.1 = o2 at *
      generalize (cn o T U t).1.2 = T2 at *
      generalize (cn o T U t).2.1 = r2 at *
      generalize (cn o T U t).2.2 = e2 at *
      simp (config:=KF) (disch:=omega) only [bZ,ao,ev_f,putS,Sf.set,Sf.reg,getR,setR,aa,look,id,↓reduceIte,Nat.reduceEqDiff,reduceCtorEq,f7_44e,f7_45e,f7_45l]
      refine ba rfl e_f46 (lE k5 (by omega) (by omega)) rfl fun r st3 hr=>?_
      obtain ⟨g3,rfl,k8,k9,k10⟩:=hr
      have kf:=kf0.fr (Fr.of k10 fun _ h=>h) dj
      generalize (a8 o2 (T2++U)).2 = l2 at *
      rcases eu l2 with ⟨e,hz⟩ | ⟨e,hz⟩
      all_goals
        rw [e]
        simp (config:=KF) (disch:=omega) only [bZ,fB,d7,cV,putS,Sf.set,Sf.reg,getR,setR,aa,look,↓reduceIte,Nat.reduceEqDiff,reduceCtorEq,f7_46e,f7_47e,f7_47l,f7_48e]
        refine oQ kf ?_
        simp (config:=KF) (disch:=omega) only [bZ,aD,az,d4,putS,Sf.set,Sf.reg,getR,setR,aa,Sf.disAt,look,↓reduceIte,Nat.reduceEqDiff,reduceCtorEq,IntWalk.i64_in,cu,f7_88e,f7_88l]
        exact hK ⟨i + 1,st3,b',x',y',o,T,U,g,k⟩ _ ⟨h,kf,by simp only; omega,by simp only; omega⟩ (by simp only; omega) (Sf.le_refl _))
    by_cases hc0:w < 0
    · simp (config:=KF) (disch:=omega) only [bZ,aL,c5,AI.dst,cL,bu,aw,e8,aq,cw,bT,aG,dv,ixSV,ar,boxX,aR,ixA,lenI,addA,ag,ak,bS,ap,aH,au,aE,putS,Sf.set,Sf.reg,getR,setR,aa,Sf.disAt,Sf.newLoc,Sf.setLoc,look,bK,aU,aI,al,ah,ai,ae,af,bR,bM,aW,eo,fA,aY,List.length_cons,List.length_nil,List.all_cons,List.all_nil,List.drop_zero,List.take_succ_cons,List.take_zero,List.set_cons_zero,List.set_cons_succ,Int.toNat_natCast,↓reduceIte,Nat.reduceEqDiff,Nat.reduceAdd,Nat.reduceLeDiff,Bool.true_and,Bool.and_true,and_true,true_and,reduceCtorEq,Nat.zero_add,Nat.add_zero,decide_true,Bool.false_eq_true,List.length_map,bE,bq,fI,bI,am,aj,f7_24e,f7_25e,f7_26e,f7_26l,f7_27e,f7_28e,f7_29e,f7_30e,f7_31e,f7_31l,f7_32e,f7_33e,f7_33l,f7_34e,f7_35e,f7_36e,f7_36l,f7_37e,e1]
      exact hcp _ fun h=>h
    · have hc1:5 < w:=by omega
      simp (config:=KF) (disch:=omega) only [bZ,aL,AI.dst,bh,bu,aw,e8,aq,cw,bT,aG,bA,ixSV,ar,boxX,aR,ixA,lenI,addA,ag,ak,bS,fm,ap,aH,au,aE,putS,Sf.set,Sf.reg,getR,setR,aa,Sf.disAt,Sf.newLoc,Sf.setLoc,look,bK,aU,aI,al,ah,ai,ae,af,bR,bM,aW,eo,fA,aY,List.length_cons,List.length_nil,List.all_cons,List.all_nil,List.drop_zero,List.take_succ_cons,List.take_zero,List.set_cons_zero,List.set_cons_succ,Int.toNat_natCast,↓reduceIte,Nat.reduceEqDiff,Nat.reduceAdd,Nat.reduceLeDiff,Bool.true_and,Bool.and_true,and_true,true_and,reduceCtorEq,Nat.zero_add,Nat.add_zero,decide_true,Bool.false_eq_true,List.length_map,bE,bq,dl,bI,am,aj,f7_24e,f7_25e,f7_26e,f7_26l,f7_27e,f7_28e,f7_29e,f7_30e,f7_31e,f7_31l,f7_32e,f7_33e,f7_33l,f7_34e,f7_35e,f7_36e,f7_36l,f7_37e,e1]
      exact hcp _ fun h=>h
  by_cases hw0:w = 0
  · subst hw0
    have hb:=ei h1 (by omega) (by omega) (0,t,n,s)
    have hr:=fun st=>rlock o T U t (by omega) (by omega) st
    have hll:(coDo o T U (0,t,n,s)).2.2.2.1.length≤1000:=by
      simp [coDo]
    have he:=fun st=>fL (coDo o T U (0,t,n,s)).2 (by omega) st
    unfold coDo at hb he
    simp only [if_true] at hb he
    generalize (cn o T U t).1.1 = o' at *
    generalize (cn o T U t).1.2 = T' at *
    generalize (cn o T U t).2.1 = r1 at *
    generalize (cn o T U t).2.2 = r3 at *
    rw [← (db _).1] at he
    have e0:lAV [] = .lit (.slice none 0 0):=rfl
    simp (config:=KF) (disch:=omega) only [bZ,aL,AI.dst,bh,bu,aw,e8,aq,cw,az,bT,aG,ao,bA,ixSV,ar,boxX,aR,ixA,lenI,addA,ag,ak,bW,bS,fm,ap,aH,ev_f,au,aE,putS,Sf.set,Sf.reg,getR,setR,aa,Sf.disAt,Sf.newLoc,Sf.setLoc,look,bK,aU,id,aI,al,ah,aK,ai,ae,af,bR,bM,aW,eo,fA,aY,List.length_cons,List.length_nil,List.all_cons,List.all_nil,List.drop_zero,List.drop_succ_cons,List.take_succ_cons,List.take_zero,List.set_cons_zero,List.set_cons_succ,Int.toNat_natCast,↓reduceIte,Nat.reduceEqDiff,Nat.reduceAdd,Nat.reduceLeDiff,Int.reduceLT,Bool.true_and,Bool.and_true,and_true,true_and,reduceCtorEq,Nat.zero_add,Nat.add_zero,decide_true,decide_false,Bool.false_eq_true,List.length_map,bE,bq,bH,bI,am,aj,f7_24e,f7_25e,f7_26e,f7_26l,f7_27e,f7_28e,f7_29e,f7_30e,f7_31e,f7_31l,f7_32e,f7_33e,f7_33l,f7_34e,f7_35e,f7_36e,f7_36l,f7_37e,f7_51e,f7_52e,f7_53e,f7_53l,f7_54e,f7_55e,f7_56e,f7_56l,f7_57e,f7_58e,f7_58l,e1]
    refine aF rfl e_f47 (hr _) rfl ?_
    simp (config:=KF) (disch:=omega) only [bZ,aD,bJ,aG,extV,boxX,aR,au,aE,putS,Sf.set,Sf.reg,getR,setR,aa,Sf.disAt,Sf.setLoc,look,aU,al,bp,ah,aK,fZ,ai,ae,aJ,af,List.length_cons,List.length_nil,List.getElem?_cons_zero,List.getElem?_cons_succ,List.all_cons,List.all_nil,List.set_cons_zero,List.set_cons_succ,↓reduceIte,Nat.reduceEqDiff,Nat.reduceAdd,Nat.reduceLeDiff,Bool.true_and,Bool.and_true,and_true,true_and,reduceCtorEq,Nat.zero_add,am,aj,f7_74e,f7_75e,f7_75h,f7_75p,f7_75l,stAV,rsw]
    refine gC ⟨[]⟩ (St.sub_nil _) ?_
    simp (config:=KF) (disch:=omega) only [bZ,List.contains_nil,dJ,cX,dP,d5,bL,gf,eL,gJ,gK,eR,ar,ag,ak,ap,aH,ev_f,putS,Sf.set,Sf.reg,getR,setR,look,br,id,al,ah,List.length_cons,List.length_nil,List.append_nil,List.nil_append,List.cons_append,List.drop_zero,List.take_succ_cons,List.take_zero,↓reduceIte,Nat.reduceEqDiff,Nat.reduceAdd,Nat.reduceLeDiff,reduceCtorEq,Nat.zero_add,decide_true,Bool.false_eq_true]
    refine gg rfl e_f18 hb rfl ?_
    simp (config:=KF) (disch:=omega) only [bZ,List.contains_nil,ksB,a9,bG,bO,bd,nstB,bP,bL,ge,eX,gB,dR,ar,ag,ak,ap,aH,putS,Sf.set,Sf.reg,getR,setR,look,al,ah,aK,List.length_cons,List.length_nil,List.all_nil,List.nil_append,List.cons_append,List.drop_zero,List.take_succ_cons,List.take_zero,↓reduceIte,Nat.reduceEqDiff,Nat.reduceAdd,Nat.reduceLeDiff,Bool.true_and,Bool.and_true,and_true,true_and,reduceCtorEq,Nat.zero_add,decide_true,Bool.not_false]
    rintro r st1 ⟨g',k',rfl,k1,k2,k3,k4⟩
    refine ⟨St.sub_nil _,?_⟩
    simp (config:=KF) (disch:=omega) only [bZ,List.contains_nil,ksB,a9,bG,bO,bd,cG,co,nstB,bP,dJ,cX,dP,bL,dQ,dn,eY,dz,eH,and_self,ao,ar,ag,ak,ap,aH,ev_f,putS,Sf.set,Sf.reg,getR,setR,look,id,al,ah,aK,List.length_cons,List.length_nil,List.all_nil,List.nil_append,List.cons_append,List.drop_zero,List.take_succ_cons,List.take_zero,↓reduceIte,Nat.reduceEqDiff,Nat.reduceAdd,Nat.reduceLeDiff,Bool.true_and,Bool.and_true,and_true,true_and,reduceCtorEq,Nat.zero_add,decide_true,Bool.not_false,rsAV,e0]
    refine aF rfl e_f28 (he _) rfl ?_
    simp (config:=KF) (disch:=omega) only [bZ,o_un,unA,putS,Sf.set,Sf.reg,getR,setR,aa,look,↓reduceIte,Nat.reduceEqDiff,reduceCtorEq,Bool.not_true,f7_76e]
    refine d2 k1 ?_
    simp (config:=KF) (disch:=omega) only [bZ,aD,az,d4,putS,Sf.set,Sf.reg,getR,setR,aa,Sf.disAt,look,↓reduceIte,Nat.reduceEqDiff,reduceCtorEq,IntWalk.i64_in,cu,f7_88e,f7_88l]
    exact hK ⟨i + 1,st1,b,x,y,o',T',U,g',k'⟩ _ ⟨h,k1,by simp only; omega,by simp only; omega⟩ (by simp only; omega) (Sf.le_refl _)
  by_cases hw1:w = 1
  · subst hw1
    have hb:=ei h1 (by omega) (by omega) (1,t,n,s)
    have hr:=fun st=>runlock o T U t false (by omega) (by omega) st
    simp only [Bool.false_eq_true,if_false] at hr
    have hll:(coDo o T U (1,t,n,s)).2.2.2.1.length≤1000:=by
      have:=n0 o T t
      show (bX o T t).2.1.length≤1000
      omega
    have he:=fun st=>fL (coDo o T U (1,t,n,s)).2 (by omega) st
    unfold coDo at hb he
    simp only [if_true,if_neg (show ¬ (1:Int) = 0 by decide)] at hb he
    generalize (bX o T t).1.1 = o' at *
    generalize (bX o T t).1.2 = T' at *
    generalize (bX o T t).2.1 = r2 at *
    generalize (bX o T t).2.2 = r3 at *
    rw [← (db _).1] at he
    obtain ⟨w1,w2,w3,w4,w5,w6,w7⟩:=cg r2
    simp (config:=KF) (disch:=omega) only [bZ,aL,AI.dst,bh,bu,aw,e8,aq,cw,az,bT,aG,ao,bA,ixSV,ar,boxX,aR,ixA,lenI,addA,ag,ak,bW,bS,fm,ap,aH,ev_f,au,aE,putS,Sf.set,Sf.reg,getR,setR,aa,Sf.disAt,Sf.newLoc,Sf.setLoc,look,bK,aU,id,aI,al,ah,aK,ai,ae,af,bR,bM,aW,eo,fA,aY,List.length_cons,List.length_nil,List.all_cons,List.all_nil,List.drop_zero,List.drop_succ_cons,List.take_succ_cons,List.take_zero,List.set_cons_zero,List.set_cons_succ,Int.toNat_natCast,↓reduceIte,Nat.reduceEqDiff,Nat.reduceAdd,Nat.reduceLeDiff,Int.reduceLT,Int.reduceEq,Bool.true_and,Bool.and_true,and_true,true_and,reduceCtorEq,Nat.zero_add,Nat.add_zero,decide_true,decide_false,Bool.false_eq_true,List.length_map,bE,bq,bH,bI,am,aj,f7_24e,f7_25e,f7_26e,f7_26l,f7_27e,f7_28e,f7_29e,f7_30e,f7_31e,f7_31l,f7_32e,f7_33e,f7_33l,f7_34e,f7_35e,f7_36e,f7_36l,f7_37e,f7_51e,f7_52e,f7_53e,f7_53l,f7_54e,f7_55e,f7_56e,f7_56l,f7_57e,f7_59e,f7_60e,f7_61e,f7_61l,f7_62e,f7_64e,f7_65e,f7_65l,e1]
    refine aF rfl e_f48 (hr _) rfl ?_
    simp (config:=KF) (disch:=omega) only [bZ,aD,bJ,aG,extV,boxX,aR,au,aE,putS,Sf.set,Sf.reg,getR,setR,aa,Sf.disAt,Sf.setLoc,look,aU,al,bp,ah,aK,fZ,ai,ae,aJ,af,List.length_cons,List.length_nil,List.getElem?_cons_zero,List.getElem?_cons_succ,List.all_cons,List.all_nil,List.set_cons_zero,List.set_cons_succ,↓reduceIte,Nat.reduceEqDiff,Nat.reduceAdd,Nat.reduceLeDiff,Bool.true_and,Bool.and_true,and_true,true_and,reduceCtorEq,Nat.zero_add,am,aj,f7_74e,f7_75e,f7_75h,f7_75p,f7_75l,stAV,rsw]
    refine gC ⟨[]⟩ (St.sub_nil _) ?_
    simp (config:=KF) (disch:=omega) only [bZ,List.contains_nil,dJ,cX,dP,d5,bL,gf,eL,gJ,gK,eR,ar,ag,ak,ap,aH,ev_f,putS,Sf.set,Sf.reg,getR,setR,look,br,id,al,ah,List.length_cons,List.length_nil,List.append_nil,List.nil_append,List.cons_append,List.drop_zero,List.take_succ_cons,List.take_zero,↓reduceIte,Nat.reduceEqDiff,Nat.reduceAdd,Nat.reduceLeDiff,reduceCtorEq,Nat.zero_add,decide_true,Bool.false_eq_true]
    refine gg rfl e_f18 hb rfl ?_
    simp (config:=KF) (disch:=omega) only [bZ,List.contains_nil,ksB,a9,bG,bO,bd,nstB,bP,bL,ge,eX,gB,dR,ar,ag,ak,ap,aH,putS,Sf.set,Sf.reg,getR,setR,look,al,ah,aK,List.length_cons,List.length_nil,List.all_nil,List.nil_append,List.cons_append,List.drop_zero,List.take_succ_cons,List.take_zero,↓reduceIte,Nat.reduceEqDiff,Nat.reduceAdd,Nat.reduceLeDiff,Bool.true_and,Bool.and_true,and_true,true_and,reduceCtorEq,Nat.zero_add,decide_true,Bool.not_false]
    rintro r st1 ⟨g',k',rfl,k1,k2,k3,k4⟩
    refine ⟨St.sub_nil _,?_⟩
    simp (config:=KF) (disch:=omega) only [bZ,List.contains_nil,ksB,a9,bG,bO,bd,cG,co,nstB,bP,dJ,cX,dP,bL,dQ,dn,eY,dz,eH,and_self,ao,ar,ag,ak,ap,aH,ev_f,putS,Sf.set,Sf.reg,getR,setR,look,id,al,ah,aK,List.length_cons,List.length_nil,List.all_nil,List.nil_append,List.cons_append,List.drop_zero,List.take_succ_cons,List.take_zero,↓reduceIte,Nat.reduceEqDiff,Nat.reduceAdd,Nat.reduceLeDiff,Bool.true_and,Bool.and_true,and_true,true_and,reduceCtorEq,Nat.zero_add,decide_true,Bool.not_false,rsAV]
    refine aF rfl e_f28 (he _) rfl ?_
    simp (config:=KF) (disch:=omega) only [bZ,o_un,unA,putS,Sf.set,Sf.reg,getR,setR,aa,look,↓reduceIte,Nat.reduceEqDiff,reduceCtorEq,Bool.not_true,f7_76e]
    refine d2 k1 ?_
    simp (config:=KF) (disch:=omega) only [bZ,aD,az,d4,putS,Sf.set,Sf.reg,getR,setR,aa,Sf.disAt,look,↓reduceIte,Nat.reduceEqDiff,reduceCtorEq,IntWalk.i64_in,cu,f7_88e,f7_88l]
    exact hK ⟨i + 1,st1,b,x,y,o',T',U,g',k'⟩ _ ⟨h,k1,by simp only; omega,by simp only; omega⟩ (by simp only; omega) (Sf.le_refl _)
  by_cases hw2:w = 2
  · subst hw2
    have hb:=ei h1 (by omega) (by omega) (2,t,n,s)
    have hr:=fun st=>runlock o T U t true (by omega) (by omega) st
    simp only [if_true] at hr
    have hll:(coDo o T U (2,t,n,s)).2.2.2.1.length≤1000:=by
      have:=n0 o T t
      show (bX o T t).2.1.length≤1000
      omega
    have he:=fun st=>fL (coDo o T U (2,t,n,s)).2 (by omega) st
    unfold coDo at hb he
    simp only [if_true,if_neg (show ¬ (2:Int) = 0 by decide),if_neg (show ¬ (2:Int) = 1 by decide)] at hb he
    generalize n5 o T U t = U' at *
    generalize (bX o T t).1.1 = o' at *
    generalize (bX o T t).1.2 = T' at *
    generalize (bX o T t).2.1 = r2 at *
    generalize (bX o T t).2.2 = r3 at *
    rw [← (db _).1] at he
    obtain ⟨w1,w2,w3,w4,w5,w6,w7⟩:=cg r2
    simp (config:=KF) (disch:=omega) only [bZ,aL,AI.dst,bh,bu,aw,e8,aq,cw,az,bT,aG,ao,bA,ixSV,ar,boxX,aR,ixA,lenI,addA,ag,ak,bW,bS,fm,ap,aH,ev_f,au,aE,putS,Sf.set,Sf.reg,getR,setR,aa,Sf.disAt,Sf.newLoc,Sf.setLoc,look,bK,aU,id,aI,al,ah,aK,ai,ae,af,bR,bM,aW,eo,fA,aY,List.length_cons,List.length_nil,List.all_cons,List.all_nil,List.drop_zero,List.drop_succ_cons,List.take_succ_cons,List.take_zero,List.set_cons_zero,List.set_cons_succ,Int.toNat_natCast,↓reduceIte,Nat.reduceEqDiff,Nat.reduceAdd,Nat.reduceLeDiff,Int.reduceLT,Int.reduceEq,Bool.true_and,Bool.and_true,and_true,true_and,reduceCtorEq,Nat.zero_add,Nat.add_zero,decide_true,decide_false,Bool.false_eq_true,List.length_map,bE,bq,bH,bI,am,aj,f7_24e,f7_25e,f7_26e,f7_26l,f7_27e,f7_28e,f7_29e,f7_30e,f7_31e,f7_31l,f7_32e,f7_33e,f7_33l,f7_34e,f7_35e,f7_36e,f7_36l,f7_37e,f7_51e,f7_52e,f7_53e,f7_53l,f7_54e,f7_55e,f7_56e,f7_56l,f7_57e,f7_59e,f7_60e,f7_61e,f7_61l,f7_62e,f7_63e,f7_63l,f7_64e,f7_65e,f7_65l,e1]
    refine aF rfl e_f48 (hr _) rfl ?_
    simp (config:=KF) (disch:=omega) only [bZ,aD,bJ,aG,extV,boxX,aR,au,aE,putS,Sf.set,Sf.reg,getR,setR,aa,Sf.disAt,Sf.setLoc,look,aU,al,bp,ah,aK,fZ,ai,ae,aJ,af,List.length_cons,List.length_nil,List.getElem?_cons_zero,List.getElem?_cons_succ,List.all_cons,List.all_nil,List.set_cons_zero,List.set_cons_succ,↓reduceIte,Nat.reduceEqDiff,Nat.reduceAdd,Nat.reduceLeDiff,Bool.true_and,Bool.and_true,and_true,true_and,reduceCtorEq,Nat.zero_add,am,aj,f7_74e,f7_75e,f7_75h,f7_75p,f7_75l,stAV,rsw]
    refine gC ⟨[]⟩ (St.sub_nil _) ?_
    simp (config:=KF) (disch:=omega) only [bZ,List.contains_nil,dJ,cX,dP,d5,bL,gf,eL,gJ,gK,eR,ar,ag,ak,ap,aH,ev_f,putS,Sf.set,Sf.reg,getR,setR,look,br,id,al,ah,List.length_cons,List.length_nil,List.append_nil,List.nil_append,List.cons_append,List.drop_zero,List.take_succ_cons,List.take_zero,↓reduceIte,Nat.reduceEqDiff,Nat.reduceAdd,Nat.reduceLeDiff,reduceCtorEq,Nat.zero_add,decide_true,Bool.false_eq_true]
    refine gg rfl e_f18 hb rfl ?_
    simp (config:=KF) (disch:=omega) only [bZ,List.contains_nil,ksB,a9,bG,bO,bd,nstB,bP,bL,ge,eX,gB,dR,ar,ag,ak,ap,aH,putS,Sf.set,Sf.reg,getR,setR,look,al,ah,aK,List.length_cons,List.length_nil,List.all_nil,List.nil_append,List.cons_append,List.drop_zero,List.take_succ_cons,List.take_zero,↓reduceIte,Nat.reduceEqDiff,Nat.reduceAdd,Nat.reduceLeDiff,Bool.true_and,Bool.and_true,and_true,true_and,reduceCtorEq,Nat.zero_add,decide_true,Bool.not_false]
    rintro r st1 ⟨g',k',rfl,k1,k2,k3,k4⟩
    refine ⟨St.sub_nil _,?_⟩
    simp (config:=KF) (disch:=omega) only [bZ,List.contains_nil,ksB,a9,bG,bO,bd,cG,co,nstB,bP,dJ,cX,dP,bL,dQ,dn,eY,dz,eH,and_self,ao,ar,ag,ak,ap,aH,ev_f,putS,Sf.set,Sf.reg,getR,setR,look,id,al,ah,aK,List.length_cons,List.length_nil,List.all_nil,List.nil_append,List.cons_append,List.drop_zero,List.take_succ_cons,List.take_zero,↓reduceIte,Nat.reduceEqDiff,Nat.reduceAdd,Nat.reduceLeDiff,Bool.true_and,Bool.and_true,and_true,true_and,reduceCtorEq,Nat.zero_add,decide_true,Bool.not_false,rsAV]
    refine aF rfl e_f28 (he _) rfl ?_
    simp (config:=KF) (disch:=omega) only [bZ,o_un,unA,putS,Sf.set,Sf.reg,getR,setR,aa,look,↓reduceIte,Nat.reduceEqDiff,reduceCtorEq,Bool.not_true,f7_76e]
    refine d2 k1 ?_
    simp (config:=KF) (disch:=omega) only [bZ,aD,az,d4,putS,Sf.set,Sf.reg,getR,setR,aa,Sf.disAt,look,↓reduceIte,Nat.reduceEqDiff,reduceCtorEq,IntWalk.i64_in,cu,f7_88e,f7_88l]
    exact hK ⟨i + 1,st1,b,x,y,o',T',U',g',k'⟩ _ ⟨h,k1,by simp only; omega,by simp only; omega⟩ (by simp only; omega) (Sf.le_refl _)
  by_cases hw3:w = 3
  · subst hw3
    have hb:=ei h1 (by omega) (by omega) (3,t,n,s)
    have hr:=fun st=>rsignal o T U false _ rfl (by omega) (by omega) st
    simp only [Bool.false_eq_true,if_false] at hr
    have q1:U.take (min U.length 1) = U.take 1:=by cases U <;> simp
    have q2:U.drop (min U.length 1) = U.drop 1:=by cases U <;> simp
    rw [q1,q2] at hr
    have hll:(coDo o T U (3,t,n,s)).2.2.2.1.length≤1000:=by
      have:=jz o (T++U.take 1)
      show (a8 o (T++U.take 1)).2.length≤1000
      omega
    have he:=fun st=>fL (coDo o T U (3,t,n,s)).2 (by omega) st
    unfold coDo at hb he
    simp only [if_true,if_neg (show ¬ (3:Int) = 0 by decide),if_neg (show ¬ (3:Int) = 1 by decide),if_neg (show ¬ (3:Int) = 2 by decide)] at hb he
    generalize (a8 o (T++U.take 1)).1.1 = o' at *
    generalize (a8 o (T++U.take 1)).1.2 = T' at *
    generalize (a8 o (T++U.take 1)).2 = r2 at *
    generalize U.drop 1 = U' at *
    rw [← (db _).1] at he
    obtain ⟨w1,w2,w3,w4,w5,w6,w7⟩:=cg r2
    simp (config:=KF) (disch:=omega) only [bZ,aL,AI.dst,bh,bu,aw,e8,aq,cw,az,bT,aG,ao,bA,ixSV,ar,boxX,aR,ixA,lenI,addA,ag,ak,bW,bS,fm,ap,aH,ev_f,au,aE,putS,Sf.set,Sf.reg,getR,setR,aa,Sf.disAt,Sf.newLoc,Sf.setLoc,look,bK,aU,id,aI,al,ah,aK,ai,ae,af,bR,bM,aW,eo,fA,aY,List.length_cons,List.length_nil,List.all_cons,List.all_nil,List.drop_zero,List.take_succ_cons,List.take_zero,List.set_cons_zero,List.set_cons_succ,Int.toNat_natCast,↓reduceIte,Nat.reduceEqDiff,Nat.reduceAdd,Nat.reduceLeDiff,Int.reduceLT,Int.reduceEq,Bool.true_and,Bool.and_true,and_true,true_and,reduceCtorEq,Nat.zero_add,Nat.add_zero,decide_true,decide_false,Bool.false_eq_true,List.length_map,bE,bq,bH,bI,am,aj,f7_24e,f7_25e,f7_26e,f7_26l,f7_27e,f7_28e,f7_29e,f7_30e,f7_31e,f7_31l,f7_32e,f7_33e,f7_33l,f7_34e,f7_35e,f7_36e,f7_36l,f7_37e,f7_51e,f7_52e,f7_53e,f7_53l,f7_54e,f7_55e,f7_56e,f7_56l,f7_57e,f7_59e,f7_60e,f7_61e,f7_61l,f7_62e,f7_63e,f7_63l,f7_64e,f7_66e,f7_67e,f7_68e,f7_68l,f7_69e,f7_71e,f7_72e,f7_72l,e1]
    refine aF rfl e_f49 (hr _) rfl ?_
    simp (config:=KF) (disch:=omega) only [bZ,aD,bJ,aG,extV,boxX,aR,au,aE,putS,Sf.set,Sf.reg,getR,setR,aa,Sf.disAt,Sf.setLoc,look,aU,al,bp,ah,aK,fZ,ai,ae,aJ,af,List.length_cons,List.length_nil,List.getElem?_cons_zero,List.getElem?_cons_succ,List.all_cons,List.all_nil,List.set_cons_zero,List.set_cons_succ,↓reduceIte,Nat.reduceEqDiff,Nat.reduceAdd,Nat.reduceLeDiff,Bool.true_and,Bool.and_true,and_true,true_and,reduceCtorEq,Nat.zero_add,am,aj,f7_74e,f7_75e,f7_75h,f7_75p,f7_75l,stAV,rsw]
    refine gC ⟨[]⟩ (St.sub_nil _) ?_
    simp (config:=KF) (disch:=omega) only [bZ,List.contains_nil,dJ,cX,dP,d5,bL,gf,eL,gJ,gK,eR,ar,ag,ak,ap,aH,ev_f,putS,Sf.set,Sf.reg,getR,setR,look,br,id,al,ah,List.length_cons,List.length_nil,List.append_nil,List.nil_append,List.cons_append,List.drop_zero,List.take_succ_cons,List.take_zero,↓reduceIte,Nat.reduceEqDiff,Nat.reduceAdd,Nat.reduceLeDiff,reduceCtorEq,Nat.zero_add,decide_true,Bool.false_eq_true]
    refine gg rfl e_f18 hb rfl ?_
    simp (config:=KF) (disch:=omega) only [bZ,List.contains_nil,ksB,a9,bG,bO,bd,nstB,bP,bL,ge,eX,gB,dR,ar,ag,ak,ap,aH,putS,Sf.set,Sf.reg,getR,setR,look,al,ah,aK,List.length_cons,List.length_nil,List.all_nil,List.nil_append,List.cons_append,List.drop_zero,List.take_succ_cons,List.take_zero,↓reduceIte,Nat.reduceEqDiff,Nat.reduceAdd,Nat.reduceLeDiff,Bool.true_and,Bool.and_true,and_true,true_and,reduceCtorEq,Nat.zero_add,decide_true,Bool.not_false]
    rintro r st1 ⟨g',k',rfl,k1,k2,k3,k4⟩
    refine ⟨St.sub_nil _,?_⟩
    simp (config:=KF) (disch:=omega) only [bZ,List.contains_nil,ksB,a9,bG,bO,bd,cG,co,nstB,bP,dJ,cX,dP,bL,dQ,dn,eY,dz,eH,and_self,ao,ar,ag,ak,ap,aH,ev_f,putS,Sf.set,Sf.reg,getR,setR,look,id,al,ah,aK,List.length_cons,List.length_nil,List.all_nil,List.nil_append,List.cons_append,List.drop_zero,List.take_succ_cons,List.take_zero,↓reduceIte,Nat.reduceEqDiff,Nat.reduceAdd,Nat.reduceLeDiff,Bool.true_and,Bool.and_true,and_true,true_and,reduceCtorEq,Nat.zero_add,decide_true,Bool.not_false,rsAV]
    refine aF rfl e_f28 (he _) rfl ?_
    simp (config:=KF) (disch:=omega) only [bZ,o_un,unA,putS,Sf.set,Sf.reg,getR,setR,aa,look,↓reduceIte,Nat.reduceEqDiff,reduceCtorEq,Bool.not_true,f7_76e]
    refine d2 k1 ?_
    simp (config:=KF) (disch:=omega) only [bZ,aD,az,d4,putS,Sf.set,Sf.reg,getR,setR,aa,Sf.disAt,look,↓reduceIte,Nat.reduceEqDiff,reduceCtorEq,IntWalk.i64_in,cu,f7_88e,f7_88l]
    exact hK ⟨i + 1,st1,b,x,y,o',T',U',g',k'⟩ _ ⟨h,k1,by simp only; omega,by simp only; omega⟩ (by simp only; omega) (Sf.le_refl _)
  by_cases hw4:w = 4
  · subst hw4
    have hb:=ei h1 (by omega) (by omega) (4,t,n,s)
    have hr:=fun st=>rsignal o T U true _ rfl (by omega) (by omega) st
    simp only [if_true,List.take_length,List.drop_length] at hr
    have hll:(coDo o T U (4,t,n,s)).2.2.2.1.length≤1000:=by
      have:=jz o (T++U)
      show (a8 o (T++U)).2.length≤1000
      omega
    have he:=fun st=>fL (coDo o T U (4,t,n,s)).2 (by omega) st
    unfold coDo at hb he
    simp only [if_true,if_neg (show ¬ (4:Int) = 0 by decide),if_neg (show ¬ (4:Int) = 1 by decide),if_neg (show ¬ (4:Int) = 2 by decide),if_neg (show ¬ (4:Int) = 3 by decide)] at hb he
    generalize (a8 o (T++U)).1.1 = o' at *
    generalize (a8 o (T++U)).1.2 = T' at *
    generalize (a8 o (T++U)).2 = r2 at *
    rw [← (db _).1] at he
    obtain ⟨w1,w2,w3,w4,w5,w6,w7⟩:=cg r2
    simp (config:=KF) (disch:=omega) only [bZ,aL,AI.dst,bh,bu,aw,e8,aq,cw,az,bT,aG,ao,bA,ixSV,ar,boxX,aR,ixA,lenI,addA,ag,ak,bW,bS,fm,ap,aH,ev_f,au,aE,putS,Sf.set,Sf.reg,getR,setR,aa,Sf.disAt,Sf.newLoc,Sf.setLoc,look,bK,aU,id,aI,al,ah,aK,ai,ae,af,bR,bM,aW,eo,fA,aY,List.length_cons,List.length_nil,List.all_cons,List.all_nil,List.drop_zero,List.take_succ_cons,List.take_zero,List.set_cons_zero,List.set_cons_succ,Int.toNat_natCast,↓reduceIte,Nat.reduceEqDiff,Nat.reduceAdd,Nat.reduceLeDiff,Int.reduceLT,Int.reduceEq,Bool.true_and,Bool.and_true,and_true,true_and,reduceCtorEq,Nat.zero_add,Nat.add_zero,decide_true,decide_false,Bool.false_eq_true,List.length_map,bE,bq,bH,bI,am,aj,f7_24e,f7_25e,f7_26e,f7_26l,f7_27e,f7_28e,f7_29e,f7_30e,f7_31e,f7_31l,f7_32e,f7_33e,f7_33l,f7_34e,f7_35e,f7_36e,f7_36l,f7_37e,f7_51e,f7_52e,f7_53e,f7_53l,f7_54e,f7_55e,f7_56e,f7_56l,f7_57e,f7_59e,f7_60e,f7_61e,f7_61l,f7_62e,f7_63e,f7_63l,f7_64e,f7_66e,f7_67e,f7_68e,f7_68l,f7_69e,f7_70e,f7_70l,f7_71e,f7_72e,f7_72l,e1]
    refine aF rfl e_f49 (hr _) rfl ?_
    simp (config:=KF) (disch:=omega) only [bZ,aD,bJ,aG,extV,boxX,aR,au,aE,putS,Sf.set,Sf.reg,getR,setR,aa,Sf.disAt,Sf.setLoc,look,aU,al,bp,ah,aK,fZ,ai,ae,aJ,af,List.length_cons,List.length_nil,List.getElem?_cons_zero,List.getElem?_cons_succ,List.all_cons,List.all_nil,List.set_cons_zero,List.set_cons_succ,↓reduceIte,Nat.reduceEqDiff,Nat.reduceAdd,Nat.reduceLeDiff,Bool.true_and,Bool.and_true,and_true,true_and,reduceCtorEq,Nat.zero_add,am,aj,f7_74e,f7_75e,f7_75h,f7_75p,f7_75l,stAV,rsw]
    refine gC ⟨[]⟩ (St.sub_nil _) ?_
    simp (config:=KF) (disch:=omega) only [bZ,List.contains_nil,dJ,cX,dP,d5,bL,gf,eL,gJ,gK,eR,ar,ag,ak,ap,aH,ev_f,putS,Sf.set,Sf.reg,getR,setR,look,br,id,al,ah,List.length_cons,List.length_nil,List.append_nil,List.nil_append,List.cons_append,List.drop_zero,List.take_succ_cons,List.take_zero,↓reduceIte,Nat.reduceEqDiff,Nat.reduceAdd,Nat.reduceLeDiff,reduceCtorEq,Nat.zero_add,decide_true,Bool.false_eq_true]
    refine gg rfl e_f18 hb rfl ?_
    simp (config:=KF) (disch:=omega) only [bZ,List.contains_nil,ksB,a9,bG,bO,bd,nstB,bP,bL,ge,eX,gB,dR,ar,ag,ak,ap,aH,putS,Sf.set,Sf.reg,getR,setR,look,al,ah,aK,List.length_cons,List.length_nil,List.all_nil,List.nil_append,List.cons_append,List.drop_zero,List.take_succ_cons,List.take_zero,↓reduceIte,Nat.reduceEqDiff,Nat.reduceAdd,Nat.reduceLeDiff,Bool.true_and,Bool.and_true,and_true,true_and,reduceCtorEq,Nat.zero_add,decide_true,Bool.not_false]
    rintro r st1 ⟨g',k',rfl,k1,k2,k3,k4⟩
    refine ⟨St.sub_nil _,?_⟩
    simp (config:=KF) (disch:=omega) only [bZ,List.contains_nil,ksB,a9,bG,bO,bd,cG,co,nstB,bP,dJ,cX,dP,bL,dQ,dn,eY,dz,eH,and_self,ao,ar,ag,ak,ap,aH,ev_f,putS,Sf.set,Sf.reg,getR,setR,look,id,al,ah,aK,List.length_cons,List.length_nil,List.all_nil,List.nil_append,List.cons_append,List.drop_zero,List.take_succ_cons,List.take_zero,↓reduceIte,Nat.reduceEqDiff,Nat.reduceAdd,Nat.reduceLeDiff,Bool.true_and,Bool.and_true,and_true,true_and,reduceCtorEq,Nat.zero_add,decide_true,Bool.not_false,rsAV]
    refine aF rfl e_f28 (he _) rfl ?_
    simp (config:=KF) (disch:=omega) only [bZ,o_un,unA,putS,Sf.set,Sf.reg,getR,setR,aa,look,↓reduceIte,Nat.reduceEqDiff,reduceCtorEq,Bool.not_true,f7_76e]
    refine d2 k1 ?_
    simp (config:=KF) (disch:=omega) only [bZ,aD,az,d4,putS,Sf.set,Sf.reg,getR,setR,aa,Sf.disAt,look,↓reduceIte,Nat.reduceEqDiff,reduceCtorEq,IntWalk.i64_in,cu,f7_88e,f7_88l]
    exact hK ⟨i + 1,st1,b,x,y,o',T',[],g',k'⟩ _ ⟨h,k1,by simp only; omega,by simp only; omega⟩ (by simp only; omega) (Sf.le_refl _)
  obtain rfl:w = 5:=by omega
  have hb:=ei h1 (by omega) (by omega) (5,t,n,s)
  have hr:=fun st=>rcancel 0 0 0 o false T U t (by omega) (by omega) st
  rw [rCan_co t h1.inv.1] at hr
  have hll:(coDo o T U (5,t,n,s)).2.2.2.1.length≤1000:=by
    simp [coDo]
  have he:=fun st=>fL (coDo o T U (5,t,n,s)).2 (by omega) st
  unfold coDo at hb he
  simp only [if_neg (show ¬ (5:Int) = 0 by decide),if_neg (show ¬ (5:Int) = 1 by decide),if_neg (show ¬ (5:Int) = 2 by decide),if_neg (show ¬ (5:Int) = 3 by decide),if_neg (show ¬ (5:Int) = 4 by decide)] at hb he
  generalize (io T U t).1.1 = T' at *
  generalize (io T U t).1.2 = U' at *
  generalize (io T U t).2 = r3 at *
  rw [← (db _).1] at he
  have e0:lAV [] = .lit (.slice none 0 0):=rfl
  simp (config:=KF) (disch:=omega) only [bZ,aL,AI.dst,bh,bu,aw,e8,aq,cw,az,bT,aG,ao,bA,ixSV,ar,boxX,aR,ixA,lenI,addA,ag,ak,bW,bS,fm,ap,aH,ev_f,au,aE,putS,Sf.set,Sf.reg,getR,setR,aa,Sf.disAt,Sf.newLoc,Sf.setLoc,look,bK,aU,id,aI,al,ah,aK,ai,ae,af,bR,bM,aW,eo,fA,aY,List.length_cons,List.length_nil,List.all_cons,List.all_nil,List.drop_zero,List.drop_succ_cons,List.take_succ_cons,List.take_zero,List.set_cons_zero,List.set_cons_succ,Int.toNat_natCast,↓reduceIte,Nat.reduceEqDiff,Nat.reduceAdd,Nat.reduceLeDiff,Int.reduceLT,Int.reduceEq,Bool.true_and,Bool.and_true,and_true,true_and,reduceCtorEq,Nat.zero_add,Nat.add_zero,decide_true,decide_false,Bool.false_eq_true,List.length_map,bE,bq,bH,bI,am,aj,f7_24e,f7_25e,f7_26e,f7_26l,f7_27e,f7_28e,f7_29e,f7_30e,f7_31e,f7_31l,f7_32e,f7_33e,f7_33l,f7_34e,f7_35e,f7_36e,f7_36l,f7_37e,f7_51e,f7_52e,f7_53e,f7_53l,f7_54e,f7_55e,f7_56e,f7_56l,f7_57e,f7_59e,f7_60e,f7_61e,f7_61l,f7_62e,f7_63e,f7_63l,f7_64e,f7_66e,f7_67e,f7_68e,f7_68l,f7_69e,f7_70e,f7_70l,f7_71e,f7_73e,f7_73l,e1]
  refine aF rfl e_f27 (hr _) rfl ?_
  simp (config:=KF) (disch:=omega) only [bZ,aD,bJ,aG,extV,boxX,aR,au,aE,putS,Sf.set,Sf.reg,getR,setR,aa,Sf.disAt,Sf.setLoc,look,aU,al,bp,ah,aK,fZ,ai,ae,aJ,af,List.length_cons,List.length_nil,List.getElem?_cons_zero,List.getElem?_cons_succ,List.all_cons,List.all_nil,List.set_cons_zero,List.set_cons_succ,↓reduceIte,Nat.reduceEqDiff,Nat.reduceAdd,Nat.reduceLeDiff,Bool.true_and,Bool.and_true,and_true,true_and,reduceCtorEq,Nat.zero_add,am,aj,f7_74e,f7_75e,f7_75h,f7_75p,f7_75l,stAV,rsw]
  refine gC ⟨[]⟩ (St.sub_nil _) ?_
  simp (config:=KF) (disch:=omega) only [bZ,List.contains_nil,dJ,cX,dP,d5,bL,gf,eL,gJ,gK,eR,ar,ag,ak,ap,aH,ev_f,putS,Sf.set,Sf.reg,getR,setR,look,br,id,al,ah,List.length_cons,List.length_nil,List.append_nil,List.nil_append,List.cons_append,List.drop_zero,List.take_succ_cons,List.take_zero,↓reduceIte,Nat.reduceEqDiff,Nat.reduceAdd,Nat.reduceLeDiff,reduceCtorEq,Nat.zero_add,decide_true,Bool.false_eq_true]
  refine gg rfl e_f18 hb rfl ?_
  simp (config:=KF) (disch:=omega) only [bZ,List.contains_nil,ksB,a9,bG,bO,bd,nstB,bP,bL,ge,eX,gB,dR,ar,ag,ak,ap,aH,putS,Sf.set,Sf.reg,getR,setR,look,al,ah,aK,List.length_cons,List.length_nil,List.all_nil,List.nil_append,List.cons_append,List.drop_zero,List.take_succ_cons,List.take_zero,↓reduceIte,Nat.reduceEqDiff,Nat.reduceAdd,Nat.reduceLeDiff,Bool.true_and,Bool.and_true,and_true,true_and,reduceCtorEq,Nat.zero_add,decide_true,Bool.not_false]
  rintro r st1 ⟨g',k',rfl,k1,k2,k3,k4⟩
  refine ⟨St.sub_nil _,?_⟩
  simp (config:=KF) (disch:=omega) only [bZ,List.contains_nil,ksB,a9,bG,bO,bd,cG,co,nstB,bP,dJ,cX,dP,bL,dQ,dn,eY,dz,eH,and_self,ao,ar,ag,ak,ap,aH,ev_f,putS,Sf.set,Sf.reg,getR,setR,look,id,al,ah,aK,List.length_cons,List.length_nil,List.all_nil,List.nil_append,List.cons_append,List.drop_zero,List.take_succ_cons,List.take_zero,↓reduceIte,Nat.reduceEqDiff,Nat.reduceAdd,Nat.reduceLeDiff,Bool.true_and,Bool.and_true,and_true,true_and,reduceCtorEq,Nat.zero_add,decide_true,Bool.not_false,rsAV,e0]
  refine aF rfl e_f28 (he _) rfl ?_
  simp (config:=KF) (disch:=omega) only [bZ,o_un,unA,putS,Sf.set,Sf.reg,getR,setR,aa,look,↓reduceIte,Nat.reduceEqDiff,reduceCtorEq,Bool.not_true,f7_76e]
  refine d2 k1 ?_
  simp (config:=KF) (disch:=omega) only [bZ,aD,az,d4,putS,Sf.set,Sf.reg,getR,setR,aa,Sf.disAt,look,↓reduceIte,Nat.reduceEqDiff,reduceCtorEq,IntWalk.i64_in,cu,f7_88e,f7_88l]
  exact hK ⟨i + 1,st1,b,x,y,o,T',U',g',k'⟩ _ ⟨h,k1,by simp only; omega,by simp only; omega⟩ (by simp only; omega) (Sf.le_refl _)
theorem mR (l:List Ac):aZ Go.Proofs.Try.prog n_f7 [.sl false 4 (l.map acAV)] ⟨[]⟩ (fun v _=>v = .lit (.bool true)):=by
  refine aX hmix k_f7 rfl rfl fun Q hQ=>?_
  unfold aFun c_f7
  have hkn:∀ st,aZ Go.Proofs.Try.prog n_f10 [] st (fun r _=>r = .lit (.bool true)):=known39
  by_cases hl:60 < l.length
  · simp (config:=KF) (disch:=omega) only [bZ,cw,ao,lenI,fm,ev_f,putS,Sf.set,Sf.reg,getR,setR,aa,aO,id,aI,↓reduceIte,Nat.reduceEqDiff,reduceCtorEq,List.length_map,bq,f7_1e,f7_2e,f7_2l,f7_3e,f7_4e,f7_5e,f7_5l,f7_6e,f7_7e,f7_8e,f7_8l]
    refine ba rfl e_f10 (hkn _) rfl fun r st1 hr=>?_
    subst hr
    simp (config:=KF) (disch:=omega) only [bZ,retI,az,putS,Sf.set,Sf.reg,getR,setR,aa,Sf.disAt,↓reduceIte,Nat.reduceEqDiff,Bool.true_and,true_and,reduceCtorEq]
    exact hQ _ _ rfl
  simp (config:=KF) (disch:=omega) only [bZ,cw,ao,lenI,fm,ev_f,putS,Sf.set,Sf.reg,getR,setR,aa,aO,id,aI,↓reduceIte,Nat.reduceEqDiff,reduceCtorEq,List.length_map,bH,f7_1e,f7_2e,f7_2l,f7_3e,f7_4e,f7_5e,f7_5l,f7_6e,f7_9e,f7_10e,f7_10l]
  refine ba rfl e_f12 (lF _) rfl fun r st1 hr=>?_
  obtain ⟨b,x,y,rfl,h1,f1,g1⟩:=hr
  simp (config:=KF) (disch:=omega) only [bZ,and_self,cv,az,bT,aG,bstV,boxX,aR,fB,d7,cV,bf,au,aE,putS,Sf.set,Sf.reg,getR,setR,aa,Sf.disAt,Sf.newLoc,Sf.setLoc,look,bK,aU,al,ah,aA,ai,ae,af,bR,bM,fA,aY,List.length_cons,List.length_nil,List.getElem?_cons_zero,List.getElem?_cons_succ,List.all_cons,List.all_nil,List.set_cons_zero,List.set_cons_succ,↓reduceIte,Nat.reduceEqDiff,Nat.reduceAdd,Nat.reduceLeDiff,Int.reduceNeg,Bool.true_and,Bool.and_true,and_true,true_and,reduceCtorEq,Nat.zero_add,am,aj,f7_11e,f7_12e,f7_13e,f7_13l,f7_14e,f7_17e,f7_18e,f7_18l,f7_19e,f7_20e,f7_21e,f7_21l]
  refine conds_loop h1 (by omega) _ fun st4=>?_
  simp (config:=KF) (disch:=omega) only [bZ,ao,ev_f,id,f7_89e,f7_90e,f7_90l]
  refine ba rfl e_f10 (hkn _) rfl fun r st5 hr=>?_
  subst hr
  simp (config:=KF) (disch:=omega) only [bZ,retI,az,putS,Sf.set,Sf.reg,getR,setR,aa,Sf.disAt,↓reduceIte,Nat.reduceEqDiff,Bool.true_and,true_and]
  exact hQ _ _ rfl
theorem mS {l:List (Int×Int×Int×Bool×Unit)}:aZ Go.Proofs.Try.prog n_f7 [.sl false 4 (l.map fun x=>.agg [.lit (.int .i64 x.1),.lit (.int .i64 x.2.1),.lit (.int .i64 x.2.2.1),.lit (.bool x.2.2.2.1)])] ⟨[]⟩ (fun v _=>v = .lit (.bool true)):=by
  rw [ac_lit2]
  exact mR _
end Go.Fx.YtphaaebhgggbaaaFx

