/- What the functions that the statement reaches compute: part 17. -/
import Derived.Test.YtphaaebhgggbaaaFxW16
namespace Go.Fx.YtphaaebhgggbaaaFx
open Go Go.Fx
attribute [local irreducible] aC runI br cR

set_option maxRecDepth 100000
set_option maxHeartbeats 8000000

/-! LatchBarriers: printed by wip/dev/gen_lt20.py. -/
theorem baDo_up {p u:Int} {T:List Int} (a:Ac) (hf:(T.length:Int) < p):(baDo p u T a).1.1≤u + 1:=by
  obtain ⟨f1,f2⟩:=baDo_facts (u:=u) a hf
  cases h:(baDo p u T a).2.2.1 with
  | true=>have:=(f1 h).2.2; omega
  | false=>have:=f2 h; omega
structure BA where
  i:Nat
  st:St
  b:Nat
  x:Ln
  u:Int
  T:List Int
  g:Nat
theorem bars_loop {p:Int} {l:List Ac} {st0:St} {b0:Nat} {x0:Ln} (h0:BaIs st0 b0 x0 p 0 [] 0) (hl:l.length≤40) (Q:Exit→Sf→St→Prop) (hQ:∀ st,Q .normal ⟨[],[]⟩ st) :
    aC Go.Proofs.Try.prog id false f4_22 ⟨[(1,.sl false 4 (l.map acAV)),(5,.ptr b0 0),(7,.lptr 7 0),(8,.lit (.int .i64 0))],[(7,[.lit (.int .i64 0),.lit (.int .i64 p),.lit (.int .i64 0),.lit (.int .i64 (-1)),.lit (.bool false),.lit (.slice none 0 0),.lit (.slice none 0 0)])]⟩ st0 Q:=by
  have hpb:=h0.pb
  simp (config:=KF) (disch:=omega) only [Int.reduceNeg,f4_22e]
  rw [f4_23w]
  refine d5 (A:=BA) (fun a=>l.length - a.i) (fun a=>⟨[(1,.sl false 4 (l.map acAV)),(5,.ptr a.b 0),(7,.lptr 7 0),(8,.lit (.int .i64 (a.i:Nat)))],[(7,[.lit (.int .i64 0),.lit (.int .i64 p),.lit (.int .i64 a.u),.lit (.int .i64 (-1)),.lit (.bool false),.sl false 1 (ints a.T),.sl false 1 (ints [])])]⟩) (fun a=>a.st)
    (fun a=>a.i≤l.length∧BaIs a.st a.b a.x p a.u a.T a.g∧a.g≤3 * a.i∧a.u≤a.i) ⟨0,st0,b0,x0,0,[],0⟩ ⟨by simp,h0,by simp,by simp⟩ ⟨⟨rfl,.refl _,rfl,.refl _,rfl,.refl _,rfl,.refl _,trivial⟩,.inl ⟨rfl,⟨.refl _,.refl _,.refl _,.refl _,.refl _,.nil _ _,.nil _ _,trivial⟩,trivial⟩⟩ rfl ?_
  rintro ⟨i,st,b,x,u,T,g⟩ ⟨hi,h1,lg,lu⟩ K hK hKe hKr
  simp only at hi h1 lg lu
  dsimp only
  have hub:=h1.ub
  have hcn:=h1.ln.cnt
  by_cases h:i < l.length
  case neg =>
    simp (config:=KF) (disch:=omega) only [bZ,cT,dO,cF,lenI,bB,putS,Sf.set,Sf.reg,getR,setR,aa,look,aE,↓reduceIte,Nat.reduceEqDiff,Int.reduceNeg,List.length_map,bI,f4_24e,f4_25e,f4_26e,f4_26l,f4_27e]
    refine hKe _ _ _ ?_
    simp (config:=KF) (disch:=omega) only [bW,↓reduceIte]
    exact hQ st
  obtain ⟨w,t,n,s,ha⟩:∃ w t n s,l[i] = (w,t,n,s):=⟨_,_,_,_,rfl⟩
  have e1:(l.map acAV).getD i .any = .agg [.lit (.int .i64 w),.lit (.int .i64 t),.lit (.int .i64 n),.lit (.bool s)]:=by
    have:(l.map acAV).getD i .any = acAV l[i]:=by simp [List.getD,h]
    rw [this,ha]; rfl
  -- a copy
  have hcopy:∀ st1 b' x' g',BaIs st1 b x p u T g→BaIs st1 b' x' p u T g'→(∀ j ∈ b'::x'.ids,j ∉ b::x.ids)→g' = g→∀ st2 u2 T2 g2 st3 u3 T3 g3,BaIs st2 b x p u2 T2 g2→Oth st1 st2 (b::x.ids)→BaIs st3 b x p u3 T3 g3→Oth st2 st3 (b::x.ids)→BaIs st3 b' x' p u T g :=
    fun st1 b' x' g' _ k2 dj e st2 u2 T2 g2 st3 u3 T3 g3 _ o1 _ o2=>by
      rw [← e]
      exact (k2.fr (Fr.of o1 fun _ h=>h) dj).fr (Fr.of o2 fun _ h=>h) dj
  have lT:=d2 T
  by_cases hc:w < 0∨1 < w
  · have hcp:∀ Z:Prop,(aC Go.Proofs.Try.prog id false f4_38 ⟨[(1,.sl false 4 (l.map acAV)),(5,.ptr b 0),(7,.lptr 7 0),(8,.lit (.int .i64 (i:Nat))),(9,.lptr 9 0),(10,.lptr 10 0),(72,.lit (.bool true))],[(7,[.lit (.int .i64 0),.lit (.int .i64 p),.lit (.int .i64 u),.lit (.int .i64 (-1)),.lit (.bool false),.sl false 1 (ints T),.sl false 1 (ints [])]),(9,[.lit (.int .i64 w),.lit (.int .i64 t),.lit (.int .i64 n),.lit (.bool s)]),(10,[.lit (.bool false),.lit (.bool false),.lit (.slice none 0 0),.lit (.int .i64 0)])]⟩ st (seqQ (aC Go.Proofs.Try.prog id false f4_62) (gW 1 (seqQ (aC Go.Proofs.Try.prog id false f4_67) K)))→Z)→Z:=fun Z hZ=>hZ (by
      simp (config:=KF) (disch:=omega) only [bZ,ak,ai,ev_f,putS,Sf.set,Sf.reg,getR,setR,aa,Sf.disAt,look,id,↓reduceIte,Nat.reduceEqDiff,Int.reduceNeg,f4_38e,f4_39e,f4_39l,f4_40e,f4_41e,f4_41l]
      refine aP rfl e_f24 (n8 h1) rfl fun r st1 hr=>?_
      obtain ⟨b',x',rfl,k1,k2,k3⟩:=hr
      have k4:=h1.fr k2 (by simp)
      have dj:∀ j ∈ b'::x'.ids,j ∉ b::x.ids:=gD h1.lts k3
      simp (config:=KF) (disch:=omega) only [bZ,ar,am,ak,ai,ap,addA,af,ev_f,putS,Sf.set,Sf.reg,getR,setR,aa,Sf.disAt,look,id,List.drop_zero,List.drop_succ_cons,↓reduceIte,Nat.reduceEqDiff,Int.reduceNeg,Nat.zero_add,f4_42e,f4_43e,f4_43l]
      refine aP rfl e_f25 (ij k4 (by omega) (by omega) t) rfl fun r st2 hr=>?_
      obtain ⟨g2,rfl,k5,k6,k7⟩:=hr
      have hu2:(cV p u T t).1.1≤u + 1:=by
        have:=baDo_up (p:=p) (u:=u) (T:=T) (0,t,0,false) h1.few
        exact this
      have hub2:=k5.ub
      simp (config:=KF) (disch:=omega) only [bZ,ai,ev_f,putS,Sf.set,Sf.reg,getR,setR,aa,look,id,↓reduceIte,Nat.reduceEqDiff,Int.reduceNeg,f4_44e,f4_45e,f4_45l]
      refine aP rfl e_f25 (ij k5 (by omega) (by omega) 63) rfl fun r st3 hr=>?_
      obtain ⟨g3,rfl,k8,k9,k10⟩:=hr
      have kf:=hcopy _ _ _ _ k4 k1 dj rfl _ _ _ _ _ _ _ _ k5 k7 k8 k10
      simp (config:=KF) (disch:=omega) only [bZ,List.contains_nil,cL,dH,d4,bA,dD,c4,cw,ev_f,putS,Sf.set,Sf.reg,getR,setR,aa,look,bE,id,↓reduceIte,Nat.reduceEqDiff,Int.reduceNeg,Bool.false_eq_true,f4_46e,f4_47e,f4_47l,f4_48e,f4_62e,f4_63e,f4_63h,f4_63l]
      refine eR rfl e_f15 (fS kf) rfl ?_
      simp (config:=KF) (disch:=omega) only [bZ,cL,ki,dH,l8,cf,cr,d4,fg,dg,bA,AI.dst,ap,addA,af,cc,ev_f,putS,Sf.set,Sf.reg,getR,setR,look,id,List.drop_zero,List.drop_succ_cons,↓reduceIte,Nat.reduceEqDiff,Int.reduceNeg,Nat.zero_add,not_true_eq_false,decide_false]
      refine eR rfl e_f14 (ik kf) rfl ?_
      simp (config:=KF) (disch:=omega) only [bZ,eU,ki,cf,cr,hh_len,fg,dg,bA,cN,aH,aG,AI.dst,aX,bd,ak,bw,ap,lenI,addA,af,ee,cc,putS,Sf.set,Sf.reg,getR,setR,aa,Sf.disAt,look,aE,List.drop_zero,List.drop_succ_cons,↓reduceIte,Nat.reduceEqDiff,Int.reduceNeg,Nat.zero_add,not_true_eq_false,decide_false,Bool.false_eq_true,IntWalk.i64_in,cp,f4_64e,f4_67e,f4_67l,lT]
      exact hK ⟨i + 1,st3,b',x',u,T,g⟩ _ ⟨h,kf,by simp only; omega,by simp only; omega⟩ (by simp only; omega) (Sf.le_refl _))
    by_cases hc0:w < 0
    · simp (config:=KF) (disch:=omega) only [bZ,aG,cy,AI.dst,bT,bd,ar,g5,am,cF,cG,aU,b8,ixSV,ap,boxX,bj,ixA,lenI,addA,af,az,bB,aF,aV,aA,aQ,putS,Sf.set,Sf.reg,getR,setR,aa,Sf.disAt,Sf.newLoc,Sf.setLoc,look,bU,bf,aE,aq,aj,ag,ae,ah,cI,bK,aY,iu,jH,a9,List.length_cons,List.length_nil,List.all_cons,List.all_nil,List.drop_zero,List.take_succ_cons,List.take_zero,List.set_cons_zero,List.set_cons_succ,Int.toNat_natCast,↓reduceIte,Nat.reduceEqDiff,Nat.reduceAdd,Nat.reduceLeDiff,Int.reduceNeg,Bool.true_and,Bool.and_true,and_true,true_and,Nat.zero_add,Nat.add_zero,decide_true,Bool.false_eq_true,List.length_map,cd,bu,dv,ce,au,al,f4_24e,f4_25e,f4_26e,f4_26l,f4_27e,f4_28e,f4_29e,f4_30e,f4_31e,f4_31l,f4_32e,f4_33e,f4_33l,f4_34e,f4_35e,f4_36e,f4_36l,f4_37e,e1]
      exact hcp _ fun h=>h
    · have hc1:1 < w:=by omega
      simp (config:=KF) (disch:=omega) only [bZ,aG,AI.dst,aX,bd,ar,g5,am,cF,cG,aU,bw,ixSV,ap,boxX,bj,ixA,lenI,addA,af,az,bB,eJ,aF,aV,aA,aQ,putS,Sf.set,Sf.reg,getR,setR,aa,Sf.disAt,Sf.newLoc,Sf.setLoc,look,bU,bf,aE,aq,aj,ag,ae,ah,cI,bK,aY,iu,jH,a9,List.length_cons,List.length_nil,List.all_cons,List.all_nil,List.drop_zero,List.take_succ_cons,List.take_zero,List.set_cons_zero,List.set_cons_succ,Int.toNat_natCast,↓reduceIte,Nat.reduceEqDiff,Nat.reduceAdd,Nat.reduceLeDiff,Int.reduceNeg,Bool.true_and,Bool.and_true,and_true,true_and,Nat.zero_add,Nat.add_zero,decide_true,Bool.false_eq_true,List.length_map,cd,bu,cM,ce,au,al,f4_24e,f4_25e,f4_26e,f4_26l,f4_27e,f4_28e,f4_29e,f4_30e,f4_31e,f4_31l,f4_32e,f4_33e,f4_33l,f4_34e,f4_35e,f4_36e,f4_36l,f4_37e,e1]
      exact hcp _ fun h=>h
  by_cases hw:w = 0
  · subst hw
    have hb:=i9 h1 (by omega) (by omega) (0,t,n,s)
    have hr:=fun st=>rarrive p u T t ⟨by omega,by omega⟩ hpb.2 (by omega) st
    have hlu:=baDo_up (p:=p) (u:=u) (T:=T) (0,t,n,s) h1.few
    have hll:(baDo p u T (0,t,n,s)).2.2.2.1.length≤1000:=by
      show (cV p u T t).2.2.1.length≤1000
      unfold cV
      split
      · simp
      split
      · simp
      · simp only; omega
    have he:=fun st=>nw (baDo p u T (0,t,n,s)).2 (by omega) st
    unfold baDo at hb hlu he
    simp only [if_true] at hb hlu he
    generalize (cV p u T t).1.1 = u' at *
    generalize (cV p u T t).1.2 = T' at *
    generalize (cV p u T t).2.1 = r1 at *
    generalize (cV p u T t).2.2.1 = r2 at *
    generalize (cV p u T t).2.2.2 = r3 at *
    rw [← (eD _).1] at he
    obtain ⟨w1,w2,w3,w4,w5,w6,w7⟩:=cu r2
    simp (config:=KF) (disch:=omega) only [bZ,aG,AI.dst,aX,bd,ar,g5,am,cF,cG,aU,ai,bw,ixSV,ap,boxX,bj,ixA,lenI,addA,af,az,bL,bB,eJ,aF,aV,ev_f,aA,aQ,putS,Sf.set,Sf.reg,getR,setR,aa,Sf.disAt,Sf.newLoc,Sf.setLoc,look,bU,bf,id,aE,aq,aj,bO,ag,ae,ah,cI,bK,aY,iu,jH,a9,List.length_cons,List.length_nil,List.all_cons,List.all_nil,List.drop_zero,List.drop_succ_cons,List.take_succ_cons,List.take_zero,List.set_cons_zero,List.set_cons_succ,Int.toNat_natCast,↓reduceIte,Nat.reduceEqDiff,Nat.reduceAdd,Nat.reduceLeDiff,Int.reduceLT,Int.reduceNeg,Bool.true_and,Bool.and_true,and_true,true_and,Nat.zero_add,Nat.add_zero,decide_true,decide_false,Bool.false_eq_true,List.length_map,cd,bu,bI,ce,au,al,f4_24e,f4_25e,f4_26e,f4_26l,f4_27e,f4_28e,f4_29e,f4_30e,f4_31e,f4_31l,f4_32e,f4_33e,f4_33l,f4_34e,f4_35e,f4_36e,f4_36l,f4_37e,f4_51e,f4_52e,f4_53e,f4_53l,f4_54e,f4_55e,f4_55l,e1]
    refine aO rfl e_f26 (hr _) rfl ?_
    simp (config:=KF) (disch:=omega) only [bZ,bY,aU,extV,boxX,bj,aA,aQ,putS,Sf.set,Sf.reg,getR,setR,aa,Sf.disAt,Sf.setLoc,look,bf,aq,bq,aj,bO,lZ,ag,ae,bF,ah,List.length_cons,List.length_nil,List.getElem?_cons_zero,List.getElem?_cons_succ,List.all_cons,List.all_nil,List.set_cons_zero,List.set_cons_succ,↓reduceIte,Nat.reduceEqDiff,Nat.reduceAdd,Nat.reduceLeDiff,Int.reduceNeg,Bool.true_and,Bool.and_true,and_true,true_and,Nat.zero_add,au,al,f4_57e,f4_58e,f4_58h,f4_58p,f4_58l,stAV,rsw]
    refine km ⟨[]⟩ (St.sub_nil _) ?_
    simp (config:=KF) (disch:=omega) only [bZ,List.contains_nil,er,dW,eV,eK,cC,ib,fv,iN,iO,fV,ap,af,az,aF,aV,ev_f,putS,Sf.set,Sf.reg,getR,setR,look,bE,id,aq,aj,List.length_cons,List.length_nil,List.append_nil,List.nil_append,List.cons_append,List.drop_zero,List.take_succ_cons,List.take_zero,↓reduceIte,Nat.reduceEqDiff,Nat.reduceAdd,Nat.reduceLeDiff,Int.reduceNeg,Nat.zero_add,decide_true,Bool.false_eq_true]
    refine ic rfl e_f13 hb rfl ?_
    simp (config:=KF) (disch:=omega) only [bZ,List.contains_nil,ksB,aZ,bG,bQ,bp,nstB,bR,cC,ia,ix,kj,eM,ap,af,az,aF,aV,putS,Sf.set,Sf.reg,getR,setR,look,aq,aj,bO,List.length_cons,List.length_nil,List.all_nil,List.nil_append,List.cons_append,List.drop_zero,List.take_succ_cons,List.take_zero,↓reduceIte,Nat.reduceEqDiff,Nat.reduceAdd,Nat.reduceLeDiff,Int.reduceNeg,Bool.true_and,Bool.and_true,and_true,true_and,Nat.zero_add,decide_true,Bool.not_false]
    rintro r st1 ⟨g',rfl,k1,k2,k3⟩
    refine ⟨St.sub_nil _,?_⟩
    simp (config:=KF) (disch:=omega) only [bZ,List.contains_nil,ksB,aZ,bG,bQ,bp,cQ,cv,nstB,bR,er,dW,eV,cC,eL,ef,iy,em,fP,and_self,ai,ap,af,az,aF,aV,ev_f,putS,Sf.set,Sf.reg,getR,setR,look,id,aq,aj,bO,List.length_cons,List.length_nil,List.all_nil,List.nil_append,List.cons_append,List.drop_zero,List.take_succ_cons,List.take_zero,↓reduceIte,Nat.reduceEqDiff,Nat.reduceAdd,Nat.reduceLeDiff,Int.reduceNeg,Bool.true_and,Bool.and_true,and_true,true_and,Nat.zero_add,decide_true,Bool.not_false,rsAV]
    refine aO rfl e_f28 (he _) rfl ?_
    have lT:=d2 T'
    simp (config:=KF) (disch:=omega) only [bZ,List.contains_nil,cL,dH,d4,bA,o_un,unA,ev_f,putS,Sf.set,Sf.reg,getR,setR,aa,look,bE,id,↓reduceIte,Nat.reduceEqDiff,Int.reduceNeg,Bool.not_true,Bool.false_eq_true,f4_59e,f4_62e,f4_63e,f4_63h,f4_63l]
    refine eR rfl e_f15 (fS k1) rfl ?_
    simp (config:=KF) (disch:=omega) only [bZ,cL,ki,dH,l8,cf,cr,d4,fg,dg,bA,AI.dst,ap,addA,af,cc,ev_f,putS,Sf.set,Sf.reg,getR,setR,look,id,List.drop_zero,List.drop_succ_cons,↓reduceIte,Nat.reduceEqDiff,Int.reduceNeg,Nat.zero_add,not_true_eq_false,decide_false]
    refine eR rfl e_f14 (ik k1) rfl ?_
    simp (config:=KF) (disch:=omega) only [bZ,eU,ki,cf,cr,hh_len,fg,dg,bA,cN,aH,aG,AI.dst,aX,bd,ak,bw,ap,lenI,addA,af,ee,cc,putS,Sf.set,Sf.reg,getR,setR,aa,Sf.disAt,look,aE,List.drop_zero,List.drop_succ_cons,↓reduceIte,Nat.reduceEqDiff,Int.reduceNeg,Nat.zero_add,not_true_eq_false,decide_false,Bool.false_eq_true,IntWalk.i64_in,cp,f4_64e,f4_67e,f4_67l,lT]
    exact hK ⟨i + 1,st1,b,x,u',T',g'⟩ _ ⟨h,k1,by simp only; omega,by simp only; omega⟩ (by simp only; omega) (Sf.le_refl _)
  · have hw1:w = 1:=by omega
    subst hw1
    have hb:=i9 h1 (by omega) (by omega) (1,t,n,s)
    have hr:=fun st=>rcancel 0 p u (-1) false T [] t (by omega) (by simp) st
    simp only [rCan_low] at hr
    have he:=fun st=>nw (baDo p u T (1,t,n,s)).2 (by simp [baDo]) st
    unfold baDo at hb he
    simp only [if_neg (show ¬ (1:Int) = 0 by decide)] at hb he
    generalize (lCan T t).1 = T' at *
    generalize (lCan T t).2 = r3 at *
    rw [← (eD _).1] at he
    have e0:lAV [] = .lit (.slice none 0 0):=rfl
    simp (config:=KF) (disch:=omega) only [bZ,aG,AI.dst,aX,bd,ar,g5,am,cF,cG,aU,ai,bw,ixSV,ap,boxX,bj,ixA,lenI,addA,af,az,bL,bB,eJ,aF,aV,ev_f,aA,aQ,putS,Sf.set,Sf.reg,getR,setR,aa,Sf.disAt,Sf.newLoc,Sf.setLoc,look,bU,bf,id,aE,aq,aj,bO,ag,ae,ah,cI,bK,aY,iu,jH,a9,List.length_cons,List.length_nil,List.all_cons,List.all_nil,List.drop_zero,List.drop_succ_cons,List.take_succ_cons,List.take_zero,List.set_cons_zero,List.set_cons_succ,Int.toNat_natCast,↓reduceIte,Nat.reduceEqDiff,Nat.reduceAdd,Nat.reduceLeDiff,Int.reduceLT,Int.reduceEq,Int.reduceNeg,Bool.true_and,Bool.and_true,and_true,true_and,Nat.zero_add,Nat.add_zero,decide_true,decide_false,Bool.false_eq_true,List.length_map,cd,bu,bI,ce,au,al,f4_24e,f4_25e,f4_26e,f4_26l,f4_27e,f4_28e,f4_29e,f4_30e,f4_31e,f4_31l,f4_32e,f4_33e,f4_33l,f4_34e,f4_35e,f4_36e,f4_36l,f4_37e,f4_51e,f4_52e,f4_53e,f4_53l,f4_54e,f4_56e,f4_56l,e1]
    refine aO rfl e_f27 (hr _) rfl ?_
    simp (config:=KF) (disch:=omega) only [bZ,bY,aU,extV,boxX,bj,aA,aQ,putS,Sf.set,Sf.reg,getR,setR,aa,Sf.disAt,Sf.setLoc,look,bf,aq,bq,aj,bO,lZ,ag,ae,bF,ah,List.length_cons,List.length_nil,List.getElem?_cons_zero,List.getElem?_cons_succ,List.all_cons,List.all_nil,List.set_cons_zero,List.set_cons_succ,↓reduceIte,Nat.reduceEqDiff,Nat.reduceAdd,Nat.reduceLeDiff,Int.reduceNeg,Bool.true_and,Bool.and_true,and_true,true_and,Nat.zero_add,au,al,f4_57e,f4_58e,f4_58h,f4_58p,f4_58l,stAV,rsw]
    refine km ⟨[]⟩ (St.sub_nil _) ?_
    simp (config:=KF) (disch:=omega) only [bZ,List.contains_nil,er,dW,eV,eK,cC,ib,fv,iN,iO,fV,ap,af,az,aF,aV,ev_f,putS,Sf.set,Sf.reg,getR,setR,look,bE,id,aq,aj,List.length_cons,List.length_nil,List.append_nil,List.nil_append,List.cons_append,List.drop_zero,List.take_succ_cons,List.take_zero,↓reduceIte,Nat.reduceEqDiff,Nat.reduceAdd,Nat.reduceLeDiff,Int.reduceNeg,Nat.zero_add,decide_true,Bool.false_eq_true]
    refine ic rfl e_f13 hb rfl ?_
    simp (config:=KF) (disch:=omega) only [bZ,List.contains_nil,ksB,aZ,bG,bQ,bp,nstB,bR,cC,ia,ix,kj,eM,ap,af,az,aF,aV,putS,Sf.set,Sf.reg,getR,setR,look,aq,aj,bO,List.length_cons,List.length_nil,List.all_nil,List.nil_append,List.cons_append,List.drop_zero,List.take_succ_cons,List.take_zero,↓reduceIte,Nat.reduceEqDiff,Nat.reduceAdd,Nat.reduceLeDiff,Int.reduceNeg,Bool.true_and,Bool.and_true,and_true,true_and,Nat.zero_add,decide_true,Bool.not_false]
    rintro r st1 ⟨g',rfl,k1,k2,k3⟩
    refine ⟨St.sub_nil _,?_⟩
    simp (config:=KF) (disch:=omega) only [bZ,List.contains_nil,ksB,aZ,bG,bQ,bp,cQ,cv,nstB,bR,er,dW,eV,cC,eL,ef,iy,em,fP,and_self,ai,ap,af,az,aF,aV,ev_f,putS,Sf.set,Sf.reg,getR,setR,look,id,aq,aj,bO,List.length_cons,List.length_nil,List.all_nil,List.nil_append,List.cons_append,List.drop_zero,List.take_succ_cons,List.take_zero,↓reduceIte,Nat.reduceEqDiff,Nat.reduceAdd,Nat.reduceLeDiff,Int.reduceNeg,Bool.true_and,Bool.and_true,and_true,true_and,Nat.zero_add,decide_true,Bool.not_false,rsAV,e0]
    refine aO rfl e_f28 (he _) rfl ?_
    have lT:=d2 T'
    simp (config:=KF) (disch:=omega) only [bZ,List.contains_nil,cL,dH,d4,bA,o_un,unA,ev_f,putS,Sf.set,Sf.reg,getR,setR,aa,look,bE,id,↓reduceIte,Nat.reduceEqDiff,Int.reduceNeg,Bool.not_true,Bool.false_eq_true,f4_59e,f4_62e,f4_63e,f4_63h,f4_63l]
    refine eR rfl e_f15 (fS k1) rfl ?_
    simp (config:=KF) (disch:=omega) only [bZ,cL,ki,dH,l8,cf,cr,d4,fg,dg,bA,AI.dst,ap,addA,af,cc,ev_f,putS,Sf.set,Sf.reg,getR,setR,look,id,List.drop_zero,List.drop_succ_cons,↓reduceIte,Nat.reduceEqDiff,Int.reduceNeg,Nat.zero_add,not_true_eq_false,decide_false]
    refine eR rfl e_f14 (ik k1) rfl ?_
    simp (config:=KF) (disch:=omega) only [bZ,eU,ki,cf,cr,hh_len,fg,dg,bA,cN,aH,aG,AI.dst,aX,bd,ak,bw,ap,lenI,addA,af,ee,cc,putS,Sf.set,Sf.reg,getR,setR,aa,Sf.disAt,look,aE,List.drop_zero,List.drop_succ_cons,↓reduceIte,Nat.reduceEqDiff,Int.reduceNeg,Nat.zero_add,not_true_eq_false,decide_false,Bool.false_eq_true,IntWalk.i64_in,cp,f4_64e,f4_67e,f4_67l,lT]
    exact hK ⟨i + 1,st1,b,x,u,T',g'⟩ _ ⟨h,k1,by simp only; omega,by simp only; omega⟩ (by simp only; omega) (Sf.le_refl _)

theorem jO (p:Int) (l:List Ac):aS Go.Proofs.Try.prog n_f4 [.lit (.int .i64 p),.sl false 4 (l.map acAV)] ⟨[]⟩ (fun v _=>v = .lit (.bool true)):=by
  refine aM hmix k_f4 rfl rfl fun Q hQ=>?_
  unfold aFun c_f4
  have hkn:∀ st,aS Go.Proofs.Try.prog n_f10 [] st (fun r _=>r = .lit (.bool true)):=known39
  by_cases hp:p < 1∨64 < p
  · simp (config:=KF) (disch:=omega) only [bZ,ai,ev_f,putS,Sf.set,Sf.reg,getR,setR,aa,aK,id,aE,↓reduceIte,Nat.reduceEqDiff,reduceCtorEq,Nat.zero_add,f4_1e,f4_2e,f4_2l,f4_3e,f4_4e,f4_4l]
    refine aO rfl e_f9 (newba_err hp _) rfl ?_
    by_cases hl:40 < l.length
    · by_cases hp1:p < 1
      · simp (config:=KF) (disch:=omega) only [bZ,aG,cy,AI.dst,bT,bd,bY,cF,ak,ai,b8,extV,dD,hH,c4,cw,lenI,bL,cc,bB,eJ,ev_f,putS,Sf.set,Sf.reg,getR,setR,aa,Sf.disAt,id,aE,bq,a8,List.getElem?_cons_zero,List.getElem?_cons_succ,↓reduceIte,Nat.reduceEqDiff,Int.reduceEq,reduceCtorEq,not_false_eq_true,decide_true,Bool.false_eq_true,List.length_map,dv,f4_5e,f4_6e,f4_7e,f4_7l,f4_8e,f4_9e,f4_10e,f4_10l,beq_self_eq_true]
        refine aP rfl e_f10 (hkn _) rfl fun r st1 hr=>?_
        subst hr
        simp (config:=KF) (disch:=omega) only [bZ,retI,bd,ak,b8,putS,Sf.set,Sf.reg,getR,setR,aa,Sf.disAt,↓reduceIte,Nat.reduceEqDiff,Bool.true_and,true_and,reduceCtorEq]
        exact hQ _ _ rfl
      · have hp2:64 < p:=by omega
        have hq:decide (p > 64) = true:=by simpa using hp2
        simp (config:=KF) (disch:=omega) only [bZ,aG,cy,AI.dst,bT,aX,bd,bY,cF,ak,ai,b8,bw,extV,dD,hH,c4,cw,lenI,bL,cc,bB,eJ,ev_f,putS,Sf.set,Sf.reg,getR,setR,aa,Sf.disAt,id,aE,bq,a8,List.getElem?_cons_zero,List.getElem?_cons_succ,↓reduceIte,Nat.reduceEqDiff,Int.reduceEq,reduceCtorEq,not_false_eq_true,decide_true,Bool.false_eq_true,List.length_map,dv,cM,f4_5e,f4_6e,f4_7e,f4_7l,f4_8e,f4_9e,f4_10e,f4_10l,hq,beq_self_eq_true]
        refine aP rfl e_f10 (hkn _) rfl fun r st1 hr=>?_
        subst hr
        simp (config:=KF) (disch:=omega) only [bZ,retI,bd,ak,b8,putS,Sf.set,Sf.reg,getR,setR,aa,Sf.disAt,↓reduceIte,Nat.reduceEqDiff,Bool.true_and,true_and,reduceCtorEq]
        exact hQ _ _ rfl
    · by_cases hp1:p < 1
      · simp (config:=KF) (disch:=omega) only [bZ,aG,cy,AI.dst,bT,aX,bd,bY,cF,ak,ai,b8,bw,extV,dD,hH,c4,cw,lenI,bL,cc,bB,eJ,ev_f,putS,Sf.set,Sf.reg,getR,setR,aa,Sf.disAt,id,aE,bq,a8,List.getElem?_cons_zero,List.getElem?_cons_succ,↓reduceIte,Nat.reduceEqDiff,Int.reduceEq,reduceCtorEq,not_false_eq_true,decide_true,Bool.false_eq_true,List.length_map,dv,cM,f4_5e,f4_6e,f4_7e,f4_7l,f4_8e,f4_9e,f4_10e,f4_10l,beq_self_eq_true]
        refine aP rfl e_f10 (hkn _) rfl fun r st1 hr=>?_
        subst hr
        simp (config:=KF) (disch:=omega) only [bZ,retI,bd,ak,b8,putS,Sf.set,Sf.reg,getR,setR,aa,Sf.disAt,↓reduceIte,Nat.reduceEqDiff,Bool.true_and,true_and,reduceCtorEq]
        exact hQ _ _ rfl
      · have hp2:64 < p:=by omega
        have hq:decide (p > 64) = true:=by simpa using hp2
        simp (config:=KF) (disch:=omega) only [bZ,aG,AI.dst,bT,aX,bd,bY,cF,ak,ai,b8,bw,extV,dD,hH,c4,cw,lenI,bL,cc,bB,eJ,ev_f,putS,Sf.set,Sf.reg,getR,setR,aa,Sf.disAt,id,aE,bq,a8,List.getElem?_cons_zero,List.getElem?_cons_succ,↓reduceIte,Nat.reduceEqDiff,Int.reduceEq,reduceCtorEq,not_false_eq_true,decide_true,Bool.false_eq_true,List.length_map,cM,f4_5e,f4_6e,f4_7e,f4_7l,f4_8e,f4_9e,f4_10e,f4_10l,hq,beq_self_eq_true]
        refine aP rfl e_f10 (hkn _) rfl fun r st1 hr=>?_
        subst hr
        simp (config:=KF) (disch:=omega) only [bZ,retI,bd,ak,b8,putS,Sf.set,Sf.reg,getR,setR,aa,Sf.disAt,↓reduceIte,Nat.reduceEqDiff,Bool.true_and,true_and,reduceCtorEq]
        exact hQ _ _ rfl
  have hp0:1≤p∧p≤64:=by omega
  simp (config:=KF) (disch:=omega) only [bZ,ai,ev_f,putS,Sf.set,Sf.reg,getR,setR,aa,aK,id,aE,↓reduceIte,Nat.reduceEqDiff,reduceCtorEq,Nat.zero_add,f4_1e,f4_2e,f4_2l,f4_3e,f4_4e,f4_4l]
  refine aP rfl e_f9 (kM hp0 _) rfl fun r st1 hr=>?_
  obtain ⟨b,x,rfl,h1,f1,g1⟩:=hr
  by_cases hl:40 < l.length
  · have hq:decide (p > 64) = false:=by simpa using hp0.2
    simp (config:=KF) (disch:=omega) only [bZ,aG,cy,AI.dst,bT,aX,bd,bY,cF,ak,ai,b8,bw,extV,dD,hH,c4,cw,lenI,bL,cc,bB,eJ,ev_f,putS,Sf.set,Sf.reg,getR,setR,aa,Sf.disAt,id,aE,bq,a8,jF,List.getElem?_cons_zero,List.getElem?_cons_succ,↓reduceIte,Nat.reduceEqDiff,Int.reduceEq,reduceCtorEq,not_true_eq_false,decide_false,Bool.false_eq_true,List.length_map,dv,cM,f4_5e,f4_6e,f4_7e,f4_7l,f4_8e,f4_9e,f4_10e,f4_10l,hq,beq_self_eq_true]
    refine aP rfl e_f10 (hkn _) rfl fun r st1 hr=>?_
    subst hr
    simp (config:=KF) (disch:=omega) only [bZ,retI,bd,ak,b8,putS,Sf.set,Sf.reg,getR,setR,aa,Sf.disAt,↓reduceIte,Nat.reduceEqDiff,Bool.true_and,true_and,reduceCtorEq]
    exact hQ _ _ rfl
  simp (config:=KF) (disch:=omega) only [bZ,and_self,aG,AI.dst,aX,bd,bY,cz,cF,ak,cG,aU,bw,extV,bstV,boxX,bj,dD,c4,cw,lenI,ba,cc,bB,eJ,aA,aQ,putS,Sf.set,Sf.reg,getR,setR,aa,Sf.disAt,Sf.newLoc,Sf.setLoc,look,bU,bf,aE,aq,bq,aj,a8,jF,aw,ag,ae,ah,cI,bK,jH,a9,List.length_cons,List.length_nil,List.getElem?_cons_zero,List.getElem?_cons_succ,List.all_cons,List.all_nil,List.set_cons_zero,List.set_cons_succ,↓reduceIte,Nat.reduceEqDiff,Nat.reduceAdd,Nat.reduceLeDiff,Int.reduceNeg,Bool.true_and,Bool.and_true,and_true,true_and,reduceCtorEq,Nat.zero_add,not_true_eq_false,decide_false,Bool.false_eq_true,List.length_map,bI,cM,au,al,f4_5e,f4_6e,f4_7e,f4_7l,f4_8e,f4_11e,f4_12e,f4_13e,f4_13l,f4_14e,f4_17e,f4_18e,f4_18l,f4_19e,f4_20e,f4_21e,f4_21l]
  refine bars_loop h1 (by omega) _ fun st4=>?_
  simp (config:=KF) (disch:=omega) only [bZ,ai,ev_f,id,f4_68e,f4_69e,f4_69l]
  refine aP rfl e_f10 (hkn _) rfl fun r st5 hr=>?_
  subst hr
  simp (config:=KF) (disch:=omega) only [bZ,retI,ak,putS,Sf.set,Sf.reg,getR,setR,aa,Sf.disAt,↓reduceIte,Nat.reduceEqDiff,Bool.true_and,true_and]
  exact hQ _ _ rfl
theorem jP {p:Int} {l:List (Int×Int×Int×Bool×Unit)}:aS Go.Proofs.Try.prog n_f4 [.lit (.int .i64 p),.sl false 4 (l.map fun x=>.agg [.lit (.int .i64 x.1),.lit (.int .i64 x.2.1),.lit (.int .i64 x.2.2.1),.lit (.bool x.2.2.2.1)])] ⟨[]⟩ (fun v _=>v = .lit (.bool true)):=by
  rw [ac_lit2]
  exact jO p _
end Go.Fx.YtphaaebhgggbaaaFx

