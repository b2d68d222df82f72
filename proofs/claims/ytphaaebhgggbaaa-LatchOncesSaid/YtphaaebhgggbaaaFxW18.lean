/- What the functions that the statement reaches compute: part 18. -/
import Derived.Test.YtphaaebhgggbaaaFxW17
namespace Go.Fx.YtphaaebhgggbaaaFx
open Go Go.Fx
attribute [local irreducible] aC runI bu cN

set_option maxRecDepth 100000
set_option maxHeartbeats 8000000

/-! LatchOnces: printed by wip/dev/gen_lt20.py. -/
structure OA where
  i:Nat
  st:St
  b:Nat
  x:Ln
  o:Int
  T:List Int
  d:Bool
  g:Nat
theorem onces_loop {l:List Ac} {st0:St} {b0:Nat} {x0:Ln} (h0:OwIs st0 b0 x0 (.lit (.bool false)) (-1) [] 0) (hl:l.length≤40) (Q:Exit→Sf→St→Prop) (hQ:∀ st,Q .normal ⟨[],[]⟩ st) :
    aC Go.Proofs.Try.prog id false f5_22 ⟨[(0,.sl false 4 (l.map acAV)),(3,.ptr b0 0),(4,.lptr 4 0),(5,.lit (.int .i64 0))],[(4,[.lit (.int .i64 0),.lit (.int .i64 0),.lit (.int .i64 0),.lit (.int .i64 (-1)),.lit (.bool false),.lit (.slice none 0 0),.lit (.slice none 0 0)])]⟩ st0 Q:=by
  simp (config:=KF) (disch:=omega) only [Int.reduceNeg,f5_22e]
  rw [f5_23w]
  refine d3 (A:=OA) (fun a=>l.length - a.i) (fun a=>⟨[(0,.sl false 4 (l.map acAV)),(3,.ptr a.b 0),(4,.lptr 4 0),(5,.lit (.int .i64 (a.i:Nat)))],[(4,[.lit (.int .i64 0),.lit (.int .i64 0),.lit (.int .i64 0),.lit (.int .i64 a.o),.lit (.bool a.d),.sl false 1 (ints a.T),.sl false 1 (ints [])])]⟩) (fun a=>a.st)
    (fun a=>a.i≤l.length∧OwIs a.st a.b a.x (.lit (.bool a.d)) a.o a.T a.g∧a.g≤3 * a.i∧OInv a.o a.T a.d) ⟨0,st0,b0,x0,-1,[],false,0⟩ ⟨by simp,h0,by simp,by simp [OInv]⟩ ⟨⟨rfl,.refl _,rfl,.refl _,rfl,.refl _,rfl,.refl _,trivial⟩,.inl ⟨rfl,⟨.refl _,.refl _,.refl _,.refl _,.refl _,.nil _ _,.nil _ _,trivial⟩,trivial⟩⟩ rfl ?_
  rintro ⟨i,st,b,x,o,T,d,g⟩ ⟨hi,h1,lg,iv⟩ K hK hKe hKr
  simp only at hi h1 lg iv
  dsimp only
  have hcn:=h1.ln.cnt
  by_cases h:i < l.length
  case neg =>
    simp (config:=KF) (disch:=omega) only [bZ,cS,dO,cO,lenI,bT,putS,Sf.set,Sf.reg,getR,setR,aa,look,aH,↓reduceIte,Nat.reduceEqDiff,reduceCtorEq,List.length_map,bK,f5_24e,f5_25e,f5_26e,f5_26l,f5_27e]
    refine hKe _ _ _ ?_
    simp (config:=KF) (disch:=omega) only [ce,↓reduceIte]
    exact hQ st
  obtain ⟨w,t,n,s,ha⟩:∃ w t n s,l[i] = (w,t,n,s):=⟨_,_,_,_,rfl⟩
  have e1:(l.map acAV).getD i .any = .agg [.lit (.int .i64 w),.lit (.int .i64 t),.lit (.int .i64 n),.lit (.bool s)]:=by
    have:(l.map acAV).getD i .any = acAV l[i]:=by simp [List.getD,h]
    rw [this,ha]; rfl
  have lT:=dw T
  by_cases hc:w < 0∨2 < w
  · have hcp:∀ Z:Prop,(aC Go.Proofs.Try.prog id false f5_38 ⟨[(0,.sl false 4 (l.map acAV)),(3,.ptr b 0),(4,.lptr 4 0),(5,.lit (.int .i64 (i:Nat))),(6,.lptr 6 0),(7,.lptr 7 0),(34,.lit (.bool true))],[(4,[.lit (.int .i64 0),.lit (.int .i64 0),.lit (.int .i64 0),.lit (.int .i64 o),.lit (.bool d),.sl false 1 (ints T),.sl false 1 (ints [])]),(6,[.lit (.int .i64 w),.lit (.int .i64 t),.lit (.int .i64 n),.lit (.bool s)]),(7,[.lit (.bool false),.lit (.bool false),.lit (.slice none 0 0),.lit (.int .i64 0)])]⟩ st (seqQ (aC Go.Proofs.Try.prog id false f5_69) (ig 1 (seqQ (aC Go.Proofs.Try.prog id false f5_74) K)))→Z)→Z:=fun Z hZ=>hZ (by
      simp (config:=KF) (disch:=omega) only [bZ,au,ak,ev_f,putS,Sf.set,Sf.reg,getR,setR,aa,Sf.disAt,look,id,↓reduceIte,Nat.reduceEqDiff,reduceCtorEq,f5_38e,f5_39e,f5_39l,f5_40e,f5_41e,f5_41l]
      refine a7 rfl e_f29 (ol h1) rfl fun r st1 hr=>?_
      obtain ⟨b',x',rfl,k1,k2,k3⟩:=hr
      have k4:=h1.fr k2 (by simp)
      have dj:∀ j ∈ b'::x'.ids,j ∉ b::x.ids:=gS h1.lts k3
      simp (config:=KF) (disch:=omega) only [bZ,aw,am,au,ak,ap,addA,af,ev_f,putS,Sf.set,Sf.reg,getR,setR,aa,Sf.disAt,look,id,List.drop_zero,List.drop_succ_cons,↓reduceIte,Nat.reduceEqDiff,reduceCtorEq,Nat.zero_add,f5_42e,f5_43e,f5_43l]
      refine a7 rfl e_f30 (i7 k4 (by omega) t) rfl fun r st2 hr=>?_
      obtain ⟨g2,rfl,k5,k6,k7⟩:=hr
      generalize (bE o T d t).1.1 = o2 at *
      generalize (bE o T d t).1.2 = T2 at *
      generalize (bE o T d t).2.1 = r2 at *
      generalize (bE o T d t).2.2.1 = r3 at *
      generalize (bE o T d t).2.2.2 = e2 at *
      have kf0:=k1.fr (Fr.of k7 fun _ h=>h) dj
      simp (config:=KF) (disch:=omega) only [bZ,aw,am,ak,ap,addA,af,ev_f,putS,Sf.set,Sf.reg,getR,setR,aa,look,id,List.drop_zero,List.drop_succ_cons,↓reduceIte,Nat.reduceEqDiff,reduceCtorEq,Nat.zero_add,f5_44e,f5_45e,f5_45l]
      refine a7 rfl e_f31 (i8 k5 (by omega) t true) rfl fun r st3 hr=>?_
      obtain ⟨rfl,k8,k10⟩:=hr
      generalize (bU o2 T2 d t true).2.1 = l2 at *
      generalize (bU o2 T2 d t true).2.2 = e3 at *
      have kf:=kf0.fr (Fr.of k10 fun _ h=>h) dj
      rcases eh l2 with ⟨e,hz⟩ | ⟨e,hz⟩
      all_goals
        rw [e]
        simp (config:=KF) (disch:=omega) only [bZ,List.contains_nil,cz,dt,dG,bp,fc,dU,cU,ev_f,putS,Sf.set,Sf.reg,getR,setR,aa,look,bB,id,↓reduceIte,Nat.reduceEqDiff,reduceCtorEq,Bool.false_eq_true,f5_46e,f5_47e,f5_47l,f5_48e,f5_69e,f5_70e,f5_70h,f5_70l]
        refine ep rfl e_f17 (f0 kf) rfl ?_
        simp (config:=KF) (disch:=omega) only [bZ,cz,ir,dt,kx,b8,cc,dG,ed,cX,bp,AI.dst,ap,b_neq,addA,af,ev_f,putS,Sf.set,Sf.reg,getR,setR,look,id,List.drop_zero,List.drop_succ_cons,↓reduceIte,Nat.reduceEqDiff,reduceCtorEq,Nat.zero_add,Bool.not_true,beq_self_eq_true]
        refine ep rfl e_f34 (f7 kf) rfl ?_
        simp (config:=KF) (disch:=omega) only [bZ,eo,ir,b8,cc,oa,ed,cX,bp,cJ,aD,aI,AI.dst,bh,bt,au,bC,ap,lenI,addA,af,en,cx,putS,Sf.set,Sf.reg,getR,setR,aa,Sf.disAt,look,aH,List.drop_zero,List.drop_succ_cons,↓reduceIte,Nat.reduceEqDiff,reduceCtorEq,Nat.zero_add,not_true_eq_false,decide_false,Bool.false_eq_true,IntWalk.i64_in,cC,f5_71e,f5_74e,f5_74l,lT]
        exact hK ⟨i + 1,st3,b',x',o,T,d,g⟩ _ ⟨h,kf,by simp only; omega,iv⟩ (by simp only; omega) (Sf.le_refl _))
    by_cases hc0:w < 0
    · simp (config:=KF) (disch:=omega) only [bZ,aI,c4,AI.dst,cE,bt,aw,fV,am,cO,bR,aR,c9,ixSV,ap,boxX,aZ,ixA,lenI,addA,af,ao,bT,aB,aP,aA,aO,putS,Sf.set,Sf.reg,getR,setR,aa,Sf.disAt,Sf.newLoc,Sf.setLoc,look,bJ,aX,aH,al,ai,ag,ae,ah,bS,bO,aT,gt,iF,aU,List.length_cons,List.length_nil,List.all_cons,List.all_nil,List.drop_zero,List.take_succ_cons,List.take_zero,List.set_cons_zero,List.set_cons_succ,Int.toNat_natCast,↓reduceIte,Nat.reduceEqDiff,Nat.reduceAdd,Nat.reduceLeDiff,Bool.true_and,Bool.and_true,and_true,true_and,reduceCtorEq,Nat.zero_add,Nat.add_zero,decide_true,Bool.false_eq_true,List.length_map,cf,bw,fk,cm,aq,aj,f5_24e,f5_25e,f5_26e,f5_26l,f5_27e,f5_28e,f5_29e,f5_30e,f5_31e,f5_31l,f5_32e,f5_33e,f5_33l,f5_34e,f5_35e,f5_36e,f5_36l,f5_37e,e1]
      exact hcp _ fun h=>h
    · have hc1:2 < w:=by omega
      simp (config:=KF) (disch:=omega) only [bZ,aI,AI.dst,bh,bt,aw,fV,am,cO,bR,aR,bC,ixSV,ap,boxX,aZ,ixA,lenI,addA,af,ao,bT,gu,aB,aP,aA,aO,putS,Sf.set,Sf.reg,getR,setR,aa,Sf.disAt,Sf.newLoc,Sf.setLoc,look,bJ,aX,aH,al,ai,ag,ae,ah,bS,bO,aT,gt,iF,aU,List.length_cons,List.length_nil,List.all_cons,List.all_nil,List.drop_zero,List.take_succ_cons,List.take_zero,List.set_cons_zero,List.set_cons_succ,Int.toNat_natCast,↓reduceIte,Nat.reduceEqDiff,Nat.reduceAdd,Nat.reduceLeDiff,Bool.true_and,Bool.and_true,and_true,true_and,reduceCtorEq,Nat.zero_add,Nat.add_zero,decide_true,Bool.false_eq_true,List.length_map,cf,bw,dc,cm,aq,aj,f5_24e,f5_25e,f5_26e,f5_26l,f5_27e,f5_28e,f5_29e,f5_30e,f5_31e,f5_31l,f5_32e,f5_33e,f5_33l,f5_34e,f5_35e,f5_36e,f5_36l,f5_37e,e1]
      exact hcp _ fun h=>h
  by_cases hw0:w = 0
  · subst hw0
    have hb:=gR h1 (by omega) (0,t,n,s)
    have hr:=fun st=>renter o T d t iv (by omega) st
    have iv1:=mw (0,t,n,s) iv
    have hll:(onDo o T d (0,t,n,s)).2.2.2.1.length≤1000:=by
      have:=(jj (o:=o) (T:=T) (d:=d) (0,t,n,s) (fun t ht=>(h1.ln.tk t ht).1) h1.ob.1 fun e=>by have:=(iv e).2; omega).2.2.2.2
      omega
    have he:=fun st=>kB (onDo o T d (0,t,n,s)).2 (by omega) st
    unfold onDo at hb he iv1
    simp only [if_true] at hb he iv1
    generalize (bE o T d t).1.1 = o' at *
    generalize (bE o T d t).1.2 = T' at *
    generalize (bE o T d t).2.1 = r1 at *
    generalize (bE o T d t).2.2.1 = r2 at *
    generalize (bE o T d t).2.2.2 = r3 at *
    rw [← (d6 _).1] at he
    have e0:lAV [] = .lit (.slice none 0 0):=rfl
    simp (config:=KF) (disch:=omega) only [bZ,aI,AI.dst,bh,bt,aw,fV,am,cO,au,bR,aR,ak,bC,ixSV,ap,boxX,aZ,ixA,lenI,addA,af,ao,bW,bT,gu,aB,aP,ev_f,aA,aO,putS,Sf.set,Sf.reg,getR,setR,aa,Sf.disAt,Sf.newLoc,Sf.setLoc,look,bJ,aX,id,aH,al,ai,a9,ag,ae,ah,bS,bO,aT,gt,iF,aU,List.length_cons,List.length_nil,List.all_cons,List.all_nil,List.drop_zero,List.drop_succ_cons,List.take_succ_cons,List.take_zero,List.set_cons_zero,List.set_cons_succ,Int.toNat_natCast,↓reduceIte,Nat.reduceEqDiff,Nat.reduceAdd,Nat.reduceLeDiff,Int.reduceLT,Bool.true_and,Bool.and_true,and_true,true_and,reduceCtorEq,Nat.zero_add,Nat.add_zero,decide_true,decide_false,Bool.false_eq_true,List.length_map,cf,bw,bK,cm,aq,aj,f5_24e,f5_25e,f5_26e,f5_26l,f5_27e,f5_28e,f5_29e,f5_30e,f5_31e,f5_31l,f5_32e,f5_33e,f5_33l,f5_34e,f5_35e,f5_36e,f5_36l,f5_37e,f5_51e,f5_52e,f5_53e,f5_53l,f5_54e,f5_55e,f5_56e,f5_56l,f5_57e,f5_58e,f5_58l,e1]
    refine aK rfl e_f32 (hr _) rfl ?_
    simp (config:=KF) (disch:=omega) only [bZ,aD,cw,aR,extV,boxX,aZ,aA,aO,putS,Sf.set,Sf.reg,getR,setR,aa,Sf.disAt,Sf.setLoc,look,aX,al,bH,ai,a9,jS,ag,ae,aV,ah,List.length_cons,List.length_nil,List.getElem?_cons_zero,List.getElem?_cons_succ,List.all_cons,List.all_nil,List.set_cons_zero,List.set_cons_succ,↓reduceIte,Nat.reduceEqDiff,Nat.reduceAdd,Nat.reduceLeDiff,Bool.true_and,Bool.and_true,and_true,true_and,reduceCtorEq,Nat.zero_add,aq,aj,f5_64e,f5_65e,f5_65h,f5_65p,f5_65l,stAV,rsw]
    refine ji ⟨[]⟩ (St.sub_nil _) ?_
    simp (config:=KF) (disch:=omega) only [bZ,List.contains_nil,ee,dm,er,ef,cg,gM,eV,ib,ic,fD,ap,af,ao,aB,aP,ev_f,putS,Sf.set,Sf.reg,getR,setR,look,bB,id,al,ai,List.length_cons,List.length_nil,List.append_nil,List.nil_append,List.cons_append,List.drop_zero,List.take_succ_cons,List.take_zero,↓reduceIte,Nat.reduceEqDiff,Nat.reduceAdd,Nat.reduceLeDiff,reduceCtorEq,Nat.zero_add,decide_true,Bool.false_eq_true]
    refine gO rfl e_f16 hb rfl ?_
    simp (config:=KF) (disch:=omega) only [bZ,List.contains_nil,ksB,ba,bF,bM,bf,nstB,bN,cg,gL,fW,iw,ew,ap,af,ao,aB,aP,putS,Sf.set,Sf.reg,getR,setR,look,al,ai,a9,List.length_cons,List.length_nil,List.all_nil,List.nil_append,List.cons_append,List.drop_zero,List.take_succ_cons,List.take_zero,↓reduceIte,Nat.reduceEqDiff,Nat.reduceAdd,Nat.reduceLeDiff,Bool.true_and,Bool.and_true,and_true,true_and,reduceCtorEq,Nat.zero_add,decide_true,Bool.not_false]
    rintro r st1 ⟨g',rfl,k1,k2,k3⟩
    refine ⟨St.sub_nil _,?_⟩
    simp (config:=KF) (disch:=omega) only [bZ,List.contains_nil,ksB,ba,bF,bM,bf,cI,co,nstB,bN,ee,dm,er,cg,eu,dP,fX,d1,fd,and_self,ak,ap,af,ao,aB,aP,ev_f,putS,Sf.set,Sf.reg,getR,setR,look,id,al,ai,a9,List.length_cons,List.length_nil,List.all_nil,List.nil_append,List.cons_append,List.drop_zero,List.take_succ_cons,List.take_zero,↓reduceIte,Nat.reduceEqDiff,Nat.reduceAdd,Nat.reduceLeDiff,Bool.true_and,Bool.and_true,and_true,true_and,reduceCtorEq,Nat.zero_add,decide_true,Bool.not_false,rsAV,e0]
    refine aK rfl e_f28 (he _) rfl ?_
    have lT:=dw T'
    simp (config:=KF) (disch:=omega) only [bZ,List.contains_nil,cz,dt,dG,bp,o_un,unA,ev_f,putS,Sf.set,Sf.reg,getR,setR,aa,look,bB,id,↓reduceIte,Nat.reduceEqDiff,reduceCtorEq,Bool.not_true,Bool.false_eq_true,f5_66e,f5_69e,f5_70e,f5_70h,f5_70l]
    refine ep rfl e_f17 (f0 k1) rfl ?_
    simp (config:=KF) (disch:=omega) only [bZ,cz,ir,dt,kx,b8,cc,dG,ed,cX,bp,AI.dst,ap,b_neq,addA,af,ev_f,putS,Sf.set,Sf.reg,getR,setR,look,id,List.drop_zero,List.drop_succ_cons,↓reduceIte,Nat.reduceEqDiff,reduceCtorEq,Nat.zero_add,Bool.not_true,beq_self_eq_true]
    refine ep rfl e_f34 (f7 k1) rfl ?_
    simp (config:=KF) (disch:=omega) only [bZ,eo,ir,b8,cc,oa,ed,cX,bp,cJ,aD,aI,AI.dst,bh,bt,au,bC,ap,lenI,addA,af,en,cx,putS,Sf.set,Sf.reg,getR,setR,aa,Sf.disAt,look,aH,List.drop_zero,List.drop_succ_cons,↓reduceIte,Nat.reduceEqDiff,reduceCtorEq,Nat.zero_add,not_true_eq_false,decide_false,Bool.false_eq_true,IntWalk.i64_in,cC,f5_71e,f5_74e,f5_74l,lT]
    exact hK ⟨i + 1,st1,b,x,o',T',d,g'⟩ _ ⟨h,k1,by simp only; omega,iv1⟩ (by simp only; omega) (Sf.le_refl _)
  by_cases hw1:w = 1
  · subst hw1
    have hb:=gR h1 (by omega) (1,t,n,s)
    have hr:=fun st=>rleave o T d t s (by omega) st
    have iv1:=mw (1,t,n,s) iv
    have hll:(onDo o T d (1,t,n,s)).2.2.2.1.length≤1000:=by
      have:=(jj (o:=o) (T:=T) (d:=d) (1,t,n,s) (fun t ht=>(h1.ln.tk t ht).1) h1.ob.1 fun e=>by have:=(iv e).2; omega).2.2.2.2
      omega
    have he:=fun st=>kB (onDo o T d (1,t,n,s)).2 (by omega) st
    unfold onDo at hb he iv1
    simp only [if_true,if_neg (show ¬ (1:Int) = 0 by decide)] at hb he iv1
    generalize (bU o T d t s).1.1 = o' at *
    generalize (bU o T d t s).1.2.1 = T' at *
    generalize (bU o T d t s).1.2.2 = d' at *
    generalize (bU o T d t s).2.1 = r2 at *
    generalize (bU o T d t s).2.2 = r3 at *
    rw [← (d6 _).1] at he
    obtain ⟨w1,w2,w3,w4,w5,w6,w7⟩:=cA r2
    simp (config:=KF) (disch:=omega) only [bZ,aI,AI.dst,bh,bt,aw,fV,am,cO,au,bR,aR,ak,bC,ixSV,ap,boxX,aZ,ixA,lenI,addA,af,ao,bW,bT,gu,aB,aP,ev_f,aA,aO,putS,Sf.set,Sf.reg,getR,setR,aa,Sf.disAt,Sf.newLoc,Sf.setLoc,look,bJ,aX,id,aH,al,ai,a9,ag,ae,ah,bS,bO,aT,gt,iF,aU,List.length_cons,List.length_nil,List.all_cons,List.all_nil,List.drop_zero,List.drop_succ_cons,List.take_succ_cons,List.take_zero,List.set_cons_zero,List.set_cons_succ,Int.toNat_natCast,↓reduceIte,Nat.reduceEqDiff,Nat.reduceAdd,Nat.reduceLeDiff,Int.reduceLT,Int.reduceEq,Bool.true_and,Bool.and_true,and_true,true_and,reduceCtorEq,Nat.zero_add,Nat.add_zero,decide_true,decide_false,Bool.false_eq_true,List.length_map,cf,bw,bK,cm,aq,aj,f5_24e,f5_25e,f5_26e,f5_26l,f5_27e,f5_28e,f5_29e,f5_30e,f5_31e,f5_31l,f5_32e,f5_33e,f5_33l,f5_34e,f5_35e,f5_36e,f5_36l,f5_37e,f5_51e,f5_52e,f5_53e,f5_53l,f5_54e,f5_55e,f5_56e,f5_56l,f5_57e,f5_59e,f5_60e,f5_60l,f5_61e,f5_62e,f5_62l,e1]
    refine aK rfl e_f33 (hr _) rfl ?_
    simp (config:=KF) (disch:=omega) only [bZ,aD,cw,aR,extV,boxX,aZ,aA,aO,putS,Sf.set,Sf.reg,getR,setR,aa,Sf.disAt,Sf.setLoc,look,aX,al,bH,ai,a9,jS,ag,ae,aV,ah,List.length_cons,List.length_nil,List.getElem?_cons_zero,List.getElem?_cons_succ,List.all_cons,List.all_nil,List.set_cons_zero,List.set_cons_succ,↓reduceIte,Nat.reduceEqDiff,Nat.reduceAdd,Nat.reduceLeDiff,Bool.true_and,Bool.and_true,and_true,true_and,reduceCtorEq,Nat.zero_add,aq,aj,f5_64e,f5_65e,f5_65h,f5_65p,f5_65l,stAV,rsw]
    refine ji ⟨[]⟩ (St.sub_nil _) ?_
    simp (config:=KF) (disch:=omega) only [bZ,List.contains_nil,ee,dm,er,ef,cg,gM,eV,ib,ic,fD,ap,af,ao,aB,aP,ev_f,putS,Sf.set,Sf.reg,getR,setR,look,bB,id,al,ai,List.length_cons,List.length_nil,List.append_nil,List.nil_append,List.cons_append,List.drop_zero,List.take_succ_cons,List.take_zero,↓reduceIte,Nat.reduceEqDiff,Nat.reduceAdd,Nat.reduceLeDiff,reduceCtorEq,Nat.zero_add,decide_true,Bool.false_eq_true]
    refine gO rfl e_f16 hb rfl ?_
    simp (config:=KF) (disch:=omega) only [bZ,List.contains_nil,ksB,ba,bF,bM,bf,nstB,bN,cg,gL,fW,iw,ew,ap,af,ao,aB,aP,putS,Sf.set,Sf.reg,getR,setR,look,al,ai,a9,List.length_cons,List.length_nil,List.all_nil,List.nil_append,List.cons_append,List.drop_zero,List.take_succ_cons,List.take_zero,↓reduceIte,Nat.reduceEqDiff,Nat.reduceAdd,Nat.reduceLeDiff,Bool.true_and,Bool.and_true,and_true,true_and,reduceCtorEq,Nat.zero_add,decide_true,Bool.not_false]
    rintro r st1 ⟨g',rfl,k1,k2,k3⟩
    refine ⟨St.sub_nil _,?_⟩
    simp (config:=KF) (disch:=omega) only [bZ,List.contains_nil,ksB,ba,bF,bM,bf,cI,co,nstB,bN,ee,dm,er,cg,eu,dP,fX,d1,fd,and_self,ak,ap,af,ao,aB,aP,ev_f,putS,Sf.set,Sf.reg,getR,setR,look,id,al,ai,a9,List.length_cons,List.length_nil,List.all_nil,List.nil_append,List.cons_append,List.drop_zero,List.take_succ_cons,List.take_zero,↓reduceIte,Nat.reduceEqDiff,Nat.reduceAdd,Nat.reduceLeDiff,Bool.true_and,Bool.and_true,and_true,true_and,reduceCtorEq,Nat.zero_add,decide_true,Bool.not_false,rsAV]
    refine aK rfl e_f28 (he _) rfl ?_
    have lT:=dw T'
    simp (config:=KF) (disch:=omega) only [bZ,List.contains_nil,cz,dt,dG,bp,o_un,unA,ev_f,putS,Sf.set,Sf.reg,getR,setR,aa,look,bB,id,↓reduceIte,Nat.reduceEqDiff,reduceCtorEq,Bool.not_true,Bool.false_eq_true,f5_66e,f5_69e,f5_70e,f5_70h,f5_70l]
    refine ep rfl e_f17 (f0 k1) rfl ?_
    simp (config:=KF) (disch:=omega) only [bZ,cz,ir,dt,kx,b8,cc,dG,ed,cX,bp,AI.dst,ap,b_neq,addA,af,ev_f,putS,Sf.set,Sf.reg,getR,setR,look,id,List.drop_zero,List.drop_succ_cons,↓reduceIte,Nat.reduceEqDiff,reduceCtorEq,Nat.zero_add,Bool.not_true,beq_self_eq_true]
    refine ep rfl e_f34 (f7 k1) rfl ?_
    simp (config:=KF) (disch:=omega) only [bZ,eo,ir,b8,cc,oa,ed,cX,bp,cJ,aD,aI,AI.dst,bh,bt,au,bC,ap,lenI,addA,af,en,cx,putS,Sf.set,Sf.reg,getR,setR,aa,Sf.disAt,look,aH,List.drop_zero,List.drop_succ_cons,↓reduceIte,Nat.reduceEqDiff,reduceCtorEq,Nat.zero_add,not_true_eq_false,decide_false,Bool.false_eq_true,IntWalk.i64_in,cC,f5_71e,f5_74e,f5_74l,lT]
    exact hK ⟨i + 1,st1,b,x,o',T',d',g'⟩ _ ⟨h,k1,by simp only; omega,iv1⟩ (by simp only; omega) (Sf.le_refl _)
  obtain rfl:w = 2:=by omega
  have hb:=gR h1 (by omega) (2,t,n,s)
  have hr:=fun st=>rcancel 0 0 0 o d T [] t (by omega) (by simp) st
  simp only [rCan_low] at hr
  have iv1:=mw (2,t,n,s) iv
  have hll:(onDo o T d (2,t,n,s)).2.2.2.1.length≤1000:=by
    have:=(jj (o:=o) (T:=T) (d:=d) (2,t,n,s) (fun t ht=>(h1.ln.tk t ht).1) h1.ob.1 fun e=>by have:=(iv e).2; omega).2.2.2.2
    omega
  have he:=fun st=>kB (onDo o T d (2,t,n,s)).2 (by omega) st
  unfold onDo at hb he iv1
  simp only [if_neg (show ¬ (2:Int) = 0 by decide),if_neg (show ¬ (2:Int) = 1 by decide)] at hb he iv1
  generalize (lCan T t).1 = T' at *
  generalize (lCan T t).2 = r3 at *
  rw [← (d6 _).1] at he
  have e0:lAV [] = .lit (.slice none 0 0):=rfl
  simp (config:=KF) (disch:=omega) only [bZ,aI,AI.dst,bh,bt,aw,fV,am,cO,au,bR,aR,ak,bC,ixSV,ap,boxX,aZ,ixA,lenI,addA,af,ao,bW,bT,gu,aB,aP,ev_f,aA,aO,putS,Sf.set,Sf.reg,getR,setR,aa,Sf.disAt,Sf.newLoc,Sf.setLoc,look,bJ,aX,id,aH,al,ai,a9,ag,ae,ah,bS,bO,aT,gt,iF,aU,List.length_cons,List.length_nil,List.all_cons,List.all_nil,List.drop_zero,List.drop_succ_cons,List.take_succ_cons,List.take_zero,List.set_cons_zero,List.set_cons_succ,Int.toNat_natCast,↓reduceIte,Nat.reduceEqDiff,Nat.reduceAdd,Nat.reduceLeDiff,Int.reduceLT,Int.reduceEq,Bool.true_and,Bool.and_true,and_true,true_and,reduceCtorEq,Nat.zero_add,Nat.add_zero,decide_true,decide_false,Bool.false_eq_true,List.length_map,cf,bw,bK,cm,aq,aj,f5_24e,f5_25e,f5_26e,f5_26l,f5_27e,f5_28e,f5_29e,f5_30e,f5_31e,f5_31l,f5_32e,f5_33e,f5_33l,f5_34e,f5_35e,f5_36e,f5_36l,f5_37e,f5_51e,f5_52e,f5_53e,f5_53l,f5_54e,f5_55e,f5_56e,f5_56l,f5_57e,f5_59e,f5_60e,f5_60l,f5_61e,f5_63e,f5_63l,e1]
  refine aK rfl e_f27 (hr _) rfl ?_
  simp (config:=KF) (disch:=omega) only [bZ,aD,cw,aR,extV,boxX,aZ,aA,aO,putS,Sf.set,Sf.reg,getR,setR,aa,Sf.disAt,Sf.setLoc,look,aX,al,bH,ai,a9,jS,ag,ae,aV,ah,List.length_cons,List.length_nil,List.getElem?_cons_zero,List.getElem?_cons_succ,List.all_cons,List.all_nil,List.set_cons_zero,List.set_cons_succ,↓reduceIte,Nat.reduceEqDiff,Nat.reduceAdd,Nat.reduceLeDiff,Bool.true_and,Bool.and_true,and_true,true_and,reduceCtorEq,Nat.zero_add,aq,aj,f5_64e,f5_65e,f5_65h,f5_65p,f5_65l,stAV,rsw]
  refine ji ⟨[]⟩ (St.sub_nil _) ?_
  simp (config:=KF) (disch:=omega) only [bZ,List.contains_nil,ee,dm,er,ef,cg,gM,eV,ib,ic,fD,ap,af,ao,aB,aP,ev_f,putS,Sf.set,Sf.reg,getR,setR,look,bB,id,al,ai,List.length_cons,List.length_nil,List.append_nil,List.nil_append,List.cons_append,List.drop_zero,List.take_succ_cons,List.take_zero,↓reduceIte,Nat.reduceEqDiff,Nat.reduceAdd,Nat.reduceLeDiff,reduceCtorEq,Nat.zero_add,decide_true,Bool.false_eq_true]
  refine gO rfl e_f16 hb rfl ?_
  simp (config:=KF) (disch:=omega) only [bZ,List.contains_nil,ksB,ba,bF,bM,bf,nstB,bN,cg,gL,fW,iw,ew,ap,af,ao,aB,aP,putS,Sf.set,Sf.reg,getR,setR,look,al,ai,a9,List.length_cons,List.length_nil,List.all_nil,List.nil_append,List.cons_append,List.drop_zero,List.take_succ_cons,List.take_zero,↓reduceIte,Nat.reduceEqDiff,Nat.reduceAdd,Nat.reduceLeDiff,Bool.true_and,Bool.and_true,and_true,true_and,reduceCtorEq,Nat.zero_add,decide_true,Bool.not_false]
  rintro r st1 ⟨g',rfl,k1,k2,k3⟩
  refine ⟨St.sub_nil _,?_⟩
  simp (config:=KF) (disch:=omega) only [bZ,List.contains_nil,ksB,ba,bF,bM,bf,cI,co,nstB,bN,ee,dm,er,cg,eu,dP,fX,d1,fd,and_self,ak,ap,af,ao,aB,aP,ev_f,putS,Sf.set,Sf.reg,getR,setR,look,id,al,ai,a9,List.length_cons,List.length_nil,List.all_nil,List.nil_append,List.cons_append,List.drop_zero,List.take_succ_cons,List.take_zero,↓reduceIte,Nat.reduceEqDiff,Nat.reduceAdd,Nat.reduceLeDiff,Bool.true_and,Bool.and_true,and_true,true_and,reduceCtorEq,Nat.zero_add,decide_true,Bool.not_false,rsAV,e0]
  refine aK rfl e_f28 (he _) rfl ?_
  have lT:=dw T'
  simp (config:=KF) (disch:=omega) only [bZ,List.contains_nil,cz,dt,dG,bp,o_un,unA,ev_f,putS,Sf.set,Sf.reg,getR,setR,aa,look,bB,id,↓reduceIte,Nat.reduceEqDiff,reduceCtorEq,Bool.not_true,Bool.false_eq_true,f5_66e,f5_69e,f5_70e,f5_70h,f5_70l]
  refine ep rfl e_f17 (f0 k1) rfl ?_
  simp (config:=KF) (disch:=omega) only [bZ,cz,ir,dt,kx,b8,cc,dG,ed,cX,bp,AI.dst,ap,b_neq,addA,af,ev_f,putS,Sf.set,Sf.reg,getR,setR,look,id,List.drop_zero,List.drop_succ_cons,↓reduceIte,Nat.reduceEqDiff,reduceCtorEq,Nat.zero_add,Bool.not_true,beq_self_eq_true]
  refine ep rfl e_f34 (f7 k1) rfl ?_
  simp (config:=KF) (disch:=omega) only [bZ,eo,ir,b8,cc,oa,ed,cX,bp,cJ,aD,aI,AI.dst,bh,bt,au,bC,ap,lenI,addA,af,en,cx,putS,Sf.set,Sf.reg,getR,setR,aa,Sf.disAt,look,aH,List.drop_zero,List.drop_succ_cons,↓reduceIte,Nat.reduceEqDiff,reduceCtorEq,Nat.zero_add,not_true_eq_false,decide_false,Bool.false_eq_true,IntWalk.i64_in,cC,f5_71e,f5_74e,f5_74l,lT]
  exact hK ⟨i + 1,st1,b,x,o,T',d,g'⟩ _ ⟨h,k1,by simp only; omega,iv1⟩ (by simp only; omega) (Sf.le_refl _)
theorem my (l:List Ac):aY Go.Proofs.Try.prog n_f5 [.sl false 4 (l.map acAV)] ⟨[]⟩ (fun v _=>v = .lit (.bool true)):=by
  refine aQ hmix k_f5 rfl rfl fun Q hQ=>?_
  unfold aFun c_f5
  have hkn:∀ st,aY Go.Proofs.Try.prog n_f10 [] st (fun r _=>r = .lit (.bool true)):=known39
  by_cases hl:40 < l.length
  · simp (config:=KF) (disch:=omega) only [bZ,cO,ak,lenI,gu,ev_f,putS,Sf.set,Sf.reg,getR,setR,aa,aG,id,aH,↓reduceIte,Nat.reduceEqDiff,reduceCtorEq,List.length_map,bw,f5_1e,f5_2e,f5_2l,f5_3e,f5_4e,f5_5e,f5_5l,f5_6e,f5_7e,f5_8e,f5_8l]
    refine a7 rfl e_f10 (hkn _) rfl fun r st1 hr=>?_
    subst hr
    simp (config:=KF) (disch:=omega) only [bZ,retI,au,putS,Sf.set,Sf.reg,getR,setR,aa,Sf.disAt,↓reduceIte,Nat.reduceEqDiff,Bool.true_and,true_and,reduceCtorEq]
    exact hQ _ _ rfl
  simp (config:=KF) (disch:=omega) only [bZ,cO,ak,lenI,gu,ev_f,putS,Sf.set,Sf.reg,getR,setR,aa,aG,id,aH,↓reduceIte,Nat.reduceEqDiff,reduceCtorEq,List.length_map,bK,f5_1e,f5_2e,f5_2l,f5_3e,f5_4e,f5_5e,f5_5l,f5_6e,f5_9e,f5_10e,f5_10l]
  refine a7 rfl e_f11 (kX _) rfl fun r st1 hr=>?_
  obtain ⟨b,x,rfl,h1,f1,g1⟩:=hr
  simp (config:=KF) (disch:=omega) only [bZ,and_self,cd,au,bR,aR,bstV,boxX,aZ,fc,dU,cU,a8,aA,aO,putS,Sf.set,Sf.reg,getR,setR,aa,Sf.disAt,Sf.newLoc,Sf.setLoc,look,bJ,aX,al,ai,az,ag,ae,ah,bS,bO,iF,aU,List.length_cons,List.length_nil,List.getElem?_cons_zero,List.getElem?_cons_succ,List.all_cons,List.all_nil,List.set_cons_zero,List.set_cons_succ,↓reduceIte,Nat.reduceEqDiff,Nat.reduceAdd,Nat.reduceLeDiff,Int.reduceNeg,Bool.true_and,Bool.and_true,and_true,true_and,reduceCtorEq,Nat.zero_add,aq,aj,f5_11e,f5_12e,f5_13e,f5_13l,f5_14e,f5_17e,f5_18e,f5_18l,f5_19e,f5_20e,f5_21e,f5_21l]
  refine onces_loop h1 (by omega) _ fun st4=>?_
  simp (config:=KF) (disch:=omega) only [bZ,ak,ev_f,id,f5_75e,f5_76e,f5_76l]
  refine a7 rfl e_f10 (hkn _) rfl fun r st5 hr=>?_
  subst hr
  simp (config:=KF) (disch:=omega) only [bZ,retI,au,putS,Sf.set,Sf.reg,getR,setR,aa,Sf.disAt,↓reduceIte,Nat.reduceEqDiff,Bool.true_and,true_and]
  exact hQ _ _ rfl
theorem mz {l:List (Int×Int×Int×Bool×Unit)}:aY Go.Proofs.Try.prog n_f5 [.sl false 4 (l.map fun x=>.agg [.lit (.int .i64 x.1),.lit (.int .i64 x.2.1),.lit (.int .i64 x.2.2.1),.lit (.bool x.2.2.2.1)])] ⟨[]⟩ (fun v _=>v = .lit (.bool true)):=by
  rw [ac_lit2]
  exact my _
end Go.Fx.YtphaaebhgggbaaaFx

