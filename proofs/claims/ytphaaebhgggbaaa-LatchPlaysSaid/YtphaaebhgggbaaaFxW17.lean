/- What the functions that the statement reaches compute: part 17. -/
import Derived.Test.YtphaaebhgggbaaaFxW16
namespace Go.Fx.YtphaaebhgggbaaaFx
open Go Go.Fx
attribute [local irreducible] aC runI bA cS

set_option maxRecDepth 100000
set_option maxHeartbeats 8000000

/-! LatchPlays: printed by wip/dev/gen_lt20.py. -/
section
variable {st:St} {b:Nat} {x:Ln} {c:Int} {T:List Int} {g:Nat}
theorem fg (h:LaIs st b x c T g):aY Go.Proofs.Try.prog n_f42 [.ptr b 0] st (.lit (.int .i64 c)):=by
  have hg:=h.get
  refine bN hmix k_f42 rfl rfl fun Q hQ=>?_
  unfold aFun c_f42
  simp (config:=KF) (disch:=omega) only [bZ,aj,ev_f,putS,Sf.set,Sf.reg,getR,setR,aa,aI,id,↓reduceIte,reduceCtorEq,f42_1e,f42_2e,f42_2l,f42_3e,f42_4e,f42_5e,f42_5l]
  refine aM rfl e_f74 h.z rfl ?_
  simp (config:=KF) (disch:=omega) only [bZ,retI,ar,am,aG,al,ap,aL,addA,af,putS,Sf.set,Sf.reg,getR,setR,aa,Sf.disAt,List.drop_zero,↓reduceIte,Nat.reduceEqDiff,Bool.true_and,true_and,reduceCtorEq,Nat.add_zero,f42_6e,f42_9e,f42_10e,f42_10l,hg]
  exact hQ _
theorem eC (h:LaIs st b x c T g):aY Go.Proofs.Try.prog n_f43 [.ptr b 0] st (.lit (.int .i64 (T.length:Nat))):=by
  have hg:=h.get
  have hgl:=h.ln.get
  have hql:=lnlen_pure h.ln
  refine bN hmix k_f43 rfl rfl fun Q hQ=>?_
  unfold aFun c_f43
  simp (config:=KF) (disch:=omega) only [bZ,aj,ev_f,putS,Sf.set,Sf.reg,getR,setR,aa,aI,id,↓reduceIte,reduceCtorEq,f43_1e,f43_2e,f43_2l,f43_3e,f43_4e,f43_5e,f43_5l]
  refine aM rfl e_f74 h.z rfl ?_
  simp (config:=KF) (disch:=omega) only [bZ,ar,am,aG,aj,ap,aL,addA,af,ev_f,putS,Sf.set,Sf.reg,getR,setR,aa,id,List.drop_zero,List.drop_succ_cons,↓reduceIte,Nat.reduceEqDiff,reduceCtorEq,Nat.zero_add,Nat.add_zero,f43_6e,f43_9e,f43_10e,f43_10l,hg,hgl]
  refine aM rfl e_f55 hql rfl ?_
  simp (config:=KF) (disch:=omega) only [bZ,retI,al,putS,Sf.set,Sf.reg,getR,setR,aa,Sf.disAt,↓reduceIte,Nat.reduceEqDiff,Bool.true_and,true_and,reduceCtorEq]
  exact hQ _
end
structure LA where
  i:Nat
  st:St
  b:Nat
  x:Ln
  c:Int
  T:List Int
  g:Nat
theorem plays_loop {p:Int} {l:List Ac} {st0:St} {b0:Nat} {x0:Ln} (h0:LaIs st0 b0 x0 p [] 0) (hl:l.length≤40) (Q:Exit→Sf→St→Prop) (hQ:∀ st,Q .normal ⟨[],[]⟩ st) :
    aC Go.Proofs.Try.prog id false f6_22 ⟨[(1,.sl false 4 (l.map acAV)),(5,.ptr b0 0),(7,.lptr 7 0),(8,.lit (.int .i64 0))],[(7,[.lit (.int .i64 p),.lit (.int .i64 0),.lit (.int .i64 0),.lit (.int .i64 (-1)),.lit (.bool false),.lit (.slice none 0 0),.lit (.slice none 0 0)])]⟩ st0 Q:=by
  simp (config:=KF) (disch:=omega) only [Int.reduceNeg,f6_22e]
  rw [f6_23w]
  refine d9 (A:=LA) (fun a=>l.length - a.i) (fun a=>⟨[(1,.sl false 4 (l.map acAV)),(5,.ptr a.b 0),(7,.lptr 7 0),(8,.lit (.int .i64 (a.i:Nat)))],[(7,[.lit (.int .i64 a.c),.lit (.int .i64 0),.lit (.int .i64 0),.lit (.int .i64 (-1)),.lit (.bool false),.sl false 1 (ints a.T),.sl false 1 (ints [])])]⟩) (fun a=>a.st)
    (fun a=>a.i≤l.length∧LaIs a.st a.b a.x a.c a.T a.g∧a.g≤3 * a.i) ⟨0,st0,b0,x0,p,[],0⟩ ⟨by simp,h0,by simp⟩ ⟨⟨rfl,.refl _,rfl,.refl _,rfl,.refl _,rfl,.refl _,trivial⟩,.inl ⟨rfl,⟨.refl _,.refl _,.refl _,.refl _,.refl _,.nil _ _,.nil _ _,trivial⟩,trivial⟩⟩ rfl ?_
  rintro ⟨i,st,b,x,c,T,g⟩ ⟨hi,h1,lg⟩ K hK hKe hKr
  simp only at hi h1 lg
  dsimp only
  have hub:=h1.cb
  have hcn:=h1.ln.cnt
  by_cases h:i < l.length
  case neg =>
    simp (config:=KF) (disch:=omega) only [bZ,cU,dS,cL,lenI,bC,putS,Sf.set,Sf.reg,getR,setR,aa,look,aF,↓reduceIte,Nat.reduceEqDiff,Int.reduceNeg,List.length_map,bG,f6_24e,f6_25e,f6_26e,f6_26l,f6_27e]
    refine hKe _ _ _ ?_
    simp (config:=KF) (disch:=omega) only [bY,↓reduceIte]
    exact hQ st
  obtain ⟨w,t,n,s,ha⟩:∃ w t n s,l[i] = (w,t,n,s):=⟨_,_,_,_,rfl⟩
  have e1:(l.map acAV).getD i .any = .agg [.lit (.int .i64 w),.lit (.int .i64 t),.lit (.int .i64 n),.lit (.bool s)]:=by
    have:(l.map acAV).getD i .any = acAV l[i]:=by simp [List.getD,h]
    rw [this,ha]; rfl
  have lT:=dv T
  by_cases hc:w < 0∨2 < w
  · have hcp:∀ Z:Prop,(aC Go.Proofs.Try.prog id false f6_38 ⟨[(1,.sl false 4 (l.map acAV)),(5,.ptr b 0),(7,.lptr 7 0),(8,.lit (.int .i64 (i:Nat))),(9,.lptr 9 0),(10,.lptr 10 0),(72,.lit (.bool true))],[(7,[.lit (.int .i64 c),.lit (.int .i64 0),.lit (.int .i64 0),.lit (.int .i64 (-1)),.lit (.bool false),.sl false 1 (ints T),.sl false 1 (ints [])]),(9,[.lit (.int .i64 w),.lit (.int .i64 t),.lit (.int .i64 n),.lit (.bool s)]),(10,[.lit (.bool false),.lit (.bool false),.lit (.slice none 0 0),.lit (.int .i64 0)])]⟩ st (seqQ (aC Go.Proofs.Try.prog id false f6_69) (ib 1 (seqQ (aC Go.Proofs.Try.prog id false f6_74) K)))→Z)→Z:=fun Z hZ=>hZ (by
      simp (config:=KF) (disch:=omega) only [bZ,al,aj,ev_f,putS,Sf.set,Sf.reg,getR,setR,aa,Sf.disAt,look,id,↓reduceIte,Nat.reduceEqDiff,Int.reduceNeg,f6_38e,f6_39e,f6_39l,f6_40e,f6_41e,f6_41l]
      refine aQ rfl e_f36 (n9 h1) rfl fun r st1 hr=>?_
      obtain ⟨b',x',rfl,k1,k2,k3⟩:=hr
      have k4:=h1.fr k2 (by simp)
      have dj:∀ j ∈ b'::x'.ids,j ∉ b::x.ids:=gM h1.lts k3
      simp (config:=KF) (disch:=omega) only [bZ,al,aj,ev_f,putS,Sf.set,Sf.reg,getR,setR,aa,Sf.disAt,look,id,↓reduceIte,Nat.reduceEqDiff,Int.reduceNeg,f6_42e,f6_43e,f6_43l]
      refine aQ rfl e_f37 (jT k4 (by omega) 1) rfl fun r st2 hr=>?_
      obtain ⟨rfl,k5,k7⟩:=hr
      generalize (cG c T 1).1.1 = c2 at *
      generalize (cG c T 1).1.2 = T2 at *
      generalize (cG c T 1).2.1 = l2 at *
      generalize (cG c T 1).2.2 = e2 at *
      have kf0:=k1.fr (Fr.of k7 fun _ h=>h) dj
      rcases em l2 with ⟨e,hz⟩ | ⟨e,hz⟩
      all_goals
        rw [e]
        simp (config:=KF) (disch:=omega) only [bZ,ar,am,aj,ap,addA,af,ev_f,putS,Sf.set,Sf.reg,getR,setR,aa,look,id,List.drop_zero,List.drop_succ_cons,↓reduceIte,Nat.reduceEqDiff,Int.reduceNeg,Nat.zero_add,f6_44e,f6_45e,f6_45l]
        refine aQ rfl e_f38 (kP k5 (by omega) t) rfl fun r st3 hr=>?_
        obtain ⟨rfl,k8,k10⟩:=hr
        have kf:=kf0.fr (Fr.of k10 fun _ h=>List.mem_cons_of_mem _ h) dj
        simp (config:=KF) (disch:=omega) only [bZ,List.contains_nil,cF,dq,dH,bw,dG,c5,cA,ev_f,putS,Sf.set,Sf.reg,getR,setR,aa,look,bE,id,↓reduceIte,Nat.reduceEqDiff,Int.reduceNeg,Bool.false_eq_true,f6_46e,f6_47e,f6_47l,f6_48e,f6_69e,f6_70e,f6_70h,f6_70l]
        refine ey rfl e_f42 (fg kf) rfl ?_
        simp (config:=KF) (disch:=omega) only [bZ,cF,iq,dq,kn,b8,ci,dH,ej,cW,bw,AI.dst,ap,addA,af,cc,ev_f,putS,Sf.set,Sf.reg,getR,setR,look,id,List.drop_zero,↓reduceIte,Nat.reduceEqDiff,Int.reduceNeg,Nat.add_zero,not_true_eq_false,decide_false]
        refine ey rfl e_f43 (eC kf) rfl ?_
        simp (config:=KF) (disch:=omega) only [bZ,eS,iq,b8,ci,nZ,ej,cW,bw,cK,aD,aE,AI.dst,a7,bf,al,bu,ap,lenI,addA,af,ew,cc,putS,Sf.set,Sf.reg,getR,setR,aa,Sf.disAt,look,aF,List.drop_zero,List.drop_succ_cons,↓reduceIte,Nat.reduceEqDiff,Int.reduceNeg,Nat.zero_add,not_true_eq_false,decide_false,Bool.false_eq_true,IntWalk.i64_in,cB,f6_71e,f6_74e,f6_74l,lT]
        exact hK ⟨i + 1,st3,b',x',c,T,g⟩ _ ⟨h,kf,by simp only; omega⟩ (by simp only; omega) (Sf.le_refl _))
    by_cases hc0:w < 0
    · simp (config:=KF) (disch:=omega) only [bZ,aE,cD,AI.dst,bW,bf,ar,gT,am,cL,ca,aV,cg,ixSV,ap,boxX,ba,ixA,lenI,addA,af,aw,bC,aB,aS,aA,aP,putS,Sf.set,Sf.reg,getR,setR,aa,Sf.disAt,Sf.newLoc,Sf.setLoc,look,bO,aZ,aF,ao,ai,ag,ae,ah,bT,bK,aW,gm,iC,aX,List.length_cons,List.length_nil,List.all_cons,List.all_nil,List.drop_zero,List.take_succ_cons,List.take_zero,List.set_cons_zero,List.set_cons_succ,Int.toNat_natCast,↓reduceIte,Nat.reduceEqDiff,Nat.reduceAdd,Nat.reduceLeDiff,Int.reduceNeg,Bool.true_and,Bool.and_true,and_true,true_and,Nat.zero_add,Nat.add_zero,decide_true,Bool.false_eq_true,List.length_map,ce,bp,dx,cf,au,ak,f6_24e,f6_25e,f6_26e,f6_26l,f6_27e,f6_28e,f6_29e,f6_30e,f6_31e,f6_31l,f6_32e,f6_33e,f6_33l,f6_34e,f6_35e,f6_36e,f6_36l,f6_37e,e1]
      exact hcp _ fun h=>h
    · have hc1:2 < w:=by omega
      simp (config:=KF) (disch:=omega) only [bZ,aE,AI.dst,a7,bf,ar,gT,am,cL,ca,aV,bu,ixSV,ap,boxX,ba,ixA,lenI,addA,af,aw,bC,d6,aB,aS,aA,aP,putS,Sf.set,Sf.reg,getR,setR,aa,Sf.disAt,Sf.newLoc,Sf.setLoc,look,bO,aZ,aF,ao,ai,ag,ae,ah,bT,bK,aW,gm,iC,aX,List.length_cons,List.length_nil,List.all_cons,List.all_nil,List.drop_zero,List.take_succ_cons,List.take_zero,List.set_cons_zero,List.set_cons_succ,Int.toNat_natCast,↓reduceIte,Nat.reduceEqDiff,Nat.reduceAdd,Nat.reduceLeDiff,Int.reduceNeg,Bool.true_and,Bool.and_true,and_true,true_and,Nat.zero_add,Nat.add_zero,decide_true,Bool.false_eq_true,List.length_map,ce,bp,cP,cf,au,ak,f6_24e,f6_25e,f6_26e,f6_26l,f6_27e,f6_28e,f6_29e,f6_30e,f6_31e,f6_31l,f6_32e,f6_33e,f6_33l,f6_34e,f6_35e,f6_36e,f6_36l,f6_37e,e1]
      exact hcp _ fun h=>h
  by_cases hw0:w = 0
  · subst hw0
    have hb:=gL h1 (by omega) (0,t,n,s)
    have hr:=fun st=>rlwait c T t hub.1 (by omega) st
    have hll:(laDo c T (0,t,n,s)).2.2.2.1.length≤1000:=by
      simp [laDo]
    have he:=fun st=>kr (laDo c T (0,t,n,s)).2 (by omega) st
    unfold laDo at hb he
    simp only [if_true] at hb he
    generalize (dL c T t).1 = T' at *
    generalize (dL c T t).2.1 = r1 at *
    generalize (dL c T t).2.2 = r3 at *
    rw [← (ed _).1] at he
    have e0:lAV [] = .lit (.slice none 0 0):=rfl
    simp (config:=KF) (disch:=omega) only [bZ,aE,AI.dst,a7,bf,ar,gT,am,cL,al,ca,aV,aj,bu,ixSV,ap,boxX,ba,ixA,lenI,addA,af,aw,bJ,bC,d6,aB,aS,ev_f,aA,aP,putS,Sf.set,Sf.reg,getR,setR,aa,Sf.disAt,Sf.newLoc,Sf.setLoc,look,bO,aZ,id,aF,ao,ai,bz,ag,ae,ah,bT,bK,aW,gm,iC,aX,List.length_cons,List.length_nil,List.all_cons,List.all_nil,List.drop_zero,List.drop_succ_cons,List.take_succ_cons,List.take_zero,List.set_cons_zero,List.set_cons_succ,Int.toNat_natCast,↓reduceIte,Nat.reduceEqDiff,Nat.reduceAdd,Nat.reduceLeDiff,Int.reduceLT,Int.reduceNeg,Bool.true_and,Bool.and_true,and_true,true_and,Nat.zero_add,Nat.add_zero,decide_true,decide_false,Bool.false_eq_true,List.length_map,ce,bp,bG,cf,au,ak,f6_24e,f6_25e,f6_26e,f6_26l,f6_27e,f6_28e,f6_29e,f6_30e,f6_31e,f6_31l,f6_32e,f6_33e,f6_33l,f6_34e,f6_35e,f6_36e,f6_36l,f6_37e,f6_51e,f6_52e,f6_53e,f6_53l,f6_54e,f6_55e,f6_56e,f6_56l,f6_57e,f6_58e,f6_58l,e1]
    refine aM rfl e_f39 (hr _) rfl ?_
    simp (config:=KF) (disch:=omega) only [bZ,aD,b7,aV,extV,boxX,ba,aA,aP,putS,Sf.set,Sf.reg,getR,setR,aa,Sf.disAt,Sf.setLoc,look,aZ,ao,bt,ai,bz,jM,ag,ae,br,ah,List.length_cons,List.length_nil,List.getElem?_cons_zero,List.getElem?_cons_succ,List.all_cons,List.all_nil,List.set_cons_zero,List.set_cons_succ,↓reduceIte,Nat.reduceEqDiff,Nat.reduceAdd,Nat.reduceLeDiff,Int.reduceNeg,Bool.true_and,Bool.and_true,and_true,true_and,Nat.zero_add,au,ak,f6_64e,f6_65e,f6_65h,f6_65p,f6_65l,stAV,rsw]
    refine jf ⟨[]⟩ (St.sub_nil _) ?_
    simp (config:=KF) (disch:=omega) only [bZ,List.contains_nil,ek,dF,eF,eG,cp,gG,eY,h9,ia,fD,ap,af,aw,aB,aS,ev_f,putS,Sf.set,Sf.reg,getR,setR,look,bE,id,ao,ai,List.length_cons,List.length_nil,List.append_nil,List.nil_append,List.cons_append,List.drop_zero,List.take_succ_cons,List.take_zero,↓reduceIte,Nat.reduceEqDiff,Nat.reduceAdd,Nat.reduceLeDiff,Int.reduceNeg,Nat.zero_add,decide_true,Bool.false_eq_true]
    refine gI rfl e_f41 hb rfl ?_
    simp (config:=KF) (disch:=omega) only [bZ,List.contains_nil,ksB,a9,bI,bP,bh,nstB,bQ,cp,gE,gF,je,eA,ap,af,aw,aB,aS,putS,Sf.set,Sf.reg,getR,setR,look,ao,ai,bz,List.length_cons,List.length_nil,List.all_nil,List.nil_append,List.cons_append,List.drop_zero,List.take_succ_cons,List.take_zero,↓reduceIte,Nat.reduceEqDiff,Nat.reduceAdd,Nat.reduceLeDiff,Int.reduceNeg,Bool.true_and,Bool.and_true,and_true,true_and,Nat.zero_add,decide_true,Bool.not_false]
    rintro r st1 ⟨g',rfl,k1,k2,k3⟩
    refine ⟨St.sub_nil _,?_⟩
    simp (config:=KF) (disch:=omega) only [bZ,List.contains_nil,ksB,a9,bI,bP,bh,cO,cx,nstB,bQ,ek,dF,eF,cp,ez,dT,gH,d7,fd,and_self,aj,ap,af,aw,aB,aS,ev_f,putS,Sf.set,Sf.reg,getR,setR,look,id,ao,ai,bz,List.length_cons,List.length_nil,List.all_nil,List.nil_append,List.cons_append,List.drop_zero,List.take_succ_cons,List.take_zero,↓reduceIte,Nat.reduceEqDiff,Nat.reduceAdd,Nat.reduceLeDiff,Int.reduceNeg,Bool.true_and,Bool.and_true,and_true,true_and,Nat.zero_add,decide_true,Bool.not_false,rsAV,e0]
    refine aM rfl e_f28 (he _) rfl ?_
    have lT:=dv T'
    simp (config:=KF) (disch:=omega) only [bZ,List.contains_nil,cF,dq,dH,bw,o_un,unA,ev_f,putS,Sf.set,Sf.reg,getR,setR,aa,look,bE,id,↓reduceIte,Nat.reduceEqDiff,Int.reduceNeg,Bool.not_true,Bool.false_eq_true,f6_66e,f6_69e,f6_70e,f6_70h,f6_70l]
    refine ey rfl e_f42 (fg k1) rfl ?_
    simp (config:=KF) (disch:=omega) only [bZ,cF,iq,dq,kn,b8,ci,dH,ej,cW,bw,AI.dst,ap,addA,af,cc,ev_f,putS,Sf.set,Sf.reg,getR,setR,look,id,List.drop_zero,↓reduceIte,Nat.reduceEqDiff,Int.reduceNeg,Nat.add_zero,not_true_eq_false,decide_false]
    refine ey rfl e_f43 (eC k1) rfl ?_
    simp (config:=KF) (disch:=omega) only [bZ,eS,iq,b8,ci,nZ,ej,cW,bw,cK,aD,aE,AI.dst,a7,bf,al,bu,ap,lenI,addA,af,ew,cc,putS,Sf.set,Sf.reg,getR,setR,aa,Sf.disAt,look,aF,List.drop_zero,List.drop_succ_cons,↓reduceIte,Nat.reduceEqDiff,Int.reduceNeg,Nat.zero_add,not_true_eq_false,decide_false,Bool.false_eq_true,IntWalk.i64_in,cB,f6_71e,f6_74e,f6_74l,lT]
    exact hK ⟨i + 1,st1,b,x,c,T',g'⟩ _ ⟨h,k1,by simp only; omega⟩ (by simp only; omega) (Sf.le_refl _)
  by_cases hw1:w = 1
  · subst hw1
    have hb:=gL h1 (by omega) (1,t,n,s)
    have hr:=fun st=>rldown c T n hub st
    have hll:(laDo c T (1,t,n,s)).2.2.2.1.length≤1000:=by
      show (cG c T n).2.1.length≤1000
      unfold cG
      split
      · simp
      split
      · simp
      split
      · simp
      · simp only; omega
    have he:=fun st=>kr (laDo c T (1,t,n,s)).2 (by omega) st
    unfold laDo at hb he
    simp only [if_true,if_neg (show ¬ (1:Int) = 0 by decide)] at hb he
    generalize (cG c T n).1.1 = c' at *
    generalize (cG c T n).1.2 = T' at *
    generalize (cG c T n).2.1 = r2 at *
    generalize (cG c T n).2.2 = r3 at *
    rw [← (ed _).1] at he
    obtain ⟨w1,w2,w3,w4,w5,w6,w7⟩:=cz r2
    simp (config:=KF) (disch:=omega) only [bZ,aE,AI.dst,a7,bf,ar,gT,am,cL,al,ca,aV,aj,bu,ixSV,ap,boxX,ba,ixA,lenI,addA,af,aw,bJ,bC,d6,aB,aS,ev_f,aA,aP,putS,Sf.set,Sf.reg,getR,setR,aa,Sf.disAt,Sf.newLoc,Sf.setLoc,look,bO,aZ,id,aF,ao,ai,bz,ag,ae,ah,bT,bK,aW,gm,iC,aX,List.length_cons,List.length_nil,List.all_cons,List.all_nil,List.drop_zero,List.drop_succ_cons,List.take_succ_cons,List.take_zero,List.set_cons_zero,List.set_cons_succ,Int.toNat_natCast,↓reduceIte,Nat.reduceEqDiff,Nat.reduceAdd,Nat.reduceLeDiff,Int.reduceLT,Int.reduceEq,Int.reduceNeg,Bool.true_and,Bool.and_true,and_true,true_and,Nat.zero_add,Nat.add_zero,decide_true,decide_false,Bool.false_eq_true,List.length_map,ce,bp,bG,cf,au,ak,f6_24e,f6_25e,f6_26e,f6_26l,f6_27e,f6_28e,f6_29e,f6_30e,f6_31e,f6_31l,f6_32e,f6_33e,f6_33l,f6_34e,f6_35e,f6_36e,f6_36l,f6_37e,f6_51e,f6_52e,f6_53e,f6_53l,f6_54e,f6_55e,f6_56e,f6_56l,f6_57e,f6_59e,f6_60e,f6_60l,f6_61e,f6_62e,f6_62l,e1]
    refine aM rfl e_f40 (hr _) rfl ?_
    simp (config:=KF) (disch:=omega) only [bZ,aD,b7,aV,extV,boxX,ba,aA,aP,putS,Sf.set,Sf.reg,getR,setR,aa,Sf.disAt,Sf.setLoc,look,aZ,ao,bt,ai,bz,jM,ag,ae,br,ah,List.length_cons,List.length_nil,List.getElem?_cons_zero,List.getElem?_cons_succ,List.all_cons,List.all_nil,List.set_cons_zero,List.set_cons_succ,↓reduceIte,Nat.reduceEqDiff,Nat.reduceAdd,Nat.reduceLeDiff,Int.reduceNeg,Bool.true_and,Bool.and_true,and_true,true_and,Nat.zero_add,au,ak,f6_64e,f6_65e,f6_65h,f6_65p,f6_65l,stAV,rsw]
    refine jf ⟨[]⟩ (St.sub_nil _) ?_
    simp (config:=KF) (disch:=omega) only [bZ,List.contains_nil,ek,dF,eF,eG,cp,gG,eY,h9,ia,fD,ap,af,aw,aB,aS,ev_f,putS,Sf.set,Sf.reg,getR,setR,look,bE,id,ao,ai,List.length_cons,List.length_nil,List.append_nil,List.nil_append,List.cons_append,List.drop_zero,List.take_succ_cons,List.take_zero,↓reduceIte,Nat.reduceEqDiff,Nat.reduceAdd,Nat.reduceLeDiff,Int.reduceNeg,Nat.zero_add,decide_true,Bool.false_eq_true]
    refine gI rfl e_f41 hb rfl ?_
    simp (config:=KF) (disch:=omega) only [bZ,List.contains_nil,ksB,a9,bI,bP,bh,nstB,bQ,cp,gE,gF,je,eA,ap,af,aw,aB,aS,putS,Sf.set,Sf.reg,getR,setR,look,ao,ai,bz,List.length_cons,List.length_nil,List.all_nil,List.nil_append,List.cons_append,List.drop_zero,List.take_succ_cons,List.take_zero,↓reduceIte,Nat.reduceEqDiff,Nat.reduceAdd,Nat.reduceLeDiff,Int.reduceNeg,Bool.true_and,Bool.and_true,and_true,true_and,Nat.zero_add,decide_true,Bool.not_false]
    rintro r st1 ⟨g',rfl,k1,k2,k3⟩
    refine ⟨St.sub_nil _,?_⟩
    simp (config:=KF) (disch:=omega) only [bZ,List.contains_nil,ksB,a9,bI,bP,bh,cO,cx,nstB,bQ,ek,dF,eF,cp,ez,dT,gH,d7,fd,and_self,aj,ap,af,aw,aB,aS,ev_f,putS,Sf.set,Sf.reg,getR,setR,look,id,ao,ai,bz,List.length_cons,List.length_nil,List.all_nil,List.nil_append,List.cons_append,List.drop_zero,List.take_succ_cons,List.take_zero,↓reduceIte,Nat.reduceEqDiff,Nat.reduceAdd,Nat.reduceLeDiff,Int.reduceNeg,Bool.true_and,Bool.and_true,and_true,true_and,Nat.zero_add,decide_true,Bool.not_false,rsAV]
    refine aM rfl e_f28 (he _) rfl ?_
    have lT:=dv T'
    simp (config:=KF) (disch:=omega) only [bZ,List.contains_nil,cF,dq,dH,bw,o_un,unA,ev_f,putS,Sf.set,Sf.reg,getR,setR,aa,look,bE,id,↓reduceIte,Nat.reduceEqDiff,Int.reduceNeg,Bool.not_true,Bool.false_eq_true,f6_66e,f6_69e,f6_70e,f6_70h,f6_70l]
    refine ey rfl e_f42 (fg k1) rfl ?_
    simp (config:=KF) (disch:=omega) only [bZ,cF,iq,dq,kn,b8,ci,dH,ej,cW,bw,AI.dst,ap,addA,af,cc,ev_f,putS,Sf.set,Sf.reg,getR,setR,look,id,List.drop_zero,↓reduceIte,Nat.reduceEqDiff,Int.reduceNeg,Nat.add_zero,not_true_eq_false,decide_false]
    refine ey rfl e_f43 (eC k1) rfl ?_
    simp (config:=KF) (disch:=omega) only [bZ,eS,iq,b8,ci,nZ,ej,cW,bw,cK,aD,aE,AI.dst,a7,bf,al,bu,ap,lenI,addA,af,ew,cc,putS,Sf.set,Sf.reg,getR,setR,aa,Sf.disAt,look,aF,List.drop_zero,List.drop_succ_cons,↓reduceIte,Nat.reduceEqDiff,Int.reduceNeg,Nat.zero_add,not_true_eq_false,decide_false,Bool.false_eq_true,IntWalk.i64_in,cB,f6_71e,f6_74e,f6_74l,lT]
    exact hK ⟨i + 1,st1,b,x,c',T',g'⟩ _ ⟨h,k1,by simp only; omega⟩ (by simp only; omega) (Sf.le_refl _)
  obtain rfl:w = 2:=by omega
  have hb:=gL h1 (by omega) (2,t,n,s)
  have hr:=fun st=>rcancel c 0 0 (-1) false T [] t (by omega) (by simp) st
  simp only [rCan_low] at hr
  have hll:(laDo c T (2,t,n,s)).2.2.2.1.length≤1000:=by
    simp [laDo]
  have he:=fun st=>kr (laDo c T (2,t,n,s)).2 (by omega) st
  unfold laDo at hb he
  simp only [if_neg (show ¬ (2:Int) = 0 by decide),if_neg (show ¬ (2:Int) = 1 by decide)] at hb he
  generalize (lCan T t).1 = T' at *
  generalize (lCan T t).2 = r3 at *
  rw [← (ed _).1] at he
  have e0:lAV [] = .lit (.slice none 0 0):=rfl
  simp (config:=KF) (disch:=omega) only [bZ,aE,AI.dst,a7,bf,ar,gT,am,cL,al,ca,aV,aj,bu,ixSV,ap,boxX,ba,ixA,lenI,addA,af,aw,bJ,bC,d6,aB,aS,ev_f,aA,aP,putS,Sf.set,Sf.reg,getR,setR,aa,Sf.disAt,Sf.newLoc,Sf.setLoc,look,bO,aZ,id,aF,ao,ai,bz,ag,ae,ah,bT,bK,aW,gm,iC,aX,List.length_cons,List.length_nil,List.all_cons,List.all_nil,List.drop_zero,List.drop_succ_cons,List.take_succ_cons,List.take_zero,List.set_cons_zero,List.set_cons_succ,Int.toNat_natCast,↓reduceIte,Nat.reduceEqDiff,Nat.reduceAdd,Nat.reduceLeDiff,Int.reduceLT,Int.reduceEq,Int.reduceNeg,Bool.true_and,Bool.and_true,and_true,true_and,Nat.zero_add,Nat.add_zero,decide_true,decide_false,Bool.false_eq_true,List.length_map,ce,bp,bG,cf,au,ak,f6_24e,f6_25e,f6_26e,f6_26l,f6_27e,f6_28e,f6_29e,f6_30e,f6_31e,f6_31l,f6_32e,f6_33e,f6_33l,f6_34e,f6_35e,f6_36e,f6_36l,f6_37e,f6_51e,f6_52e,f6_53e,f6_53l,f6_54e,f6_55e,f6_56e,f6_56l,f6_57e,f6_59e,f6_60e,f6_60l,f6_61e,f6_63e,f6_63l,e1]
  refine aM rfl e_f27 (hr _) rfl ?_
  simp (config:=KF) (disch:=omega) only [bZ,aD,b7,aV,extV,boxX,ba,aA,aP,putS,Sf.set,Sf.reg,getR,setR,aa,Sf.disAt,Sf.setLoc,look,aZ,ao,bt,ai,bz,jM,ag,ae,br,ah,List.length_cons,List.length_nil,List.getElem?_cons_zero,List.getElem?_cons_succ,List.all_cons,List.all_nil,List.set_cons_zero,List.set_cons_succ,↓reduceIte,Nat.reduceEqDiff,Nat.reduceAdd,Nat.reduceLeDiff,Int.reduceNeg,Bool.true_and,Bool.and_true,and_true,true_and,Nat.zero_add,au,ak,f6_64e,f6_65e,f6_65h,f6_65p,f6_65l,stAV,rsw]
  refine jf ⟨[]⟩ (St.sub_nil _) ?_
  simp (config:=KF) (disch:=omega) only [bZ,List.contains_nil,ek,dF,eF,eG,cp,gG,eY,h9,ia,fD,ap,af,aw,aB,aS,ev_f,putS,Sf.set,Sf.reg,getR,setR,look,bE,id,ao,ai,List.length_cons,List.length_nil,List.append_nil,List.nil_append,List.cons_append,List.drop_zero,List.take_succ_cons,List.take_zero,↓reduceIte,Nat.reduceEqDiff,Nat.reduceAdd,Nat.reduceLeDiff,Int.reduceNeg,Nat.zero_add,decide_true,Bool.false_eq_true]
  refine gI rfl e_f41 hb rfl ?_
  simp (config:=KF) (disch:=omega) only [bZ,List.contains_nil,ksB,a9,bI,bP,bh,nstB,bQ,cp,gE,gF,je,eA,ap,af,aw,aB,aS,putS,Sf.set,Sf.reg,getR,setR,look,ao,ai,bz,List.length_cons,List.length_nil,List.all_nil,List.nil_append,List.cons_append,List.drop_zero,List.take_succ_cons,List.take_zero,↓reduceIte,Nat.reduceEqDiff,Nat.reduceAdd,Nat.reduceLeDiff,Int.reduceNeg,Bool.true_and,Bool.and_true,and_true,true_and,Nat.zero_add,decide_true,Bool.not_false]
  rintro r st1 ⟨g',rfl,k1,k2,k3⟩
  refine ⟨St.sub_nil _,?_⟩
  simp (config:=KF) (disch:=omega) only [bZ,List.contains_nil,ksB,a9,bI,bP,bh,cO,cx,nstB,bQ,ek,dF,eF,cp,ez,dT,gH,d7,fd,and_self,aj,ap,af,aw,aB,aS,ev_f,putS,Sf.set,Sf.reg,getR,setR,look,id,ao,ai,bz,List.length_cons,List.length_nil,List.all_nil,List.nil_append,List.cons_append,List.drop_zero,List.take_succ_cons,List.take_zero,↓reduceIte,Nat.reduceEqDiff,Nat.reduceAdd,Nat.reduceLeDiff,Int.reduceNeg,Bool.true_and,Bool.and_true,and_true,true_and,Nat.zero_add,decide_true,Bool.not_false,rsAV,e0]
  refine aM rfl e_f28 (he _) rfl ?_
  have lT:=dv T'
  simp (config:=KF) (disch:=omega) only [bZ,List.contains_nil,cF,dq,dH,bw,o_un,unA,ev_f,putS,Sf.set,Sf.reg,getR,setR,aa,look,bE,id,↓reduceIte,Nat.reduceEqDiff,Int.reduceNeg,Bool.not_true,Bool.false_eq_true,f6_66e,f6_69e,f6_70e,f6_70h,f6_70l]
  refine ey rfl e_f42 (fg k1) rfl ?_
  simp (config:=KF) (disch:=omega) only [bZ,cF,iq,dq,kn,b8,ci,dH,ej,cW,bw,AI.dst,ap,addA,af,cc,ev_f,putS,Sf.set,Sf.reg,getR,setR,look,id,List.drop_zero,↓reduceIte,Nat.reduceEqDiff,Int.reduceNeg,Nat.add_zero,not_true_eq_false,decide_false]
  refine ey rfl e_f43 (eC k1) rfl ?_
  simp (config:=KF) (disch:=omega) only [bZ,eS,iq,b8,ci,nZ,ej,cW,bw,cK,aD,aE,AI.dst,a7,bf,al,bu,ap,lenI,addA,af,ew,cc,putS,Sf.set,Sf.reg,getR,setR,aa,Sf.disAt,look,aF,List.drop_zero,List.drop_succ_cons,↓reduceIte,Nat.reduceEqDiff,Int.reduceNeg,Nat.zero_add,not_true_eq_false,decide_false,Bool.false_eq_true,IntWalk.i64_in,cB,f6_71e,f6_74e,f6_74l,lT]
  exact hK ⟨i + 1,st1,b,x,c,T',g'⟩ _ ⟨h,k1,by simp only; omega⟩ (by simp only; omega) (Sf.le_refl _)
theorem mf (p:Int) (l:List Ac):aU Go.Proofs.Try.prog n_f6 [.lit (.int .i64 p),.sl false 4 (l.map acAV)] ⟨[]⟩ (fun v _=>v = .lit (.bool true)):=by
  refine aO hmix k_f6 rfl rfl fun Q hQ=>?_
  unfold aFun c_f6
  have hkn:∀ st,aU Go.Proofs.Try.prog n_f10 [] st (fun r _=>r = .lit (.bool true)):=known39
  by_cases hp:p < 1∨1048576 < p
  · simp (config:=KF) (disch:=omega) only [bZ,aj,ev_f,putS,Sf.set,Sf.reg,getR,setR,aa,aI,id,aF,↓reduceIte,Nat.reduceEqDiff,reduceCtorEq,Nat.zero_add,f6_1e,f6_2e,f6_2l,f6_3e,f6_4e,f6_4l]
    refine aM rfl e_f35 (newla_err hp _) rfl ?_
    by_cases hl:40 < l.length
    · by_cases hp1:p < 1
      · simp (config:=KF) (disch:=omega) only [bZ,aE,cD,AI.dst,bW,bf,b7,cL,al,aj,cg,extV,dG,io,c5,cA,lenI,bJ,cc,bC,d6,ev_f,putS,Sf.set,Sf.reg,getR,setR,aa,Sf.disAt,id,aF,bt,bg,List.getElem?_cons_zero,List.getElem?_cons_succ,↓reduceIte,Nat.reduceEqDiff,Int.reduceEq,reduceCtorEq,not_false_eq_true,decide_true,Bool.false_eq_true,List.length_map,dx,f6_5e,f6_6e,f6_7e,f6_7l,f6_8e,f6_9e,f6_10e,f6_10l,beq_self_eq_true]
        refine aQ rfl e_f10 (hkn _) rfl fun r st1 hr=>?_
        subst hr
        simp (config:=KF) (disch:=omega) only [bZ,retI,bf,al,cg,putS,Sf.set,Sf.reg,getR,setR,aa,Sf.disAt,↓reduceIte,Nat.reduceEqDiff,Bool.true_and,true_and,reduceCtorEq]
        exact hQ _ _ rfl
      · have hp2:1048576 < p:=by omega
        have hq:decide (p > 1048576) = true:=by simpa using hp2
        simp (config:=KF) (disch:=omega) only [bZ,aE,cD,AI.dst,bW,a7,bf,b7,cL,al,aj,cg,bu,extV,dG,io,c5,cA,lenI,bJ,cc,bC,d6,ev_f,putS,Sf.set,Sf.reg,getR,setR,aa,Sf.disAt,id,aF,bt,bg,List.getElem?_cons_zero,List.getElem?_cons_succ,↓reduceIte,Nat.reduceEqDiff,Int.reduceEq,reduceCtorEq,not_false_eq_true,decide_true,Bool.false_eq_true,List.length_map,dx,cP,f6_5e,f6_6e,f6_7e,f6_7l,f6_8e,f6_9e,f6_10e,f6_10l,hq,beq_self_eq_true]
        refine aQ rfl e_f10 (hkn _) rfl fun r st1 hr=>?_
        subst hr
        simp (config:=KF) (disch:=omega) only [bZ,retI,bf,al,cg,putS,Sf.set,Sf.reg,getR,setR,aa,Sf.disAt,↓reduceIte,Nat.reduceEqDiff,Bool.true_and,true_and,reduceCtorEq]
        exact hQ _ _ rfl
    · by_cases hp1:p < 1
      · simp (config:=KF) (disch:=omega) only [bZ,aE,cD,AI.dst,bW,a7,bf,b7,cL,al,aj,cg,bu,extV,dG,io,c5,cA,lenI,bJ,cc,bC,d6,ev_f,putS,Sf.set,Sf.reg,getR,setR,aa,Sf.disAt,id,aF,bt,bg,List.getElem?_cons_zero,List.getElem?_cons_succ,↓reduceIte,Nat.reduceEqDiff,Int.reduceEq,reduceCtorEq,not_false_eq_true,decide_true,Bool.false_eq_true,List.length_map,dx,cP,f6_5e,f6_6e,f6_7e,f6_7l,f6_8e,f6_9e,f6_10e,f6_10l,beq_self_eq_true]
        refine aQ rfl e_f10 (hkn _) rfl fun r st1 hr=>?_
        subst hr
        simp (config:=KF) (disch:=omega) only [bZ,retI,bf,al,cg,putS,Sf.set,Sf.reg,getR,setR,aa,Sf.disAt,↓reduceIte,Nat.reduceEqDiff,Bool.true_and,true_and,reduceCtorEq]
        exact hQ _ _ rfl
      · have hp2:1048576 < p:=by omega
        have hq:decide (p > 1048576) = true:=by simpa using hp2
        simp (config:=KF) (disch:=omega) only [bZ,aE,AI.dst,bW,a7,bf,b7,cL,al,aj,cg,bu,extV,dG,io,c5,cA,lenI,bJ,cc,bC,d6,ev_f,putS,Sf.set,Sf.reg,getR,setR,aa,Sf.disAt,id,aF,bt,bg,List.getElem?_cons_zero,List.getElem?_cons_succ,↓reduceIte,Nat.reduceEqDiff,Int.reduceEq,reduceCtorEq,not_false_eq_true,decide_true,Bool.false_eq_true,List.length_map,cP,f6_5e,f6_6e,f6_7e,f6_7l,f6_8e,f6_9e,f6_10e,f6_10l,hq,beq_self_eq_true]
        refine aQ rfl e_f10 (hkn _) rfl fun r st1 hr=>?_
        subst hr
        simp (config:=KF) (disch:=omega) only [bZ,retI,bf,al,cg,putS,Sf.set,Sf.reg,getR,setR,aa,Sf.disAt,↓reduceIte,Nat.reduceEqDiff,Bool.true_and,true_and,reduceCtorEq]
        exact hQ _ _ rfl
  have hp0:1≤p∧p≤1048576:=by omega
  simp (config:=KF) (disch:=omega) only [bZ,aj,ev_f,putS,Sf.set,Sf.reg,getR,setR,aa,aI,id,aF,↓reduceIte,Nat.reduceEqDiff,reduceCtorEq,Nat.zero_add,f6_1e,f6_2e,f6_2l,f6_3e,f6_4e,f6_4l]
  refine aQ rfl e_f35 (kN hp0 _) rfl fun r st1 hr=>?_
  obtain ⟨b,x,rfl,h1,f1,g1⟩:=hr
  by_cases hl:40 < l.length
  · have hq:decide (p > 1048576) = false:=by simpa using hp0.2
    simp (config:=KF) (disch:=omega) only [bZ,aE,cD,AI.dst,bW,a7,bf,b7,cL,al,aj,cg,bu,extV,dG,io,c5,cA,lenI,bJ,cc,bC,d6,ev_f,putS,Sf.set,Sf.reg,getR,setR,aa,Sf.disAt,id,aF,bt,bg,jL,List.getElem?_cons_zero,List.getElem?_cons_succ,↓reduceIte,Nat.reduceEqDiff,Int.reduceEq,reduceCtorEq,not_true_eq_false,decide_false,Bool.false_eq_true,List.length_map,dx,cP,f6_5e,f6_6e,f6_7e,f6_7l,f6_8e,f6_9e,f6_10e,f6_10l,hq,beq_self_eq_true]
    refine aQ rfl e_f10 (hkn _) rfl fun r st1 hr=>?_
    subst hr
    simp (config:=KF) (disch:=omega) only [bZ,retI,bf,al,cg,putS,Sf.set,Sf.reg,getR,setR,aa,Sf.disAt,↓reduceIte,Nat.reduceEqDiff,Bool.true_and,true_and,reduceCtorEq]
    exact hQ _ _ rfl
  simp (config:=KF) (disch:=omega) only [bZ,and_self,aE,AI.dst,a7,bf,b7,co,cL,al,ca,aV,bu,extV,bstV,boxX,ba,dG,c5,cA,lenI,a8,cc,bC,d6,aA,aP,putS,Sf.set,Sf.reg,getR,setR,aa,Sf.disAt,Sf.newLoc,Sf.setLoc,look,bO,aZ,aF,ao,bt,ai,bg,jL,az,ag,ae,ah,bT,bK,iC,aX,List.length_cons,List.length_nil,List.getElem?_cons_zero,List.getElem?_cons_succ,List.all_cons,List.all_nil,List.set_cons_zero,List.set_cons_succ,↓reduceIte,Nat.reduceEqDiff,Nat.reduceAdd,Nat.reduceLeDiff,Int.reduceNeg,Bool.true_and,Bool.and_true,and_true,true_and,reduceCtorEq,Nat.zero_add,not_true_eq_false,decide_false,Bool.false_eq_true,List.length_map,bG,cP,au,ak,f6_5e,f6_6e,f6_7e,f6_7l,f6_8e,f6_11e,f6_12e,f6_13e,f6_13l,f6_14e,f6_17e,f6_18e,f6_18l,f6_19e,f6_20e,f6_21e,f6_21l]
  refine plays_loop h1 (by omega) _ fun st4=>?_
  simp (config:=KF) (disch:=omega) only [bZ,aj,ev_f,id,f6_75e,f6_76e,f6_76l]
  refine aQ rfl e_f10 (hkn _) rfl fun r st5 hr=>?_
  subst hr
  simp (config:=KF) (disch:=omega) only [bZ,retI,al,putS,Sf.set,Sf.reg,getR,setR,aa,Sf.disAt,↓reduceIte,Nat.reduceEqDiff,Bool.true_and,true_and]
  exact hQ _ _ rfl
theorem mg {p:Int} {l:List (Int×Int×Int×Bool×Unit)}:aU Go.Proofs.Try.prog n_f6 [.lit (.int .i64 p),.sl false 4 (l.map fun x=>.agg [.lit (.int .i64 x.1),.lit (.int .i64 x.2.1),.lit (.int .i64 x.2.2.1),.lit (.bool x.2.2.2.1)])] ⟨[]⟩ (fun v _=>v = .lit (.bool true)):=by
  rw [ac_lit2]
  exact mf p _
end Go.Fx.YtphaaebhgggbaaaFx

