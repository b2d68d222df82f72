/- What the functions that the statement reaches compute: part 18. -/
import Derived.Test.YtphaaebhgggbaaaFxW17
namespace Go.Fx.YtphaaebhgggbaaaFx
open Go Go.Fx
attribute [local irreducible] aC runI bD cS

set_option maxRecDepth 100000
set_option maxHeartbeats 8000000

/-! LatchHolds: printed by wip/dev/gen_lt17.py. -/
structure HA where
  i:Nat
  st:St
  u:Int
  T:List Int
  g:Nat
  oo:Int
  oT:List Int
  od:Bool
  og:Nat
  co:Int
  cT:List Int
  cU:List Int
  cg:Nat
  ck:Nat
  W:List Int
structure HI (p:Int) (b ob cb:Nat) (x ox cx cy:Ln) (a:HA):Prop where
  ba:BaIs a.st b x p a.u a.T a.g
  on:OwIs a.st ob ox (.lit (.bool a.od)) a.oo a.oT a.og
  co:CoIs a.st cb cx cy a.co a.cT a.cU a.cg a.ck
  lg:a.g≤a.i
  log:a.og≤a.i
  lcg:a.cg≤64 * a.i
  lck:a.ck≤a.i
  lu:a.u≤a.i
  hd:a.od = true→a.oo < 0
  ho:a.cT≠[]→0≤a.co
  hW:a.W.Sublist a.cT
theorem oe {A B:List Nat} (h:∀ i ∈ A,i ∉ B):∀ i ∈ B,i ∉ A:=fun i hi hj=>h i hj hi
theorem baDo_le {p u:Int} {T:List Int} (a:Ac) (hf:(T.length:Int) < p):(baDo p u T a).1.1≤u + 1:=by
  obtain ⟨f1,f2⟩:=mo (u:=u) a hf
  cases h:(baDo p u T a).2.2.1 with
  | true=>have:=(f1 h).2.2; omega
  | false=>have:=f2 h; omega

section
variable {p:Int} {l:List Ac} {b ob cb:Nat} {x ox cx cy:Ln}
theorem holds_loop {a0:HA} (h0:HI p b ob cb x ox cx cy a0) (hi0:a0.i = 0) (hW0:a0.W = []) (hu0:a0.u = 0) (hr0:rn a0.oo = 0) (hl:l.length≤60) (d1:∀ i ∈ ob::ox.ids,i ∉ b::x.ids) (d2:∀ i ∈ cb::(cx.ids++cy.ids),i ∉ b::x.ids) (d3:∀ i ∈ cb::(cx.ids++cy.ids),i ∉ ob::ox.ids)
    (Q:Exit→Sf→St→Prop) (hQ:∀ st,Q .normal ⟨[],[]⟩ st) :
    aC Go.Proofs.Try.prog id false f3_26 ⟨[(0,.lit (.int .i64 p)),(1,.sl false 4 (l.map acAV)),(5,.ptr b 0),(7,.ptr ob 0),(8,.ptr cb 0),(9,.lit (.int .i64 0)),(10,.lit (.int .i64 0)),(11,.lit (.slice none 0 0)),(12,.lit (.int .i64 0))],[]⟩ a0.st Q:=by
  simp (config:=KF) (disch:=omega) only [f3_26e]
  rw [f3_27w]
  refine eK (A:=HA) (fun a=>l.length - a.i) (fun a=>⟨[(0,.lit (.int .i64 p)),(1,.sl false 4 (l.map acAV)),(5,.ptr b 0),(7,.ptr ob 0),(8,.ptr cb 0),(9,.lit (.int .i64 (rn a.oo))),(10,.lit (.int .i64 a.u)),(11,.sl false 1 (ints a.W)),(12,.lit (.int .i64 (a.i:Nat)))],[]⟩) (fun a=>a.st)
    (fun a=>a.i≤l.length∧HI p b ob cb x ox cx cy a) a0 ⟨by omega,h0⟩ (by rw [hi0,hW0,hu0,hr0]; exact ⟨⟨rfl,.refl _,rfl,.refl _,rfl,.refl _,rfl,.refl _,rfl,.refl _,rfl,.refl _,rfl,.refl _,rfl,.nil _ _,rfl,.refl _,trivial⟩,j7 _⟩) rfl ?_
  rintro ⟨i,st,u,T,g,oo,oT,od,og,co,cT,cU,cg,ck,W⟩ ⟨hi,hI⟩ K hK hKe hKr
  obtain ⟨hba,hon,hco,lg,log,lcg,lck,lu,hd,ho,hW⟩:=hI
  simp only at hi hba hon hco lg log lcg lck lu hd ho hW
  dsimp only
  have hub:=hba.ub
  by_cases h:i < l.length
  case neg =>
    simp (config:=KF) (disch:=omega) only [bZ,bh,bJ,bd,lenI,aW,putS,Sf.set,Sf.reg,getR,setR,aa,ar,↓reduceIte,Nat.reduceEqDiff,reduceCtorEq,List.length_map,bK,f3_28e,f3_29e,f3_30e,f3_30l,f3_31e]
    refine hKe _ _ _ ?_
    simp (config:=KF) (disch:=omega) only [aP,↓reduceIte]
    exact hQ st
  obtain ⟨w,t,n,s,ha⟩:∃ w t n s,l[i] = (w,t,n,s):=⟨_,_,_,_,rfl⟩
  have e1:(l.map acAV).getD i .any = .agg [.lit (.int .i64 w),.lit (.int .i64 t),.lit (.int .i64 n),.lit (.bool s)]:=by
    have:(l.map acAV).getD i .any = acAV l[i]:=by simp [List.getD,h]
    rw [this,ha]; rfl
  simp (config:=KF) (disch:=omega) only [bZ,c8,af,bd,cw,bp,ixSV,am,boxX,bE,ixA,lenI,ae,aZ,aW,aB,aQ,aM,bg,putS,Sf.set,Sf.reg,getR,setR,aa,Sf.disAt,Sf.newLoc,Sf.setLoc,look,cm,bH,ar,aF,au,ap,ah,ao,cF,bF,kill_cptr,d6,bu,List.length_cons,List.length_nil,List.all_cons,List.all_nil,List.take_succ_cons,List.take_zero,List.set_cons_zero,List.set_cons_succ,Int.toNat_natCast,↓reduceIte,Nat.reduceEqDiff,Nat.reduceAdd,Nat.reduceLeDiff,Bool.true_and,Bool.and_true,and_true,true_and,reduceCtorEq,Nat.zero_add,decide_true,List.length_map,cn,bN,cK,aD,aq,f3_28e,f3_29e,f3_30e,f3_30l,f3_31e,f3_32e,f3_33e,f3_34e,f3_35e,f3_35l,e1]
  refine holds_a hba (by omega) (by omega) fun st1 g1 hba1 lg1 o1=>?_
  have hlu:=baDo_le (u:=u) (w.tmod 2,t,0,false) hba.few
  generalize (baDo p u T (w.tmod 2,t,0,false)).1.1 = u1 at *
  generalize (baDo p u T (w.tmod 2,t,0,false)).1.2 = T1 at *
  have hon1:=hon.fr (Fr.of o1 fun _ h=>h) d1
  have hco1:=hco.fr (Fr.of o1 fun _ h=>h) d2
  refine holds_c hon1 (by omega) hd fun st2 g2 hon2 hd2 lg2 o2=>?_
  generalize (onDo oo oT od (w.tmod 3,t,0,s)).1.1 = oo1 at *
  generalize (onDo oo oT od (w.tmod 3,t,0,s)).1.2.1 = oT1 at *
  generalize (onDo oo oT od (w.tmod 3,t,0,s)).1.2.2 = od1 at *
  have hba2:=hba1.fr (Fr.of o2 fun _ h=>h) (oe d1)
  have hco2:=hco1.fr (Fr.of o2 fun _ h=>h) d3
  refine holds_d hco2 (by omega) (by omega) ho hW ?_ fun st3 co1 cT1 cU1 W1 g3 k3 hco3 ho3 hW3 lg3 lk3 o3=>?_
  · simp (config:=KF) (disch:=omega) only [bZ,aP,al,cV,putS,Sf.set,Sf.reg,getR,setR,aa,Sf.disAt,↓reduceIte,Nat.reduceEqDiff,reduceCtorEq,IntWalk.i64_in,cL,f3_117e,f3_117l]
    exact hK ⟨i + 1,st2,u1,T1,g1,oo1,oT1,od1,g2,co,cT,cU,cg,ck,W⟩ _ ⟨h,⟨hba2,hon2,hco2,by simp only; omega,by simp only; omega,by simp only; omega,by simp only; omega,by simp only; omega,hd2,ho,hW⟩⟩ (by simp only; omega) (Sf.le_refl _)
  · have hba3:=hba2.fr (Fr.of o3 fun _ h=>h) (oe d2)
    have hon3:=hon2.fr (Fr.of o3 fun _ h=>h) (oe d3)
    simp (config:=KF) (disch:=omega) only [bZ,aA,al,cV,putS,Sf.set,Sf.reg,getR,setR,aa,Sf.disAt,↓reduceIte,Nat.reduceEqDiff,reduceCtorEq,IntWalk.i64_in,cL,f3_117e,f3_117l]
    exact hK ⟨i + 1,st3,u1,T1,g1,oo1,oT1,od1,g2,co1,cT1,cU1,g3,k3,W1⟩ _ ⟨h,⟨hba3,hon3,hco3,by simp only; omega,by simp only; omega,by simp only; omega,by simp only; omega,by simp only; omega,hd2,ho3,hW3⟩⟩ (by simp only; omega) (Sf.le_refl _)
end

theorem mq (p:Int) (l:List Ac):bf Go.Proofs.Try.prog n_f3 [.lit (.int .i64 p),.sl false 4 (l.map acAV)] ⟨[]⟩ (fun v _=>v = .lit (.bool true)):=by
  refine aV hmix k_f3 rfl rfl fun Q hQ=>?_
  unfold aFun c_f3
  have hkn:∀ st,bf Go.Proofs.Try.prog n_f10 [] st (fun r _=>r = .lit (.bool true)):=known39
  by_cases hp:p < 1∨64 < p
  · simp (config:=KF) (disch:=omega) only [bZ,ai,ev_f,putS,Sf.set,Sf.reg,getR,setR,aa,aS,id,ar,↓reduceIte,Nat.reduceEqDiff,reduceCtorEq,Nat.zero_add,f3_1e,f3_2e,f3_2l,f3_3e,f3_4e,f3_4l]
    refine aE rfl e_f9 (newba_err hp _) rfl ?_
    by_cases hl:60 < l.length
    · simp (config:=KF) (disch:=omega) only [bZ,aj,aU,AI.dst,aX,aK,bI,bd,al,ai,bj,extV,lenI,bQ,ev_f,putS,Sf.set,Sf.reg,getR,setR,aa,Sf.disAt,id,ar,aT,aJ,List.getElem?_cons_zero,List.getElem?_cons_succ,↓reduceIte,Nat.reduceEqDiff,reduceCtorEq,Bool.false_eq_true,List.length_map,cd,f3_5e,f3_6e,f3_7e,f3_7l,f3_8e,f3_9e,f3_10e,f3_10l]
      refine aY rfl e_f10 (hkn _) rfl fun r st1 hr=>?_
      subst hr
      simp (config:=KF) (disch:=omega) only [bZ,retI,al,putS,Sf.set,Sf.reg,getR,setR,aa,Sf.disAt,↓reduceIte,Nat.reduceEqDiff,Bool.true_and,true_and,reduceCtorEq]
      exact hQ _ _ rfl
    · by_cases hp1:p < 1
      · simp (config:=KF) (disch:=omega) only [bZ,aj,aU,AI.dst,aX,aw,aK,bI,bd,al,ai,bj,aG,extV,lenI,aW,bQ,ev_f,putS,Sf.set,Sf.reg,getR,setR,aa,Sf.disAt,id,ar,aT,aJ,List.getElem?_cons_zero,List.getElem?_cons_succ,↓reduceIte,Nat.reduceEqDiff,reduceCtorEq,Bool.false_eq_true,List.length_map,cd,a9,f3_5e,f3_6e,f3_7e,f3_7l,f3_8e,f3_9e,f3_10e,f3_10l]
        refine aY rfl e_f10 (hkn _) rfl fun r st1 hr=>?_
        subst hr
        simp (config:=KF) (disch:=omega) only [bZ,retI,al,putS,Sf.set,Sf.reg,getR,setR,aa,Sf.disAt,↓reduceIte,Nat.reduceEqDiff,Bool.true_and,true_and,reduceCtorEq]
        exact hQ _ _ rfl
      · have hp2:64 < p:=by omega
        simp (config:=KF) (disch:=omega) only [bZ,aj,AI.dst,aw,aK,bI,bd,al,ai,aG,extV,lenI,aW,bQ,ev_f,putS,Sf.set,Sf.reg,getR,setR,aa,Sf.disAt,id,ar,aT,aJ,List.getElem?_cons_zero,List.getElem?_cons_succ,↓reduceIte,Nat.reduceEqDiff,reduceCtorEq,Bool.false_eq_true,List.length_map,bN,a9,f3_5e,f3_6e,f3_7e,f3_7l,f3_8e,f3_9e,f3_10e,f3_10l]
        refine aY rfl e_f10 (hkn _) rfl fun r st1 hr=>?_
        subst hr
        simp (config:=KF) (disch:=omega) only [bZ,retI,al,putS,Sf.set,Sf.reg,getR,setR,aa,Sf.disAt,↓reduceIte,Nat.reduceEqDiff,Bool.true_and,true_and,reduceCtorEq]
        exact hQ _ _ rfl
  have hp0:1≤p∧p≤64:=by omega
  simp (config:=KF) (disch:=omega) only [bZ,ai,ev_f,putS,Sf.set,Sf.reg,getR,setR,aa,aS,id,ar,↓reduceIte,Nat.reduceEqDiff,reduceCtorEq,Nat.zero_add,f3_1e,f3_2e,f3_2l,f3_3e,f3_4e,f3_4l]
  refine aY rfl e_f9 (kJ hp0 _) rfl fun r st1 hr=>?_
  obtain ⟨b,x,rfl,h1,f1,g1⟩:=hr
  by_cases hl:60 < l.length
  · simp (config:=KF) (disch:=omega) only [bZ,aj,aU,AI.dst,aX,aK,bI,bd,al,ai,bj,extV,lenI,bQ,ev_f,putS,Sf.set,Sf.reg,getR,setR,aa,Sf.disAt,id,ar,aT,aJ,jG,List.getElem?_cons_zero,List.getElem?_cons_succ,↓reduceIte,Nat.reduceEqDiff,reduceCtorEq,Bool.false_eq_true,List.length_map,cd,f3_5e,f3_6e,f3_7e,f3_7l,f3_8e,f3_9e,f3_10e,f3_10l]
    refine aY rfl e_f10 (hkn _) rfl fun r st1 hr=>?_
    subst hr
    simp (config:=KF) (disch:=omega) only [bZ,retI,al,putS,Sf.set,Sf.reg,getR,setR,aa,Sf.disAt,↓reduceIte,Nat.reduceEqDiff,Bool.true_and,true_and,reduceCtorEq]
    exact hQ _ _ rfl
  simp (config:=KF) (disch:=omega) only [bZ,aj,AI.dst,aw,aK,bI,bd,al,ai,aG,extV,lenI,aW,bQ,ev_f,putS,Sf.set,Sf.reg,getR,setR,aa,Sf.disAt,id,ar,aT,aJ,jG,List.getElem?_cons_zero,List.getElem?_cons_succ,↓reduceIte,Nat.reduceEqDiff,reduceCtorEq,Bool.false_eq_true,List.length_map,bK,a9,f3_5e,f3_6e,f3_7e,f3_7l,f3_8e,f3_11e,f3_12e,f3_12l]
  refine aY rfl e_f11 (kL st1) rfl fun r st2 hr=>?_
  obtain ⟨ob,ox,rfl,h2,f2,g2⟩:=hr
  simp (config:=KF) (disch:=omega) only [bZ,ai,ev_f,putS,Sf.set,setR,id,↓reduceIte,Nat.reduceEqDiff,reduceCtorEq]
  refine aY rfl e_f12 (kP st2) rfl fun r st3 hr=>?_
  obtain ⟨cb,cx,cy,rfl,h3,f3,g3⟩:=hr
  simp (config:=KF) (disch:=omega) only [bZ,aj,AI.dst,aw,aK,al,aG,gL,eE,di,bW,putS,Sf.set,Sf.reg,getR,setR,aa,Sf.disAt,↓reduceIte,Nat.reduceEqDiff,reduceCtorEq,not_true_eq_false,decide_false,Bool.false_eq_true,f3_13e,f3_14e,f3_15e,f3_15l,f3_16e,f3_19e,f3_20e,f3_20l,f3_21e,f3_22e,f3_22l,f3_23e,f3_24e,f3_25e,f3_25l]
  have l1:=h1.lts
  have l2:=h2.lts
  have e2:=f2.1
  have h1':=h1.fr (f2.trans f3) (by simp)
  have h2':=h2.fr f3 (by simp)
  refine holds_loop (a0:=⟨0,st3,0,[],0,-1,[],false,0,-1,[],[],0,0,[]⟩) ⟨h1',h2',h3,by simp,by simp,by simp,by simp,by simp,by simp,by simp,by simp⟩ rfl rfl rfl rfl (by omega) (fS l1 g2) (fS l1 (ml g3 e2)) (fS l2 g3) _ fun st4=>?_
  simp (config:=KF) (disch:=omega) only [bZ,ai,ev_f,id,f3_118e,f3_119e,f3_119l]
  refine aY rfl e_f10 (hkn _) rfl fun r st5 hr=>?_
  subst hr
  simp (config:=KF) (disch:=omega) only [bZ,retI,al,putS,Sf.set,Sf.reg,getR,setR,aa,Sf.disAt,↓reduceIte,Nat.reduceEqDiff,Bool.true_and,true_and]
  exact hQ _ _ rfl
theorem ac_lit (l:List (Int×Int×Int×Bool×Unit)):AV.sl false 4 (l.map fun x=>.agg [.lit (.int .i64 x.1),.lit (.int .i64 x.2.1),.lit (.int .i64 x.2.2.1),.lit (.bool x.2.2.2.1)]) = .sl false 4 ((l.map fun x=>(x.1,x.2.1,x.2.2.1,x.2.2.2.1)).map acAV):=by
  simp only [List.map_map]; rfl
theorem mr {p:Int} {l:List (Int×Int×Int×Bool×Unit)}:bf Go.Proofs.Try.prog n_f3 [.lit (.int .i64 p),.sl false 4 (l.map fun x=>.agg [.lit (.int .i64 x.1),.lit (.int .i64 x.2.1),.lit (.int .i64 x.2.2.1),.lit (.bool x.2.2.2.1)])] ⟨[]⟩ (fun v _=>v = .lit (.bool true)):=by
  rw [ac_lit]
  exact mq p _
end Go.Fx.YtphaaebhgggbaaaFx

