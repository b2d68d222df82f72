/- What the functions that the statement reaches compute: part 22. -/
import Derived.Test.YtohlpjfhkejjgaaFxW21
namespace Go.Fx.YtohlpjfhkejjgaaFx
open Go Go.Fx
attribute [local irreducible] aC runI aY cF

set_option maxRecDepth 100000
set_option maxHeartbeats 8000000

/-- A call that changes nothing, behind one that does. -/
theorem call_1 {P:Program} {ρ:St} {q:FuncId} {fs cs args vs:List AV} {d:Option Nat} {sf:Sf} {C:PK→Sf→Prop} {v:AV} (hvs:fs++args.map AV.dis++cs = vs) (hent:aS P q = true) (h:∀ s,St.sub ρ s→bF P q vs s v) (hn:args.all AV.noL = true) (hK:valM C d sf v):kr P ρ d (.fn (.func q) fs cs) args C sf:=by
  subst hvs
  exact ⟨hn,hent,v,h,hK⟩

/-- The channel after all calls. -/
def pAll (P:ChP):List Ca→ChP
  | []=>P
  | a::l=>pAll (pDo P a).1 l
theorem pAll_snoc (P:ChP) (l:List Ca) (a:Ca):pAll P (l++[a]) = (pDo (pAll P l) a).1:=by
  induction l generalizing P with
  | nil=>rfl
  | cons b l ih=>exact ih _
theorem pAll_take {P:ChP} {l:List Ca} {i:Nat} (h:i < l.length):pAll P (l.take (i + 1)) = (pDo (pAll P (l.take i)) l[i]).1:=by
  rw [List.take_succ_eq_append_getElem h,pAll_snoc]

theorem nZ (P:ChP):(bu P).cells = [.lit (.int .i64 (P.cap:Nat)),.sl false 1 (ints P.buf),wlAV P.S,wlAV P.V,.lit (.bool P.closed)]:=rfl

section
variable {c q0 m0 q1 m1 wid:Nat}

theorem plays_loop {st0:St} {P0:ChP} {bv0:AV} {n0:Nat} {ps:List AV} (h0:ChIs st0 c P0 q0 m0 q1 m1 wid bv0) (hb0:Bd P0 n0) (l:List Ca) (hl:l.length≤100) (hn0:n0≤1000) (Q:Exit→Sf→St→Prop)
    (hQ:∀ st,cV st0 c (pAll P0 l) q0 m0 q1 m1 wid bv0 st→Q (.exit 0) ⟨[(4,.lptr 4 0),(6,.lptr 6 0)],[(4,(bu (pAll P0 l)).cells),(6,ps)]⟩ st) :
    aC Go.Proofs.Try.prog id false f16_7 ⟨[(0,.ptr c 0),(2,fa l),(4,.lptr 4 0),(6,.lptr 6 0),(8,.lit (.int .i64 0))],[(4,(bu P0).cells),(6,ps)]⟩ st0 Q:=by
  rw [f16_7w]
  refine gM (A:=Nat×ChP×St) (fun a=>l.length - a.1) (fun a=>⟨[(0,.ptr c 0),(2,fa l),(4,.lptr 4 0),(6,.lptr 6 0),(8,.lit (.int .i64 (a.1:Nat)))],[(4,(bu a.2.1).cells),(6,ps)]⟩) (fun a=>a.2.2)
    (fun a=>a.1≤l.length∧a.2.1 = pAll P0 (l.take a.1)∧cV st0 c a.2.1 q0 m0 q1 m1 wid bv0 a.2.2∧Bd a.2.1 (n0 + a.1)) (0,P0,st0) ⟨by simp,by simp [pAll],h0.post (.refl _ _),hb0⟩ (Sf.le_refl _) rfl ?_
  rintro ⟨i,P,st⟩ ⟨h1,h2,h3p,h4⟩ K hK hKe hKr
  simp only at h1 h2 h3p h4
  have h3q:=h3p
  obtain ⟨bv,h3,hk3,hf3⟩:=h3q
  by_cases hi:i < l.length
  · obtain ⟨a,ha⟩:∃ a,a = l[i]:=⟨_,rfl⟩
    have e1:(l.map caAV).getD i .any = caAV a:=by simp [List.getD,hi,← ha]
    have hb:=fR h4 a
    have hP':(pDo P a).1 = pAll P0 (l.take (i + 1)):=by rw [pAll_take hi,← h2,ha]
    have hm:=fun st=>makes_pure P a (by unfold Bd at h4; unfold Sm; omega) h3.nd (fun t ht=>(h3.rng t ht).1) st
    have hd:=nX h3 a (n:=n0 + i) ⟨h4,by omega⟩
    have heq:∀ st,bF Go.Proofs.Try.prog n_f23 [rsAV (pDo P a).2,rsAV (pDo P a).2] st (.lit (.bool true)):=fun st=>by have:=la (pDo P a).2 (pDo P a).2 (by omega) (by omega) st; simpa using this
    generalize pDo P a = R at *
    obtain ⟨P',xv,xd,xe,xr⟩:=R
    obtain ⟨w,t,v⟩:=a
    simp only [rrAV,caAV] at hm hd heq hP' e1
    have hnx:∀ st',cV st c P' q0 m0 q1 m1 wid bv st'→K .normal ⟨[(0,.ptr c 0),(2,fa l),(4,.lptr 4 0),(6,.lptr 6 0),(8,.lit (.int .i64 ((i + 1:Nat))))],[(4,(bu P').cells),(6,ps)]⟩ st':=fun st' g =>
      hK (i + 1,P',st') _ ⟨by simp only; omega,hP',g.trans hk3 hf3,by simp only; rw [← Nat.add_assoc]; exact hb.1⟩ (by simp only; omega) (Sf.le_refl _)
    simp only [nZ] at hnx ⊢
    obtain ⟨w1,w2,w3,w4,w5,w6,w7⟩:=bE xe
    simp only [rsAV,bu,wlAV] at hm hd heq hnx
    simp (config:=KF) (disch:=omega) only [bZ,List.contains_nil,List.contains_cons,Nat.reduceBEq,Bool.or_false,cd,cX,oG,cc,gL,bp,cM,ixSV,au,ixA,lenI,ak,al,cI,am,aG,ev_f,putS,Sf.set,Sf.reg,getR,setR,ae,look,bk,id,aW,ao,aj,aL,ag,List.length_cons,List.length_nil,List.drop_zero,List.take_succ_cons,List.take_zero,Int.toNat_natCast,↓reduceIte,Nat.reduceEqDiff,Nat.reduceAdd,Nat.reduceLeDiff,reduceCtorEq,Nat.zero_add,or_false,decide_true,Bool.false_eq_true,List.length_map,du,cN,eA,f16_8e,f16_9e,f16_10e,f16_10l,f16_11e,f16_12e,f16_13e,f16_14e,f16_15e,f16_15h,f16_15l,fa,e1,wlAV]
    refine jh rfl e_f31 (hm _) rfl ?_
    simp (config:=KF) (disch:=omega) only [bZ,List.contains_nil,List.contains_cons,Nat.reduceBEq,Bool.or_false,Bool.or_true,ksB,bz,bY,ci,bG,cO,cu,headNst_eq,cons_nst,nstB,ck,cS,Option.getD_some,Option.getD_none,nst_beq,da,cd,cX,hh_ext,jR,gz,e6,bp,eX,io,aF,extV,boxX,aM,ap,aE,putS,Sf.set,Sf.reg,getR,setR,ae,Sf.disAt,Sf.newLoc,Sf.setLoc,look,bW,aR,ao,bg,aj,aL,c6,ag,aa,aB,ai,ij,bD,cn,bO,nO,df,aX,c7,List.length_cons,List.length_nil,List.getElem?_cons_zero,List.getElem?_cons_succ,List.all_cons,List.all_nil,List.nil_append,List.cons_append,List.set_cons_zero,List.set_cons_succ,↓reduceIte,Nat.reduceEqDiff,Nat.reduceAdd,Nat.reduceLeDiff,Bool.true_and,Bool.and_true,and_true,true_and,reduceCtorEq,Nat.zero_add,or_true,or_false,Bool.not_false,ah,af,f16_16e,f16_17e,f16_18e,f16_18h,f16_18p,f16_18l,w2,w4]
    refine draw_m ⟨[]⟩ (St.sub_nil _) ?_
    simp (config:=KF) (disch:=omega) only [bZ,List.contains_nil,k7,ip,k8,mw,mm_ixS,eC,oK,hZ,nt,nu,kq,ixSV,au,ixA,ak,al,am,aG,ev_f,putS,Sf.set,Sf.reg,getR,setR,bk,id,aW,ao,aj,ag,List.length_cons,List.length_nil,List.append_nil,List.nil_append,List.cons_append,List.take_succ_cons,List.take_zero,Int.toNat_natCast,↓reduceIte,Nat.reduceEqDiff,Nat.reduceAdd,Nat.reduceLeDiff,reduceCtorEq,Nat.zero_add,decide_true,Bool.false_eq_true,List.length_map,du,eA,e1]
    refine oM rfl e_f11 hd rfl ?_
    simp (config:=KF) (disch:=omega) only [bZ,List.contains_nil,ksB,bz,bY,ci,bG,nstB,ck,eC,oI,hm_hole,oJ,hm_val,jU,AI.dst,au,ak,al,am,aG,putS,Sf.set,Sf.reg,getR,setR,look,ao,aj,List.length_cons,List.length_nil,List.all_nil,List.nil_append,List.cons_append,List.drop_zero,List.take_succ_cons,List.take_zero,↓reduceIte,Nat.reduceEqDiff,Nat.reduceAdd,Nat.reduceLeDiff,Bool.true_and,Bool.and_true,and_true,true_and,reduceCtorEq,Nat.zero_add,decide_true,Bool.not_false,w2]
    rintro r st1 ⟨rfl,g1⟩
    refine ⟨St.sub_nil _,?_⟩
    simp (config:=KF) (disch:=omega) only [bZ,ip,k8,eC,mm_call,au,ak,al,am,aG,ev_f,putS,Sf.set,Sf.reg,getR,setR,look,id,ao,aj,List.length_cons,List.length_nil,List.nil_append,List.drop_zero,List.take_succ_cons,List.take_zero,↓reduceIte,Nat.reduceEqDiff,Nat.reduceAdd,Nat.reduceLeDiff,reduceCtorEq,Nat.zero_add,decide_true,w2]
    refine call_1 (by simp only [List.map_cons,List.map_nil,List.nil_append,List.append_nil,ao,aj,w1,w2,w3,w4,w5,w6,w7]) e_f23 (fun s _=>heq s) rfl ?_
    have g1':=g1
    obtain ⟨bv1,g2,g3,g4⟩:=g1'
    have hs:=iI g2
    simp only [bu,wlAV] at hs
    have hfin:=hnx st1 g1
    simp (config:=KF) (disch:=omega) only [bZ,List.contains_nil,ksB,bz,bY,ci,bG,cO,cu,nstB,ck,k7,ip,m_some,k8,mw,mm_un,eC,jT,iG,compM_t,oL,jV,lA,guardH_ff,and_self,aw,AI.dst,a9,az,au,ak,al,unA,am,aG,ev_f,putS,Sf.set,Sf.reg,getR,setR,look,id,ao,aj,aL,List.length_cons,List.length_nil,List.all_nil,List.nil_append,List.cons_append,List.drop_zero,List.take_succ_cons,List.take_zero,↓reduceIte,Nat.reduceEqDiff,Nat.reduceAdd,Nat.reduceLeDiff,Bool.true_and,Bool.and_true,and_true,true_and,reduceCtorEq,Nat.zero_add,decide_true,Bool.not_true,Bool.not_false,Bool.false_eq_true]
    refine bA rfl e_f15 hs rfl ?_
    simp (config:=KF) (disch:=omega) only [bZ,aV,aw,AI.dst,a9,a7,o_un,aq,aA,aF,bN,au,boxX,aM,ak,al,unA,eI,am,aG,ap,aE,putS,Sf.set,Sf.reg,getR,setR,ae,Sf.disAt,Sf.setLoc,look,aR,ao,aj,aL,ag,aa,aB,ai,List.length_cons,List.length_nil,List.all_cons,List.all_nil,List.drop_zero,List.take_succ_cons,List.take_zero,List.set_cons_zero,List.set_cons_succ,↓reduceIte,Nat.reduceEqDiff,Nat.reduceAdd,Nat.reduceLeDiff,Bool.true_and,Bool.and_true,and_true,true_and,reduceCtorEq,Nat.zero_add,decide_true,Bool.not_true,Bool.false_eq_true,IntWalk.i64_in,dV,ah,af,f16_19e,f16_22e,f16_22l,f16_23e,f16_23l]
    exact hfin
  · have hfin:K (.exit 0) ⟨[(4,.lptr 4 0),(6,.lptr 6 0)],[(4,(bu P).cells),(6,ps)]⟩ st:=by
      refine hKe _ _ _ ?_
      have:i = l.length:=by omega
      subst this
      rw [h2,List.take_length] at h3p ⊢
      exact hQ _ h3p
    simp (config:=KF) (disch:=omega) only [bZ,el,fY,cM,lenI,cI,putS,Sf.set,Sf.reg,getR,setR,ae,look,aW,↓reduceIte,Nat.reduceEqDiff,reduceCtorEq,List.length_map,cB,f16_8e,f16_9e,f16_10e,f16_10l,f16_11e,fa]
    exact hfin
end
end Go.Fx.YtohlpjfhkejjgaaFx

