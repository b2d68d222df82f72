/- What the functions that the statement reaches compute: part 6. -/
import Derived.Test.YtoiokbmgdcaaoaaFxW5
namespace Go.Fx.YtoiokbmgdcaaoaaFx
open Go Go.Fx
attribute [local irreducible] aC runI ap am

set_option maxRecDepth 100000
set_option maxHeartbeats 4000000

def bV (l:List UInt8):AV:=(rowG 1 (BB l)).dis
theorem bV_BV (l:List UInt8):BV (bV l) l:=by
 unfold bV rowG
 split
 ·rename_i h
  exact .inl ⟨rfl,List.eq_nil_of_length_eq_zero (by have:=congrArg List.length h; simpa [bN] using this)⟩
 ·exact .inr rfl
theorem jI {l:List UInt8} (h:l≠[]):BB l≠[]:=fun e=>h (List.eq_nil_of_length_eq_zero (by have:=congrArg List.length e; simpa [bN] using this))
theorem tm {st:St} {y:AV} {D:List UInt8} (hy:BV y D) (hl:D.length≤100000000) {K:AV→Prop} (hK:K (rowG 1 (BB D))):(bE st 1 1 (.lit (.slice none 0 0)) y).wp K:=by
 have hr:fM D.length 1 = true:=eE (by omega)
 rcases hy with ⟨rfl,rfl⟩ | rfl
 ·exact hK
 ·by_cases hd:D = []
  ·subst hd; exact hK
  ·rw [dk (jI hd)] at hK
   have he:(BB D).isEmpty = false:=by
    cases h:BB D with
    | nil=>exact absurd h (jI hd)
    | cons=>rfl
   unfold bE
   simp only [srcA,if_true,gy,he,Bool.false_eq_true,if_false,bN,hr,m9]
   exact ⟨rfl,hK⟩
theorem tn {st:St} {y:AV} {D O:List UInt8} (hy:BV y D) (hl:O.length + D.length≤100000000) {K:AV→Prop} (hK:K (.sl true 1 (BB (O++D)))):(cg st 1 1 (.sl true 1 (BB O)) y).wp K:=by
 have hr:fM (O.length + D.length) 1 = true:=eE (by omega)
 rw [← qh] at hK
 rcases hy with ⟨rfl,rfl⟩ | rfl
 ·rw [List.length_nil,Nat.add_zero] at hr
  unfold cg
  simp only [srcA,if_true,gy,bN,List.length_nil,Nat.add_zero,hr,List.map_nil]
  exact ⟨rfl,hK⟩
 ·unfold cg
  simp only [srcA,if_true,gy,bN,hr,m9]
  exact ⟨rfl,hK⟩
theorem join_pure (st:St) {v:AV} {L:List (List UInt8)} (hv:PV v L) (hl:L.length≤1000) (hs:(L.map List.length).sum≤100000) :
  aF Go.Proofs.Try.prog n_f48 [v] st (bV L.flatten):=by
 obtain ⟨v1,v2,v3,v4,v5,v6,v7,v8⟩:=hv.facts
 refine aV hmix k_f48 rfl rfl fun Q hQ=>?_
 unfold aFun c_f48
 simp (config:=KF) (disch:=omega) only [bZ,↓reduceIte,Nat.reduceEqDiff,reduceCtorEq,v1]
 rw [f48_9w]
 refine da (A:=Nat) (fun k=>L.length - k) (fun k=>⟨[(0,v),(3,rowG 1 (BB (L.take k).flatten)),(4,.lit (.int .i64 (k:Nat)))],[]⟩) (fun _=>st)
  (fun k=>k≤L.length) 0 (Nat.zero_le _) (Sf.le_refl _) rfl ?_
 rintro k h1 K hK hKe hKr
 try dsimp only
 obtain ⟨g1,g2,g3,g4⟩:=cU 1 (BB (L.take k).flatten)
 by_cases hk:k < L.length
 ·have hK:=hK (k + 1)
  have hfl:(L.take (k + 1)).flatten = (L.take k).flatten++L[k]:=by
   rw [List.take_succ_eq_append_getElem hk,List.flatten_append]; simp
  have hlen:(L.take (k + 1)).flatten.length≤100000:=by
   have h2:L.flatten = (L.take (k + 1)).flatten++(L.drop (k + 1)).flatten:=by rw [← List.flatten_append,List.take_append_drop]
   have h3:=congrArg List.length h2
   rw [List.length_append,List.length_flatten] at h3
   omega
  rw [hfl] at hK hlen
  rw [List.length_append] at hlen
  rcases hv with ⟨_,e⟩ | rfl
  ·rw [e] at hk; simp at hk
  have hgd:(L.map fun d=>AV.sl false 1 (BB d)).getD k .any = .sl false 1 (BB L[k]):=by simp [hk]
  have hll:(L.map fun d=>AV.sl false 1 (BB d)).length = L.length:=List.length_map ..
  generalize (L.take k).flatten = O at *
  by_cases ho:O = []
  ·subst ho
   rw [show rowG 1 (BB []) = .lit (.slice none 0 0) from rfl] at *
   simp (config:=KF) (disch:=omega) only [bZ,dJ,ixSV,ey,lenI,ag,bw,↓reduceIte,Nat.reduceEqDiff,reduceCtorEq,hgd,hll]
   refine tm (.inr rfl) (by omega) ?_
   rw [List.nil_append] at hK
   obtain ⟨r1,r2,r3,r4⟩:=cU 1 (BB L[k])
   simp (config:=KF) (disch:=omega) only [bZ,↓reduceIte,Nat.reduceEqDiff,reduceCtorEq]
   exact hK _ (by omega) (by omega) (Sf.le_refl _)
  ·rw [dk (jI ho)] at *
   simp (config:=KF) (disch:=omega) only [bZ,dJ,ixSV,ey,lenI,ag,bw,↓reduceIte,Nat.reduceEqDiff,reduceCtorEq,hgd,hll]
   refine tn (.inr rfl) (by omega) ?_
   rw [dk (jI (by simp [ho]))] at hK
   try simp (config:=KF) (disch:=omega) only [bZ,Nat.reduceBEq,Bool.or_false,Bool.false_or,Bool.or_true,Bool.true_or,ksB,aD,bz,bX,bj,bP,bk,fF,fG,oK,gR,lW,nstB,bY,bD,Option.getD_some,Option.getD_none,oL,m_nil,sJ,sK,m_val,sL,mm_mv,oN,sM,mm_un,oO,sN,lY,oP,sO,sP,lZ,l0,oQ,l3,oR,jh,oS,oT,sQ,sR,sS,sT,ji,oU,sU,mm_mn,sV,oM,sW,oV,oW,oX,sX,oY,s4,s5,l6,jk,o5,l8,l9,ma,o6,mc,o4,l7,gV,qQ,qR,mQ,m_new,m_nst,oZ,g_nil,mf,mg,mh,mi,g_val,g_mkv,s8,g_new,g_nst,o9,s9,g_box,ta,jl,mj,me,s6,o7,s7,o8,sY,sZ,l4,o3,l5,gp,fR,dM,cv,cG,dz,ef,dN,hh_un,jd,sB,lR,bR,fj,sC,lS,lT,bL,sD,lU,eg,je,oF,oG,sE,sF,sG,sH,jf,oH,eu,hh_mn,sI,gQ,oI,ge,oJ,dA,c9,eI,eh,bq,bB,cS,cE,aE,bg,jg,lV,dZ,lX,eH,i7,gL,i4,eM,fk,and_self,gS,jm,tf,az,aj,d8,gw,fA,bp,rW,fB,retI,resI,resL,AI.dst,kM,iN,rX,dy,lO,eO,o_un,pS,de,nI,o_ixA,nJ,nK,nL,fc,kP,rY,rZ,o_tas,rf,kQ,o_bar,el,pT,o_mn,o_app,iO,fW,dJ,mY,dn,sc,o_del,kR,o_upd,o_x,extV,jS,ixSV,jT,jU,jV,cK,pQ,gx,tasV,nz,pR,bslV,bstV,barV,fV,fC,ey,ar,al,lM,oq,i5,gI,om,oo,b_eql,b_neq,dV,cf,List.isEmpty_cons,List.isEmpty_nil,List.replicate_zero,List.reduceReplicate,appX,jA,clrX,kB,cutS,lenS,mksX,slAX,sliB,sl3,nN,ixTo,lenI,addA,e7,ag,bE,cg,srcA,eT,br,unA,bh,fZ,n_mul,pY,lL,f0,nM,iP,gA,od,og,oh,ol,sm,putN,aM,id,i8,gM,oC,i9,gO,dL,fE,lP,ja,nP,lf,lg,iQ,nQ,lh,si,nR,nS,li,sj,nT,lj,lk,lm,lq,fY,nU,nV,nW,lu,iR,lw,nO,la,lc,d9,iz,aY,jY,nX,nY,lx,ly,iS,nZ,lz,n0,n3,lA,lB,lC,iT,n4,lD,n5,n6,lE,iU,dX,iV,gC,gD,bw,iW,lF,lG,iX,fg,fD,iY,gE,iZ,i3,gF,n7,n8,lH,gH,n9,sk,cr,bd,m5,oa,lI,lJ,au,cw,ob,aT,oc,lK,List.getElem?_nil,List.getD_cons_succ,List.append_nil,List.nil_append,List.cons_append,Int.reduceToNat,Int.toNat_one,↓reduceIte,Nat.reduceEqDiff,Nat.reduceAdd,Nat.reduceSub,Nat.reduceMul,Nat.reduceLT,Nat.reduceLeDiff,Int.reduceLT,Int.reduceLE,Int.reduceEq,Int.reduceAdd,Int.reduceSub,Int.reduceMul,Int.reduceNeg,if_true,if_false,reduceCtorEq,Nat.sub_zero,eq_self,not_false_eq_true,not_true_eq_false,ite_true,ite_false,true_or,or_true,false_or,or_false,decide_false,ov,eF,List.take_length,List.length_map,bN,ea,ec,qh,m9,sy,jb,oD,sA,jc,gc,gP,oE,tc,td,te,pa,n_or8,eE,cT,d4,IntWalk.u64_in,IntWalk.u8_in,IntWalk.u16_in,IntWalk.u32_in,IntWalk.i32_in,n_quo,n_rem,IntWalk.i64_quo,IntWalk.rem_in,m7,ow,sv,oz,oA,ca,f9,ga,gb,fi,i6,cu,eG,Int.zero_add,Int.add_zero,if_pos,if_neg,List.length_append,List.length_replicate,f8,oB,gJ,Nat.mul_one]
   exact hK _ (by omega) (by omega) (Sf.le_refl _)
 ·have hkl:k = L.length:=by omega
  subst hkl
  rw [List.take_length] at *
  obtain ⟨d1,d2,d3⟩:=mq 1 (BB L.flatten)
  simp (config:=KF) (disch:=omega) only [bZ,az,bp,↓reduceIte,Nat.reduceEqDiff,reduceCtorEq,v1,v8]
  refine hKe _ _ _ ?_
  simp (config:=KF) (disch:=omega) only [bZ,aj,retI,↓reduceIte,Nat.reduceEqDiff,d1,d2]
  exact hQ _

noncomputable def wrE (f:FD) (y:Ex):List UInt8:=if y.c.kind = 6∧(y.c.f1 = f.1∧y.c.f2 = f.2) then (prt y.c.data.v).flatten.take (max 0 (min (((prt y.c.data.v).flatten.length:Nat):Int) y.x.n)).toNat else []
noncomputable def rdE (f:FD) (y:Ex):List UInt8:=if y.c.kind = 5∧(y.c.f1 = f.1∧y.c.f2 = f.2) then byt y.x.data.v else []
noncomputable def wrT (f:FD) (l:List Ev) (k:Nat):List UInt8:=(exsT l k).flatMap (wrE f)
noncomputable def rdT (f:FD) (l:List Ev) (k:Nat):List UInt8:=(exsT l k).flatMap (rdE f)
theorem wrE_len {f:FD} {y:Ex} (h:ExOk y):(wrE f y).length≤200:=by
 have h1:=h.1.sz
 unfold szC at h1
 unfold wrE
 split
 ·rw [List.length_take,List.length_flatten]; omega
 ·simp
theorem rdE_len {f:FD} {y:Ex} (h:ExOk y):(rdE f y).length≤200:=by
 have h1:=h.2.ln
 unfold lnE at h1
 unfold rdE
 split
 ·exact h1
 ·simp
theorem nf {g:Ex→List UInt8}:∀ {E:List Ex},(∀ y ∈ E,(g y).length≤200)→(E.flatMap g).length≤200 * E.length
 | [],_=>by simp
 | y :: E, h => by
   have:=nf (g:=g) (E:=E) fun x hx=>h x (by simp [hx])
   have h2:=h y (by simp)
   rw [List.flatMap_cons,List.length_append,List.length_cons]
   omega
theorem wrT_len {l:List Ev} (h:∀ e ∈ l,EvOk e) (f:FD) (k:Nat):(wrT f l k).length≤200 * k:=by
 have:=nf (g:=wrE f) (E:=exsT l k) fun y hy=>wrE_len (exs_ok h k y hy)
 have h2:=mr l k
 unfold wrT
 omega
theorem rdT_len {l:List Ev} (h:∀ e ∈ l,EvOk e) (f:FD) (k:Nat):(rdT f l k).length≤200 * k:=by
 have:=nf (g:=rdE f) (E:=exsT l k) fun y hy=>rdE_len (exs_ok h k y hy)
 have h2:=mr l k
 unfold rdT
 omega
theorem wr_pure (st:St) {l:List Ev} (hl:l.length≤10000) (hok:∀ e ∈ l,EvOk e) (f1 f2:Int) :
  aF Go.Proofs.Try.prog n_f32 [.sl false 30 (l.map evA),.agg [.lit (.int .i64 f1),.lit (.int .i64 f2)]] st (bV (wrT (f1,f2) l l.length)):=by
 have hll:(l.map evA).length = l.length:=List.length_map ..
 refine aV hmix k_f32 rfl rfl fun Q hQ=>?_
 unfold aFun c_f32
 simp (config:=KF) (disch:=omega) only [bZ,dn,↓reduceIte,Nat.reduceEqDiff,Nat.reduceAdd,reduceCtorEq]
 rw [f32_9w]
 refine da (A:=Nat) (fun k=>l.length - k) (fun k=>⟨[(0,.sl false 30 (l.map evA)),(3,.lptr 3 0),(5,rowG 1 (BB (wrT (f1,f2) l k))),(6,.lit (.int .i64 (k:Nat)))],[(3,[.lit (.int .i64 f1),.lit (.int .i64 f2)])]⟩) (fun _=>st)
  (fun k=>k≤l.length) 0 (Nat.zero_le _) (Sf.le_refl _) rfl ?_
 rintro k h1 K hK hKe hKr
 try dsimp only
 obtain ⟨g1,g2,g3,g4⟩:=cU 1 (BB (wrT (f1,f2) l k))
 by_cases hk:k < l.length
 ·have hgd:=fm hk
  rw [iD] at hgd
  have hend:=rr st hk hl
  have hco:=endC_ok (l:=l.take k) (fun e he=>hok e (List.mem_of_mem_take he)) l[k]
  have hK:=hK (k + 1)
  have hlen:=wrT_len hok (f1,f2) k
  have hsu:wrT (f1,f2) l (k + 1) = wrT (f1,f2) l k++if endB (l.take k) l[k] = true then wrE (f1,f2) ⟨k,endC (l.take k) l[k],l[k].en⟩ else []:=by
   unfold wrT
   rw [jn l hk,List.flatMap_append]
   congr 1
   split <;> simp
  rw [hsu] at hK
  generalize wrT (f1,f2) l k = O at *
  generalize l[k] = e at *
  generalize endC (l.take k) e = c at *
  have he1:=tj c.f1 c.f2 f1 f2
  unfold clA at hend
  rw [qi] at hend
  simp (config:=KF) (disch:=omega) only [bZ,lenI,id,↓reduceIte,Nat.reduceEqDiff,reduceCtorEq,hll]
  refine aK rfl e_f38 hend rfl ?_
  cases hb:endB (l.take k) e with
  | false =>
    rw [hb,if_neg (by simp),List.append_nil] at hK
    simp (config:=KF) (disch:=omega) only [bZ,AI.dst,de,extV,ar,aY,aT,↓reduceIte,Nat.reduceEqDiff,Nat.reduceAdd,Nat.reduceLeDiff,reduceCtorEq,g1,aU,aL]
    exact hK _ (by omega) (by omega) (Sf.le_refl _)
  | true =>
    rw [hb,if_pos rfl] at hK
    by_cases k6:c.kind = 6
    ·by_cases kf:c.f1 = f1∧c.f2 = f2
     ·have hwe:wrE (f1,f2) ⟨k,c,e.en⟩ = (prt c.data.v).flatten.take (max 0 (min (((prt c.data.v).flatten.length:Nat):Int) e.en.n)).toNat:=if_pos ⟨k6,kf⟩
      rw [hwe] at hK
      rw [decide_eq_true kf] at he1
      have hcs:=hco.sz
      unfold szC at hcs
      have hj:=join_pure st hco.p (by have:=hco.pl; omega) (by omega)
      obtain ⟨p1,p2,p3,p4,p5,p6,p7,p8⟩:=hco.p.facts
      have hjl:(prt c.data.v).flatten.length≤200:=by rw [List.length_flatten]; exact hcs
      generalize (prt c.data.v).flatten = J at *
      have hjv:=bV_BV J
      obtain ⟨j1,j2,j3,j4,j5,j6,j7,j8,j9⟩:=hjv.facts
      have hmn1:bh true (.lit (.int .i64 ((J.length:Nat):Int))) (.lit (.int .i64 e.en.n)) = .ok (.lit (.int .i64 (min ((J.length:Nat):Int) e.en.n))):=by
       have e:(if e.en.n < ((J.length:Nat):Int) then e.en.n else ((J.length:Nat):Int)) = min ((J.length:Nat):Int) e.en.n:=by split <;> omega
       simp only [bh,if_true,e]
      have hmn2:bh false (.lit (.int .i64 0)) (.lit (.int .i64 (min ((J.length:Nat):Int) e.en.n))) = .ok (.lit (.int .i64 (((max 0 (min ((J.length:Nat):Int) e.en.n)).toNat:Nat):Int))):=by
       have e:(if (0:Int) < (min ((J.length:Nat):Int) e.en.n) then (min ((J.length:Nat):Int) e.en.n) else 0) = (((max 0 (min ((J.length:Nat):Int) e.en.n)).toNat:Nat):Int):=by split <;> omega
       simp only [bh,if_true,Bool.false_eq_true,if_false,e]
      have hm:(max 0 (min ((J.length:Nat):Int) e.en.n)).toNat≤J.length:=by omega
      generalize (max 0 (min ((J.length:Nat):Int) e.en.n)).toNat = m at *
      generalize min ((J.length:Nat):Int) e.en.n = m2 at *
      have hD:(J.take m).length≤200:=by rw [List.length_take]; omega
      simp (config:=KF) (disch:=omega) only [bZ,AI.dst,de,extV,ar,addA,ag,id,aY,aT,↓reduceIte,Nat.reduceEqDiff,Nat.reduceAdd,Nat.reduceLeDiff,reduceCtorEq,g1,fv_dis,aU,aL,he1]
      refine aK (vs:=[c.data.v]) (by simp [p1]) e_f48 hj (by simp [p5]) ?_
      by_cases hJ:J = []
      ·subst hJ
       have hm0:m = 0:=by simpa using hm
       subst hm0
       rw [show bV [] = .lit (.slice none 0 0) from rfl] at *
       rw [List.take_nil,List.append_nil] at hK
       rw [show ((([]:List UInt8).length:Nat):Int) = 0 from rfl] at hmn1
       rw [show ((0:Nat):Int) = 0 from rfl] at hmn2
       by_cases ho:O = []
       ·subst ho
        rw [show rowG 1 (BB []) = .lit (.slice none 0 0) from rfl] at *
        simp (config:=KF) (disch:=omega) only [bZ,and_self,fc,o_mn,dJ,ixSV,cK,ey,ixTo,lenI,addA,ag,↓reduceIte,Nat.reduceEqDiff,Int.reduceLE,reduceCtorEq,hgd,hll,hmn1,hmn2]
        refine tm (.inl ⟨rfl,rfl⟩) (by simp) ?_
        rw [show rowG 1 (BB []) = .lit (.slice none 0 0) from rfl]
        try simp (config:=KF) (disch:=omega) only [bZ,↓reduceIte,Nat.reduceEqDiff,reduceCtorEq]
        exact hK _ (by omega) (by omega) (Sf.le_refl _)
       ·rw [dk (jI ho)] at *
        simp (config:=KF) (disch:=omega) only [bZ,and_self,fc,o_mn,dJ,ixSV,cK,ey,ixTo,lenI,addA,ag,↓reduceIte,Nat.reduceEqDiff,Int.reduceLE,reduceCtorEq,hgd,hll,hmn1,hmn2]
        refine tn (D:=[]) (.inl ⟨rfl,rfl⟩) (by simp; omega) ?_
        rw [List.append_nil]
        try simp (config:=KF) (disch:=omega) only [bZ,Nat.reduceBEq,Bool.or_false,Bool.false_or,Bool.or_true,Bool.true_or,ksB,aD,bz,bX,bj,bP,bk,fF,fG,oK,gR,lW,nstB,bY,bD,Option.getD_some,Option.getD_none,oL,m_nil,sJ,sK,m_val,sL,mm_mv,oN,sM,mm_un,oO,sN,lY,oP,sO,sP,lZ,l0,oQ,l3,oR,jh,oS,oT,sQ,sR,sS,sT,ji,oU,sU,mm_mn,sV,oM,sW,oV,oW,oX,sX,oY,s4,s5,l6,jk,o5,l8,l9,ma,o6,mc,o4,l7,gV,qQ,qR,mQ,m_new,m_nst,oZ,g_nil,mf,mg,mh,mi,g_val,g_mkv,s8,g_new,g_nst,o9,s9,g_box,ta,jl,mj,me,s6,o7,s7,o8,sY,sZ,l4,o3,l5,gp,fR,dM,cv,cG,dz,ef,dN,hh_un,jd,sB,lR,bR,fj,sC,lS,lT,bL,sD,lU,eg,je,oF,oG,sE,sF,sG,sH,jf,oH,eu,hh_mn,sI,gQ,oI,ge,oJ,dA,c9,eI,eh,bq,bB,cS,cE,aE,bg,jg,lV,dZ,lX,eH,i7,gL,i4,eM,fk,and_self,gS,jm,tf,az,aj,d8,gw,fA,bp,rW,fB,retI,resI,resL,AI.dst,kM,iN,rX,dy,lO,eO,o_un,pS,de,nI,o_ixA,nJ,nK,nL,fc,kP,rY,rZ,o_tas,rf,kQ,o_bar,el,pT,o_mn,o_app,iO,fW,dJ,mY,dn,sc,o_del,kR,o_upd,o_x,extV,jS,ixSV,jT,jU,jV,cK,pQ,gx,tasV,nz,pR,bslV,bstV,barV,fV,fC,ey,ar,al,lM,oq,i5,gI,om,oo,b_eql,b_neq,dV,cf,List.isEmpty_cons,List.isEmpty_nil,List.replicate_zero,List.reduceReplicate,appX,jA,clrX,kB,cutS,lenS,mksX,slAX,sliB,sl3,nN,ixTo,lenI,addA,e7,ag,bE,cg,srcA,eT,br,unA,bh,fZ,n_mul,pY,lL,f0,nM,iP,gA,od,og,oh,ol,sm,putN,aM,id,i8,gM,oC,i9,gO,dL,fE,lP,ja,nP,lf,lg,iQ,nQ,lh,si,nR,nS,li,sj,nT,lj,lk,lm,lq,fY,nU,nV,nW,lu,iR,lw,nO,la,lc,d9,iz,aY,jY,nX,nY,lx,ly,iS,nZ,lz,n0,n3,lA,lB,lC,iT,n4,lD,n5,n6,lE,iU,dX,iV,gC,gD,bw,iW,lF,lG,iX,fg,fD,iY,gE,iZ,i3,gF,n7,n8,lH,gH,n9,sk,cr,bd,m5,oa,lI,lJ,au,cw,ob,aT,oc,lK,List.getElem?_nil,List.getD_cons_succ,List.append_nil,List.nil_append,List.cons_append,Int.reduceToNat,Int.toNat_one,↓reduceIte,Nat.reduceEqDiff,Nat.reduceAdd,Nat.reduceSub,Nat.reduceMul,Nat.reduceLT,Nat.reduceLeDiff,Int.reduceLT,Int.reduceLE,Int.reduceEq,Int.reduceAdd,Int.reduceSub,Int.reduceMul,Int.reduceNeg,if_true,if_false,reduceCtorEq,Nat.sub_zero,eq_self,not_false_eq_true,not_true_eq_false,ite_true,ite_false,true_or,or_true,false_or,or_false,decide_false,ov,eF,List.take_length,List.length_map,bN,ea,ec,qh,m9,sy,jb,oD,sA,jc,gc,gP,oE,tc,td,te,pa,n_or8,eE,cT,d4,IntWalk.u64_in,IntWalk.u8_in,IntWalk.u16_in,IntWalk.u32_in,IntWalk.i32_in,n_quo,n_rem,IntWalk.i64_quo,IntWalk.rem_in,m7,ow,sv,oz,oA,ca,f9,ga,gb,fi,i6,cu,eG,Int.zero_add,Int.add_zero,if_pos,if_neg,List.length_append,List.length_replicate,f8,oB,gJ,Nat.mul_one]
        exact hK _ (by omega) (by omega) (Sf.le_refl _)
      ·have hjb:bV J = .sl false 1 (BB J):=by unfold bV; rw [dk (jI hJ)]; rfl
       rw [hjb] at *
       have hbl:=bN J
       by_cases ho:O = []
       ·subst ho
        rw [show rowG 1 (BB []) = .lit (.slice none 0 0) from rfl] at *
        simp (config:=KF) (disch:=omega) only [bZ,fc,o_mn,dJ,ixSV,cK,ey,ixTo,lenI,addA,ag,↓reduceIte,Nat.reduceEqDiff,reduceCtorEq,ea,ec,hgd,hll,hmn1,hmn2,hbl]
        refine tm (.inr rfl) (by omega) ?_
        rw [List.nil_append] at hK
        obtain ⟨r1,r2,r3,r4⟩:=cU 1 (BB (J.take m))
        simp (config:=KF) (disch:=omega) only [bZ,↓reduceIte,Nat.reduceEqDiff,reduceCtorEq]
        exact hK _ (by omega) (by omega) (Sf.le_refl _)
       ·rw [dk (jI ho)] at *
        simp (config:=KF) (disch:=omega) only [bZ,fc,o_mn,dJ,ixSV,cK,ey,ixTo,lenI,addA,ag,↓reduceIte,Nat.reduceEqDiff,reduceCtorEq,ea,ec,hgd,hll,hmn1,hmn2,hbl]
        refine tn (.inr rfl) (by omega) ?_
        rw [dk (jI (by simp [ho]))] at hK
        try simp (config:=KF) (disch:=omega) only [bZ,Nat.reduceBEq,Bool.or_false,Bool.false_or,Bool.or_true,Bool.true_or,ksB,aD,bz,bX,bj,bP,bk,fF,fG,oK,gR,lW,nstB,bY,bD,Option.getD_some,Option.getD_none,oL,m_nil,sJ,sK,m_val,sL,mm_mv,oN,sM,mm_un,oO,sN,lY,oP,sO,sP,lZ,l0,oQ,l3,oR,jh,oS,oT,sQ,sR,sS,sT,ji,oU,sU,mm_mn,sV,oM,sW,oV,oW,oX,sX,oY,s4,s5,l6,jk,o5,l8,l9,ma,o6,mc,o4,l7,gV,qQ,qR,mQ,m_new,m_nst,oZ,g_nil,mf,mg,mh,mi,g_val,g_mkv,s8,g_new,g_nst,o9,s9,g_box,ta,jl,mj,me,s6,o7,s7,o8,sY,sZ,l4,o3,l5,gp,fR,dM,cv,cG,dz,ef,dN,hh_un,jd,sB,lR,bR,fj,sC,lS,lT,bL,sD,lU,eg,je,oF,oG,sE,sF,sG,sH,jf,oH,eu,hh_mn,sI,gQ,oI,ge,oJ,dA,c9,eI,eh,bq,bB,cS,cE,aE,bg,jg,lV,dZ,lX,eH,i7,gL,i4,eM,fk,and_self,gS,jm,tf,az,aj,d8,gw,fA,bp,rW,fB,retI,resI,resL,AI.dst,kM,iN,rX,dy,lO,eO,o_un,pS,de,nI,o_ixA,nJ,nK,nL,fc,kP,rY,rZ,o_tas,rf,kQ,o_bar,el,pT,o_mn,o_app,iO,fW,dJ,mY,dn,sc,o_del,kR,o_upd,o_x,extV,jS,ixSV,jT,jU,jV,cK,pQ,gx,tasV,nz,pR,bslV,bstV,barV,fV,fC,ey,ar,al,lM,oq,i5,gI,om,oo,b_eql,b_neq,dV,cf,List.isEmpty_cons,List.isEmpty_nil,List.replicate_zero,List.reduceReplicate,appX,jA,clrX,kB,cutS,lenS,mksX,slAX,sliB,sl3,nN,ixTo,lenI,addA,e7,ag,bE,cg,srcA,eT,br,unA,bh,fZ,n_mul,pY,lL,f0,nM,iP,gA,od,og,oh,ol,sm,putN,aM,id,i8,gM,oC,i9,gO,dL,fE,lP,ja,nP,lf,lg,iQ,nQ,lh,si,nR,nS,li,sj,nT,lj,lk,lm,lq,fY,nU,nV,nW,lu,iR,lw,nO,la,lc,d9,iz,aY,jY,nX,nY,lx,ly,iS,nZ,lz,n0,n3,lA,lB,lC,iT,n4,lD,n5,n6,lE,iU,dX,iV,gC,gD,bw,iW,lF,lG,iX,fg,fD,iY,gE,iZ,i3,gF,n7,n8,lH,gH,n9,sk,cr,bd,m5,oa,lI,lJ,au,cw,ob,aT,oc,lK,List.getElem?_nil,List.getD_cons_succ,List.append_nil,List.nil_append,List.cons_append,Int.reduceToNat,Int.toNat_one,↓reduceIte,Nat.reduceEqDiff,Nat.reduceAdd,Nat.reduceSub,Nat.reduceMul,Nat.reduceLT,Nat.reduceLeDiff,Int.reduceLT,Int.reduceLE,Int.reduceEq,Int.reduceAdd,Int.reduceSub,Int.reduceMul,Int.reduceNeg,if_true,if_false,reduceCtorEq,Nat.sub_zero,eq_self,not_false_eq_true,not_true_eq_false,ite_true,ite_false,true_or,or_true,false_or,or_false,decide_false,ov,eF,List.take_length,List.length_map,bN,ea,ec,qh,m9,sy,jb,oD,sA,jc,gc,gP,oE,tc,td,te,pa,n_or8,eE,cT,d4,IntWalk.u64_in,IntWalk.u8_in,IntWalk.u16_in,IntWalk.u32_in,IntWalk.i32_in,n_quo,n_rem,IntWalk.i64_quo,IntWalk.rem_in,m7,ow,sv,oz,oA,ca,f9,ga,gb,fi,i6,cu,eG,Int.zero_add,Int.add_zero,if_pos,if_neg,List.length_append,List.length_replicate,f8,oB,gJ,Nat.mul_one]
        exact hK _ (by omega) (by omega) (Sf.le_refl _)
     ·have hwe:wrE (f1,f2) ⟨k,c,e.en⟩ = []:=if_neg fun q=>kf q.2
      rw [hwe,List.append_nil] at hK
      rw [decide_eq_false kf] at he1
      simp (config:=KF) (disch:=omega) only [bZ,AI.dst,de,extV,ar,addA,ag,aY,aT,↓reduceIte,Nat.reduceEqDiff,Nat.reduceAdd,Nat.reduceLeDiff,reduceCtorEq,g1,aU,aL,he1]
      exact hK _ (by omega) (by omega) (Sf.le_refl _)
    ·have hwe:wrE (f1,f2) ⟨k,c,e.en⟩ = []:=if_neg fun q=>k6 q.1
     rw [hwe,List.append_nil] at hK
     simp (config:=KF) (disch:=omega) only [bZ,AI.dst,de,extV,ar,addA,ag,aY,aT,↓reduceIte,Nat.reduceEqDiff,Nat.reduceAdd,Nat.reduceLeDiff,reduceCtorEq,g1,aU,aL]
     exact hK _ (by omega) (by omega) (Sf.le_refl _)
 ·have hkl:k = l.length:=by omega
  subst hkl
  obtain ⟨d1,d2,d3⟩:=mq 1 (BB (wrT (f1,f2) l l.length))
  simp (config:=KF) (disch:=omega) only [bZ,az,bp,lenI,↓reduceIte,Nat.reduceEqDiff,reduceCtorEq,hll]
  refine hKe _ _ _ ?_
  simp (config:=KF) (disch:=omega) only [bZ,aj,retI,↓reduceIte,Nat.reduceEqDiff,d1,d2]
  exact hQ _
theorem rd_pure (st:St) {l:List Ev} (hl:l.length≤10000) (hok:∀ e ∈ l,EvOk e) (f1 f2:Int) :
  aF Go.Proofs.Try.prog n_f33 [.sl false 30 (l.map evA),.agg [.lit (.int .i64 f1),.lit (.int .i64 f2)]] st (bV (rdT (f1,f2) l l.length)):=by
 have hll:(l.map evA).length = l.length:=List.length_map ..
 refine aV hmix k_f33 rfl rfl fun Q hQ=>?_
 unfold aFun c_f33
 simp (config:=KF) (disch:=omega) only [bZ,dn,↓reduceIte,Nat.reduceEqDiff,Nat.reduceAdd,reduceCtorEq]
 rw [f33_9w]
 refine da (A:=Nat) (fun k=>l.length - k) (fun k=>⟨[(0,.sl false 30 (l.map evA)),(3,.lptr 3 0),(5,rowG 1 (BB (rdT (f1,f2) l k))),(6,.lit (.int .i64 (k:Nat)))],[(3,[.lit (.int .i64 f1),.lit (.int .i64 f2)])]⟩) (fun _=>st)
  (fun k=>k≤l.length) 0 (Nat.zero_le _) (Sf.le_refl _) rfl ?_
 rintro k h1 K hK hKe hKr
 try dsimp only
 obtain ⟨g1,g2,g3,g4⟩:=cU 1 (BB (rdT (f1,f2) l k))
 by_cases hk:k < l.length
 ·have hgd:=fm hk
  rw [iD] at hgd
  have hend:=rr st hk hl
  have hen:=(hok l[k] (List.getElem_mem hk)).2
  have hK:=hK (k + 1)
  have hlen:=rdT_len hok (f1,f2) k
  have hsu:rdT (f1,f2) l (k + 1) = rdT (f1,f2) l k++if endB (l.take k) l[k] = true then rdE (f1,f2) ⟨k,endC (l.take k) l[k],l[k].en⟩ else []:=by
   unfold rdT
   rw [jn l hk,List.flatMap_append]
   congr 1
   split <;> simp
  rw [hsu] at hK
  generalize rdT (f1,f2) l k = O at *
  generalize l[k] = e at *
  generalize endC (l.take k) e = c at *
  have he1:=tj c.f1 c.f2 f1 f2
  unfold clA at hend
  rw [qi] at hend
  simp (config:=KF) (disch:=omega) only [bZ,lenI,id,↓reduceIte,Nat.reduceEqDiff,reduceCtorEq,hll]
  refine aK rfl e_f38 hend rfl ?_
  cases hb:endB (l.take k) e with
  | false =>
    rw [hb,if_neg (by simp),List.append_nil] at hK
    simp (config:=KF) (disch:=omega) only [bZ,AI.dst,de,extV,ar,aY,aT,↓reduceIte,Nat.reduceEqDiff,Nat.reduceAdd,Nat.reduceLeDiff,reduceCtorEq,g1,aU,aL]
    exact hK _ (by omega) (by omega) (Sf.le_refl _)
  | true =>
    rw [hb,if_pos rfl] at hK
    by_cases k6:c.kind = 5
    ·by_cases kf:c.f1 = f1∧c.f2 = f2
     ·have hwe:rdE (f1,f2) ⟨k,c,e.en⟩ = byt e.en.data.v:=if_pos ⟨k6,kf⟩
      rw [hwe] at hK
      rw [decide_eq_true kf] at he1
      have hln:=hen.ln
      unfold lnE at hln
      have hbv:=hen.b
      generalize byt e.en.data.v = D at *
      by_cases ho:O = []
      ·subst ho
       rw [show rowG 1 (BB []) = .lit (.slice none 0 0) from rfl] at *
       simp (config:=KF) (disch:=omega) only [bZ,AI.dst,de,dJ,extV,ixSV,ey,ar,addA,ag,aY,aT,↓reduceIte,Nat.reduceEqDiff,Nat.reduceAdd,Nat.reduceLeDiff,reduceCtorEq,hgd,hll,fv_dis,aU,aL,he1]
       refine tm hbv (by omega) ?_
       rw [List.nil_append] at hK
       obtain ⟨r1,r2,r3,r4⟩:=cU 1 (BB D)
       simp (config:=KF) (disch:=omega) only [bZ,↓reduceIte,Nat.reduceEqDiff,reduceCtorEq]
       exact hK _ (by omega) (by omega) (Sf.le_refl _)
      ·rw [dk (jI ho)] at *
       simp (config:=KF) (disch:=omega) only [bZ,AI.dst,de,dJ,extV,ixSV,ey,ar,addA,ag,aY,aT,↓reduceIte,Nat.reduceEqDiff,Nat.reduceAdd,Nat.reduceLeDiff,reduceCtorEq,hgd,hll,fv_dis,aU,aL,he1]
       refine tn hbv (by omega) ?_
       rw [dk (jI (by simp [ho]))] at hK
       try simp (config:=KF) (disch:=omega) only [bZ,Nat.reduceBEq,Bool.or_false,Bool.false_or,Bool.or_true,Bool.true_or,ksB,aD,bz,bX,bj,bP,bk,fF,fG,oK,gR,lW,nstB,bY,bD,Option.getD_some,Option.getD_none,oL,m_nil,sJ,sK,m_val,sL,mm_mv,oN,sM,mm_un,oO,sN,lY,oP,sO,sP,lZ,l0,oQ,l3,oR,jh,oS,oT,sQ,sR,sS,sT,ji,oU,sU,mm_mn,sV,oM,sW,oV,oW,oX,sX,oY,s4,s5,l6,jk,o5,l8,l9,ma,o6,mc,o4,l7,gV,qQ,qR,mQ,m_new,m_nst,oZ,g_nil,mf,mg,mh,mi,g_val,g_mkv,s8,g_new,g_nst,o9,s9,g_box,ta,jl,mj,me,s6,o7,s7,o8,sY,sZ,l4,o3,l5,gp,fR,dM,cv,cG,dz,ef,dN,hh_un,jd,sB,lR,bR,fj,sC,lS,lT,bL,sD,lU,eg,je,oF,oG,sE,sF,sG,sH,jf,oH,eu,hh_mn,sI,gQ,oI,ge,oJ,dA,c9,eI,eh,bq,bB,cS,cE,aE,bg,jg,lV,dZ,lX,eH,i7,gL,i4,eM,fk,and_self,gS,jm,tf,az,aj,d8,gw,fA,bp,rW,fB,retI,resI,resL,AI.dst,kM,iN,rX,dy,lO,eO,o_un,pS,de,nI,o_ixA,nJ,nK,nL,fc,kP,rY,rZ,o_tas,rf,kQ,o_bar,el,pT,o_mn,o_app,iO,fW,dJ,mY,dn,sc,o_del,kR,o_upd,o_x,extV,jS,ixSV,jT,jU,jV,cK,pQ,gx,tasV,nz,pR,bslV,bstV,barV,fV,fC,ey,ar,al,lM,oq,i5,gI,om,oo,b_eql,b_neq,dV,cf,List.isEmpty_cons,List.isEmpty_nil,List.replicate_zero,List.reduceReplicate,appX,jA,clrX,kB,cutS,lenS,mksX,slAX,sliB,sl3,nN,ixTo,lenI,addA,e7,ag,bE,cg,srcA,eT,br,unA,bh,fZ,n_mul,pY,lL,f0,nM,iP,gA,od,og,oh,ol,sm,putN,aM,id,i8,gM,oC,i9,gO,dL,fE,lP,ja,nP,lf,lg,iQ,nQ,lh,si,nR,nS,li,sj,nT,lj,lk,lm,lq,fY,nU,nV,nW,lu,iR,lw,nO,la,lc,d9,iz,aY,jY,nX,nY,lx,ly,iS,nZ,lz,n0,n3,lA,lB,lC,iT,n4,lD,n5,n6,lE,iU,dX,iV,gC,gD,bw,iW,lF,lG,iX,fg,fD,iY,gE,iZ,i3,gF,n7,n8,lH,gH,n9,sk,cr,bd,m5,oa,lI,lJ,au,cw,ob,aT,oc,lK,List.getElem?_nil,List.getD_cons_succ,List.append_nil,List.nil_append,List.cons_append,Int.reduceToNat,Int.toNat_one,↓reduceIte,Nat.reduceEqDiff,Nat.reduceAdd,Nat.reduceSub,Nat.reduceMul,Nat.reduceLT,Nat.reduceLeDiff,Int.reduceLT,Int.reduceLE,Int.reduceEq,Int.reduceAdd,Int.reduceSub,Int.reduceMul,Int.reduceNeg,if_true,if_false,reduceCtorEq,Nat.sub_zero,eq_self,not_false_eq_true,not_true_eq_false,ite_true,ite_false,true_or,or_true,false_or,or_false,decide_false,ov,eF,List.take_length,List.length_map,bN,ea,ec,qh,m9,sy,jb,oD,sA,jc,gc,gP,oE,tc,td,te,pa,n_or8,eE,cT,d4,IntWalk.u64_in,IntWalk.u8_in,IntWalk.u16_in,IntWalk.u32_in,IntWalk.i32_in,n_quo,n_rem,IntWalk.i64_quo,IntWalk.rem_in,m7,ow,sv,oz,oA,ca,f9,ga,gb,fi,i6,cu,eG,Int.zero_add,Int.add_zero,if_pos,if_neg,List.length_append,List.length_replicate,f8,oB,gJ,Nat.mul_one]
       exact hK _ (by omega) (by omega) (Sf.le_refl _)
     ·have hwe:rdE (f1,f2) ⟨k,c,e.en⟩ = []:=if_neg fun q=>kf q.2
      rw [hwe,List.append_nil] at hK
      rw [decide_eq_false kf] at he1
      simp (config:=KF) (disch:=omega) only [bZ,AI.dst,de,extV,ar,addA,ag,aY,aT,↓reduceIte,Nat.reduceEqDiff,Nat.reduceAdd,Nat.reduceLeDiff,reduceCtorEq,g1,aU,aL,he1]
      exact hK _ (by omega) (by omega) (Sf.le_refl _)
    ·have hwe:rdE (f1,f2) ⟨k,c,e.en⟩ = []:=if_neg fun q=>k6 q.1
     rw [hwe,List.append_nil] at hK
     simp (config:=KF) (disch:=omega) only [bZ,AI.dst,de,extV,ar,addA,ag,aY,aT,↓reduceIte,Nat.reduceEqDiff,Nat.reduceAdd,Nat.reduceLeDiff,reduceCtorEq,g1,aU,aL]
     exact hK _ (by omega) (by omega) (Sf.le_refl _)
 ·have hkl:k = l.length:=by omega
  subst hkl
  obtain ⟨d1,d2,d3⟩:=mq 1 (BB (rdT (f1,f2) l l.length))
  simp (config:=KF) (disch:=omega) only [bZ,az,bp,lenI,↓reduceIte,Nat.reduceEqDiff,reduceCtorEq,hll]
  refine hKe _ _ _ ?_
  simp (config:=KF) (disch:=omega) only [bZ,aj,retI,↓reduceIte,Nat.reduceEqDiff,d1,d2]
  exact hQ _
end Go.Fx.YtoiokbmgdcaaoaaFx

