/- What the functions that the statement reaches compute: part 4. -/
import Derived.Test.YtgmeefljgbaanaaFxW3
namespace Go.Fx.YtgmeefljgbaanaaFx
open Go Go.Fx
attribute [local irreducible] aC runI aG aH

set_option maxRecDepth 100000
set_option maxHeartbeats 4000000

structure Sk where
 num:Nat
 nm:ByteArray
 port:Int
 pks:Nat
 byt:Nat
 pol:Int
 life:Nat
 q:List Pk
 dr:Nat
 old:Nat
def used:List Pk→Nat
 | []=>0
 |p::r=>p.data.length+used r
theorem iQ:∀a b,used (a++b)=used a+used b
 | [],b=>by simp[used]
 |p::r,b=>by simp only[List.cons_append,used,iQ r b];omega
def ig(S:Sk)(n:Nat)(q:List Pk):Prop:=q.length<S.pks∧used q+n≤S.byt
instance (S:Sk) (n:Nat) (q:List Pk):Decidable (ig S n q):=by unfold ig;infer_instance
def cutQ(S:Sk)(n:Nat):List Pk→Nat→List Pk×Nat
 | [],k=>([],k)
 |p::r,k=>if ig S n (p::r)then(p::r,k)else cutQ S n r (k+1)
def getS(p:Pk)(S:Sk):Sk :=
 if S.byt<p.data.length then {S with dr:=S.dr+1}
 else if ig S p.data.length S.q then {S with q:=S.q++[p]}
 else if S.pol=2 then {S with dr:=S.dr+1}
 else {S with q:=(cutQ S p.data.length S.q S.dr).1++[p],dr:=(cutQ S p.data.length S.q S.dr).2}

structure SkIs (st:St) (s w m g:Nat) (qv:AV) (L:Qu) (S:Sk):Prop where
 get:st.get s=some [.lit (.string S.nm),.lit (.int .i64 S.port),.lit (.int .i64 (S.pks:Nat)),.lit (.int .i64 (S.byt:Nat)),.lit (.int .i64 S.pol),.lit (.int .u64 (S.life:Nat)),qv,.lit (.int .i64 (used S.q:Nat)),.lit (.int .i64 (S.dr:Nat)),.lit (.int .i64 (S.old:Nat)),.ptr w 0]
 qb:PB qv st S.q
 wq:QIs st w m L g
 b1:1≤S.pks∧S.pks≤256
 b2:S.byt≤65536
 b3:used S.q≤S.byt∧S.q.length≤S.pks
 ne:s≠w∧s≠m∧s ∉ ah qv∧w ∉ ah qv∧m ∉ ah qv
section
variable {st st':St} {s w m g:Nat} {qv:AV} {L:Qu} {S:Sk}
theorem SkIs.at(h:SkIs st s w m g qv L S)(hb:∀x∈ [s,w,m]++ah qv,st'.boxes[x]?=st.boxes[x]?):SkIs st' s w m g qv L S :=
 ⟨(bJ (hb s (by simp))).trans h.get,h.qb.at fun x hx=>hb x (by simp[hx]),h.wq.at (hb w (by simp)) (hb m (by simp)),h.b1,h.b2,h.b3,h.ne⟩
theorem SkIs.lts(h:SkIs st s w m g qv L S):∀x∈ [s,w,m]++ah qv,x<st.boxes.length:=by
 intro x hx
 simp only[List.cons_append,List.nil_append,List.mem_cons]at hx
 rcases hx with rfl|rfl|rfl|hx
 ·exact bI h.get
 ·exact h.wq.ltq
 ·exact h.wq.ltm
 ·exact h.qb.lt x hx
theorem SkIs.requeue{st1:St}{qv1:AV}{q:List Pk}{dr old:Nat}(h:SkIs st s w m g qv L S)(hq:PB qv1 st1 q)(hk:Kp st st1 (ah qv))(hb:∀x∈ah qv1,x∈ah qv∨st.boxes.length≤x)(hu:used q≤S.byt∧q.length≤S.pks) :
  SkIs (st1.set s [.lit (.string S.nm),.lit (.int .i64 S.port),.lit (.int .i64 (S.pks:Nat)),.lit (.int .i64 (S.byt:Nat)),.lit (.int .i64 S.pol),.lit (.int .u64 (S.life:Nat)),qv1,.lit (.int .i64 (used q:Nat)),.lit (.int .i64 (dr:Nat)),.lit (.int .i64 (old:Nat)),.ptr w 0]) s w m g qv1 L {S with q:=q,dr:=dr,old:=old}:=by
 have hl:=h.lts
 have hs:s<st.boxes.length:=hl s (by simp)
 have hw:w<st.boxes.length:=hl w (by simp)
 have hm:m<st.boxes.length:=hl m (by simp)
 obtain⟨n1,n2,n3,n4,n5⟩:=h.ne
 have hns:∀y,y<st.boxes.length→y ∉ ah qv→y ∉ ah qv1:=fun y h1 h2 h3=>by
  rcases hb y h3 with h4|h4
  ·exact h2 h4
  ·omega
 have hs1:s<st1.boxes.length:=Nat.lt_of_lt_of_le hs hk.1
 refine⟨aY hs1,hq.at fun x hx=>cO fun e=>hns s hs n3 (e▸ hx),?_,h.b1,h.b2,hu,n1,n2,hns s hs n3,hns w hw n4,hns m hm n5⟩
 exact(h.wq.at (hk.2 w hw n4) (hk.2 m hm n5)).at (cO (Ne.symm n1)) (cO (Ne.symm n2))

theorem gX(h:SkIs st s w m g qv L S){p:Pk}{ps:List Pk}(hp:S.q=p::ps) :
  aF Go.Proofs.Try.prog n_f50 [.ptr s 0] st (fun v st'=>v=pkAV p∧(∃qv',SkIs st' s w m g qv' L {S with q:=ps}∧ah qv'=ah qv)∧Kp st st' (s::ah qv)):=by
 have hg:=h.get
 have hq:=h.qb
 rw[hp]at hq hg
 obtain⟨v1,v2,v3,v4,v5,v6,v7,v8⟩:=hq.facts
 obtain⟨n1,n2,n3,n4,n5⟩:=h.ne
 have hb2:=h.b2
 have hb3:=h.b3
 have hb1:=h.b1
 rw[hp]at hb3
 simp only[used,List.length_cons]at hb3
 have hs0:=h.lts s (by simp)
 refine aK hmix k_f50 rfl rfl fun Q hQ=>?_
 unfold aFun c_f50
 obtain⟨bi,cap,r0,rfl,hgb,hc1,hc2⟩:∃bi cap r,qv= .bs bi 4 0 (ps.length+1) cap∧st.get bi=some (pcs (p::ps)++r)∧ps.length+1≤cap∧cap*4≤(pcs (p::ps)++r).length:=by
  rcases hq with⟨_,e⟩|hq
  ·cases e
  ·exact hq
 simp only[pcs,List.cons_append]at hgb
 simp(config:=KF) (disch:=omega)only[bZ,ixSV,au,af,addA,aa,id,gT,kill_bs,↓reduceIte,Nat.reduceEqDiff,Nat.reduceAdd,Nat.reduceMul,Nat.reduceLeDiff,Int.reduceLE,reduceCtorEq,List.length_append,hg,hgb]
 refine aR rfl e_f71 (oM p ps hq (by omega)) rfl fun r st1 hr=>?_
 obtain⟨hq1,hbr,ho1⟩:=hr
 obtain⟨w1,w2,w3,w4,w5,w6,w7,w8⟩:=hq1.facts
 have hg1:st1.get s=_:=(ho1.get n3).trans hg
 have hs1:s<st1.boxes.length:=bI hg1
 have hus:p.data.length+used ps-p.data.length=used ps:=Nat.add_sub_cancel_left _ _
 simp only[used]at hg1
 simp(config:=KF) (disch:=omega)only[bZ,bH,cM,retI,au,af,lenI,addA,aa,n_sub,↓reduceIte,Nat.reduceEqDiff,Nat.reduceAdd,Nat.reduceLeDiff,reduceCtorEq,bq,qB,aY,ge,hg1,w1,w4,w6,hus]
 refine hQ _ _ ⟨rfl,⟨r,h.requeue hq1 (ho1.kp fun x hx=>hx) (fun x hx=>.inl (hbr▸ hx)) ⟨by omega,by omega⟩,hbr⟩,?_⟩
 exact(ho1.kp (F:=s::ah (.bs bi 4 0 (ps.length+1) cap)) fun x hx=>List.mem_cons_of_mem _ hx).trans ((Oth.set st1 s _ (S:=[s]) (by simp)).kp (F:=[s]) (by simp)) (fun x hx=>.inl (by simp at hx;subst hx;simp))

theorem pS{n:Nat}(h1:1≤S.pks)(hn:n≤S.byt):∀(q:List Pk) (k:Nat),ig S n (cutQ S n q k).1∧(cutQ S n q k).2+(cutQ S n q k).1.length=k+q.length
 | [],k=>⟨⟨by simp[cutQ];omega,by simpa [cutQ,used]using hn⟩,by simp[cutQ]⟩
 | p :: r, k => by
   unfold cutQ
   split
   ·rename_i h;exact⟨h,rfl⟩
   ·obtain⟨h2,h3⟩:=pS h1 hn r (k+1)
    exact⟨h2,by rw[List.length_cons];omega⟩

theorem get_calls(h:SkIs st s w m g qv L S)(p:Pk)(hpol:S.pol=1∨S.pol=2)(hp:p.data.length≤100000)(hlo:S.dr+S.q.length<1000000000) :
  aF Go.Proofs.Try.prog n_f55 [.ptr s 0,pkAV p] st (fun _ st'=>(∃qv',SkIs st' s w m g qv' L (getS p S)∧∀x∈ah qv',x∈ah qv∨st.boxes.length≤x)∧Kp st st' (s::ah qv)):=by
 have hg:=h.get
 obtain⟨v1,v2,v3,v4,v5,v6,v7,v8⟩:=h.qb.facts
 obtain⟨n1,n2,n3,n4,n5⟩:=h.ne
 have hb2:=h.b2
 have hb3:=h.b3
 have hb1:=h.b1
 have hs0:=h.lts s (by simp)
 refine aK hmix k_f55 rfl rfl fun Q hQ=>?_
 unfold aFun c_f55 pkAV
 have hlen:(BB p.data).length=p.data.length:=bq _
 have hinc:∀Q':AV→St→Prop,(∀v st',((∃qv',SkIs st' s w m g qv' L {S with dr:=S.dr+1}∧∀x∈ah qv',x∈ah qv∨st.boxes.length≤x)∧Kp st st' (s::ah qv))→Q' v st')→∀v,Q' v (st.set s [.lit (.string S.nm),.lit (.int .i64 S.port),.lit (.int .i64 (S.pks:Nat)),.lit (.int .i64 (S.byt:Nat)),.lit (.int .i64 S.pol),.lit (.int .u64 (S.life:Nat)),qv,.lit (.int .i64 (used S.q:Nat)),.lit (.int .i64 ((S.dr+1:Nat):Nat)),.lit (.int .i64 (S.old:Nat)),.ptr w 0]):=fun Q' hQ' v =>
  hQ' v _ ⟨⟨qv,h.requeue h.qb (Kp.refl _ _) (fun x hx=>.inl hx) hb3,fun x hx=>.inl hx⟩,(Oth.set st s _ (S:=[s]) (by simp)).kp (by simp)⟩
 simp(config:=KF) (disch:=omega)only[bZ,bH,cM,au,lenI,addA,aa,↓reduceIte,Nat.reduceEqDiff,Nat.reduceAdd,reduceCtorEq,bq,hg]
 refine aA (fun c1=>?_) (fun c1=>?_)
 ·unfold getS at hQ
  rw[if_pos (by omega)]at hQ
  simp(config:=KF) (disch:=omega)only[bZ,retI,au,af,addA,aa,↓reduceIte,Nat.reduceEqDiff,Nat.reduceAdd,Nat.reduceLeDiff,reduceCtorEq,hg]
  exact hinc Q hQ _
 simp(config:=KF) (disch:=omega)only[bZ,↓reduceIte,Nat.reduceEqDiff,reduceCtorEq]
 rw[f55_11w]
 have hd:=pS (S:=S) (n:=p.data.length) hb1.1 (by omega) S.q S.dr
 refine bB (A:=List Pk×Nat×AV×St) (fun a=>a.1.length) (fun a=>⟨[(0,.ptr s 0),(3,.lptr 3 0)],[(3,[.lit (.string p.nm),.lit (.int .i64 p.port),.sl false 1 (BB p.data),.lit (.int .u64 (p.at_:Nat))])]⟩) (fun a=>a.2.2.2)
  (fun a=>SkIs a.2.2.2 s w m g a.2.2.1 L {S with q:=a.1,dr:=a.2.1}∧Kp st a.2.2.2 (s::ah qv)∧ah a.2.2.1=ah qv∧cutQ S p.data.length a.1 a.2.1=cutQ S p.data.length S.q S.dr∧a.2.1+a.1.length<1000000000∧(S.pol=2∨ig S p.data.length S.q→a.1=S.q∧a.2.1=S.dr))
  (S.q,S.dr,qv,st) ⟨h,Kp.refl _ _,rfl,rfl,hlo,fun _=>⟨rfl,rfl⟩⟩ (by simp(config:=KF) (disch:=omega)only[bZ,↓reduceIte,reduceCtorEq];exact Sf.le_refl _) rfl fun a ha K hK hKe hKr=>?_
 obtain⟨q,dr,qv1,st1⟩:=a
 obtain⟨i1,i2,i3,i4,i5,i6⟩:=ha
 simp only at i1 i2 i3 i4 i5 i6
 have hg1:=i1.get
 obtain⟨w1,w2,w3,w4,w5,w6,w7,w8⟩:=i1.qb.facts
 simp only at hg1 w8
 have hb3':=i1.b3
 simp only at hb3'
 have hs1:s<st1.boxes.length:=bI hg1
 have hout:ig S p.data.length q→aC Go.Proofs.Try.prog id false f55_24 ⟨[(0,.ptr s 0),(3,.lptr 3 0)],[(3,[.lit (.string p.nm),.lit (.int .i64 p.port),.sl false 1 (BB p.data),.lit (.int .u64 (p.at_:Nat))])]⟩ st1 (retQ [] Q):=fun hf=>by
  have hfin:∀v' s',PB v' s' (q++[p])→Kp st1 s' (ah qv1)→(∀x∈ah v',x∈ah qv1∨st1.boxes.length≤x)→∀v,Q v (s'.set s [.lit (.string S.nm),.lit (.int .i64 S.port),.lit (.int .i64 (S.pks:Nat)),.lit (.int .i64 (S.byt:Nat)),.lit (.int .i64 S.pol),.lit (.int .u64 (S.life:Nat)),v',.lit (.int .i64 (used (q++[p]):Nat)),.lit (.int .i64 (dr:Nat)),.lit (.int .i64 (S.old:Nat)),.ptr w 0]):=fun v' s' g1 g2 g3 v=>by
   have hgs:getS p S= {S with q:=q++[p],dr:=dr}:=by
    unfold getS
    rw[if_neg (by omega)]
    by_cases hf0:ig S p.data.length S.q
    ·obtain⟨e1,e2⟩:=i6 (.inr hf0)
     rw[if_pos hf0,e1,e2]
    ·rw[if_neg hf0]
     have hp2:¬S.pol=2:=fun e=>hf0 ((i6 (.inl e)).1▸ hf)
     rw[if_neg hp2,←i4]
     have:cutQ S p.data.length q dr=(q,dr):=by
      cases q with
      |nil=>rfl
      |cons x r=>unfold cutQ;rw[if_pos hf]
     rw[this]
   have hre:=i1.requeue (dr:=dr) (old:=S.old) g1 g2 g3 ⟨by rw[iQ];simp only[used];have:=hf.2;omega,by rw[List.length_append];have:=hf.1;simp;omega⟩
   refine hQ v _ ⟨⟨v',by rw[hgs];exact hre,fun x hx=>?_⟩,?_⟩
   ·rcases g3 x hx with q1|q1
    ·exact .inl (i3▸ q1)
    ·exact .inr (Nat.le_trans i2.1 q1)
   ·refine(i2.trans (Kp.wide g2 (F':=s::ah qv) fun x hx=>List.mem_cons_of_mem _ (i3▸ hx)) fun x hx=>.inl hx).trans ((Oth.set s' s _ (S:=[s]) (by simp)).kp (F:=[s]) (by simp)) (fun x hx=>.inl (by simp at hx;subst hx;simp))
  simp(config:=KF) (disch:=omega)only[bZ,f55_24e,f55_25e,f55_25h,f55_25p,f55_25l]
  have hgr:(St.only st1 [s]).get s=_:=(bJ (only_at st1 (by simp))).trans hg1
  refine draw_a (St.only st1 [s]) (only_sub fun x _ _=>rfl) ?_
  simp(config:=KF) (disch:=omega)only[bZ,pG,qE,m_val,mm_mv,qF,mA,nR,mm_bsl,atA_eq,fL,dropP,dropQ,nc,au,bslV,List.reduceReplicate,addA,aa,cd,bN,List.nil_append,List.cons_append,↓reduceIte,Nat.reduceEqDiff,Nat.reduceAdd,Nat.reduceLT,Nat.reduceLeDiff,reduceCtorEq,hgr,w1]
  refine app_m (fun v s'=>PB v s' (q++[p])∧Kp st1 s' (ah qv1)∧∀x∈ah v,x∈ah qv1∨st1.boxes.length≤x) w5 rfl ?_ ?_
  ·rw[w1]
   show(Res.ok _).wp _
   rw[pu]
   exact i1.qb.app (by show q.length<100000;have:=hb3'.2;omega) (new:=[p]) (by simp) fun v s' g1 g2 g3=>⟨g1,g2,g3⟩
  simp(config:=KF) (disch:=omega)only[bZ,ksB,aL,bh,bz,aO,nstB,bA,hm_nil,nT,↓reduceIte,Nat.reduceEqDiff,reduceCtorEq]
  rintro y s2 ⟨g1,g2,g3⟩
  have hns:s ∉ ah qv1:=i3▸ n3
  refine⟨only_sub fun x hx hxl=>g2.2 x hxl (by simp only[List.mem_singleton]at hx;subst hx;exact hns),?_⟩
  obtain⟨c1,c2,c3,c4,c5,c6,c7,c8⟩:=g1.facts
  have hg2:s2.get s=_:=(bJ (g2.2 s hs1 hns)).trans hg1
  have hs2:s<s2.boxes.length:=bI hg2
  have hua:used q+p.data.length=used (q++[p]):=by rw[iQ];simp[used]
  have hu2:=hf.2
  simp(config:=KF) (disch:=omega)only[bZ,ksB,aL,bh,bz,aO,bU,bK,nstB,bA,pG,nS,lz,nU,qG,bH,cM,ew,l9,retI,au,af,addA,aa,↓reduceIte,Nat.reduceEqDiff,Nat.reduceAdd,Nat.reduceLeDiff,reduceCtorEq,bq,jN,aY,ge,hg2,c1,c4,c6,hua]
  exact hfin _ _ g1 g2 g3 _
 have hbody:¬ig S p.data.length q→∀sf:Sf,sf=⟨[(0,.ptr s 0),(3,.lptr 3 0),(43,.lit (.bool true))],[(3,[.lit (.string p.nm),.lit (.int .i64 p.port),.sl false 1 (BB p.data),.lit (.int .u64 (p.at_:Nat))])]⟩→aC Go.Proofs.Try.prog id false f55_16 sf st1 K:=fun hf sf hsf=>by
  subst hsf
  simp(config:=KF) (disch:=omega)only[bZ,au,af,addA,aa,↓reduceIte,Nat.reduceEqDiff,Nat.reduceAdd,Nat.reduceLeDiff,reduceCtorEq,aY,f55_16e,hg1]
  have hnf:¬ig S p.data.length S.q∨S.pol=1:=by
   rcases hpol with e|e
   ·exact .inr e
   ·exact .inl fun hc=>hf ((i6 (.inl e)).1▸ hc)
  refine aA (fun c2=>?_) (fun c2=>?_)
  ·obtain⟨rfl,rfl⟩:=i6 (.inl c2)
   simp(config:=KF) (disch:=omega)only[bZ,↓reduceIte,Nat.reduceEqDiff,reduceCtorEq]
   refine hKr _ _ ?_
   simp(config:=KF) (disch:=omega)only[bZ,retI,↓reduceIte]
   unfold getS at hQ
   rw[if_neg (by omega),if_neg hf,if_pos c2]at hQ
   refine hQ _ _ ⟨⟨qv1,i1.requeue i1.qb (Kp.refl _ _) (fun x hx=>.inl hx) hb3',fun x hx=>.inl (i3▸ hx)⟩,i2.trans ((Oth.set st1 s _ (S:=[s]) (by simp)).kp (F:=[s]) (by simp)) (fun x hx=>.inl (by simp at hx;subst hx;simp))⟩
  ·simp(config:=KF) (disch:=omega)only[bZ,id,↓reduceIte,Nat.reduceEqDiff,reduceCtorEq]
   cases q with
   |nil=>exact absurd ⟨by simp;omega,by simp[used];omega⟩ hf
   | cons x r =>
     have i1':=i1.requeue (dr:=dr+1) (old:=S.old) i1.qb (Kp.refl _ _) (fun x hx=>.inl hx) hb3'
     refine aR rfl e_f50 (gX i1' rfl) rfl fun v st2 hr=>?_
     obtain⟨_,⟨qv2,j1,j2⟩,j3⟩:=hr
     simp(config:=KF) (disch:=omega)only[bZ,↓reduceIte,Nat.reduceEqDiff,reduceCtorEq]
     refine hK (r,dr+1,qv2,st2) _ ⟨j1,?_,j2.trans i3,?_,?_,fun hc=>?_⟩ (by simp) (Sf.le_refl _)
     ·refine(i2.trans ((Oth.set st1 s _ (S:=[s]) (by simp)).kp (F:=s::ah qv) (by simp)) fun x hx=>.inl hx).trans j3 fun x hx=>?_
      rw[i3]at hx
      exact .inl hx
     ·rw[←i4]
      conv=>rhs;unfold cutQ
      rw[if_neg hf]
     ·simp only[List.length_cons]at i5;simp only;omega
     ·exfalso
      rcases hc with hc|hc
      ·exact c2 hc
      ·exact hf ((i6 (.inr hc)).1▸ hc)
 simp(config:=KF) (disch:=omega)only[bZ,bH,cM,AI.dst,au,addA,aa,↓reduceIte,Nat.reduceEqDiff,reduceCtorEq,hg1,w1,w8]
 refine cn (fun c2=>?_) (fun c2=>?_)
 ·simp(config:=KF) (disch:=omega)only[bZ,c9,dB,AI.dst,↓reduceIte,Nat.reduceEqDiff,reduceCtorEq]
  refine hbody (fun hf=>?_) _ rfl
  have:=hf.1
  omega
 ·simp(config:=KF) (disch:=omega)only[bZ,bH,cM,aW,ew,AI.dst,au,addA,aa,↓reduceIte,Nat.reduceEqDiff,reduceCtorEq,bq,jN,hg1]
  refine aA (fun c3=>?_) (fun c3=>?_)
  ·simp(config:=KF) (disch:=omega)only[bZ,↓reduceIte,Nat.reduceEqDiff,reduceCtorEq]
   refine hbody (fun hf=>?_) _ rfl
   have:=hf.2
   omega
  ·simp(config:=KF) (disch:=omega)only[bZ,↓reduceIte,Nat.reduceEqDiff,reduceCtorEq]
   refine hKe _ _ _ ?_
   simp(config:=KF) (disch:=omega)only[bZ,↓reduceIte]
   exact hout ⟨by omega,by omega⟩
end
end Go.Fx.YtgmeefljgbaanaaFx

namespace Go.Fx.YtgmeefljgbaanaaFx
open Go Go.Fx
attribute [local irreducible] aC runI aG aH

set_option maxRecDepth 100000
set_option maxHeartbeats 4000000

theorem clone_pure(st:St){v:AV}{p:List UInt8}(hv:DV v st p)(hp:p.length≤100000):az Go.Proofs.Try.prog n_f53 [v] st (.sl false 1 (BB p)):=by
 obtain⟨v1,v2,v3,v4,v5,v6,v7,v8⟩:=hv.facts
 have hsrc:∀K:List AV→Prop,K (BB p)→(srcA st 1 v).wp K:=fun K hK=>DV.src hv hK
 have hnb:(AV.sl false 1 (BB p)).NB:=.sl _ _ _ fun c hc=>by
  obtain⟨x,_,rfl⟩:=List.mem_map.1 hc
  exact .lit _
 rcases hv with⟨rfl,rfl⟩|rfl|⟨bi,cap,r,rfl,hg,h1,h2⟩
 ·refine pure_lev hmix k_f53 rfl rfl hnb (by simp[nb_lit]) (fun Q hQ=>?_) st
  unfold aFun c_f53
  simp(config:=KF) (disch:=omega)only[bZ,retI,bD,lu,a9,nilX_nil,bE,aU,↓reduceIte,Nat.reduceEqDiff,reduceCtorEq]
  exact hQ _ _ (.nil _ _)
 ·refine pure_lev hmix k_f53 rfl rfl hnb (by simp;exact hnb) (fun Q hQ=>?_) st
  unfold aFun c_f53
  cases p with
  | nil =>
    simp(config:=KF) (disch:=omega)only[bZ,bD,a9,nK,↓reduceIte,Nat.reduceEqDiff,reduceCtorEq,BB_nil]
    intro b
    cases b
    ·simp(config:=KF) (disch:=omega)only[bZ,retI,dX,ci,bslV,cX,ce,srcA,cd,nx,aI,List.nil_append,↓reduceIte,Nat.reduceEqDiff,reduceCtorEq,bg]
     exact hQ _ _ (.own _ _)
    ·simp(config:=KF) (disch:=omega)only[bZ,retI,↓reduceIte,Nat.reduceEqDiff,reduceCtorEq]
     exact hQ _ _ (.nil _ _)
  | cons x r =>
    rw[List.length_cons]at hp
    simp(config:=KF) (disch:=omega)only[bZ,retI,bD,lu,dX,ci,bslV,cX,a9,pA,bE,aU,ce,srcA,cd,nx,aI,List.nil_append,↓reduceIte,Nat.reduceEqDiff,reduceCtorEq,bq,nP,mz,bg]
    exact hQ _ _ (.own _ _)
 ·refine az.weak (v:=.sl true 1 (BB p)) (al hmix k_f53 rfl rfl fun Q hQ=>?_) (iv _) (.own _ _)
  unfold aFun c_f53
  simp(config:=KF) (disch:=omega)only[bZ,retI,bD,lu,dX,ci,bslV,cX,a9,nilX_bs,bE,aU,ce,cd,nx,gT,List.nil_append,↓reduceIte,Nat.reduceEqDiff,reduceCtorEq]
  rw[Res.wp_bind]
  refine hsrc _ ?_
  simp(config:=KF) (disch:=omega)only[bZ,aI,bq,nP,bg]
  exact hQ _

theorem qT(st:St)(d:List UInt8)(hd:d.length≤100000):aF Go.Proofs.Try.prog n_f1053 [.sl false 1 (BB d)] st
  (fun w st'=>MB w st' (BB d)∧Kp st st' []∧∀x∈ah w,st.boxes.length≤x):=by
 refine aK hmix k_f1053 rfl rfl fun Q hQ=>?_
 unfold aFun c_f1053
 have hfin:∀v' st',MB v' st' ([]++BB d)→Kp (st.push (.cells [])) st' (ah (.bs st.boxes.length 1 0 0 0))→(∀x∈ah v',x∈ah (.bs st.boxes.length 1 0 0 0)∨(st.push (.cells [])).boxes.length≤x)→Q v' st':=fun v' st' m1 m2 m3=>by
  refine hQ v' st' ⟨m1,⟨by have:=m2.1;rw[aJ]at this;omega,fun i hi _=>?_⟩,fun x hx=>?_⟩
  ·rw[m2.2 i (by rw[aJ];omega) (by simp[ah];omega)]
   exact bp hi
  ·rcases m3 x hx with m|m
   ·simp only[ah,List.mem_singleton]at m
    omega
   ·rw[aJ]at m;omega
 have hb:MB (.bs st.boxes.length 1 0 0 0) (st.push (.cells [])) []:=.inr ⟨st.boxes.length,0,[],rfl,bG st [],Nat.le_refl _,by simp⟩
 have hlit:Lits (BB d):=Lits.map _ d
 have hroom:eZ (([]:List AV).length+(BB d).length) 1=true:=by
  unfold eZ;simp[bq];omega
 have hstep:∀K:AV→St→Prop,(∀v' st',MB v' st' ([]++BB d)→K v' st')→True:=fun _ _=>trivial
 have hrest:∀C:AV→St→Prop,(∀v' st',MB v' st' ([]++BB d)→Q v' st'→C v' st')→appX false 1 1 (.bs st.boxes.length 1 0 0 0) C (st.push (.cells [])) (BB d):=fun C hC =>
  MB.grow hb (fun x hx=>by simp at hx) hlit hroom fun v' st' m1 m2 m3=>hC v' st' m1 (hfin v' st' m1 m2 m3)
 cases d with
 | nil =>
   simp(config:=KF) (disch:=omega)only[bZ,bD,a9,nK,↓reduceIte,Nat.reduceEqDiff,reduceCtorEq,BB_nil]
   intro b
   cases b
   ·simp(config:=KF) (disch:=omega)only[bZ,bD,a9,srcA,↓reduceIte,Nat.reduceEqDiff,Int.reduceLE,Int.reduceMul,reduceCtorEq,lY,List.flatMap_nil]
    refine hrest _ fun v' st' m1 m2=>?_
    obtain⟨w1,w2,w3,w4,w5,w6,w7,w8⟩:=m1.facts
    simp(config:=KF) (disch:=omega)only[bZ,retI,bD,↓reduceIte,Nat.reduceEqDiff,reduceCtorEq,w1,w5]
    exact m2
   ·simp(config:=KF) (disch:=omega)only[bZ,retI,↓reduceIte,Nat.reduceEqDiff,reduceCtorEq]
    exact hQ _ _ ⟨.inl ⟨rfl,rfl⟩,Kp.refl _ _,by simp[ah]⟩
 | cons x r =>
   simp(config:=KF) (disch:=omega)only[bZ,bD,lu,a9,pA,bE,aU,srcA,↓reduceIte,Nat.reduceEqDiff,Int.reduceLE,Int.reduceMul,reduceCtorEq,mz,lY,List.flatMap_nil]
   refine hrest _ fun v' st' m1 m2=>?_
   obtain⟨w1,w2,w3,w4,w5,w6,w7,w8⟩:=m1.facts
   simp(config:=KF) (disch:=omega)only[bZ,retI,bD,↓reduceIte,Nat.reduceEqDiff,reduceCtorEq,w1,w5]
   exact m2

def rcAV(t:Int)(nm:ByteArray)(port:Int)(w:AV)(at_:Nat)(cut:Bool)(err:Int):AV:=.agg [.lit (.int .i64 t),.lit (.string nm),.lit (.int .i64 port),w,.lit (.int .u64 (at_:Nat)),.lit (.bool cut),.lit (.int .i64 err)]
def cutN(most:Int)(d:List UInt8):Nat:=if most<(d.length:Int)then most.toNat else d.length
theorem cutN_le(most:Int)(d:List UInt8):cutN most d≤d.length:=by unfold cutN;split<;>omega
theorem lH(st:St)(p:Pk)(t most:Int)(h0:0≤most)(hp:p.data.length≤100000) :
  aF Go.Proofs.Try.prog n_f49 [.lit (.int .i64 t),pkAV p,.lit (.int .i64 most)] st
   (fun v st'=>∃w,v=rcAV t p.nm p.port w p.at_ (decide (most<(p.data.length:Int))) 0∧MB w st' (BB (p.data.take (cutN most p.data)))∧Kp st st' []∧∀x∈ah w,st.boxes.length≤x):=by
 refine aK hmix k_f49 rfl rfl fun Q hQ=>?_
 unfold aFun c_f49 pkAV
 have hcl:=cutN_le most p.data
 have hmn:(if(p.data.length:Int)<most then(p.data.length:Int)else most)=((cutN most p.data:Nat):Int):=by
  unfold cutN;split<;>split<;>omega
 have hcc:decide (((cutN most p.data:Nat):Int)<(p.data.length:Int))=decide (most<(p.data.length:Int)):=decide_eq_decide.2 (by unfold cutN;split<;>omega)
 simp(config:=KF) (disch:=omega)only[bZ,iI,o_mn,cu,af,ixTo,lenI,addA,aa,dZ,id,cI,↓reduceIte,Nat.reduceEqDiff,Nat.reduceAdd,Nat.reduceLeDiff,reduceCtorEq,bq,fp,jb,hmn,hcc]
 refine aR rfl e_f1053 (qT st _ (by rw[List.length_take];omega)) rfl fun w st1 hr=>?_
 obtain⟨m1,m2,m3⟩:=hr
 obtain⟨w1,w2,w3,w4,w5,w6,w7,w8⟩:=m1.facts
 simp(config:=KF) (disch:=omega)only[bZ,retI,af,addA,aa,↓reduceIte,Nat.reduceEqDiff,Nat.reduceAdd,Nat.reduceLeDiff,w1,w2,w4,w6]
 exact hQ _ _ ⟨w,rfl,m1,m2,m3⟩
end Go.Fx.YtgmeefljgbaanaaFx

