/- What the functions that the statement reaches compute: part 16. -/
import Derived.Test.YtgmeefljgbaanaaFxW15
namespace Go.Fx.YtgmeefljgbaanaaFx
open Go Go.Fx
attribute [local irreducible] aC runI aG aH

set_option maxRecDepth 100000
set_option maxHeartbeats 4000000

theorem get_cut{p:Pk}{S:Sk}(hb:¬S.byt<p.data.length)(hp:S.pol≠2)(h0:0<S.pks):getS p S= {S with q:=(cutQ S p.data.length S.q S.dr).1++[p],dr:=(cutQ S p.data.length S.q S.dr).2}:=by
 unfold getS
 rw[if_neg hb]
 by_cases hf:ig S p.data.length S.q
 ·rw[if_pos hf]
  have:cutQ S p.data.length S.q S.dr=(S.q,S.dr):=by
   cases hq:S.q with
   |nil=>rfl
   |cons x r=>rw[hq]at hf;unfold cutQ;rw[if_pos hf]
  rw[this]
 ·rw[if_neg hf,if_neg hp]
structure GJ where
 q:List Pk
 dr:Nat
def gt(S:Sk)(q:List Pk)(dr:Nat):List AV:=[.lit (.int .i64 (S.num:Nat)),.lit (.string S.nm),.lit (.int .i64 S.port),.lit (.int .i64 (S.pks:Nat)),.lit (.int .i64 (S.byt:Nat)),.lit (.int .i64 S.pol),.lit (.int .u64 (S.life:Nat)),.sl false 4 (q.map pV),.lit (.int .i64 (dr:Nat)),.lit (.int .i64 (S.old:Nat))]
theorem rget_pure(S:Sk)(p:Pk)(h0:0<S.pks)(hb:S.byt≤100000)(hpk:S.pks≤100000)(hd:p.data.length≤100000)(hq:S.q.length≤1000)(hu:used S.q≤1000000)(hdr:S.dr≤1000000)(st:St) :
  az Go.Proofs.Try.prog n_f79 [skV S,pV p] st (skV (getS p S)):=by
 obtain⟨d1,d2,d3,d4,d5,d6,d7,d8⟩:=bT p.data
 refine al hmix k_f79 rfl rfl fun Q hQ=>?_
 unfold aFun c_f79
 unfold pV
 rw[show skV S= .agg (gt S S.q S.dr)from rfl]
 unfold gt
 by_cases hbn:S.byt<p.data.length
 ·have hg:getS p S= {S with dr:=S.dr+1}:=by unfold getS;rw[if_pos hbn]
  rw[hg]at hQ
  simp(config:=KF) (disch:=omega)only[bZ,retI,af,addA,aa,↓reduceIte,Nat.reduceEqDiff,Nat.reduceAdd,Nat.reduceLeDiff,reduceCtorEq,d1,d2,d4,d8]
  exact hQ _
 simp(config:=KF) (disch:=omega)only[bZ,addA,aa,↓reduceIte,Nat.reduceEqDiff,Nat.reduceAdd,reduceCtorEq,d1,d2,d4,d8]
 rw[f79_13w]
 refine bB (A:=GJ) (fun a=>a.q.length) (fun a=>⟨[(2,.lptr 2 0),(3,.lptr 3 0),(4,.lptr 4 0)],[(2,gt S a.q a.dr),(3,[.lit (.string p.nm),.lit (.int .i64 p.port),pdV p.data,.lit (.int .u64 (p.at_:Nat))]),(4,[.lit (.int .i64 0),.lit (.string ⟨#[]⟩),.lit (.int .i64 0),.lit (.int .i64 0),.lit (.int .i64 0),.lit (.int .i64 0),.lit (.int .u64 0),.lit (.slice none 0 0),.lit (.int .i64 0),.lit (.int .i64 0)])]⟩) (fun _=>st)
  (fun a=>a.q.length≤S.q.length∧used a.q≤used S.q∧a.dr+a.q.length=S.dr+S.q.length∧(S.pol=2→a.q=S.q∧a.dr=S.dr)∧(S.pol≠2→cutQ S p.data.length a.q a.dr=cutQ S p.data.length S.q S.dr)) ⟨S.q,S.dr⟩ ⟨Nat.le_refl _,Nat.le_refl _,rfl,fun _=>⟨rfl,rfl⟩,fun _=>rfl⟩ (Sf.le_refl _) rfl ?_
 rintro⟨q,dr⟩ ⟨i1,i2,i3,i4,i5⟩ K hK hKe hKr
 simp only at i1 i2 i3 i4 i5
 dsimp only
 have hus:=rused_pure {S with q:=q,dr:=dr} (by simp only;omega) (by simp only;omega) st
 rw[show skV {S with q:=q,dr:=dr}= .agg (gt S q dr)from rfl]at hus
 simp only at hus
 have hql:(q.map pV).length=q.length:=List.length_map ..
 by_cases hf:ig S p.data.length q
 ·have hf':=hf
  obtain⟨f1,f2⟩:=hf
  have hT:getS p S= {S with q:=q++[p],dr:=dr}:=by
   by_cases hp2:S.pol=2
   ·obtain⟨rfl,rfl⟩:=i4 hp2
    unfold getS
    rw[if_neg hbn,if_pos hf']
   ·rw[get_cut hbn hp2 h0,←i5 hp2]
    have:cutQ S p.data.length q dr=(q,dr):=by
     cases q with
     |nil=>rfl
     |cons x r=>unfold cutQ;rw[if_pos hf']
    rw[this]
  rw[hT]at hQ
  unfold gt at hus ⊢
  have hpd:=pkV_dis q
  by_cases hq0:q= []
  ·subst hq0
   simp(config:=KF) (disch:=omega)only[bZ,cM,bX,aW,ew,AI.dst,addA,aa,id,↓reduceIte,Nat.reduceEqDiff,Nat.reduceAdd,Nat.reduceLeDiff,dC,Int.zero_add]
   refine cD rfl e_f86 hus rfl ?_
   simp(config:=KF) (disch:=omega)only[bZ,cM,aW,bC,AI.dst,addA,aa,↓reduceIte,Nat.reduceEqDiff,jN,d1,d8]
   refine hKe _ _ _ ?_
   simp(config:=KF) (disch:=omega)only[bZ,hh_bsl,gq,retI,ci,bslV,cX,af,List.reduceReplicate,addA,aa,bd,srcA,cd,bN,bu,↓reduceIte,Nat.reduceEqDiff,Nat.reduceAdd,Nat.reduceLT,Nat.reduceLeDiff,bg,d2,d4]
   exact hQ _
  ·have hie:(q.map pV).isEmpty=false:=by cases q<;>first|rfl|exact absurd rfl hq0
   simp(config:=KF) (disch:=omega)only[bZ,cM,bX,aW,ew,AI.dst,addA,aa,id,↓reduceIte,Nat.reduceEqDiff,Nat.reduceAdd,Nat.reduceLeDiff,dC,hql]
   refine cD rfl e_f86 hus rfl ?_
   simp(config:=KF) (disch:=omega)only[bZ,cM,aW,bC,AI.dst,addA,aa,↓reduceIte,Nat.reduceEqDiff,jN,d1,d8]
   refine hKe _ _ _ ?_
   simp(config:=KF) (disch:=omega)only[bZ,hh_bsl,gq,retI,ci,bslV,cX,af,List.reduceReplicate,addA,aa,bd,ce,srcA,cd,bN,bu,↓reduceIte,Nat.reduceEqDiff,Nat.reduceAdd,Nat.reduceLT,Nat.reduceLeDiff,bg,cZ,d2,d4,hie,hpd,hql]
   rw[show skV {S with q:=q++[p],dr:=dr}= .agg (gt S (q++[p]) dr)from rfl]at hQ
   unfold gt at hQ
   rw[List.map_append]at hQ
   exact hQ _
 ·unfold gt at hus ⊢
  by_cases c1:q.length<S.pks
  ·have c2:S.byt<used q+p.data.length:=by
    refine Nat.lt_of_not_le fun q2=>hf ⟨c1,q2⟩
   by_cases hp2:S.pol=2
   ·obtain⟨rfl,rfl⟩:=i4 hp2
    have hT:getS p S= {S with dr:=S.dr+1}:=by
     unfold getS
     rw[if_neg hbn,if_neg hf,if_pos hp2]
    rw[hT]at hQ
    simp(config:=KF) (disch:=omega)only[bZ,cM,bX,aW,ew,AI.dst,addA,aa,id,↓reduceIte,Nat.reduceEqDiff,Nat.reduceAdd,Nat.reduceLeDiff,dC,hql]
    refine cD rfl e_f86 hus rfl ?_
    simp(config:=KF) (disch:=omega)only[bZ,cM,aW,bC,AI.dst,af,addA,aa,↓reduceIte,Nat.reduceEqDiff,Nat.reduceAdd,Nat.reduceLeDiff,jN,d1,d8]
    refine hKr _ _ ?_
    simp(config:=KF) (disch:=omega)only[bZ,retI,aa,↓reduceIte,Nat.reduceAdd,Nat.reduceLeDiff]
    exact hQ _
   ·obtain⟨x,r,rfl⟩:∃x r,q=x::r:=by
     cases q with
     |nil=>exact absurd ⟨h0,by simp only[used];omega⟩ hf
     |cons x r=>exact⟨x,r,rfl⟩
    have hcut:cutQ S p.data.length r (dr+1)=cutQ S p.data.length S.q S.dr:=by
     rw[←i5 hp2,cutQ,if_neg hf]
    have hnx:=hK ⟨r,dr+1⟩
    simp only at hnx
    have hxl:(x::r).length=r.length+1:=rfl
    have hux:used (x::r)=x.data.length+used r:=rfl
    unfold gt at hnx
    rw[List.map_cons]at hql hus ⊢
    simp(config:=KF) (disch:=omega)only[bZ,cM,bX,aW,ew,AI.dst,addA,aa,id,↓reduceIte,Nat.reduceEqDiff,Nat.reduceAdd,Nat.reduceLeDiff,dC,hql]
    refine cD rfl e_f86 hus rfl ?_
    simp(config:=KF) (disch:=omega)only[bZ,cM,aW,bC,AI.dst,dt,fc,cu,dp,eU,af,ixTo,addA,aa,bu,Int.toNat_one,↓reduceIte,Nat.reduceEqDiff,Nat.reduceAdd,Nat.reduceLeDiff,Int.reduceLE,bF,jN,d1,d8,hql]
    exact hnx _ ⟨by omega,by omega,by omega,fun e=>absurd e hp2,fun _=>hcut⟩ (by omega) (Sf.le_refl _)
  ·have c2:S.pks≤q.length:=by omega
   by_cases hp2:S.pol=2
   ·obtain⟨rfl,rfl⟩:=i4 hp2
    have hT:getS p S= {S with dr:=S.dr+1}:=by
     unfold getS
     rw[if_neg hbn,if_neg hf,if_pos hp2]
    rw[hT]at hQ
    simp(config:=KF) (disch:=omega)only[bZ,cM,c9,dB,ew,AI.dst,af,addA,aa,↓reduceIte,Nat.reduceEqDiff,Nat.reduceAdd,Nat.reduceLeDiff,reduceCtorEq,ec,hql]
    refine hKr _ _ ?_
    simp(config:=KF) (disch:=omega)only[bZ,retI,aa,↓reduceIte,Nat.reduceAdd,Nat.reduceLeDiff]
    exact hQ _
   ·obtain⟨x,r,rfl⟩:∃x r,q=x::r:=by
     cases q with
     |nil=>exact absurd ⟨h0,by simp only[used];omega⟩ hf
     |cons x r=>exact⟨x,r,rfl⟩
    have hcut:cutQ S p.data.length r (dr+1)=cutQ S p.data.length S.q S.dr:=by
     rw[←i5 hp2,cutQ,if_neg hf]
    have hnx:=hK ⟨r,dr+1⟩
    simp only at hnx
    have hxl:(x::r).length=r.length+1:=rfl
    have hux:used (x::r)=x.data.length+used r:=rfl
    unfold gt at hnx
    rw[List.map_cons]at hql hus ⊢
    simp(config:=KF) (disch:=omega)only[bZ,cM,c9,dB,ew,AI.dst,dt,fc,cu,dp,eU,af,ixTo,addA,aa,bu,Int.toNat_one,↓reduceIte,Nat.reduceEqDiff,Nat.reduceAdd,Nat.reduceLeDiff,Int.reduceLE,reduceCtorEq,bF,ec,hql]
    exact hnx _ ⟨by omega,by omega,by omega,fun e=>absurd e hp2,fun _=>hcut⟩ (by omega) (Sf.le_refl _)
end Go.Fx.YtgmeefljgbaanaaFx

namespace Go.Fx.YtgmeefljgbaanaaFx
open Go Go.Fx
attribute [local irreducible] aC runI aG aH

set_option maxRecDepth 100000
set_option maxHeartbeats 4000000

def scK(k:Nat)(e:AV):Prop:=∃cs,e= .agg cs∧cs.length=k∧cs.map AV.own1=cs
theorem gI{k:Nat}:∀{es:List AV},(∀e∈es,scK k e)→(es.flatMap AV.cells).length=es.length*k
 | [],_=>by simp
 | e :: r, h => by
   obtain⟨cs,rfl,h1,_⟩:=h e (by simp)
   have:=gI (es:=r) fun e he=>h e (by simp[he])
   rw[List.flatMap_cons,List.length_append,this,List.length_cons,Nat.succ_mul]
   show cs.length+_=_
   omega
theorem sck_dis{k:Nat}:∀{es:List AV},(∀e∈es,scK k e)→es.map AV.dis=es
 | [],_=>rfl
 | e :: r, h => by
   obtain⟨cs,rfl,h1,h2⟩:=h e (by simp)
   rw[List.map_cons,sck_dis (es:=r) fun e he=>h e (by simp[he])]
   show AV.agg (cs.map AV.own1)::r=_
   rw[h2]
theorem sck_grp{k:Nat}(hk:k≠1):∀{es:List AV},(∀e∈es,scK k e)→∀q,grp k es.length (es.flatMap AV.cells++q)=es
 | [],_,q=>rfl
 | e :: r, h, q => by
   obtain⟨cs,rfl,h1,_⟩:=h e (by simp)
   have:=sck_grp hk (es:=r) (fun e he=>h e (by simp[he])) q
   rw[List.flatMap_cons,show(AV.agg cs).cells=cs from rfl,List.length_cons]
   simp only[Fx.grp,if_neg hk,List.append_assoc]
   rw[List.take_left' h1,List.drop_left' h1,this]
theorem sck_set{k:Nat}{es:List AV}(hs:∀e∈es,scK k e){i:Nat}(hi:i<es.length){e:AV}(he:scK k e)(q:List AV):ca (es.flatMap AV.cells++q) (i*k) e.cells=(es.set i e).flatMap AV.cells++q:=by
 have h1:es=es.take i++es[i]::es.drop (i+1):=by
  conv=>lhs;rw[←List.take_append_drop i es,List.drop_eq_getElem_cons hi]
 have hl:((es.take i).flatMap AV.cells).length=i*k:=by
  rw[gI fun e he=>hs e (List.mem_of_mem_take he),List.length_take];congr 1;omega
 have h6:es[i].cells.length=k:=by
  obtain⟨cs,h,h2,_⟩:=hs es[i] (List.getElem_mem hi)
  rw[h];exact h2
 have h6':e.cells.length=k:=by
  obtain⟨cs,h,h2,_⟩:=he
  rw[h];exact h2
 conv=>lhs;rw[h1]
 rw[List.flatMap_append,List.flatMap_cons,List.append_assoc,List.append_assoc,List.set_eq_take_append_cons_drop,if_pos hi,List.flatMap_append,List.flatMap_cons,gE hl.symm (by rw[List.length_append];omega),List.drop_append,h6',←h6,List.drop_length]
 simp
theorem appB_newK{k bytes:Nat}{es:List AV}(hs:∀e∈es,scK k e)(hr:eZ es.length bytes=true)(hne:es≠[]){st:St}{C:AV→St→Prop}
  (hC:∀id cap r st',st'.get id=some (es.flatMap AV.cells++r)→es.length≤cap→cap*k≤(es.flatMap AV.cells++r).length→(∀c∈r,c.NB)→Kp st st' []→st.boxes.length≤id→C (.bs id k 0 es.length cap) st'):appX false k bytes (.lit (.slice none 0 0)) C st es:=by
 have hcl:=gI hs
 have hcd:cellsD es=es.flatMap AV.cells:=by unfold cellsD;rw[sck_dis hs]
 refine⟨rfl,by simpa using hr,?_⟩
 split
 ·rename_i h
  exact absurd (by simpa using h) hne
 ·intro c hc
  refine hC st.boxes.length c (List.replicate ((c-es.length)*k) .any) _ ?_ hc ?_ (fun x hx=>by rw[(List.mem_replicate.1 hx).2];exact .any) ⟨by simp[St.push],fun id hid _=>bp hid⟩ (Nat.le_refl _)
  ·rw[List.nil_append,hcd];exact bG st _
  ·rw[List.length_append,hcl,List.length_replicate,←Nat.add_mul]
   exact Nat.mul_le_mul_right _ (by omega)

theorem skV_sc(S:Sk):scK 10 (skV S):=⟨_,rfl,rfl,rfl⟩
theorem n6(l:List Sk):∀e∈l.map skV,scK 10 e:=fun e he=>by
 obtain⟨S,_,rfl⟩:=List.mem_map.1 he
 exact skV_sc S
theorem pd_nb(d:List UInt8):(pdV d).NB:=by
 unfold pdV
 split
 ·exact .lit _
 ·exact BB_slnb _ _
theorem pV_nb(p:Pk):(pV p).NB:=by
 refine .agg _ fun x hx=>?_
 simp only[List.mem_cons,List.not_mem_nil,or_false]at hx
 rcases hx with rfl|rfl|rfl|rfl
 ·exact .lit _
 ·exact .lit _
 ·exact pd_nb _
 ·exact .lit _
theorem pVs_nb(l:List Pk)(o:Bool)(k:Nat):(AV.sl o k (l.map pV)).NB:=by
 refine .sl _ _ _ fun c hc=>?_
 obtain⟨p,_,rfl⟩:=List.mem_map.1 hc
 exact pV_nb p
theorem sk_cnb(S:Sk):∀c∈(skV S).cells,c.NB:=by
 intro c hc
 have hc':c∈ [AV.lit _,AV.lit _,AV.lit _,AV.lit _,AV.lit _,AV.lit _,AV.lit _,AV.sl false 4 (S.q.map pV),AV.lit _,AV.lit _]:=hc
 simp only[List.mem_cons,List.not_mem_nil,or_false]at hc'
 rcases hc' with rfl|rfl|rfl|rfl|rfl|rfl|rfl|rfl|rfl|rfl
 all_goals first|exact .lit _|exact pVs_nb _ _ _
theorem skV_nb(S:Sk):(skV S).NB:=.agg _ (sk_cnb S)
theorem ss_nb(l:List Sk):(ssV l).NB:=by
 unfold ssV
 split
 ·exact .lit _
 ·refine .sl _ _ _ fun c hc=>?_
  obtain⟨S,_,rfl⟩:=List.mem_map.1 hc
  exact skV_nb S
theorem ws_nb(l:List Wt):(wsV l).NB:=by
 unfold wsV
 split
 ·exact .lit _
 ·refine .sl _ _ _ fun c hc=>?_
  obtain⟨w,_,rfl⟩:=List.mem_map.1 hc
  refine .agg _ fun x hx=>?_
  simp only[List.mem_cons,List.not_mem_nil,or_false]at hx
  rcases hx with rfl|rfl|rfl<;>exact .lit _
theorem rn_nb(R:NR):(rnV R).NB:=by
 refine .agg _ fun x hx=>?_
 simp only[List.mem_cons,List.not_mem_nil,or_false]at hx
 rcases hx with rfl|rfl|rfl
 ·exact .lit _
 ·exact ss_nb _
 ·exact ws_nb _
theorem n7{st:St}{v:AV}(h:v.NB):Frz st v v:=.le _ _ (.refl _) h
theorem rwith_calls{R:NR}(hs:R.socks.length≤1000){i:Nat}(hi:i<R.socks.length)(S:Sk)(st:St):aF Go.Proofs.Try.prog n_f78 [rnV R,.lit (.int .i64 (i:Nat)),skV S] st
  (fun v st'=>∃id cap q,v= .agg [.lit (.int .u64 (R.now:Nat)),.bs id 10 0 R.socks.length cap,wsV R.ws]∧st'.get id=some ((((R.socks.set i S).map skV).flatMap AV.cells)++q)∧R.socks.length≤cap∧∀c∈q,c.NB):=by
 obtain⟨w1,w2,w3,w4,w5,w6,w7,w8⟩:=aE R.ws
 have hne:R.socks≠[]:=fun e=>by rw[e]at hi;simp at hi
 have hsv:ssV R.socks= .sl false 10 (R.socks.map skV):=if_neg hne
 have hll:(R.socks.map skV).length=R.socks.length:=List.length_map ..
 refine aK hmix k_f78 rfl rfl fun Q hQ=>?_
 unfold aFun c_f78
 unfold rnV
 rw[hsv]
 have hcl:(skV S).cells.length=10:=rfl
 have hset:=fun q=>sck_set (n6 R.socks) (i:=i) (by rw[hll];exact hi) (skV_sc S) q
 have hms:(R.socks.map skV).set i (skV S)=(R.socks.set i S).map skV:=(List.map_set ..).symm
 have hsc:(skV S).cells= [.lit (.int .i64 (S.num:Nat)),.lit (.string S.nm),.lit (.int .i64 S.port),.lit (.int .i64 (S.pks:Nat)),.lit (.int .i64 (S.byt:Nat)),.lit (.int .i64 S.pol),.lit (.int .u64 (S.life:Nat)),.sl false 4 (S.q.map pV),.lit (.int .i64 (S.dr:Nat)),.lit (.int .i64 (S.old:Nat))]:=rfl
 rw[hsc]at hset
 unfold skV
 rw[show(fun S:Sk=>AV.agg [.lit (.int .i64 (S.num:Nat)),.lit (.string S.nm),.lit (.int .i64 S.port),.lit (.int .i64 (S.pks:Nat)),.lit (.int .i64 (S.byt:Nat)),.lit (.int .i64 S.pol),.lit (.int .u64 (S.life:Nat)),.sl false 4 (S.q.map pV),.lit (.int .i64 (S.dr:Nat)),.lit (.int .i64 (S.old:Nat))])=skV from rfl]
 simp(config:=KF) (disch:=omega)only[bZ,a9,addA,aa,srcA,↓reduceIte,Nat.reduceEqDiff,Nat.reduceAdd,reduceCtorEq,w2,w4]
 refine appB_newK (n6 R.socks) (bg (by rw[hll];omega)) (by simpa using hne) fun bid cap q s1 g1 g2 g3 g4 g5 g6=>?_
 rw[hll]
 have hlt:i*10+10≤(List.flatMap AV.cells (R.socks.map skV)++q).length:=by
  rw[List.length_append,gI (n6 R.socks),hll];omega
 simp(config:=KF) (disch:=omega)only[bZ,retI,bD,ixSV,af,addA,aa,gT,own1_bs,cells_bs,solid1_bs,↓reduceIte,Nat.reduceEqDiff,Nat.reduceAdd,Nat.reduceLeDiff,List.length_append,w2,w4,g1]
 refine⟨by rw[List.length_append]at hlt;exact hlt,hQ _ _ ⟨bid,cap,q,rfl,?_,by rw[←hll];exact g2,g4⟩⟩
 rw[aY (bI g1),←hms]
 exact congrArg some (hset q)
theorem jT{R:NR}(hs:R.socks.length≤1000){i:Nat}(hi:i<R.socks.length)(S:Sk)(st:St):az Go.Proofs.Try.prog n_f78 [rnV R,.lit (.int .i64 (i:Nat)),skV S] st (rnV {R with socks:=R.socks.set i S}):=by
 refine mt ((rwith_calls hs hi S ⟨[]⟩).mono ?_) (fun v hv=>?_) st
 ·rintro v s1 ⟨bid,cap,q,rfl,h1,h2,h3⟩
  have hne:R.socks.set i S≠[]:=fun e=>by
   have:=congrArg List.length e
   rw[List.length_set,List.length_nil]at this
   omega
  have hsv:ssV (R.socks.set i S)= .sl false 10 ((R.socks.set i S).map skV):=if_neg hne
  have hl:((R.socks.set i S).map skV).length=R.socks.length:=by rw[List.length_map,List.length_set]
  have hcl:=gI (n6 (R.socks.set i S))
  rw[hl]at hcl
  have hfr:=Frz.bs (st:=s1) bid 10 0 R.socks.length cap _ h1 (by rw[List.length_append,hcl];omega) h2 (fun c hc=>by
   rw[List.drop_zero]at hc
   rcases List.mem_append.1 hc with hc|hc
   ·obtain⟨e,he,hce⟩:=List.mem_flatMap.1 hc
    obtain⟨T,_,rfl⟩:=List.mem_map.1 he
    exact sk_cnb T c hce
   ·exact h3 c hc)
  rw[List.drop_zero,←hl,sck_grp (by decide) (n6 _),hl]at hfr
  have hno:∀d∈ [AV.lit (.int .u64 (R.now:Nat)),.sl false 10 ((R.socks.set i S).map skV),wsV R.ws],d.noOwn:=by
   intro d hd
   simp only[List.mem_cons,List.not_mem_nil,or_false]at hd
   rcases hd with rfl|rfl|rfl
   ·trivial
   ·trivial
   ·unfold wsV;split<;>trivial
  unfold rnV
  simp only
  rw[hsv]
  exact Frz.aggL ⟨n7 (.lit _),hfr,n7 (ws_nb _),trivial⟩ hno
 ·simp only[List.mem_cons,List.not_mem_nil,or_false]at hv
  rcases hv with rfl|rfl|rfl
  ·exact rn_nb R
  ·exact .lit _
  ·exact skV_nb S
theorem n8{R:NR}(hs:R.socks.length≤1000){i:Nat}(hi:i<R.socks.length){p:Pk}{ps:List Pk}(hq:R.socks[i].q=p::ps)(st:St):az Go.Proofs.Try.prog n_f81 [rnV R,.lit (.int .i64 (i:Nat))] st (.tup [rnV {R with socks:=R.socks.set i (eF R.socks[i])},pV p]):=by
 obtain⟨w1,w2,w3,w4,w5,w6,w7,w8⟩:=aE R.ws
 obtain⟨d1,d2,d3,d4,d5,d6,d7,d8⟩:=bT p.data
 have hne:R.socks≠[]:=fun e=>by rw[e]at hi;simp at hi
 have hsv:ssV R.socks= .sl false 10 (R.socks.map skV):=if_neg hne
 have hll:(R.socks.map skV).length=R.socks.length:=List.length_map ..
 have hg:=eW hi
 have hw:=jT hs hi (eF R.socks[i]) st
 rw[hq,List.map_cons]at hg
 rw[show skV (eF R.socks[i])= .agg [.lit (.int .i64 (R.socks[i].num:Nat)),.lit (.string R.socks[i].nm),.lit (.int .i64 R.socks[i].port),.lit (.int .i64 (R.socks[i].pks:Nat)),.lit (.int .i64 (R.socks[i].byt:Nat)),.lit (.int .i64 R.socks[i].pol),.lit (.int .u64 (R.socks[i].life:Nat)),.sl false 4 (R.socks[i].q.tail.map pV),.lit (.int .i64 (R.socks[i].dr:Nat)),.lit (.int .i64 (R.socks[i].old:Nat))]from rfl,hq,List.tail_cons]at hw
 obtain⟨s1,s2,s3,s4,s5,s6,s7,s8⟩:=aB (R.socks.set i (eF R.socks[i]))
 refine al hmix k_f81 rfl rfl fun Q hQ=>?_
 unfold aFun c_f81
 unfold rnV at hw hQ ⊢
 rw[hsv]at hw ⊢
 simp only at hw hQ
 generalize R.socks.set i (eF R.socks[i])=L at hw hQ s1 s2 s3 s4 s5 s6 s7 s8
 generalize R.socks[i]=T at hg hw
 unfold pV at hg
 rw[show(fun p:Pk=>AV.agg [.lit (.string p.nm),.lit (.int .i64 p.port),pdV p.data,.lit (.int .u64 (p.at_:Nat))])=pV from rfl]at hg
 simp(config:=KF) (disch:=omega)only[bZ,Nat.reduceBEq,bX,dt,fc,ixSV,cu,dp,eU,af,ixTo,addA,aa,id,bu,eL,cI,List.getD_cons_zero,Int.toNat_one,↓reduceIte,Nat.reduceEqDiff,Nat.reduceAdd,Nat.reduceLeDiff,Int.reduceLE,reduceCtorEq,or_false,bF,w2,w4,d2,d4,hg,hll]
 refine cD (by simp[am,ai,aw,ar,w2]) e_f78 hw (by simp[ao,aq]) ?_
 simp(config:=KF) (disch:=omega)only[bZ,Nat.reduceBEq,ksB,aL,bh,bz,aO,bU,bK,nstB,bA,eu,cJ,cm,bC,cK,dm,retI,af,aa,List.nil_append,↓reduceIte,Nat.reduceEqDiff,Nat.reduceAdd,Nat.reduceLeDiff,or_false,w2,w4,d2,d4,s2,s4]
 exact hQ _
end Go.Fx.YtgmeefljgbaanaaFx

