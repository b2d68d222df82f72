/- What the functions that the statement reaches compute: part 21. -/
import Derived.Test.YtgmeefljgbaanaaFxW20
namespace Go.Fx.YtgmeefljgbaanaaFx
open Go Go.Fx
attribute [local irreducible] aC runI aG aH

set_option maxRecDepth 100000
set_option maxHeartbeats 4000000

theorem advN_app(to:Nat):∀a b,advN to (a++b)=advN to a+advN to b
 | [],b=>by simp[advN]
 |S::r,b=>by simp only[List.cons_append,advN,advN_app to r b];omega
theorem advN_le(to:Nat):∀{l:List Sk},(∀S∈l,S.q.length≤256)→advN to l≤256*l.length
 | [],_=>Nat.le_refl _
 | S :: r, h => by
   have h1:=h S (by simp)
   have h2:=advN_le to (l:=r) fun T hT=>h T (by simp[hT])
   have h3:=(iO to S.life S.q 0).1
   unfold advN
   rw[List.length_cons];omega
def jU(S:Sk)(q:List Pk)(old:Nat):List AV:=[.lit (.int .i64 (S.num:Nat)),.lit (.string S.nm),.lit (.int .i64 S.port),.lit (.int .i64 (S.pks:Nat)),.lit (.int .i64 (S.byt:Nat)),.lit (.int .i64 S.pol),.lit (.int .u64 (S.life:Nat)),.sl false 4 (q.map pV),.lit (.int .i64 (S.dr:Nat)),.lit (.int .i64 (old:Nat))]
structure AJ where
 q:List Pk
 c:Nat
section
variable {R:NR} {k:Nat}
theorem radv_pure(h:ROk R k)(hk:k≤100000)(to:Nat)(hto:to<18446744073709551616)(st:St):az Go.Proofs.Try.prog n_f65 [rnV R,.lit (.int .u64 (to:Nat))] st (.tup [rnV (rAdv (to:Nat) R).1,.lit (.int .i64 (rAdv (to:Nat) R).2.1),.lit (.int .i64 (rAdv (to:Nat) R).2.2)]):=by
 obtain⟨s1,s2,s3,s4,s5,s6,s7,s8⟩:=aB R.socks
 obtain⟨w1,w2,w3,w4,w5,w6,w7,w8⟩:=aE R.ws
 have hsl:R.socks.length≤64:=h.len
 refine al hmix k_f65 rfl rfl fun Q hQ=>?_
 unfold aFun c_f65
 unfold rAdv at hQ
 by_cases c1:to<R.now
 ·rw[if_pos (.inl (by omega))]at hQ
  unfold rnV at hQ ⊢
  simp(config:=KF) (disch:=omega)only[bZ,retI,AI.dst,af,addA,aa,↓reduceIte,Nat.reduceEqDiff,Nat.reduceAdd,Nat.reduceLeDiff,reduceCtorEq,ba,w2,w4,s2,s4]
  exact hQ _
 by_cases c2:to=18446744073709551615
 ·rw[if_pos (.inr (by omega))]at hQ
  unfold rnV at hQ ⊢
  simp(config:=KF) (disch:=omega)only[bZ,retI,AI.dst,af,addA,aa,↓reduceIte,Nat.reduceEqDiff,Nat.reduceAdd,Nat.reduceLeDiff,reduceCtorEq,w2,w4,s2,s4]
  exact hQ _
 rw[if_neg (by omega),Int.toNat_natCast]at hQ
 unfold rnV at hQ ⊢
 simp only at hQ
 simp(config:=KF) (disch:=omega)only[bZ,AI.dst,af,addA,aa,↓reduceIte,Nat.reduceEqDiff,Nat.reduceAdd,Nat.reduceLeDiff,reduceCtorEq,w2,w4,s2,s4]
 rw[f65_17w]
 refine bB (A:=Nat) (fun i=>R.socks.length-i) (fun i=>⟨[(1,.lit (.int .u64 (to:Nat))),(2,.lptr 2 0),(4,.lptr 4 0),(7,.lit (.int .i64 (advN to (R.socks.take i):Nat))),(8,.lit (.int .i64 (i:Nat)))],[(2,[.lit (.int .u64 (to:Nat)),ssV ((R.socks.take i).map (advS to)++R.socks.drop i),wsV R.ws]),(4,[.lit (.int .u64 0),.lit (.slice none 0 0),.lit (.slice none 0 0)])]⟩) (fun _=>st)
  (fun i=>i≤R.socks.length) 0 (Nat.zero_le _) (Sf.le_refl _) rfl ?_
 rintro i i1 K hK hKe hKr
 have hLl:((R.socks.take i).map (advS to)++R.socks.drop i).length=R.socks.length:=by rw[List.length_append,List.length_map,List.length_take,List.length_drop];omega
 obtain⟨s1,s2,s3,s4,s5,s6,s7,s8⟩:=aB ((R.socks.take i).map (advS to)++R.socks.drop i)
 rw[hLl]at s8
 have hle:=advN_le to (l:=R.socks.take i) fun S hS=>by
  have:=h.ok S (List.mem_of_mem_take hS)
  omega
 rw[List.length_take]at hle
 by_cases hi:i<R.socks.length
 ·have hLi:i<((R.socks.take i).map (advS to)++R.socks.drop i).length:=by rw[hLl];exact hi
  have hge:((R.socks.take i).map (advS to)++R.socks.drop i)[i]=R.socks[i]:=by
   have h0:((R.socks.take i).map (advS to)).length=i:=by rw[List.length_map,List.length_take];omega
   have h1:((R.socks.take i).map (advS to)++R.socks.drop i)[i]?=some R.socks[i]:=by
    rw[List.getElem?_append_right (by omega),h0,Nat.sub_self,List.getElem?_drop,Nat.add_zero,List.getElem?_eq_getElem hi]
   exact Option.some.inj ((List.getElem?_eq_getElem hLi).symm.trans h1)
  have hset:((R.socks.take i).map (advS to)++R.socks.drop i).set i (advS to R.socks[i])=(R.socks.take (i+1)).map (advS to)++R.socks.drop (i+1):=by
   have h0:((R.socks.take i).map (advS to)).length=i:=by rw[List.length_map,List.length_take];omega
   rw[List.set_append_right _ _ (by omega),h0,Nat.sub_self,List.drop_eq_getElem_cons hi,List.set_cons_zero,List.take_succ_eq_append_getElem hi,List.map_append,List.append_assoc];rfl
  have hadv:advN to (R.socks.take (i+1))=advN to (R.socks.take i)+(cL to R.socks[i].life R.socks[i].q 0).2:=by
   rw[List.take_succ_eq_append_getElem hi,advN_app];rfl
  have hok:=h.ok R.socks[i] (List.getElem_mem hi)
  have hg:=eW hLi
  rw[hge]at hg
  have hwp:=jT (R:=⟨to,(R.socks.take i).map (advS to)++R.socks.drop i,R.ws⟩) (by simp only;omega) hLi (advS to R.socks[i]) st
  rw[hset]at hwp
  have hn:=hK (i+1)
  rw[hadv]at hn
  have hne:((R.socks.take i).map (advS to)++R.socks.drop i)≠[]:=fun e=>by rw[e]at hLi;simp at hLi
  have hsv:ssV ((R.socks.take i).map (advS to)++R.socks.drop i)= .sl false 10 (((R.socks.take i).map (advS to)++R.socks.drop i).map skV):=if_neg hne
  have hll:(((R.socks.take i).map (advS to)++R.socks.drop i).map skV).length=R.socks.length:=by rw[List.length_map,hLl]
  obtain⟨y1,y2,y3,y4,y5,y6,y7,y8⟩:=aB ((R.socks.take (i+1)).map (advS to)++R.socks.drop (i+1))
  have hlate:=iO to R.socks[i].life R.socks[i].q 0
  generalize (R.socks.take (i+1)).map (advS to)++R.socks.drop (i+1)=L2 at hwp hn y1 y2 y3 y4 y5 y6 y7 y8
  unfold rnV at hwp
  simp only at hwp
  rw[hsv]at hwp s1 s2 s3 s4 s5 s6 s7 ⊢
  generalize ((R.socks.take i).map (advS to)++R.socks.drop i).map skV=LV at hwp s1 s2 s3 s4 s5 s6 s7 hg hll ⊢
  generalize advN to (R.socks.take i)=old at hn hle ⊢
  generalize R.socks[i]=T at hg hok hwp hn hlate
  simp(config:=KF) (disch:=omega)only[bZ,ixSV,af,lenI,addA,aa,eL,↓reduceIte,Nat.reduceEqDiff,Nat.reduceAdd,Nat.reduceLeDiff,s1,s7,hg,hll]
  rw[f65_28w]
  refine bB (A:=AJ) (fun a=>a.q.length) (fun a=>⟨[(1,.lit (.int .u64 (to:Nat))),(2,.lptr 2 0),(4,.lptr 4 0),(7,.lit (.int .i64 ((old+a.c:Nat)))),(8,.lit (.int .i64 (i:Nat))),(9,.lptr 9 0)],[(2,[.lit (.int .u64 (to:Nat)),.sl false 10 LV,wsV R.ws]),(4,[.lit (.int .u64 0),.lit (.slice none 0 0),.lit (.slice none 0 0)]),(9,jU T a.q (T.old+a.c))]⟩) (fun _=>st)
   (fun a=>a.q.length+a.c=T.q.length∧cL to T.life a.q a.c=cL to T.life T.q 0∧∀p∈a.q,p∈T.q) ⟨T.q,0⟩ ⟨rfl,rfl,fun _ q=>q⟩ (Sf.le_refl _) rfl ?_
  rintro⟨q,c⟩ ⟨j1,j2,j3⟩ K2 hK2 hKe2 hKr2
  simp only at j1 j2 j3
  dsimp only
  unfold jU
  have hexit:cL to T.life q c=(q,c)→skV (advS to T)= .agg (jU T q (T.old+c))∧(cL to T.life T.q 0).2=c:=fun e=>by
   rw[e]at j2
   unfold advS skV
   rw[←j2]
   exact⟨rfl,rfl⟩
  cases q with
  | nil =>
    obtain⟨x1,x2⟩:=hexit rfl
    rw[x1]at hwp
    rw[x2]at hn
    unfold jU at hwp
    rw[List.map_nil]at hwp ⊢
    by_cases hl:0<T.life
    ·simp(config:=KF) (disch:=omega)only[bZ,dN,cM,c9,aW,dB,AI.dst,lenI,addA,aa,↓reduceIte,Nat.reduceEqDiff,ec,dC]
     refine hKe2 _ _ _ ?_
     simp(config:=KF) (disch:=omega)only[bZ,aa,id,↓reduceIte,Nat.reduceEqDiff,Nat.reduceAdd,Nat.reduceLeDiff,w2,s2]
     refine ag (by simp[am,ai,aw,ar,aM,s2,w2]) e_f78 hwp (by simp[ao,aq,aI,s5,w5]) ?_
     simp(config:=KF) (disch:=omega)only[bZ,af,↓reduceIte,Nat.reduceEqDiff,Nat.reduceAdd,Nat.reduceLeDiff,w2,w4,y2,y4]
     exact hn _ hi (by omega) (Sf.le_refl _)
    ·simp(config:=KF) (disch:=omega)only[bZ,dN,aW,dB,AI.dst,addA,aa,↓reduceIte,Nat.reduceEqDiff,dC]
     refine hKe2 _ _ _ ?_
     simp(config:=KF) (disch:=omega)only[bZ,aa,id,↓reduceIte,Nat.reduceEqDiff,Nat.reduceAdd,Nat.reduceLeDiff,w2,s2]
     refine ag (by simp[am,ai,aw,ar,aM,s2,w2]) e_f78 hwp (by simp[ao,aq,aI,s5,w5]) ?_
     simp(config:=KF) (disch:=omega)only[bZ,af,↓reduceIte,Nat.reduceEqDiff,Nat.reduceAdd,Nat.reduceLeDiff,w2,w4,y2,y4]
     exact hn _ hi (by omega) (Sf.le_refl _)
  | cons p r =>
    obtain⟨d1,d2,d3,d4,d5,d6,d7,d8⟩:=bT p.data
    have hpt:=(hok.2.2.2.2.2.2 p (j3 p (by simp))).2
    have hpv:(p::r).map pV= .agg [.lit (.string p.nm),.lit (.int .i64 p.port),pdV p.data,.lit (.int .u64 (p.at_:Nat))]::r.map pV:=rfl
    by_cases hl:0<T.life
    ·by_cases hlt:T.life≤to-p.at_
     ·have hst:cL to T.life (p::r) c=cL to T.life r (c+1):=by
       conv=>lhs;unfold cL
       rw[if_pos ⟨hl,hlt⟩]
      rw[hst]at j2
      have hnx:=hK2 ⟨r,c+1⟩
      simp only at hnx
      unfold jU at hnx
      have hlr:(p::r).length=r.length+1:=rfl
      rw[hpv]
      simp(config:=KF) (disch:=omega)only[bZ,dN,eO,cM,c9,AI.dst,dt,fc,ixSV,cu,dp,eU,af,ixTo,lenI,addA,aa,n_sub,bu,List.getD_cons_zero,Int.toNat_one,↓reduceIte,Nat.reduceEqDiff,Nat.reduceAdd,Nat.reduceLeDiff,Int.reduceLE,bF,ec,IntWalk.u64_in,qB]
      exact hnx _ ⟨by omega,j2,fun x hx=>j3 x (by simp[hx])⟩ (by omega) (Sf.le_refl _)
     ·obtain⟨x1,x2⟩:=hexit (by unfold cL;rw[if_neg (fun z=>hlt z.2)])
      rw[x1]at hwp
      rw[x2]at hn
      unfold jU at hwp
      rw[hpv]at hwp ⊢
      simp(config:=KF) (disch:=omega)only[bZ,dN,eO,cM,c9,AI.dst,ixSV,lenI,addA,aa,n_sub,List.getD_cons_zero,↓reduceIte,Nat.reduceEqDiff,Int.reduceLE,ec,IntWalk.u64_in,qB]
      refine hKe2 _ _ _ ?_
      simp(config:=KF) (disch:=omega)only[bZ,aa,id,↓reduceIte,Nat.reduceEqDiff,Nat.reduceAdd,Nat.reduceLeDiff,w2,s2]
      refine ag (by simp[am,ai,aw,ar,aM,s2,w2]) e_f78 hwp (by simp[ao,aq,aI,s5,w5]) ?_
      simp(config:=KF) (disch:=omega)only[bZ,af,↓reduceIte,Nat.reduceEqDiff,Nat.reduceAdd,Nat.reduceLeDiff,w2,w4,y2,y4]
      exact hn _ hi (by omega) (Sf.le_refl _)
    ·obtain⟨x1,x2⟩:=hexit (by unfold cL;rw[if_neg (fun z=>hl z.1)])
     rw[x1]at hwp
     rw[x2]at hn
     unfold jU at hwp
     rw[hpv]at hwp ⊢
     simp(config:=KF) (disch:=omega)only[bZ,dN,aW,dB,AI.dst,addA,aa,↓reduceIte,Nat.reduceEqDiff,dC]
     refine hKe2 _ _ _ ?_
     simp(config:=KF) (disch:=omega)only[bZ,aa,id,↓reduceIte,Nat.reduceEqDiff,Nat.reduceAdd,Nat.reduceLeDiff,w2,s2]
     refine ag (by simp[am,ai,aw,ar,aM,s2,w2]) e_f78 hwp (by simp[ao,aq,aI,s5,w5]) ?_
     simp(config:=KF) (disch:=omega)only[bZ,af,↓reduceIte,Nat.reduceEqDiff,Nat.reduceAdd,Nat.reduceLeDiff,w2,w4,y2,y4]
     exact hn _ hi (by omega) (Sf.le_refl _)
 ·obtain rfl:i=R.socks.length:=by omega
  rw[List.take_length,List.drop_length,List.append_nil]at s1 s2 s3 s4 s5 s6 s7 s8 ⊢
  simp(config:=KF) (disch:=omega)only[bZ,addA,aa,↓reduceIte,Nat.reduceEqDiff,s1,s8]
  refine hKe _ _ _ ?_
  simp(config:=KF) (disch:=omega)only[bZ,retI,af,aa,↓reduceIte,Nat.reduceEqDiff,Nat.reduceAdd,Nat.reduceLeDiff,w2,w4,s2,s4]
  exact hQ _
end
end Go.Fx.YtgmeefljgbaanaaFx

