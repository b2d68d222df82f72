/- What the functions that the statement reaches compute: part 19. -/
import Derived.Test.YtgmeefljgbaanaaFxW18
namespace Go.Fx.YtgmeefljgbaanaaFx
open Go Go.Fx
attribute [local irreducible] aC runI aG aH

set_option maxRecDepth 100000
set_option maxHeartbeats 4000000

def rcsV(l:List Rc):AV:=if l= []then .lit (.slice none 0 0)else .sl false 7 (l.map rcV)
section
variable {R:NR} {k:Nat}
theorem rsend_pure(h:ROk R k)(hk:k≤100000)(n:Int)(nm:ByteArray)(port:Int)(hnm:nm.size<1000000000)(d:List UInt8)(hd:d.length≤100000)(st:St) :
  az Go.Proofs.Try.prog n_f60 [rnV R,.lit (.int .i64 n),adAV nm port,dV d] st (.tup [rnV (cy n nm port d R).1,rcsV (cy n nm port d R).2.1,.lit (.int .i64 (cy n nm port d R).2.2)]):=by
 obtain⟨s1,s2,s3,s4,s5,s6,s7,s8⟩:=aB R.socks
 obtain⟨w1,w2,w3,w4,w5,w6,w7,w8⟩:=aE R.ws
 have hsl:R.socks.length≤1000:=by have:=h.len;omega
 have hwl:R.ws.length≤1000:=by have:=h.wl;omega
 have hbl:=bq d
 refine al hmix k_f60 rfl rfl fun Q hQ=>?_
 unfold aFun c_f60
 have had:=fT st nm port hnm
 have hat:=jf (R:=R) hsl hwl n st
 have hof:=kL (R:=R) hsl hwl nm port st
 unfold cy at hQ
 unfold adAV at had hof
 cases hva:eE nm port with
 | false =>
   rw[hva]at had
   rw[if_pos hva]at hQ
   unfold rnV at hQ ⊢
   unfold adAV dV
   simp(config:=KF) (disch:=omega)only[bZ,aa,id,cI,↓reduceIte,Nat.reduceEqDiff,Nat.reduceAdd,Nat.reduceLeDiff,reduceCtorEq,s2,s4,w2,w4]
   refine ag rfl e_f73 had rfl ?_
   simp(config:=KF) (disch:=omega)only[bZ,retI,af,aa,unA,↓reduceIte,Nat.reduceEqDiff,Nat.reduceAdd,Nat.reduceLeDiff,s2,s4,w2,w4]
   exact hQ _
 |true =>
 rw[hva]at had
 rw[if_neg (by rw[hva];decide)]at hQ
 by_cases c1:2048<d.length
 ·rw[if_pos c1]at hQ
  unfold rnV at hQ ⊢
  unfold adAV dV
  simp(config:=KF) (disch:=omega)only[bZ,aa,id,cI,↓reduceIte,Nat.reduceEqDiff,Nat.reduceAdd,Nat.reduceLeDiff,reduceCtorEq,s2,s4,w2,w4]
  refine ag rfl e_f73 had rfl ?_
  simp(config:=KF) (disch:=omega)only[bZ,retI,af,lenI,aa,unA,↓reduceIte,Nat.reduceEqDiff,Nat.reduceAdd,Nat.reduceLeDiff,s2,s4,w2,w4,hbl]
  exact hQ _
 rw[if_neg c1]at hQ
 rcases eA n R.socks with⟨e1,e2⟩|⟨i,hi,e1,e2,e3,e4,_⟩
 ·rw[e2]at hQ
  rw[e1]at hat
  unfold rnV at hat hQ ⊢
  unfold adAV dV
  simp(config:=KF) (disch:=omega)only[bZ,aa,id,cI,↓reduceIte,Nat.reduceEqDiff,Nat.reduceAdd,Nat.reduceLeDiff,reduceCtorEq,s2,s4,w2,w4]
  refine ag rfl e_f73 had rfl ?_
  simp(config:=KF) (disch:=omega)only[bZ,lenI,aa,unA,id,↓reduceIte,Nat.reduceEqDiff,Nat.reduceAdd,Nat.reduceLeDiff,s2,w2,hbl]
  refine ag (by simp[am,ai,aw,ar,aM,s2,w2]) e_f41 hat (by simp[ao,aq,aI,s5,w5]) ?_
  simp(config:=KF) (disch:=omega)only[bZ,retI,af,aa,↓reduceIte,Nat.reduceEqDiff,Nat.reduceAdd,Nat.reduceLeDiff,Int.reduceLT,Int.reduceNeg,s2,s4,w2,w4]
  exact hQ _
 rw[e3]at hQ
 simp only at hQ
 rw[e1]at hat
 have hne:R.socks≠[]:=fun e=>by rw[e]at hi;simp at hi
 have hsv:ssV R.socks= .sl false 10 (R.socks.map skV):=if_neg hne
 have hll:(R.socks.map skV).length=R.socks.length:=List.length_map ..
 have hg:=eW hi
 obtain⟨d1,d2,d3,d4,d5,d6,d7,d8⟩:=bT d
 suffices hgo:aC Go.Proofs.Try.prog id true f60_25 ⟨[(4,.lptr 4 0),(6,.lptr 6 0),(8,.lptr 8 0),(12,.lptr 12 0)],[(4,[.lit (.int .u64 (R.now:Nat)),.sl false 10 (R.socks.map skV),wsV R.ws]),(6,[.lit (.string nm),.lit (.int .i64 port)]),(8,[.lit (.int .u64 0),.lit (.slice none 0 0),.lit (.slice none 0 0)]),(12,[.lit (.string R.socks[i].nm),.lit (.int .i64 R.socks[i].port),pdV d,.lit (.int .u64 (R.now:Nat))])]⟩ st (retQ [RI.cell 8 (some 3),RI.tmp 9,RI.tmp 10] Q) by
  unfold rnV at hat ⊢
  unfold adAV dV
  rw[hsv]at hat s1 s2 s3 s4 s5 s6 s7 ⊢
  by_cases hd0:d= []
  ·have hpd:pdV d= .lit (.slice none 0 0):=if_pos hd0
   have hb0:BB d= []:=by rw[hd0];rfl
   have hl0:d.length=0:=by rw[hd0];rfl
   rw[hpd]at hgo
   rw[hb0]at hbl ⊢
   simp(config:=KF) (disch:=omega)only[bZ,aa,id,cI,↓reduceIte,Nat.reduceEqDiff,Nat.reduceAdd,Nat.reduceLeDiff,reduceCtorEq,s2,s4,w2,w4]
   refine ag rfl e_f73 had rfl ?_
   simp(config:=KF) (disch:=omega)only[bZ,lenI,aa,unA,id,↓reduceIte,Nat.reduceEqDiff,Nat.reduceLeDiff,s2,w2,hbl]
   refine ag (by simp[am,ai,aw,ar,aM,s2,w2]) e_f41 hat (by simp[ao,aq,aI,s5,w5]) ?_
   simp(config:=KF) (disch:=omega)only[bZ,Nat.reduceBEq,ksB,aL,bh,bz,aO,bU,bK,nstB,bA,cb,eO,nQ,gq,gg,cK,fd,ixSV,af,addA,aa,bd,srcA,ep,eL,cI,List.nil_append,↓reduceIte,Nat.reduceEqDiff,Nat.reduceAdd,Nat.reduceLeDiff,or_false,s1,s7,hg,hll,hbl]
   exact hgo
  ·have hpd:pdV d= .sl false 1 (BB d):=if_neg hd0
   have hie:(BB d).isEmpty=false:=by
    cases hx:d with
    |nil=>exact absurd hx hd0
    |cons=>rfl
   rw[hpd]at hgo
   simp(config:=KF) (disch:=omega)only[bZ,aa,id,cI,↓reduceIte,Nat.reduceEqDiff,Nat.reduceAdd,Nat.reduceLeDiff,reduceCtorEq,s2,s4,w2,w4]
   refine ag rfl e_f73 had rfl ?_
   simp(config:=KF) (disch:=omega)only[bZ,lenI,aa,unA,id,↓reduceIte,Nat.reduceEqDiff,Nat.reduceAdd,Nat.reduceLeDiff,s2,w2,hbl]
   refine ag (by simp[am,ai,aw,ar,aM,s2,w2]) e_f41 hat (by simp[ao,aq,aI,s5,w5]) ?_
   simp(config:=KF) (disch:=omega)only[bZ,Nat.reduceBEq,ksB,aL,bh,bz,aO,bU,bK,nstB,bA,cb,eO,nQ,gq,gg,cK,fd,ixSV,af,addA,aa,bd,srcA,bu,ep,eL,cI,List.nil_append,↓reduceIte,Nat.reduceEqDiff,Nat.reduceAdd,Nat.reduceLeDiff,or_false,nP,bg,s1,s7,hg,hll,hbl,hie]
   exact hgo
 rcases n9 nm port R.socks with⟨f1,f2⟩|⟨j,hj,f1,f2⟩
 ·rw[f2]at hQ
  rw[f1]at hof
  unfold rnV at hof hQ
  rw[hsv]at hof hQ s1 s2 s3 s4 s5 s6 s7
  simp(config:=KF) (disch:=omega)only[bZ,aa,id,↓reduceIte,Nat.reduceEqDiff,Nat.reduceAdd,Nat.reduceLeDiff,f60_25e,s2,w2]
  refine ag (by simp[am,ai,aw,ar,aM,s2,w2]) e_f74 hof (by simp[ao,aq,aI,s5,w5]) ?_
  simp(config:=KF) (disch:=omega)only[bZ,retI,af,aa,↓reduceIte,Nat.reduceEqDiff,Nat.reduceAdd,Nat.reduceLeDiff,Int.reduceLT,Int.reduceNeg,s2,s4,w2,w4]
  exact hQ _
 rw[f2]at hQ
 rw[f1]at hof
 simp only at hQ
 have hgj:=eW hj
 have hfi:=jR (R:=R) hsl hwl (R.socks[j].num:Nat) st
 have hokj:=h.ok R.socks[j] (List.getElem_mem hj)
 rcases pN (R.socks[j].num:Nat) R.ws with⟨g1,g2,_⟩|⟨q,hq,g1,g2,_,_⟩
 ·rw[g2]at hQ
  rw[g1]at hfi
  simp only at hQ
  have hgp:=rget_pure R.socks[j] ⟨R.socks[i].nm,R.socks[i].port,d,R.now⟩ (by omega) (by omega) (by omega) (by simpa using hd) (by omega) (by omega) (by omega) st
  have hwp:=jT hsl hj (getS ⟨R.socks[i].nm,R.socks[i].port,d,R.now⟩ R.socks[j]) st
  have hmn:=mod_num h.srt hj (getS ⟨R.socks[i].nm,R.socks[i].port,d,R.now⟩)
  rw[hmn]at hQ
  unfold pV at hgp
  simp only at hgp
  rw[show skV R.socks[j]= .agg [.lit (.int .i64 (R.socks[j].num:Nat)),.lit (.string R.socks[j].nm),.lit (.int .i64 R.socks[j].port),.lit (.int .i64 (R.socks[j].pks:Nat)),.lit (.int .i64 (R.socks[j].byt:Nat)),.lit (.int .i64 R.socks[j].pol),.lit (.int .u64 (R.socks[j].life:Nat)),.sl false 4 (R.socks[j].q.map pV),.lit (.int .i64 (R.socks[j].dr:Nat)),.lit (.int .i64 (R.socks[j].old:Nat))]from rfl]at hgp
  have hsd:∀S:Sk,(skV S).dis=skV S∧(skV S).noL=true:=fun S=>⟨rfl,rfl⟩
  generalize getS ⟨R.socks[i].nm,R.socks[i].port,d,R.now⟩ R.socks[j]=G at hgp hwp hQ
  obtain⟨t1,t2⟩:=hsd G
  generalize hGe:skV G=GV at hgp hwp t1 t2
  obtain⟨y1,y2,y3,y4,y5,y6,y7,y8⟩:=aB (R.socks.set j G)
  unfold rnV at hof hfi hwp hQ
  simp only at hwp hQ
  rw[hsv]at hof hfi hwp s1 s2 s3 s4 s5 s6 s7
  generalize ssV (R.socks.set j G)=LV at hwp hQ y1 y2 y3 y4 y5 y6 y7
  simp(config:=KF) (disch:=omega)only[bZ,aa,id,↓reduceIte,Nat.reduceEqDiff,Nat.reduceAdd,Nat.reduceLeDiff,f60_25e,s2,w2]
  refine ag (by simp[am,ai,aw,ar,aM,s2,w2]) e_f74 hof (by simp[ao,aq,aI,s5,w5]) ?_
  simp(config:=KF) (disch:=omega)only[bZ,eO,ixSV,addA,aa,id,↓reduceIte,Nat.reduceEqDiff,Nat.reduceAdd,Nat.reduceLeDiff,s1,s2,w2,hgj,hll]
  refine ag (by simp[am,ai,aw,ar,aM,s2,w2]) e_f75 hfi (by simp[ao,aq,aI,s5,w5]) ?_
  simp(config:=KF) (disch:=omega)only[bZ,eO,bX,ixSV,addA,aa,id,↓reduceIte,Nat.reduceEqDiff,Nat.reduceAdd,Nat.reduceLeDiff,Int.reduceNeg,s1,s2,w2,d2,hgj,hll]
  refine cD (by simp[am,ai,aw,ar,aM,s2,w2,d2]) e_f79 hgp (by simp[ao,aq,aI,d5]) ?_
  simp(config:=KF) (disch:=omega)only[bZ,bC,id,↓reduceIte,Nat.reduceEqDiff,Int.reduceNeg]
  refine ag (by simp[am,ai,aw,ar,aM,s2,w2,t1]) e_f78 hwp (by simp[ao,aq,aI,s5,w5,t2]) ?_
  simp(config:=KF) (disch:=omega)only[bZ,retI,af,aa,↓reduceIte,Nat.reduceEqDiff,Nat.reduceAdd,Nat.reduceLeDiff,Int.reduceNeg,w2,w4,y2,y4]
  exact hQ _
 ·rw[g2]at hQ
  rw[g1]at hfi
  simp only at hQ
  have hgw:=kJ hq
  have hwn0:R.ws≠[]:=fun e=>by rw[e]at hq;simp at hq
  have hwn:wsV R.ws= .sl false 3 (R.ws.map wtV):=if_neg hwn0
  have hlw:(R.ws.map wtV).length=R.ws.length:=List.length_map ..
  have hcp:=lF R.ws[q].task ⟨R.socks[i].nm,R.socks[i].port,d,R.now⟩ R.ws[q].most (h.wm _ (List.getElem_mem hq)).1 (by simpa using hd) st
  have hdp:=jS (R:=R) hwl hq st
  obtain⟨x1,x2,x3,x4,x5,x6,x7,x8⟩:=aE (R.ws.eraseIdx q)
  generalize cutR R.ws[q].task ⟨R.socks[i].nm,R.socks[i].port,d,R.now⟩ R.ws[q].most=C at hcp hQ
  obtain⟨z1,z2,z3,z4,z5,z6,z7,z8⟩:=bT C.data
  rw[show rcsV [C]= .sl false 7 [rcV C]from rfl]at hQ
  unfold pV at hcp
  simp only at hcp
  unfold rcV rcAV at hcp hQ
  unfold rnV at hof hfi hdp hQ
  simp only at hdp hQ
  rw[hsv]at hof hfi hdp hQ s1 s2 s3 s4 s5 s6 s7
  rw[hwn]at hof hfi hdp w1 w2 w3 w4 w5 w6 w7 ⊢
  simp(config:=KF) (disch:=omega)only[bZ,aa,id,↓reduceIte,Nat.reduceEqDiff,Nat.reduceAdd,Nat.reduceLeDiff,f60_25e,s2,w2]
  refine ag (by simp[am,ai,aw,ar,aM,s2,w2]) e_f74 hof (by simp[ao,aq,aI,s5,w5]) ?_
  simp(config:=KF) (disch:=omega)only[bZ,eO,ixSV,addA,aa,id,↓reduceIte,Nat.reduceEqDiff,Nat.reduceAdd,Nat.reduceLeDiff,s1,s2,w2,hgj,hll]
  refine ag (by simp[am,ai,aw,ar,aM,s2,w2]) e_f75 hfi (by simp[ao,aq,aI,s5,w5]) ?_
  simp(config:=KF) (disch:=omega)only[bZ,Nat.reduceBEq,eO,bX,ixSV,addA,aa,id,↓reduceIte,Nat.reduceEqDiff,Nat.reduceAdd,Nat.reduceLeDiff,or_false,w1,d2,hgw,hlw]
  refine cD (by simp[am,ai,aw,ar,aM,s2,w2,d2]) e_f76 hcp (by simp[ao,aq,aI,d5]) ?_
  simp(config:=KF) (disch:=omega)only[bZ,Nat.reduceBEq,ksB,aL,bh,bz,aO,bU,bK,nstB,bA,cb,bX,gg,bC,cK,fd,af,aa,id,ep,eL,List.nil_append,↓reduceIte,Nat.reduceEqDiff,Nat.reduceAdd,Nat.reduceLeDiff,or_false,s2,w2,w7,z2,z4]
  refine cD (by simp[am,ai,aw,ar,aM,s2,w2]) e_f77 hdp (by simp[ao,aq,aI,s5,w5]) ?_
  simp(config:=KF) (disch:=omega)only[bZ,Nat.reduceBEq,ksB,aL,bh,bz,aO,bU,bK,nstB,bA,hh_bsl,eu,cJ,cm,bC,cK,dm,retI,bslV,List.reduceReplicate,aa,cd,bN,aI,List.nil_append,↓reduceIte,Nat.reduceEqDiff,Nat.reduceAdd,Nat.reduceLT,Nat.reduceLeDiff,or_false,s2,s4,z2,z4,x2,x4]
  exact hQ _
end
end Go.Fx.YtgmeefljgbaanaaFx

