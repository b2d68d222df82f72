/- What the functions that the statement reaches compute: part 20. -/
import Derived.Test.YtgmeefljgbaanaaFxW19
namespace Go.Fx.YtgmeefljgbaanaaFx
open Go Go.Fx
attribute [local irreducible] aC runI aG aH

set_option maxRecDepth 100000
set_option maxHeartbeats 4000000

section
variable {R:NR} {k:Nat}
theorem fil_eq{n:Int}{W:List Wt}{q:Nat}(hq:q<W.length)(h1:(W[q].sock:Int)=n)(h2:∀x∈W.take q,(x.sock:Int)≠n):W.filter (fun w=>decide ((w.sock:Int)=n))=W[q]::(W.eraseIdx q).filter (fun w=>decide ((w.sock:Int)=n))∧(W.eraseIdx q).filter (fun w=>decide ((w.sock:Int)≠n))=W.filter (fun w=>decide ((w.sock:Int)≠n)):=by
 have hW:W=W.take q++W[q]::W.drop (q+1):=by
  conv=>lhs;rw[←List.take_append_drop q W,List.drop_eq_getElem_cons hq]
 have he:W.eraseIdx q=W.take q++W.drop (q+1):=List.eraseIdx_eq_take_drop_succ ..
 have hf:(W.take q).filter (fun w=>decide ((w.sock:Int)=n))= []:=List.filter_eq_nil_iff.2 fun x hx=>by simpa using h2 x hx
 rw[he]
 constructor
 ·conv=>lhs;rw[hW]
  rw[List.filter_append,List.filter_append,hf,List.filter_cons,if_pos (by simpa using h1)]
  rfl
 ·conv=>rhs;rw[hW]
  rw[List.filter_append,List.filter_append,List.filter_cons,if_neg (by simpa using h1)]
theorem rc_dis(l:List Rc):(l.map rcV).map AV.dis=l.map rcV:=by
 rw[List.map_map]
 refine List.map_congr_left fun r _=>?_
 obtain⟨d1,d2,d3,d4,d5,d6,d7,d8⟩:=bT r.data
 show(rcV r).dis=rcV r
 unfold rcV rcAV
 rw[am]
 simp[ai,d2]
structure CJ where
 W:List Wt
 acc:List Rc
theorem rclose_pure(h:ROk R k)(n:Int)(st:St):az Go.Proofs.Try.prog n_f64 [rnV R,.lit (.int .i64 n)] st (.tup [rnV (eB n R).1,rcsV (eB n R).2.1,.lit (.int .i64 (eB n R).2.2)]):=by
 obtain⟨s1,s2,s3,s4,s5,s6,s7,s8⟩:=aB R.socks
 obtain⟨w1,w2,w3,w4,w5,w6,w7,w8⟩:=aE R.ws
 have hsl:R.socks.length≤1000:=by have:=h.len;omega
 have hwl:R.ws.length≤64:=h.wl
 refine al hmix k_f64 rfl rfl fun Q hQ=>?_
 unfold aFun c_f64
 have hat:=jf (R:=R) hsl (by omega) n st
 unfold eB at hQ
 rcases eA n R.socks with⟨e1,e2⟩|⟨i,hi,e1,e2,e3,_,e5⟩
 ·rw[e2]at hQ
  rw[e1]at hat
  unfold rnV at hat hQ ⊢
  simp(config:=KF) (disch:=omega)only[bZ,aa,id,↓reduceIte,Nat.reduceEqDiff,Nat.reduceAdd,Nat.reduceLeDiff,reduceCtorEq,s2,s4,w2,w4]
  refine ag (by simp[am,ai,aw,ar,aM,s2,w2]) e_f41 hat (by simp[ao,aq,aI,s5,w5]) ?_
  simp(config:=KF) (disch:=omega)only[bZ,retI,af,aa,↓reduceIte,Nat.reduceEqDiff,Nat.reduceAdd,Nat.reduceLeDiff,Int.reduceLT,Int.reduceNeg,s2,s4,w2,w4]
  exact hQ _
 rw[e3,e5]at hQ
 simp only at hQ
 rw[e1]at hat
 have hfi0:=jR (R:=R) hsl (by omega) n st
 unfold rnV at hat hfi0 ⊢
 simp(config:=KF) (disch:=omega)only[bZ,aa,id,↓reduceIte,Nat.reduceEqDiff,Nat.reduceAdd,Nat.reduceLeDiff,reduceCtorEq,s2,s4,w2,w4]
 refine ag (by simp[am,ai,aw,ar,aM,s2,w2]) e_f41 hat (by simp[ao,aq,aI,s5,w5]) ?_
 simp(config:=KF) (disch:=omega)only[bZ,aa,id,↓reduceIte,Nat.reduceEqDiff,Nat.reduceAdd,Nat.reduceLeDiff,s2,w2]
 refine ag (by simp[am,ai,aw,ar,aM,s2,w2]) e_f75 hfi0 (by simp[ao,aq,aI,s5,w5]) ?_
 simp(config:=KF) (disch:=omega)only[bZ,↓reduceIte,Nat.reduceEqDiff]
 rw[f64_17w]
 refine bB (A:=CJ) (fun a=>a.W.length) (fun a=>⟨[(1,.lit (.int .i64 n)),(2,.lptr 2 0),(4,.lptr 4 0),(7,.lit (.int .i64 (i:Nat))),(8,rowG 7 (a.acc.map rcV)),(9,.lit (.int .i64 (fstI (fun x:Wt=>decide ((x.sock:Int)=n)) a.W 0)))],[(2,[.lit (.int .u64 (R.now:Nat)),ssV R.socks,wsV a.W]),(4,[.lit (.int .u64 0),.lit (.slice none 0 0),.lit (.slice none 0 0)])]⟩) (fun _=>st)
  (fun a=>a.W.length≤64∧a.acc.length+a.W.length≤64∧a.acc++(a.W.filter fun w=>decide ((w.sock:Int)=n)).map clRc=(R.ws.filter fun w=>decide ((w.sock:Int)=n)).map clRc∧a.W.filter (fun w=>decide ((w.sock:Int)≠n))=R.ws.filter fun w=>decide ((w.sock:Int)≠n)) ⟨R.ws,[]⟩ ⟨hwl,by simpa using hwl,rfl,rfl⟩ (Sf.le_refl _) rfl ?_
 rintro⟨W,acc⟩ ⟨i1,i2,i3,i4⟩ K hK hKe hKr
 simp only at i1 i2 i3 i4
 dsimp only
 obtain⟨w1,w2,w3,w4,w5,w6,w7,w8⟩:=aE W
 obtain⟨j1,j2,j3,j4⟩:=nZ 7 (acc.map rcV)
 rcases pN n W with⟨f1,f2,f3⟩|⟨q,hq,f1,f2,f3,f4⟩
 ·rw[f1]
  have hE:W.filter (fun w=>decide ((w.sock:Int)=n))= []:=List.filter_eq_nil_iff.2 fun x hx=>by simpa using f3 x hx
  have hA:W.filter (fun w=>decide ((w.sock:Int)≠n))=W:=List.filter_eq_self.2 fun x hx=>by simpa using f3 x hx
  rw[hE,List.map_nil,List.append_nil]at i3
  rw[hA]at i4
  rw[←i3,←i4]at hQ
  have hrd:(rowG 7 (acc.map rcV)).dis=rcsV acc:=by
   unfold rowG rcsV
   by_cases ha:acc= []
   ·rw[if_pos ha,if_pos (by rw[ha];rfl)];rfl
   ·rw[if_neg ha,if_neg (by simpa using ha)];rfl
  have hne:R.socks≠[]:=fun e=>by rw[e]at hi;simp at hi
  have hsv:ssV R.socks= .sl false 10 (R.socks.map skV):=if_neg hne
  have hll:(R.socks.map skV).length=R.socks.length:=List.length_map ..
  have he:R.socks.eraseIdx i=R.socks.take i++R.socks.drop (i+1):=List.eraseIdx_eq_take_drop_succ ..
  have hd1:=kM (R.socks.take i)
  have hd2:=kM (R.socks.drop (i+1))
  rw[List.map_take]at hd1
  rw[List.map_drop]at hd2
  have hrs:(rcsV acc).noL=true:=by unfold rcsV;split<;>rfl
  have hrd2:(rcsV acc).dis=rcsV acc:=by
   unfold rcsV;split
   ·rfl
   ·rfl
  unfold rnV at hQ
  simp only at hQ
  rw[hsv]at s1 s2 s3 s4 s5 s6 s7 ⊢
  simp(config:=KF) (disch:=omega)only[bZ,↓reduceIte,Nat.reduceEqDiff,Int.reduceNeg]
  refine hKe _ _ _ ?_
  by_cases h1:R.socks.take i= []
  ·have h1':(R.socks.map skV).take i= []:=by rw[←List.map_take,h1];rfl
   by_cases h2:R.socks.drop (i+1)= []
   ·have h2':(R.socks.map skV).drop (i+1)= []:=by rw[←List.map_drop,h2];rfl
    rw[he,h1,h2]at hQ
    simp(config:=KF) (disch:=omega)only[bZ,gf,gq,retI,ci,cu,cX,af,ixTo,addA,aa,bd,srcA,↓reduceIte,Nat.reduceEqDiff,Nat.reduceAdd,Nat.reduceLeDiff,bF,s1,w2,w4,hrd,hrd2,hrs,hll,h1',h2']
    exact hQ _
   ·have h2':((R.socks.map skV).drop (i+1)).isEmpty=false:=by
     rw[←List.map_drop]
     cases hx:R.socks.drop (i+1)with
     |nil=>exact absurd hx h2
     |cons=>rfl
    have hfin:ssV (R.socks.eraseIdx i)= .sl false 10 ((R.socks.map skV).drop (i+1)):=by
     rw[he,h1,List.nil_append];unfold ssV;rw[if_neg h2,List.map_drop]
    rw[hfin]at hQ
    have hlen:((R.socks.map skV).drop (i+1)).length≤1000:=by rw[List.length_drop];omega
    simp(config:=KF) (disch:=omega)only[bZ,gf,gq,retI,ci,cu,cX,af,ixTo,addA,aa,bd,srcA,bu,↓reduceIte,Nat.reduceEqDiff,Nat.reduceAdd,Nat.reduceLeDiff,bF,bg,s1,w2,w4,hrd,hrd2,hrs,hll,h1',h2',hd2]
    exact hQ _
  ·have h1':((R.socks.map skV).take i).isEmpty=false:=by
    rw[←List.map_take]
    cases hx:R.socks.take i with
    |nil=>exact absurd hx h1
    |cons=>rfl
   have hfin:ssV (R.socks.eraseIdx i)= .sl false 10 ((R.socks.map skV).take i++(R.socks.map skV).drop (i+1)):=by
    rw[he];unfold ssV;rw[if_neg (by simp[h1]),List.map_append,List.map_take,List.map_drop]
   rw[hfin]at hQ
   have hlen1:((R.socks.map skV).take i).length≤1000:=by rw[List.length_take];omega
   have hlen:((R.socks.map skV).drop (i+1)).length≤1000:=by rw[List.length_drop];omega
   simp(config:=KF) (disch:=omega)only[bZ,gf,gq,retI,ci,cu,cX,af,ixTo,addA,aa,bd,ce,srcA,bu,↓reduceIte,Nat.reduceEqDiff,Nat.reduceAdd,Nat.reduceLeDiff,bF,bg,cZ,s1,w2,w4,hrd,hrd2,hrs,hll,h1',hd1,hd2]
   exact hQ _
 ·have hgw:=kJ hq
  have hwn0:W≠[]:=fun e=>by rw[e]at hq;simp at hq
  have hwn:wsV W= .sl false 3 (W.map wtV):=if_neg hwn0
  have hlw:(W.map wtV).length=W.length:=List.length_map ..
  have hdp:=jS (R:={R with ws:=W}) (by simp only;omega) (i:=q) (by simpa using hq) st
  obtain⟨q1,q2⟩:=fil_eq hq f3 f4
  have hel:(W.eraseIdx q).length+1=W.length:=by rw[List.length_eraseIdx,if_pos hq];omega
  have hfi:=jR (R:={R with ws:=W.eraseIdx q}) hsl (by simp only;omega) n st
  have hK':=hK ⟨W.eraseIdx q,acc++[clRc W[q]]⟩
  simp only at hK'
  have hinv:(W.eraseIdx q).length≤64∧(acc++[clRc W[q]]).length+(W.eraseIdx q).length≤64∧acc++[clRc W[q]]++((W.eraseIdx q).filter fun w=>decide ((w.sock:Int)=n)).map clRc=(R.ws.filter fun w=>decide ((w.sock:Int)=n)).map clRc∧(W.eraseIdx q).filter (fun w=>decide ((w.sock:Int)≠n))=R.ws.filter fun w=>decide ((w.sock:Int)≠n):=by
   refine⟨by omega,by rw[List.length_append,List.length_cons,List.length_nil];omega,?_,q2.trans i4⟩
   rw[q1,List.map_cons]at i3
   rw[List.append_assoc];exact i3
  obtain⟨x1,x2,x3,x4,x5,x6,x7,x8⟩:=aE (W.eraseIdx q)
  have hK2:=fun sf hs=>hK' sf hinv (by omega) hs
  rw[List.map_append,show [clRc W[q]].map rcV= [.agg [.lit (.int .i64 (W[q].task:Nat)),.lit (.string ⟨#[]⟩),.lit (.int .i64 0),.lit (.slice none 0 0),.lit (.int .u64 (0:Nat)),.lit (.bool false),.lit (.int .i64 14)]]from rfl,je (by simp)]at hK2
  generalize W.eraseIdx q=W2 at hdp hfi hK2 x1 x2 x3 x4 x5 x6 x7
  unfold rnV at hdp hfi
  simp only at hdp hfi
  have had:=rc_dis acc
  have hal:(acc.map rcV).length=acc.length:=List.length_map ..
  rw[f1]
  rw[hwn]at hdp w1 w2 w3 w4 w5 w6 w7 ⊢
  by_cases ha:acc= []
  ·have har:rowG 7 (acc.map rcV)= .lit (.slice none 0 0):=by rw[ha];rfl
   rw[har]
   rw[ha,List.map_nil,List.nil_append]at hK2
   simp(config:=KF) (disch:=omega)only[bZ,dX,ci,ixSV,bslV,cX,List.reduceReplicate,addA,aa,bd,srcA,cd,id,bN,↓reduceIte,Nat.reduceEqDiff,Nat.reduceAdd,Nat.reduceLT,Nat.reduceLeDiff,bg,s2,w1,w2,hgw,hlw]
   refine ag (by simp[am,ai,aw,ar,aM,s2,w2]) e_f77 hdp (by simp[ao,aq,aI,s5,w5]) ?_
   simp(config:=KF) (disch:=omega)only[bZ,af,aa,id,↓reduceIte,Nat.reduceEqDiff,Nat.reduceAdd,Nat.reduceLeDiff,s2,s4,x2,x4]
   refine ag (by simp[am,ai,aw,ar,aM,s2,w2,x2]) e_f75 hfi (by simp[ao,aq,aI,s5,x5]) ?_
   simp(config:=KF) (disch:=omega)only[bZ,↓reduceIte,Nat.reduceEqDiff]
   exact hK2 _ (Sf.le_refl _)
  ·have har:rowG 7 (acc.map rcV)= .sl true 7 (acc.map rcV):=je (by simpa using ha)
   rw[har]
   simp(config:=KF) (disch:=omega)only[bZ,dX,ci,ixSV,bslV,cX,List.reduceReplicate,addA,aa,ce,srcA,cd,id,bN,↓reduceIte,Nat.reduceEqDiff,Nat.reduceAdd,Nat.reduceLT,Nat.reduceLeDiff,bg,s2,w1,w2,hgw,hlw,hal]
   refine ag (by simp[am,ai,aw,ar,aM,s2,w2]) e_f77 hdp (by simp[ao,aq,aI,s5,w5]) ?_
   simp(config:=KF) (disch:=omega)only[bZ,af,aa,id,↓reduceIte,Nat.reduceEqDiff,Nat.reduceAdd,Nat.reduceLeDiff,s2,s4,x2,x4]
   refine ag (by simp[am,ai,aw,ar,aM,s2,w2,x2]) e_f75 hfi (by simp[ao,aq,aI,s5,x5]) ?_
   simp(config:=KF) (disch:=omega)only[bZ,↓reduceIte,Nat.reduceEqDiff]
   exact hK2 _ (Sf.le_refl _)
end
end Go.Fx.YtgmeefljgbaanaaFx

