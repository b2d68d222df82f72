/- What the functions that the statement reaches compute: part 18. -/
import Derived.Test.YtgmeefljgbaanaaFxW17
namespace Go.Fx.YtgmeefljgbaanaaFx
open Go Go.Fx
attribute [local irreducible] aC runI aG aH

set_option maxRecDepth 100000
set_option maxHeartbeats 4000000

section
variable {R:NR} {k:Nat}
theorem rrecv_pure(h:ROk R k)(t n m:Int)(st:St):az Go.Proofs.Try.prog n_f61 [rnV R,.lit (.int .i64 t),.lit (.int .i64 n),.lit (.int .i64 m)] st (.tup [rnV (ei t n m R).1,rcV (ei t n m R).2.1,.lit (.bool (ei t n m R).2.2.1),.lit (.int .i64 (ei t n m R).2.2.2)]):=by
 obtain⟨s1,s2,s3,s4,s5,s6,s7,s8⟩:=aB R.socks
 obtain⟨w1,w2,w3,w4,w5,w6,w7,w8⟩:=aE R.ws
 have hsl:R.socks.length≤1000:=by have:=h.len;omega
 have hwl:R.ws.length≤1000:=by have:=h.wl;omega
 refine al hmix k_f61 rfl rfl fun Q hQ=>?_
 unfold aFun c_f61
 have hat:=jf (R:=R) hsl hwl n st
 have hwp:=n0 (R:=R) hsl hwl t st
 unfold ei at hQ
 by_cases c1:t<0
 ·rw[if_pos (.inl c1)]at hQ
  unfold rnV at hQ ⊢
  simp(config:=KF) (disch:=omega)only[bZ,retI,AI.dst,af,aa,↓reduceIte,Nat.reduceEqDiff,Nat.reduceAdd,Nat.reduceLeDiff,reduceCtorEq,ba,s2,s4,w2,w4]
  exact hQ _
 by_cases c2:64≤t
 ·rw[if_pos (.inr (.inl c2))]at hQ
  unfold rnV at hQ ⊢
  simp(config:=KF) (disch:=omega)only[bZ,retI,AI.dst,af,aa,↓reduceIte,Nat.reduceEqDiff,Nat.reduceAdd,Nat.reduceLeDiff,reduceCtorEq,ba,s2,s4,w2,w4]
  exact hQ _
 by_cases c3:m<0
 ·rw[if_pos (.inr (.inr c3))]at hQ
  unfold rnV at hQ ⊢
  simp(config:=KF) (disch:=omega)only[bZ,retI,AI.dst,af,aa,↓reduceIte,Nat.reduceEqDiff,Nat.reduceAdd,Nat.reduceLeDiff,reduceCtorEq,s2,s4,w2,w4]
  exact hQ _
 rw[if_neg (by omega)]at hQ
 rcases eA n R.socks with⟨e1,e2⟩|⟨i,hi,e1,e2,e3,e4,_⟩
 ·rw[e2]at hQ
  rw[e1]at hat
  unfold rnV at hat hQ ⊢
  simp(config:=KF) (disch:=omega)only[bZ,AI.dst,aa,id,↓reduceIte,Nat.reduceEqDiff,Nat.reduceAdd,Nat.reduceLeDiff,reduceCtorEq,s2,s4,w2,w4]
  refine ag (by simp[am,ai,aw,ar,aM,s2,w2]) e_f41 hat (by simp[ao,aq,aI,s5,w5]) ?_
  simp(config:=KF) (disch:=omega)only[bZ,retI,af,aa,↓reduceIte,Nat.reduceEqDiff,Nat.reduceAdd,Nat.reduceLeDiff,Int.reduceLT,Int.reduceNeg,s2,s4,w2,w4]
  exact hQ _
 ·rw[e3]at hQ
  simp only at hQ
  rw[e1]at hat
  have hne:R.socks≠[]:=fun e=>by rw[e]at hi;simp at hi
  have hsv:ssV R.socks= .sl false 10 (R.socks.map skV):=if_neg hne
  have hll:(R.socks.map skV).length=R.socks.length:=List.length_map ..
  have hg:=eW hi
  have hok:=h.ok R.socks[i] (List.getElem_mem hi)
  rcases pO t R.ws with⟨f1,f2⟩|⟨j,hj,f1,f2⟩
  case inr =>
   rw[f2]at hQ
   rw[f1]at hwp
   rw[if_pos (show(some (R.ws[j],R.ws.eraseIdx j)).isSome=true from rfl)]at hQ
   unfold rnV at hat hwp hQ ⊢
   simp(config:=KF) (disch:=omega)only[bZ,AI.dst,aa,id,↓reduceIte,Nat.reduceEqDiff,Nat.reduceAdd,Nat.reduceLeDiff,reduceCtorEq,s2,s4,w2,w4]
   refine ag (by simp[am,ai,aw,ar,aM,s2,w2]) e_f41 hat (by simp[ao,aq,aI,s5,w5]) ?_
   simp(config:=KF) (disch:=omega)only[bZ,aa,id,↓reduceIte,Nat.reduceEqDiff,Nat.reduceAdd,Nat.reduceLeDiff,s2,w2]
   refine ag (by simp[am,ai,aw,ar,aM,s2,w2]) e_f80 hwp (by simp[ao,aq,aI,s5,w5]) ?_
   simp(config:=KF) (disch:=omega)only[bZ,retI,af,aa,↓reduceIte,Nat.reduceEqDiff,Nat.reduceAdd,Nat.reduceLeDiff,s2,s4,w2,w4]
   exact hQ _
  rw[f2]at hQ
  rw[f1]at hwp
  rw[if_neg (by decide)]at hQ
  cases hq:R.socks[i].q with
  | nil =>
    rw[hq]at hQ hg
    simp only at hQ
    obtain⟨tn,rfl⟩:∃tn:Nat,t=(tn:Int):=⟨t.toNat,by omega⟩
    rw[Int.toNat_natCast]at hQ
    have hwd:=qL R.ws
    have hwv:wsV (R.ws++[⟨tn,R.socks[i].num,m⟩])= .sl false 3 (R.ws.map wtV++[.agg [.lit (.int .i64 (tn:Nat)),.lit (.int .i64 n),.lit (.int .i64 m)]]):=by
     unfold wsV
     rw[if_neg (by simp),List.map_append,←e2];rfl
    unfold rnV at hat hwp hQ ⊢
    simp only at hQ
    rw[hwv]at hQ
    rw[hsv]at hat hwp hQ s1 s2 s3 s4 s5 s6 s7 ⊢
    by_cases hw0:R.ws= []
    ·have hwn:wsV R.ws= .lit (.slice none 0 0):=if_pos hw0
     rw[hw0,List.map_nil,List.nil_append]at hQ
     rw[hwn]at hat hwp w1 w2 w3 w4 w5 w6 w7 ⊢
     simp(config:=KF) (disch:=omega)only[bZ,AI.dst,aa,id,↓reduceIte,Nat.reduceEqDiff,Nat.reduceAdd,Nat.reduceLeDiff,reduceCtorEq,s2,s4,w2,w4]
     refine ag (by simp[am,ai,aw,ar,aM,s2,w2]) e_f41 hat (by simp[ao,aq,aI,s5,w5]) ?_
     simp(config:=KF) (disch:=omega)only[bZ,aa,id,↓reduceIte,Nat.reduceEqDiff,Nat.reduceAdd,Nat.reduceLeDiff,s2,w2]
     refine ag (by simp[am,ai,aw,ar,aM,s2,w2]) e_f80 hwp (by simp[ao,aq,aI,s5,w5]) ?_
     simp(config:=KF) (disch:=omega)only[bZ,retI,dX,nu,ci,ixSV,bslV,cX,af,List.reduceReplicate,lenI,addA,aa,bd,srcA,cd,bN,bu,↓reduceIte,Nat.reduceEqDiff,Nat.reduceAdd,Nat.reduceLT,Nat.reduceLeDiff,Int.reduceNeg,bg,s1,s2,s4,w1,w2,w4,hg,hll]
     exact hQ _
    ·have hwn:wsV R.ws= .sl false 3 (R.ws.map wtV):=if_neg hw0
     have hie:(R.ws.map wtV).isEmpty=false:=by
      cases hx:R.ws with
      |nil=>exact absurd hx hw0
      |cons=>rfl
     have hlw:(R.ws.map wtV).length=R.ws.length:=List.length_map ..
     rw[hwn]at hat hwp w1 w2 w3 w4 w5 w6 w7 ⊢
     simp(config:=KF) (disch:=omega)only[bZ,AI.dst,aa,id,↓reduceIte,Nat.reduceEqDiff,Nat.reduceAdd,Nat.reduceLeDiff,reduceCtorEq,s2,s4,w2,w4]
     refine ag (by simp[am,ai,aw,ar,aM,s2,w2]) e_f41 hat (by simp[ao,aq,aI,s5,w5]) ?_
     simp(config:=KF) (disch:=omega)only[bZ,aa,id,↓reduceIte,Nat.reduceEqDiff,Nat.reduceAdd,Nat.reduceLeDiff,s2,w2]
     refine ag (by simp[am,ai,aw,ar,aM,s2,w2]) e_f80 hwp (by simp[ao,aq,aI,s5,w5]) ?_
     simp(config:=KF) (disch:=omega)only[bZ,retI,dX,nu,ci,ixSV,bslV,cX,af,List.reduceReplicate,lenI,addA,aa,bd,ce,srcA,cd,bN,bu,↓reduceIte,Nat.reduceEqDiff,Nat.reduceAdd,Nat.reduceLT,Nat.reduceLeDiff,Int.reduceNeg,bg,cZ,s1,s2,s4,w1,hg,hll,hie,hwd,hlw]
     exact hQ _
  | cons p ps =>
    have htk:=n8 hsl hi hq st
    have hcp:=lF t p m (by omega) (by have:=(hok.2.2.2.2.2.2 p (by rw[hq];simp)).1;omega) st
    rw[hq,List.map_cons]at hg
    rw[hq]at hQ
    simp only[e4]at hQ
    obtain⟨y1,y2,y3,y4,y5,y6,y7,y8⟩:=aB (R.socks.set i (eF R.socks[i]))
    obtain⟨d1,d2,d3,d4,d5,d6,d7,d8⟩:=bT p.data
    obtain⟨z1,z2,z3,z4,z5,z6,z7,z8⟩:=bT (cutR t p m).data
    unfold rnV at hat hwp htk hQ ⊢
    simp only at htk hQ
    rw[hsv]at hat hwp htk s1 s2 s3 s4 s5 s6 s7 ⊢
    generalize R.socks.set i (eF R.socks[i])=L at htk hQ y1 y2 y3 y4 y5 y6 y7 y8
    generalize cutR t p m=C at hcp hQ z1 z2 z3 z4 z5 z6 z7
    unfold pV at hcp
    unfold rcV rcAV at hcp hQ
    simp(config:=KF) (disch:=omega)only[bZ,AI.dst,aa,id,↓reduceIte,Nat.reduceEqDiff,Nat.reduceAdd,Nat.reduceLeDiff,reduceCtorEq,s2,s4,w2,w4]
    refine ag (by simp[am,ai,aw,ar,aM,s2,w2]) e_f41 hat (by simp[ao,aq,aI,s5,w5]) ?_
    simp(config:=KF) (disch:=omega)only[bZ,aa,id,↓reduceIte,Nat.reduceEqDiff,Nat.reduceAdd,Nat.reduceLeDiff,s2,w2]
    refine ag (by simp[am,ai,aw,ar,aM,s2,w2]) e_f80 hwp (by simp[ao,aq,aI,s5,w5]) ?_
    simp(config:=KF) (disch:=omega)only[bZ,ixSV,lenI,addA,aa,id,↓reduceIte,Nat.reduceEqDiff,Nat.reduceAdd,Nat.reduceLeDiff,Int.reduceNeg,s1,s2,w2,hg,hll]
    refine ag (by simp[am,ai,aw,ar,aM,s2,w2]) e_f81 htk (by simp[ao,aq,aI,s5,w5]) ?_
    unfold pV
    simp(config:=KF) (disch:=omega)only[bZ,bX,af,aa,id,cx,↓reduceIte,Nat.reduceEqDiff,Nat.reduceAdd,Nat.reduceLeDiff,w2,w4,y2,y4,d2,d4]
    refine cD (by simp[am,ai,aw,ar,aM,s2,w2,d2]) e_f76 hcp (by simp[ao,aq,aI,d5]) ?_
    simp(config:=KF) (disch:=omega)only[bZ,bC,retI,af,aa,↓reduceIte,Nat.reduceEqDiff,Nat.reduceAdd,Nat.reduceLeDiff,w2,w4,y2,y4,z2,z4]
    exact hQ _
end
end Go.Fx.YtgmeefljgbaanaaFx

