/- What the functions that the statement reaches compute: part 24. -/
import Derived.Test.YtgmeefljgbaanaaFxW23
namespace Go.Fx.YtgmeefljgbaanaaFx
open Go Go.Fx
attribute [local irreducible] aC runI aG aH

set_option maxRecDepth 100000
set_option maxHeartbeats 4000000

def rresV(x:RO):AV:=resV x (pdV x.one.data) (rcsV x.all)
theorem jV(l:List Rc):(rcsV l).dis=rcsV l∧(rcsV l).own1=rcsV l∧(rcsV l).own2=rcsV l∧(rcsV l).solid1=true∧(rcsV l).noL=true∧(rcsV l).cells= [rcsV l]∧(∀s,kill s (rcsV l)=rcsV l):=by
 unfold rcsV
 split
 ·exact⟨rfl,rfl,rfl,rfl,rfl,rfl,fun _=>rfl⟩
 ·exact⟨rfl,rfl,rfl,rfl,rfl,rfl,fun _=>rfl⟩
theorem rcV_eq(r:Rc):rcV r= .agg [.lit (.int .i64 r.task),.lit (.string r.nm),.lit (.int .i64 r.port),pdV r.data,.lit (.int .u64 (r.at_:Nat)),.lit (.bool r.cut),.lit (.int .i64 r.err)]:=rfl
theorem b9(R:NR):rnV R= .agg [.lit (.int .u64 (R.now:Nat)),ssV R.socks,wsV R.ws]:=rfl
theorem makes_pure{R:NR}{k:Nat}(h:ROk R k)(hk:k≤100000)(w t n m:Int)(nm:ByteArray)(port pol:Int)(life:Nat)(d:List UInt8)(at_:Nat)(hnm:nm.size<1000000)(hd:d.length≤100000)(hat:at_<18446744073709551616)(st:St) :
  az Go.Proofs.Try.prog n_f43 [rnV R,actA w t n m nm port pol (life:Nat) (dV d) (at_:Nat)] st (.tup [rnV (rDo w t n m nm port pol life d (at_:Nat) R).1,rresV (rDo w t n m nm port pol life d (at_:Nat) R).2]):=by
 obtain⟨s1,s2,s3,s4,s5,s6,s7,s8⟩:=aB R.socks
 obtain⟨w1,w2,w3,w4,w5,w6,w7,w8⟩:=aE R.ws
 refine al hmix k_f43 rfl rfl fun Q hQ=>?_
 unfold aFun c_f43
 unfold rDo at hQ
 rw[b9 R]
 unfold actA dV
 have hfin:∀(O:NR×RO) (R':NR) (one:Rc) (all:List Rc) (n:Int) (b:Bool) (e:Int),O=(R',⟨n,b,one,all,e⟩)→(∀s,Q (.tup [rnV O.1,rresV O.2]) s)→∀s,Q (.tup [.agg [.lit (.int .u64 (R'.now:Nat)),ssV R'.socks,wsV R'.ws],.agg [.lit (.int .i64 n),.lit (.bool b),.lit (.int .i64 one.task),.lit (.string one.nm),.lit (.int .i64 one.port),pdV one.data,.lit (.int .u64 (one.at_:Nat)),.lit (.bool one.cut),.lit (.int .i64 one.err),rcsV all,.lit (.int .i64 e)]]) s:=fun O R' one all n b e hO hq s=>by
  subst hO;exact hq s
 simp(config:=KF) (disch:=omega)only[bZ,addA,aa,↓reduceIte,Nat.reduceEqDiff,Nat.reduceAdd,reduceCtorEq,s2,s4,w2,w4]
 refine aA (fun c0=>?_) (fun c0=>?_)
 ·rw[if_pos c0]at hQ
  have hp:=rbind_pure h nm port n m pol life (by omega) st
  generalize dc nm port n m pol life R=O at hp hQ
  rw[b9 R]at hp
  rw[b9 O.1]at hp
  obtain⟨x1,x2,x3,x4,x5,x6,x7,x8⟩:=aB O.1.socks
  obtain⟨y1,y2,y3,y4,y5,y6,y7,y8⟩:=aE O.1.ws
  unfold adAV at hp
  simp(config:=KF) (disch:=omega)only[bZ,addA,aa,id,↓reduceIte,Nat.reduceEqDiff,Nat.reduceAdd,Nat.reduceLeDiff,s2,w2]
  refine ag (by simp[am,ai,aw,ar,aM,s2,w2]) e_f59 hp (by simp[ao,aq,aI,s5,w5]) ?_
  simp(config:=KF) (disch:=omega)only[bZ,Nat.reduceBEq,ksB,aL,bh,bz,aO,bU,bK,nstB,bA,eu,cJ,cm,cK,dm,retI,af,addA,aa,List.nil_append,↓reduceIte,Nat.reduceEqDiff,Nat.reduceAdd,Nat.reduceLeDiff,or_false,x2,x4,y2,y4]
  exact hfin _ O.1 rc0 [] O.2.1 false O.2.2 rfl hQ _
 rw[if_neg c0]at hQ
 simp(config:=KF) (disch:=omega)only[bZ,↓reduceIte,Nat.reduceEqDiff]
 refine aA (fun c1=>?_) (fun c1=>?_)
 ·rw[if_pos c1]at hQ
  have hp:=rsend_pure h hk n nm port (by omega) d hd st
  generalize cy n nm port d R=O at hp hQ
  rw[b9 R]at hp
  rw[b9 O.1]at hp
  obtain⟨x1,x2,x3,x4,x5,x6,x7,x8⟩:=aB O.1.socks
  obtain⟨y1,y2,y3,y4,y5,y6,y7,y8⟩:=aE O.1.ws
  obtain⟨z1,z2,z3,z4,z5,z6,z7⟩:=jV O.2.1
  unfold adAV dV at hp
  simp(config:=KF) (disch:=omega)only[bZ,addA,aa,id,↓reduceIte,Nat.reduceEqDiff,Nat.reduceAdd,Nat.reduceLeDiff,s2,w2]
  refine ag (by simp[am,ai,aw,ar,aM,s2,w2]) e_f60 hp (by simp[ao,aq,aI,s5,w5]) ?_
  simp(config:=KF) (disch:=omega)only[bZ,Nat.reduceBEq,ksB,aL,bh,bz,aO,bU,bK,nstB,bA,eu,cJ,cm,cK,dm,retI,af,addA,aa,List.nil_append,↓reduceIte,Nat.reduceEqDiff,Nat.reduceAdd,Nat.reduceLeDiff,or_false,x2,x4,y2,y4,z1,z2,z3,z4,z6]
  exact hfin _ O.1 rc0 O.2.1 0 false O.2.2 rfl hQ _
 rw[if_neg c1]at hQ
 simp(config:=KF) (disch:=omega)only[bZ,↓reduceIte,Nat.reduceEqDiff]
 refine aA (fun c2=>?_) (fun c2=>?_)
 ·rw[if_pos c2]at hQ
  have hp:=rrecv_pure h t n m st
  generalize ei t n m R=O at hp hQ
  rw[b9 R]at hp
  rw[b9 O.1]at hp
  obtain⟨x1,x2,x3,x4,x5,x6,x7,x8⟩:=aB O.1.socks
  obtain⟨y1,y2,y3,y4,y5,y6,y7,y8⟩:=aE O.1.ws
  obtain⟨z1,z2,z3,z4,z5,z6,z7,z8⟩:=bT O.2.1.data
  rw[rcV_eq]at hp
  simp(config:=KF) (disch:=omega)only[bZ,addA,aa,id,↓reduceIte,Nat.reduceEqDiff,Nat.reduceAdd,Nat.reduceLeDiff,s2,w2]
  refine ag (by simp[am,ai,aw,ar,aM,s2,w2]) e_f61 hp (by simp[ao,aq,aI,s5,w5]) ?_
  simp(config:=KF) (disch:=omega)only[bZ,Nat.reduceBEq,ksB,aL,bh,bz,aO,bU,bK,nstB,bA,eu,cJ,cm,cK,dm,retI,af,addA,aa,List.nil_append,↓reduceIte,Nat.reduceEqDiff,Nat.reduceAdd,Nat.reduceLeDiff,or_false,x2,x4,y2,y4,z2,z4]
  exact hfin _ O.1 O.2.1 [] 0 O.2.2.1 O.2.2.2 rfl hQ _
 rw[if_neg c2]at hQ
 simp(config:=KF) (disch:=omega)only[bZ,↓reduceIte,Nat.reduceEqDiff]
 refine aA (fun c3=>?_) (fun c3=>?_)
 ·rw[if_pos c3]at hQ
  have hp:=rtry_pure h n m st
  generalize rTry n m R=O at hp hQ
  rw[b9 R]at hp
  rw[b9 O.1]at hp
  obtain⟨x1,x2,x3,x4,x5,x6,x7,x8⟩:=aB O.1.socks
  obtain⟨y1,y2,y3,y4,y5,y6,y7,y8⟩:=aE O.1.ws
  obtain⟨z1,z2,z3,z4,z5,z6,z7,z8⟩:=bT O.2.1.data
  rw[rcV_eq]at hp
  simp(config:=KF) (disch:=omega)only[bZ,addA,aa,id,↓reduceIte,Nat.reduceEqDiff,Nat.reduceAdd,Nat.reduceLeDiff,s2,w2]
  refine ag (by simp[am,ai,aw,ar,aM,s2,w2]) e_f62 hp (by simp[ao,aq,aI,s5,w5]) ?_
  simp(config:=KF) (disch:=omega)only[bZ,Nat.reduceBEq,ksB,aL,bh,bz,aO,bU,bK,nstB,bA,eu,cJ,cm,cK,dm,retI,af,addA,aa,List.nil_append,↓reduceIte,Nat.reduceEqDiff,Nat.reduceAdd,Nat.reduceLeDiff,or_false,x2,x4,y2,y4,z2,z4]
  exact hfin _ O.1 O.2.1 [] 0 false O.2.2 rfl hQ _
 rw[if_neg c3]at hQ
 simp(config:=KF) (disch:=omega)only[bZ,↓reduceIte,Nat.reduceEqDiff]
 refine aA (fun c4=>?_) (fun c4=>?_)
 ·rw[if_pos c4]at hQ
  have hp:=qM h t st
  generalize eY t R=O at hp hQ
  rw[b9 R]at hp
  rw[b9 O.1]at hp
  obtain⟨x1,x2,x3,x4,x5,x6,x7,x8⟩:=aB O.1.socks
  obtain⟨y1,y2,y3,y4,y5,y6,y7,y8⟩:=aE O.1.ws
  simp(config:=KF) (disch:=omega)only[bZ,addA,aa,id,↓reduceIte,Nat.reduceEqDiff,Nat.reduceAdd,Nat.reduceLeDiff,s2,w2]
  refine ag (by simp[am,ai,aw,ar,aM,s2,w2]) e_f63 hp (by simp[ao,aq,aI,s5,w5]) ?_
  simp(config:=KF) (disch:=omega)only[bZ,Nat.reduceBEq,ksB,aL,bh,bz,aO,bU,bK,nstB,bA,eu,cJ,cm,cK,dm,retI,af,addA,aa,List.nil_append,↓reduceIte,Nat.reduceEqDiff,Nat.reduceAdd,Nat.reduceLeDiff,or_false,x2,x4,y2,y4]
  exact hfin _ O.1 rc0 [] 0 false O.2 rfl hQ _
 rw[if_neg c4]at hQ
 simp(config:=KF) (disch:=omega)only[bZ,↓reduceIte,Nat.reduceEqDiff]
 refine aA (fun c5=>?_) (fun c5=>?_)
 ·rw[if_pos c5]at hQ
  have hp:=rclose_pure h n st
  generalize eB n R=O at hp hQ
  rw[b9 R]at hp
  rw[b9 O.1]at hp
  obtain⟨x1,x2,x3,x4,x5,x6,x7,x8⟩:=aB O.1.socks
  obtain⟨y1,y2,y3,y4,y5,y6,y7,y8⟩:=aE O.1.ws
  obtain⟨z1,z2,z3,z4,z5,z6,z7⟩:=jV O.2.1
  simp(config:=KF) (disch:=omega)only[bZ,addA,aa,id,↓reduceIte,Nat.reduceEqDiff,Nat.reduceAdd,Nat.reduceLeDiff,s2,w2]
  refine ag (by simp[am,ai,aw,ar,aM,s2,w2]) e_f64 hp (by simp[ao,aq,aI,s5,w5]) ?_
  simp(config:=KF) (disch:=omega)only[bZ,Nat.reduceBEq,ksB,aL,bh,bz,aO,bU,bK,nstB,bA,eu,cJ,cm,cK,dm,retI,af,addA,aa,List.nil_append,↓reduceIte,Nat.reduceEqDiff,Nat.reduceAdd,Nat.reduceLeDiff,or_false,x2,x4,y2,y4,z1,z2,z3,z4,z6]
  exact hfin _ O.1 rc0 O.2.1 0 false O.2.2 rfl hQ _
 rw[if_neg c5]at hQ
 simp(config:=KF) (disch:=omega)only[bZ,addA,aa,id,↓reduceIte,Nat.reduceEqDiff,Nat.reduceAdd,Nat.reduceLeDiff,s2,w2]
 have hp:=radv_pure h hk at_ hat st
 generalize rAdv (at_:Nat) R=O at hp hQ
 rw[b9 R]at hp
 rw[b9 O.1]at hp
 obtain⟨x1,x2,x3,x4,x5,x6,x7,x8⟩:=aB O.1.socks
 obtain⟨y1,y2,y3,y4,y5,y6,y7,y8⟩:=aE O.1.ws
 refine ag (by simp[am,ai,aw,ar,aM,s2,w2]) e_f65 hp (by simp[ao,aq,aI,s5,w5]) ?_
 simp(config:=KF) (disch:=omega)only[bZ,Nat.reduceBEq,ksB,aL,bh,bz,aO,bU,bK,nstB,bA,eu,cJ,cm,cK,dm,retI,af,addA,aa,List.nil_append,↓reduceIte,Nat.reduceEqDiff,Nat.reduceAdd,Nat.reduceLeDiff,or_false,x2,x4,y2,y4]
 exact hfin _ O.1 rc0 [] O.2.1 false O.2.2 rfl hQ _
end Go.Fx.YtgmeefljgbaanaaFx

namespace Go.Fx.YtgmeefljgbaanaaFx
open Go Go.Fx
attribute [local irreducible] aC runI aG aH

set_option maxRecDepth 100000
set_option maxHeartbeats 4000000

theorem jg{st:St}{n sid wid k:Nat}{R:NR}{F:List Nat}(hh:NetR st n sid wid k R F)(hk:k≤100000):az Go.Proofs.Try.prog n_f21 [.ptr n 0,rnV R] st (.lit (.bool true)):=by
 have hrk:=hh.rok
 have hsl:R.socks.length≤1000:=by have:=hrk.len;omega
 have hwl:R.ws.length≤1000:=by have:=hrk.wl;omega
 obtain⟨M,Wm,W,y1,y2,y3,y4,y5⟩:=hh.ex
 obtain⟨s1,s2,s3,s4,s5,s6,s7,s8⟩:=aB R.socks
 obtain⟨w1,w2,w3,w4,w5,w6,w7,w8⟩:=aE R.ws
 have hnow:=nnow_pure y1
 have hat0:=jf (R:=R) hsl hwl
 have hrw0:=qK (R:=R) hwl
 refine al hmix k_f21 rfl rfl fun Q hQ=>?_
 unfold aFun c_f21
 unfold rnV at hat0 hrw0 ⊢
 simp(config:=KF) (disch:=omega)only[bZ,↓reduceIte,Nat.reduceEqDiff,Nat.reduceAdd,Int.reduceNeg,reduceCtorEq,s2,s4,w2,w4]
 rw[f21_7w]
 refine bB (A:=Int) (fun i=>(65-i).toNat) (fun i=>⟨[(0,.ptr n 0),(3,.lptr 3 0),(5,.lit (.int .i64 i))],[(3,[.lit (.int .u64 (R.now:Nat)),ssV R.socks,wsV R.ws])]⟩) (fun _=>st)
  (fun i=>-1≤i∧i≤65) (-1) ⟨by omega,by omega⟩ (Sf.le_refl _) rfl ?_
 rintro i ⟨i1,i2⟩ K hK hKe hKr
 by_cases h3:i≤64
 ·have hat:=hat0 i st
  have hrw:=hrw0 i st
  have hfin:=hK (i+1) ⟨[(0,.ptr n 0),(3,.lptr 3 0),(5,.lit (.int .i64 (i+1)))],[(3,[.lit (.int .u64 (R.now:Nat)),ssV R.socks,wsV R.ws])]⟩ ⟨by omega,by omega⟩ (by omega) (Sf.le_refl _)
  have hle:=pY y1 y2 i
  have hdr:=ndr_pure y1 y2 i
  have hol:=pZ y1 y2 i
  have hwt:=nwait_pure y1 y3 i
  rw[y4]at hwt
  simp(config:=KF) (disch:=omega)only[bZ,aa,nD,id,↓reduceIte,Nat.reduceEqDiff,Nat.reduceAdd,Nat.reduceLeDiff,reduceCtorEq,s2,w2]
  refine ag (by simp[am,ai,ar,s2,w2]) e_f41 hat (by simp[ao,aq,s5,w5]) ?_
  rcases eA i R.socks with⟨e1,e2⟩|⟨j,hj,e1,_,e3,_,_⟩
  ·rw[e1]
   rw[e2]at hle hdr hol
   simp only[lenO,drO,oldO]at hle hdr hol
   simp(config:=KF) (disch:=omega)only[bZ,bX,id,↓reduceIte,Nat.reduceEqDiff,Int.reduceNeg,reduceCtorEq]
   refine cD rfl e_f15 hle rfl ?_
   simp(config:=KF) (disch:=omega)only[bZ,bX,aW,bC,AI.dst,id,↓reduceIte,Nat.reduceEqDiff,Int.reduceNeg,reduceCtorEq,not_true_eq_false]
   refine cD rfl e_f17 hdr rfl ?_
   simp(config:=KF) (disch:=omega)only[bZ,dN,bX,aW,bC,AI.dst,id,↓reduceIte,Nat.reduceEqDiff,Int.reduceNeg,reduceCtorEq,not_true_eq_false]
   refine cD rfl e_f18 hol rfl ?_
   simp(config:=KF) (disch:=omega)only[bZ,dN,bX,aW,bC,AI.dst,id,↓reduceIte,Nat.reduceEqDiff,Int.reduceNeg,reduceCtorEq,not_true_eq_false]
   refine cD rfl e_f16 hwt rfl ?_
   simp(config:=KF) (disch:=omega)only[bZ,aW,bC,AI.dst,aa,id,↓reduceIte,Nat.reduceEqDiff,Nat.reduceAdd,Nat.reduceLeDiff,Int.reduceNeg,reduceCtorEq,s2,w2]
   refine ag (by simp[am,ai,ar,s2,w2]) e_f42 hrw (by simp[ao,aq,s5,w5]) ?_
   simp(config:=KF) (disch:=omega)only[bZ,AI.dst,↓reduceIte,Nat.reduceEqDiff,Int.reduceNeg,reduceCtorEq,not_true_eq_false]
   exact hfin
  ·rw[e1]
   rw[e3]at hle hdr hol
   simp only[lenO,drO,oldO]at hle hdr hol
   have hne:R.socks≠[]:=fun e=>by rw[e]at hj;simp at hj
   have hsv:ssV R.socks= .sl false 10 (R.socks.map skV):=if_neg hne
   have hll:(R.socks.map skV).length=R.socks.length:=List.length_map ..
   have hg:=eW hj
   rw[hsv]at hrw hfin s1 s2 s3 s4 s5 s6 s7 ⊢
   generalize R.socks[j]=S at hg hle hdr hol
   have hql:(S.q.map pV).length=S.q.length:=List.length_map ..
   simp(config:=KF) (disch:=omega)only[bZ,eO,cM,bX,ixSV,lenI,addA,aa,id,↓reduceIte,Nat.reduceEqDiff,reduceCtorEq,s1,hg,hll,hql]
   refine cD rfl e_f15 hle rfl ?_
   simp(config:=KF) (disch:=omega)only[bZ,bX,aW,bC,AI.dst,id,↓reduceIte,Nat.reduceEqDiff,reduceCtorEq,not_true_eq_false]
   refine cD rfl e_f17 hdr rfl ?_
   simp(config:=KF) (disch:=omega)only[bZ,dN,bX,aW,bC,AI.dst,id,↓reduceIte,Nat.reduceEqDiff,reduceCtorEq,not_true_eq_false]
   refine cD rfl e_f18 hol rfl ?_
   simp(config:=KF) (disch:=omega)only[bZ,dN,bX,aW,bC,AI.dst,id,↓reduceIte,Nat.reduceEqDiff,reduceCtorEq,not_true_eq_false]
   refine cD rfl e_f16 hwt rfl ?_
   simp(config:=KF) (disch:=omega)only[bZ,aW,bC,AI.dst,aa,id,↓reduceIte,Nat.reduceEqDiff,Nat.reduceAdd,Nat.reduceLeDiff,reduceCtorEq,s2,w2]
   refine ag (by simp[am,ai,ar,aM,aw,w2]) e_f42 hrw (by simp[ao,aq,aI,w5]) ?_
   simp(config:=KF) (disch:=omega)only[bZ,AI.dst,↓reduceIte,Nat.reduceEqDiff,reduceCtorEq,not_true_eq_false]
   exact hfin
 ·obtain rfl:i=65:=by omega
  simp(config:=KF) (disch:=omega)only[bZ,nD,↓reduceIte,Nat.reduceEqDiff,Int.reduceLE,reduceCtorEq]
  refine hKe _ _ _ ?_
  simp(config:=KF) (disch:=omega)only[bZ,bX,id,↓reduceIte,Nat.reduceEqDiff,reduceCtorEq]
  refine cD rfl e_f25 hnow rfl ?_
  simp(config:=KF) (disch:=omega)only[bZ,bC,retI,addA,aa,↓reduceIte,Nat.reduceEqDiff,reduceCtorEq]
  exact hQ _
end Go.Fx.YtgmeefljgbaanaaFx

