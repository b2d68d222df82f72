/- What the functions that the statement reaches compute: part 17. -/
import Derived.Test.YtgmeefljgbaanaaFxW16
namespace Go.Fx.YtgmeefljgbaanaaFx
open Go Go.Fx
attribute [local irreducible] aC runI aG aH

set_option maxRecDepth 100000
set_option maxHeartbeats 4000000

theorem fU{A:Type}(f:A→Bool):∀(l:List A) (k:Nat),(fstI f l k= -1∧∀x∈l,f x=false)∨∃(i:Nat) (h:i<l.length),fstI f l k=((k+i:Nat):Int)∧f l[i]=true∧∀x∈l.take i,f x=false
 | [],k=>.inl ⟨rfl,fun _ h=>by cases h⟩
 | x :: r, k => by
   cases hx:f x with
   |true=>exact .inr ⟨0,by simp,by unfold fstI;rw[if_pos hx];rfl,hx,fun _ h=>by simp at h⟩
   | false =>
     have hs:fstI f (x::r) k=fstI f r ((k+1:Nat):Int):=by
      conv=>lhs;unfold fstI
      rw[if_neg (by rw[hx];decide)];rfl
     rcases fU f r (k+1)with⟨h1,h2⟩|⟨i,h,h1,h2,h3⟩
     ·refine .inl ⟨hs.trans h1,fun y hy=>?_⟩
      rcases List.mem_cons.1 hy with rfl|hy
      ·exact hx
      ·exact h2 y hy
     ·refine .inr ⟨i+1,by simpa using h,by rw[hs,h1];congr 1;omega,by simpa using h2,fun y hy=>?_⟩
      rw[List.take_succ_cons]at hy
      rcases List.mem_cons.1 hy with rfl|hy
      ·exact hx
      ·exact h3 y hy
theorem atS_i{n:Int}:∀{l:List Sk} {i:Nat} (h:i<l.length),(∀x∈l.take i,decide ((x.num:Int)=n)=false)→(l[i].num:Int)=n→atS n l=some l[i]∧(∀g,modS n g l=l.set i (g l[i]))∧delS n l=l.eraseIdx i
 | [],_,h,_,_=>by simp at h
 | x :: r, 0, _, _, e => by
   have e':(x.num:Int)=n:=e
   refine⟨?_,fun g=>?_,?_⟩
   ·unfold atS;rw[if_pos e'];rfl
   ·unfold modS;rw[if_pos e'];rfl
   ·unfold delS;rw[if_pos e'];rfl
 | x :: r, i + 1, h, hn, e => by
   have hx:¬(x.num:Int)=n:=of_decide_eq_false (hn x (by simp))
   obtain⟨a,b,c⟩:=atS_i (l:=r) (i:=i) (by simpa using h) (fun y hy=>hn y (by simp[hy])) (by simpa using e)
   refine⟨?_,fun g=>?_,?_⟩
   ·unfold atS;rw[if_neg hx,a];rfl
   ·unfold modS;rw[if_neg hx,b];rfl
   ·unfold delS;rw[if_neg hx,c];rfl
theorem eA(n:Int)(l:List Sk):(fstI (fun x:Sk=>decide ((x.num:Int)=n)) l 0= -1∧atS n l=none)∨∃(i:Nat) (h:i<l.length),fstI (fun x:Sk=>decide ((x.num:Int)=n)) l 0=(i:Nat)∧(l[i].num:Int)=n∧atS n l=some l[i]∧(∀g,modS n g l=l.set i (g l[i]))∧delS n l=l.eraseIdx i:=by
 rcases fU (fun x:Sk=>decide ((x.num:Int)=n)) l 0 with⟨h1,h2⟩|⟨i,h,h1,h2,h3⟩
 ·exact .inl ⟨h1,iR fun S hS=>of_decide_eq_false (h2 S hS)⟩
 ·have e:(l[i].num:Int)=n:=of_decide_eq_true h2
  obtain⟨a,b,c⟩:=atS_i h h3 e
  exact .inr ⟨i,h,by rw[Nat.zero_add]at h1;exact h1,e,a,b,c⟩
theorem ofS_i{nm:ByteArray}{port:Int}:∀{l:List Sk} {i:Nat} (h:i<l.length),(∀x∈l.take i,decide (x.nm=nm∧x.port=port)=false)→(l[i].nm=nm∧l[i].port=port)→ofS nm port l=some l[i]
 | [],_,h,_,_=>by simp at h
 | x :: r, 0, _, _, e => by
   have e':x.nm=nm∧x.port=port:=e
   unfold ofS;rw[if_pos e'];rfl
 | x :: r, i + 1, h, hn, e => by
   have hx:¬(x.nm=nm∧x.port=port):=of_decide_eq_false (hn x (by simp))
   unfold ofS;rw[if_neg hx,ofS_i (l:=r) (i:=i) (by simpa using h) (fun y hy=>hn y (by simp[hy])) (by simpa using e)];rfl
theorem n9(nm:ByteArray)(port:Int)(l:List Sk):(fstI (fun x:Sk=>decide (x.nm=nm∧x.port=port)) l 0= -1∧ofS nm port l=none)∨∃(i:Nat) (h:i<l.length),fstI (fun x:Sk=>decide (x.nm=nm∧x.port=port)) l 0=(i:Nat)∧ofS nm port l=some l[i]:=by
 rcases fU (fun x:Sk=>decide (x.nm=nm∧x.port=port)) l 0 with⟨h1,h2⟩|⟨i,h,h1,h2,h3⟩
 ·exact .inl ⟨h1,og fun S hS=>of_decide_eq_false (h2 S hS)⟩
 ·exact .inr ⟨i,h,by rw[Nat.zero_add]at h1;exact h1,ofS_i h h3 (of_decide_eq_true h2)⟩
theorem srt_inj{l:List Sk}(h:l.Pairwise fun S T=>S.num<T.num){i j:Nat}(hi:i<l.length)(hj:j<l.length)(e:l[i].num=l[j].num):i=j:=by
 rcases Nat.lt_trichotomy i j with q|q|q
 ·have:=List.pairwise_iff_getElem.1 h i j hi hj q;omega
 ·exact q
 ·have:=List.pairwise_iff_getElem.1 h j i hj hi q;omega
theorem mod_num{l:List Sk}(h:l.Pairwise fun S T=>S.num<T.num){i:Nat}(hi:i<l.length)(g:Sk→Sk):modS (l[i].num:Nat) g l=l.set i (g l[i]):=by
 rcases eA (l[i].num:Nat) l with⟨_,h2⟩|⟨j,hj,_,h2,_,h3,_⟩
 ·rw[fi h (List.getElem_mem hi)]at h2;cases h2
 ·obtain rfl:=srt_inj h hi hj (by omega)
  exact h3 g
theorem fstW_i{n:Int}:∀{l:List Wt} {i:Nat} (h:i<l.length),(∀x∈l.take i,decide ((x.sock:Int)=n)=false)→(l[i].sock:Int)=n→fstW n l=some (l[i],l.eraseIdx i)
 | [],_,h,_,_=>by simp at h
 | x :: r, 0, _, _, e => by
   have e':(x.sock:Int)=n:=e
   unfold fstW;rw[if_pos e'];rfl
 | x :: r, i + 1, h, hn, e => by
   have hx:¬(x.sock:Int)=n:=of_decide_eq_false (hn x (by simp))
   unfold fstW;rw[if_neg hx,fstW_i (l:=r) (i:=i) (by simpa using h) (fun y hy=>hn y (by simp[hy])) (by simpa using e)];rfl
theorem pM{n:Int}:∀{l:List Wt},(∀x∈l,decide ((x.sock:Int)=n)=false)→fstW n l=none
 | [],_=>rfl
 | x :: r, h => by
   have hx:¬(x.sock:Int)=n:=of_decide_eq_false (h x (by simp))
   unfold fstW;rw[if_neg hx,pM fun y hy=>h y (by simp[hy])]
theorem pN(n:Int)(l:List Wt):(fstI (fun x:Wt=>decide ((x.sock:Int)=n)) l 0= -1∧fstW n l=none∧∀x∈l,(x.sock:Int)≠n)∨∃(i:Nat) (h:i<l.length),fstI (fun x:Wt=>decide ((x.sock:Int)=n)) l 0=(i:Nat)∧fstW n l=some (l[i],l.eraseIdx i)∧(l[i].sock:Int)=n∧∀x∈l.take i,(x.sock:Int)≠n:=by
 rcases fU (fun x:Wt=>decide ((x.sock:Int)=n)) l 0 with⟨h1,h2⟩|⟨i,h,h1,h2,h3⟩
 ·exact .inl ⟨h1,pM h2,fun x hx=>of_decide_eq_false (h2 x hx)⟩
 ·exact .inr ⟨i,h,by rw[Nat.zero_add]at h1;exact h1,fstW_i h h3 (of_decide_eq_true h2),of_decide_eq_true h2,fun x hx=>of_decide_eq_false (h3 x hx)⟩
theorem delW_i{n:Int}:∀{l:List Wt} {i:Nat} (h:i<l.length),(∀x∈l.take i,decide ((x.task:Int)=n)=false)→(l[i].task:Int)=n→delW n l=some (l[i],l.eraseIdx i)
 | [],_,h,_,_=>by simp at h
 | x :: r, 0, _, _, e => by
   have e':(x.task:Int)=n:=e
   unfold delW;rw[if_pos e'];rfl
 | x :: r, i + 1, h, hn, e => by
   have hx:¬(x.task:Int)=n:=of_decide_eq_false (hn x (by simp))
   unfold delW;rw[if_neg hx,delW_i (l:=r) (i:=i) (by simpa using h) (fun y hy=>hn y (by simp[hy])) (by simpa using e)];rfl
theorem delW_no{n:Int}:∀{l:List Wt},(∀x∈l,decide ((x.task:Int)=n)=false)→delW n l=none
 | [],_=>rfl
 | x :: r, h => by
   have hx:¬(x.task:Int)=n:=of_decide_eq_false (h x (by simp))
   unfold delW;rw[if_neg hx,delW_no fun y hy=>h y (by simp[hy])]
theorem pO(n:Int)(l:List Wt):(fstI (fun x:Wt=>decide ((x.task:Int)=n)) l 0= -1∧delW n l=none)∨∃(i:Nat) (h:i<l.length),fstI (fun x:Wt=>decide ((x.task:Int)=n)) l 0=(i:Nat)∧delW n l=some (l[i],l.eraseIdx i):=by
 rcases fU (fun x:Wt=>decide ((x.task:Int)=n)) l 0 with⟨h1,h2⟩|⟨i,h,h1,h2,h3⟩
 ·exact .inl ⟨h1,delW_no h2⟩
 ·exact .inr ⟨i,h,by rw[Nat.zero_add]at h1;exact h1,delW_i h h3 (of_decide_eq_true h2)⟩

structure ROk (R:NR) (k:Nat):Prop where
 srt:R.socks.Pairwise fun S T=>S.num<T.num
 len:R.socks.length≤64
 ok:∀S∈R.socks,S.num<64∧S.dr+S.old+S.q.length≤k∧(1≤S.pks∧S.pks≤256)∧S.byt≤65536∧(used S.q≤S.byt∧S.q.length≤S.pks)∧S.life<18446744073709551616∧∀p∈S.q,p.data.length≤2048∧p.at_≤R.now
 wl:R.ws.length≤64
 wm:∀w∈R.ws,0≤w.most∧w.task<64
 lt:R.now<18446744073709551615
theorem NetR.rok{st:St}{n sid wid k:Nat}{R:NR}{F:List Nat}(h:NetR st n sid wid k R F):ROk R k:=by
 obtain⟨M,Wm,W,h1,h2,h3,h4,h5⟩:=h.ex
 refine⟨h2.srt,by have:=h2.len64;have:=h2.len;omega,fun S hS=>?_,?_,fun w hw=>?_,h.lt⟩
 ·obtain⟨x,hx,rfl⟩:=h2.has hS
  have hsk:=h1.sub _ x hx
  obtain⟨a,b,c,d,e,f⟩:=h2.ok x.S hS
  exact⟨a,b,hsk.b1,hsk.b2,hsk.b3,e,f⟩
 ·rw[←h4,List.length_map];exact h3.len
 ·rw[←h4]at hw
  obtain⟨e,he,rfl⟩:=List.mem_map.1 hw
  exact⟨(h3.ok e he).2,(h3.ok e he).1⟩
end Go.Fx.YtgmeefljgbaanaaFx

namespace Go.Fx.YtgmeefljgbaanaaFx
open Go Go.Fx
attribute [local irreducible] aC runI aG aH

set_option maxRecDepth 100000
set_option maxHeartbeats 4000000

section
variable {R:NR} {k:Nat}
theorem qM(h:ROk R k)(t:Int)(st:St):az Go.Proofs.Try.prog n_f63 [rnV R,.lit (.int .i64 t)] st (.tup [rnV (eY t R).1,.lit (.int .i64 (eY t R).2)]):=by
 obtain⟨s1,s2,s3,s4,s5,s6,s7,s8⟩:=aB R.socks
 obtain⟨w1,w2,w3,w4,w5,w6,w7,w8⟩:=aE R.ws
 have hsl:R.socks.length≤1000:=by have:=h.len;omega
 have hwl:R.ws.length≤1000:=by have:=h.wl;omega
 refine al hmix k_f63 rfl rfl fun Q hQ=>?_
 unfold aFun c_f63
 have hwp:=n0 (R:=R) hsl hwl t st
 unfold eY at hQ
 by_cases c1:t<0
 ·rw[if_pos (.inl c1)]at hQ
  unfold rnV at hQ ⊢
  simp(config:=KF) (disch:=omega)only[bZ,retI,AI.dst,af,aa,↓reduceIte,Nat.reduceEqDiff,Nat.reduceAdd,Nat.reduceLeDiff,reduceCtorEq,ba,s2,s4,w2,w4]
  exact hQ _
 by_cases c2:64≤t
 ·rw[if_pos (.inr c2)]at hQ
  unfold rnV at hQ ⊢
  simp(config:=KF) (disch:=omega)only[bZ,retI,AI.dst,af,aa,↓reduceIte,Nat.reduceEqDiff,Nat.reduceAdd,Nat.reduceLeDiff,reduceCtorEq,s2,s4,w2,w4]
  exact hQ _
 rw[if_neg (by omega)]at hQ
 rcases pO t R.ws with⟨e1,e2⟩|⟨i,hi,e1,e2⟩
 ·rw[e2]at hQ
  rw[e1]at hwp
  unfold rnV at hwp hQ ⊢
  simp(config:=KF) (disch:=omega)only[bZ,AI.dst,aa,id,↓reduceIte,Nat.reduceEqDiff,Nat.reduceAdd,Nat.reduceLeDiff,reduceCtorEq,s2,s4,w2,w4]
  refine ag (by simp[am,ai,aw,ar,aM,s2,w2]) e_f80 hwp (by simp[ao,aq,aI,s5,w5]) ?_
  simp(config:=KF) (disch:=omega)only[bZ,retI,af,aa,↓reduceIte,Nat.reduceEqDiff,Nat.reduceAdd,Nat.reduceLeDiff,Int.reduceLT,Int.reduceNeg,s2,s4,w2,w4]
  exact hQ _
 ·have hdp:=jS (R:=R) hwl hi st
  rw[e2]at hQ
  rw[e1]at hwp
  obtain⟨x1,x2,x3,x4,x5,x6,x7,x8⟩:=aE (R.ws.eraseIdx i)
  unfold rnV at hwp hdp hQ ⊢
  simp only at hdp hQ
  simp(config:=KF) (disch:=omega)only[bZ,AI.dst,aa,id,↓reduceIte,Nat.reduceEqDiff,Nat.reduceAdd,Nat.reduceLeDiff,reduceCtorEq,s2,s4,w2,w4]
  refine ag (by simp[am,ai,aw,ar,aM,s2,w2]) e_f80 hwp (by simp[ao,aq,aI,s5,w5]) ?_
  simp(config:=KF) (disch:=omega)only[bZ,aa,id,↓reduceIte,Nat.reduceEqDiff,Nat.reduceAdd,Nat.reduceLeDiff,s2,w2]
  refine ag (by simp[am,ai,aw,ar,aM,s2,w2]) e_f77 hdp (by simp[ao,aq,aI,s5,w5]) ?_
  simp(config:=KF) (disch:=omega)only[bZ,retI,af,aa,↓reduceIte,Nat.reduceEqDiff,Nat.reduceAdd,Nat.reduceLeDiff,s2,s4,x2,x4]
  exact hQ _
theorem rtry_pure(h:ROk R k)(n m:Int)(st:St):az Go.Proofs.Try.prog n_f62 [rnV R,.lit (.int .i64 n),.lit (.int .i64 m)] st (.tup [rnV (rTry n m R).1,rcV (rTry n m R).2.1,.lit (.int .i64 (rTry n m R).2.2)]):=by
 obtain⟨s1,s2,s3,s4,s5,s6,s7,s8⟩:=aB R.socks
 obtain⟨w1,w2,w3,w4,w5,w6,w7,w8⟩:=aE R.ws
 have hsl:R.socks.length≤1000:=by have:=h.len;omega
 have hwl:R.ws.length≤1000:=by have:=h.wl;omega
 refine al hmix k_f62 rfl rfl fun Q hQ=>?_
 unfold aFun c_f62
 have hat:=jf (R:=R) hsl hwl n st
 unfold rTry at hQ
 by_cases c1:m<0
 ·rw[if_pos c1]at hQ
  unfold rnV at hQ ⊢
  simp(config:=KF) (disch:=omega)only[bZ,retI,af,aa,↓reduceIte,Nat.reduceEqDiff,Nat.reduceAdd,Nat.reduceLeDiff,reduceCtorEq,s2,s4,w2,w4]
  exact hQ _
 rw[if_neg c1]at hQ
 rcases eA n R.socks with⟨e1,e2⟩|⟨i,hi,e1,e2,e3,e4,_⟩
 ·rw[e2]at hQ
  rw[e1]at hat
  unfold rnV at hat hQ ⊢
  simp(config:=KF) (disch:=omega)only[bZ,aa,id,↓reduceIte,Nat.reduceEqDiff,Nat.reduceAdd,Nat.reduceLeDiff,reduceCtorEq,s2,s4,w2,w4]
  refine ag (by simp[am,ai,aw,ar,aM,s2,w2]) e_f41 hat (by simp[ao,aq,aI,s5,w5]) ?_
  simp(config:=KF) (disch:=omega)only[bZ,retI,af,aa,↓reduceIte,Nat.reduceEqDiff,Nat.reduceAdd,Nat.reduceLeDiff,Int.reduceLT,Int.reduceNeg,s2,s4,w2,w4]
  exact hQ _
 ·rw[e3]at hQ
  simp only at hQ
  rw[e1]at hat
  have hne:R.socks≠[]:=fun e=>by rw[e]at hi;simp at hi
  have hsv:ssV R.socks= .sl false 10 (R.socks.map skV):=if_neg hne
  have hll:(R.socks.map skV).length=R.socks.length:=List.length_map ..
  have hg:=eW hi
  have hok:=h.ok R.socks[i] (List.getElem_mem hi)
  cases hq:R.socks[i].q with
  | nil =>
    rw[hq]at hQ hg
    unfold rnV at hat hQ ⊢
    rw[hsv]at hat hQ s1 s2 s3 s4 s5 s6 s7 ⊢
    simp(config:=KF) (disch:=omega)only[bZ,aa,id,↓reduceIte,Nat.reduceEqDiff,Nat.reduceAdd,Nat.reduceLeDiff,reduceCtorEq,s2,s4,w2,w4]
    refine ag (by simp[am,ai,aw,ar,aM,s2,w2]) e_f41 hat (by simp[ao,aq,aI,s5,w5]) ?_
    simp(config:=KF) (disch:=omega)only[bZ,retI,ixSV,af,lenI,addA,aa,↓reduceIte,Nat.reduceEqDiff,Nat.reduceAdd,Nat.reduceLeDiff,s1,s2,s4,w2,w4,hg,hll]
    exact hQ _
  | cons p ps =>
    have htk:=n8 hsl hi hq st
    have hcp:=lF 0 p m (by omega) (by have:=(hok.2.2.2.2.2.2 p (by rw[hq];simp)).1;omega) st
    rw[hq,List.map_cons]at hg
    rw[hq]at hQ
    simp only[e4]at hQ
    obtain⟨y1,y2,y3,y4,y5,y6,y7,y8⟩:=aB (R.socks.set i (eF R.socks[i]))
    obtain⟨d1,d2,d3,d4,d5,d6,d7,d8⟩:=bT p.data
    obtain⟨z1,z2,z3,z4,z5,z6,z7,z8⟩:=bT (cutR 0 p m).data
    unfold rnV at hat htk hQ ⊢
    simp only at htk hQ
    rw[hsv]at hat htk s1 s2 s3 s4 s5 s6 s7 ⊢
    generalize R.socks.set i (eF R.socks[i])=L at htk hQ y1 y2 y3 y4 y5 y6 y7 y8
    generalize cutR 0 p m=C at hcp hQ z1 z2 z3 z4 z5 z6 z7
    unfold pV at hcp
    unfold rcV rcAV at hcp hQ
    simp(config:=KF) (disch:=omega)only[bZ,aa,id,↓reduceIte,Nat.reduceEqDiff,Nat.reduceAdd,Nat.reduceLeDiff,reduceCtorEq,s2,s4,w2,w4]
    refine ag (by simp[am,ai,aw,ar,aM,s2,w2]) e_f41 hat (by simp[ao,aq,aI,s5,w5]) ?_
    simp(config:=KF) (disch:=omega)only[bZ,ixSV,lenI,addA,aa,id,↓reduceIte,Nat.reduceEqDiff,Nat.reduceAdd,Nat.reduceLeDiff,s1,s2,w2,hg,hll]
    refine ag (by simp[am,ai,aw,ar,aM,s2,w2]) e_f81 htk (by simp[ao,aq,aI,s5,w5]) ?_
    unfold pV
    simp(config:=KF) (disch:=omega)only[bZ,bX,af,aa,id,cx,↓reduceIte,Nat.reduceEqDiff,Nat.reduceAdd,Nat.reduceLeDiff,w2,w4,y2,y4,d2,d4]
    refine cD (by simp[am,ai,aw,ar,aM,s2,w2,d2]) e_f76 hcp (by simp[ao,aq,aI,d5]) ?_
    simp(config:=KF) (disch:=omega)only[bZ,bC,retI,af,aa,↓reduceIte,Nat.reduceEqDiff,Nat.reduceAdd,Nat.reduceLeDiff,w2,w4,y2,y4,z2,z4]
    exact hQ _
end
end Go.Fx.YtgmeefljgbaanaaFx

