/- What the functions that the statement reaches compute: part 10. -/
import Derived.Test.YtgmeefljgbaanaaFxW9
namespace Go.Fx.YtgmeefljgbaanaaFx
open Go Go.Fx
attribute [local irreducible] aC runI aG aH

set_option maxRecDepth 100000
set_option maxHeartbeats 4000000

theorem vsub_pure(st:St)(a b:Nat)(ha:a<18446744073709551615):az Go.Proofs.Try.prog n_f57 [.lit (.int .u64 (a:Nat)),.lit (.int .u64 (b:Nat))] st (.lit (.int .u64 ((a-b:Nat):Nat))):=by
 refine al hmix k_f57 rfl rfl fun Q hQ=>?_
 unfold aFun c_f57
 simp(config:=KF) (disch:=omega)only[bZ,nD,↓reduceIte,Nat.reduceEqDiff,reduceCtorEq]
 refine aA (fun h=>?_) (fun h=>?_)
 ·have:a-b=0:=by omega
  rw[this]at hQ
  simp(config:=KF) (disch:=omega)only[bZ,retI,↓reduceIte,Nat.reduceEqDiff,reduceCtorEq]
  exact hQ _
 ·simp(config:=KF) (disch:=omega)only[bZ,retI,n_sub,↓reduceIte,Nat.reduceEqDiff,reduceCtorEq,IntWalk.u64_in,qB]
  exact hQ _

def sumO:List (Int×SL)→Nat
 | []=>0
 |p::r=>p.2.S.old+sumO r
def sumS:List Sk→Nat
 | []=>0
 |S::r=>S.old+sumS r
theorem sumO_upd{i:Int}{x y:SL}:∀{M:List (Int×SL)},aj i M=some x→sumO (updP i y M)+x.S.old=sumO M+y.S.old
 | [],h=>by cases h
 | (k, z) :: r, h => by
   unfold aj at h
   unfold updP
   by_cases e:i=k
   ·rw[if_pos e]at h ⊢;cases h;simp only[sumO];omega
   ·rw[if_neg e]at h ⊢
    have:=sumO_upd (y:=y) h
    simp only[sumO];omega
theorem sumO_del{i:Int}{x:SL}:∀{M:List (Int×SL)},aj i M=some x→sumO (delP i M)+x.S.old=sumO M
 | [],h=>by cases h
 | (k, z) :: r, h => by
   unfold aj at h
   unfold delP
   by_cases e:i=k
   ·rw[if_pos e]at h ⊢;cases h;simp only[sumO];omega
   ·rw[if_neg e]at h ⊢
    have:=sumO_del h
    simp only[sumO];omega
theorem qJ:∀{socks:List Sk} {M:List (Int×SL)},(aV M).Nodup→(∀i:Int,(aj i M).map SL.S=atS i socks)→socks.Pairwise (fun S T=>S.num<T.num)→sumO M=sumS socks
 | [], M, _, h, _ => by
   cases M with
   |nil=>rfl
   | cons p r =>
     have:=h p.1
     simp[aj,atS]at this
 | S :: r, M, hn, h, hp => by
   obtain⟨h1,h2⟩:=List.pairwise_cons.1 hp
   have h0:=h (S.num:Int)
   rw[show atS (S.num:Int) (S::r)=some S by simp[atS]]at h0
   cases hx:aj (S.num:Int) M with
   |none=>rw[hx]at h0;cases h0
   | some x =>
     rw[hx]at h0
     have hxS:x.S=S:=Option.some.inj h0
     have ih:=qJ (socks:=r) (M:=delP (S.num:Int) M) (jc hn) (fun i=>by
      rw[ey _ _ hn]
      split
      ·rename_i e;subst e
       exact(iR fun T hT=>by have:=h1 T hT;omega).symm
      ·rename_i e
       rw[h i]
       conv=>lhs;unfold atS
       rw[if_neg (fun q=>e q.symm)]) h2
     have:=sumO_del hx
     simp only[sumS]
     rw[hxS]at this
     omega
theorem iO(to life:Nat):∀(q:List Pk) (k:Nat),(cL to life q k).2+(cL to life q k).1.length=k+q.length∧k≤(cL to life q k).2∧used (cL to life q k).1≤used q∧∀p∈(cL to life q k).1,p∈q
 | [],k=>⟨by simp[cL],Nat.le_refl _,Nat.le_refl _,fun p hp=>hp⟩
 | p :: r, k => by
   unfold cL
   split
   ·obtain⟨a,b,c,d⟩:=iO to life r (k+1)
    exact⟨by rw[List.length_cons];omega,by omega,by simp only[used];omega,fun x hx=>List.mem_cons_of_mem _ (d x hx)⟩
   ·exact⟨rfl,Nat.le_refl _,Nat.le_refl _,fun x hx=>hx⟩
theorem sumS_adv(to:Nat):∀socks:List Sk,sumS (socks.map (advS to))=sumS socks+advN to socks
 | []=>rfl
 | S :: r => by
   have:=sumS_adv to r
   simp only[List.map_cons,sumS,advN,advS]at this ⊢
   omega
theorem advS_num(to:Nat)(S:Sk):(advS to S).num=S.num:=rfl
theorem atS_adv(to:Nat)(i:Int):∀socks:List Sk,atS i (socks.map (advS to))=(atS i socks).map (advS to)
 | []=>rfl
 | S :: r => by
   rw[List.map_cons]
   unfold atS
   rw[advS_num]
   split
   ·rfl
   ·exact atS_adv to i r
structure AdvI (M M1:List (Int×SL)) (bs seen:List Nat) (to:Nat):Prop where
 keys:aV M1=aV M
 at_:∀(j:Nat) (hj:j<M.length) (b:Nat),bs[j]?=some b→∃y,aj M[j].1 M1=some y∧y.L=M[j].2.L∧y.g=M[j].2.g∧y.s=M[j].2.s∧y.S=if b∈seen then advS to M[j].2.S else M[j].2.S
theorem SockR.len64{M:List (Int×SL)}{socks:List Sk}{k now:Nat}(h:SockR M socks k now):M.length≤64:=by
 have h1:(socks.map Sk.num).Nodup:=(fV.1 h.srt).imp fun h=>Nat.ne_of_lt h
 have:=oh 64 h1 fun x hx=>by
  obtain⟨S,hS,rfl⟩:=List.mem_map.1 hx
  exact(h.ok S hS).1
 rw[List.length_map]at this
 rw[h.len];exact this
theorem sumO_le{K:Nat}:∀{M:List (Int×SL)},(∀p∈M,p.2.S.old≤K)→sumO M≤M.length*K
 | [],_=>Nat.zero_le _
 | p :: r, h => by
   have h1:=h p (by simp)
   have h2:=sumO_le fun q hq=>h q (List.mem_cons_of_mem _ hq)
   simp only[sumO,List.length_cons,Nat.add_mul]
   omega
theorem key_at{M M1:List (Int×SL)}(h:aV M1=aV M){j:Nat}(hj:j<M.length)(hj1:j<M1.length):M1[j].1=M[j].1:=by
 have h1:(aV M1)[j]?=(aV M)[j]?:=by rw[h]
 unfold aV at h1
 simpa [hj,hj1]using h1

theorem adv_sock{st:St}{s w m g:Nat}{qv:AV}{L:Qu}{S:Sk}(h:SkIs st s w m g qv L S){to k old:Nat}(hto:to<18446744073709551615)(hk:S.old+S.q.length≤k)(hk2:k<90000)(hlife:S.life<18446744073709551616)(hold:old<100000000){it:AV}(hit:it.noOwn∨True)
  {Q:Exit→Sf→St→Prop} (hQ:∀st' qv',SkIs st' s w m g qv' L (advS to S)→ah qv'=ah qv→Kp st st' (s::ah qv)→Q .normal ⟨[(1,.lit (.int .u64 (to:Nat))),(6,.lit (.int .i64 ((old+(cL to S.life S.q 0).2:Nat):Nat))),(29,it)],[]⟩ st') :
  aH (aC Go.Proofs.Try.prog id false f38_33) [1,6,8,29] [] ⟨[(1,.lit (.int .u64 (to:Nat))),(6,.lit (.int .i64 (old:Nat))),(8,.ptr s 0),(29,it)],[]⟩ st (gn 2 Q):=by
 refine bB (A:=List Pk×Nat×AV×St) (fun a=>a.1.length) (fun a=>⟨[(1,.lit (.int .u64 (to:Nat))),(6,.lit (.int .i64 ((old+a.2.1:Nat):Nat))),(8,.ptr s 0),(29,it)],[]⟩) (fun a=>a.2.2.2)
  (fun a=>SkIs a.2.2.2 s w m g a.2.2.1 L {S with q:=a.1,old:=S.old+a.2.1}∧Kp st a.2.2.2 (s::ah qv)∧ah a.2.2.1=ah qv∧cL to S.life a.1 a.2.1=cL to S.life S.q 0∧a.2.1+a.1.length=S.q.length)
  (S.q,0,qv,st) ⟨h,Kp.refl _ _,rfl,rfl,by simp⟩ (by simp(config:=KF) (disch:=omega)only[bZ,↓reduceIte,Nat.reduceEqDiff];exact Sf.le_refl _) rfl fun a ha K hK hKe hKr=>?_
 obtain⟨q,c,qv1,st1⟩:=a
 obtain⟨i1,i2,i3,i4,i5⟩:=ha
 simp only at i1 i2 i3 i4 i5
 have hg1:=i1.get
 obtain⟨w1,w2,w3,w4,w5,w6,w7,w8⟩:=i1.qb.facts
 simp only at hg1 w8
 have hb3':=i1.b3
 simp only at hb3'
 have hb2':=i1.b2
 simp only at hb2'
 have hexit:cL to S.life q c=(q,c)→Q .normal ⟨[(1,.lit (.int .u64 (to:Nat))),(6,.lit (.int .i64 ((old+c:Nat):Nat))),(29,it)],[]⟩ st1:=fun e=>by
  rw[i4]at e
  have hadv:({S with q:=q,old:=S.old+c}:Sk)=advS to S:=by unfold advS;rw[e]
  rw[hadv]at i1
  have:=hQ st1 qv1 i1 i3 i2
  rw[e]at this
  exact this
 cases q with
 | nil =>
   simp only[List.length_nil]at w8
   by_cases hl:0<S.life
   ·simp(config:=KF) (disch:=omega)only[bZ,dN,bH,cM,c9,aW,dB,AI.dst,au,addA,aa,↓reduceIte,Nat.reduceEqDiff,ec,dC,f38_33e,hg1,w1,w8]
    refine hKe _ _ _ ?_
    simp(config:=KF) (disch:=omega)only[bZ,↓reduceIte]
    exact hexit rfl
   ·have hl0:S.life=0:=by omega
    rw[hl0]at hg1
    simp(config:=KF) (disch:=omega)only[bZ,dN,bH,aW,dB,AI.dst,au,addA,aa,↓reduceIte,Nat.reduceEqDiff,dC,f38_33e,hg1]
    refine hKe _ _ _ ?_
    simp(config:=KF) (disch:=omega)only[bZ,↓reduceIte]
    exact hexit rfl
 | cons p r =>
   simp only[List.length_cons]at w8 i5
   obtain⟨bi,cap,r0,rfl,hgb,hc1,hc2⟩:∃bi cap r0,qv1= .bs bi 4 0 (r.length+1) cap∧st1.get bi=some (pcs (p::r)++r0)∧r.length+1≤cap∧cap*4≤(pcs (p::r)++r0).length:=by
    rcases i1.qb with⟨_,e⟩|hq
    ·cases e
    ·exact hq
   simp only[pcs,List.cons_append]at hgb
   by_cases hl:0<S.life
   ·have hvs:=vsub_pure st1 to p.at_ hto
    simp(config:=KF) (disch:=omega)only[bZ,dN,eO,bH,cM,bX,c9,AI.dst,ixSV,au,lenI,addA,aa,id,gT,↓reduceIte,Nat.reduceEqDiff,Nat.reduceMul,Int.reduceLE,ec,f38_33e,hg1,hgb]
    refine cD rfl e_f57 hvs rfl ?_
    simp(config:=KF) (disch:=omega)only[bZ,bH,c9,bC,AI.dst,au,addA,aa,↓reduceIte,Nat.reduceEqDiff,hg1]
    refine aA (fun c1=>?_) (fun c1=>?_)
    ·have hgo:0<S.life∧S.life≤to-p.at_:=⟨hl,by omega⟩
     simp(config:=KF) (disch:=omega)only[bZ,id,↓reduceIte,Nat.reduceEqDiff]
     refine aR rfl e_f50 (gX i1 rfl) rfl fun v st2 hr=>?_
     obtain⟨rfl,⟨qv2,j1,j2⟩,j3⟩:=hr
     have hg2:=j1.get
     have hs2:=bI hg2
     obtain⟨y1,y2,y3,y4,y5,y6,y7,y8⟩:=j1.qb.facts
     simp only at hg2
     have j1':=j1.requeue (dr:=S.dr) (old:=S.old+c+1) j1.qb (Kp.refl _ _) (fun x hx=>.inl hx) j1.b3
     simp(config:=KF) (disch:=omega)only[bZ,au,af,addA,aa,↓reduceIte,Nat.reduceEqDiff,Nat.reduceAdd,Nat.reduceLeDiff,hg2]
     have hkk:Kp st (st2.set s [.lit (.string S.nm),.lit (.int .i64 S.port),.lit (.int .i64 (S.pks:Nat)),.lit (.int .i64 (S.byt:Nat)),.lit (.int .i64 S.pol),.lit (.int .u64 (S.life:Nat)),qv2,.lit (.int .i64 (used r:Nat)),.lit (.int .i64 (S.dr:Nat)),.lit (.int .i64 ((S.old+c+1:Nat):Nat)),.ptr w 0]) (s::ah qv):=by
      refine(i2.trans j3 fun x hx=>?_).trans ((Oth.set st2 s _ (S:=[s]) (by simp)).kp (F:=[s]) (by simp)) (fun x hx=>.inl (by simp at hx;subst hx;simp))
      rw[i3]at hx;exact .inl hx
     refine hK (r,c+1,qv2,_) _ ⟨j1',hkk,j2.trans i3,?_,?_⟩ ?_ ?_
     ·rw[←i4]
      conv=>rhs;unfold cL
      rw[if_pos hgo]
     ·simp only;omega
     ·simp
     ·exact Sf.le_refl _
    ·have hno:¬(0<S.life∧S.life≤to-p.at_):=fun q=>by omega
     simp(config:=KF) (disch:=omega)only[bZ,↓reduceIte,Nat.reduceEqDiff]
     refine hKe _ _ _ ?_
     simp(config:=KF) (disch:=omega)only[bZ,↓reduceIte]
     refine hexit ?_
     unfold cL
     rw[if_neg hno]
   ·have hl0:S.life=0:=by omega
    rw[hl0]at hg1
    simp(config:=KF) (disch:=omega)only[bZ,dN,bH,aW,dB,AI.dst,au,addA,aa,↓reduceIte,Nat.reduceEqDiff,dC,f38_33e,hg1]
    refine hKe _ _ _ ?_
    simp(config:=KF) (disch:=omega)only[bZ,↓reduceIte]
    refine hexit ?_
    unfold cL
    rw[if_neg (by omega)]

theorem pI{st0:St}{n sid wid k:Nat}{R:NR}{F:List Nat}(hh:NetR st0 n sid wid k R F)(to:Int)(h0:0≤to)(h1':to<18446744073709551616)(hk:k<90000) :
  aF Go.Proofs.Try.prog n_f38 [.ptr n 0,.lit (.int .u64 to)] st0 (fun x st'=>∃F',x= .tup [.lit (.int .i64 (rAdv to R).2.1),.lit (.int .i64 (rAdv to R).2.2)]∧NP st0 st' n sid wid k F (rAdv to R).1 F'):=by
 obtain⟨M,Wm,W,h1,h2,h3,h4,h5⟩:=hh.ex
 have hlt:=hh.lt
 have hg:=h1.get
 have hlts:=h1.lts
 obtain⟨tn,rfl⟩:∃tn:Nat,to=(tn:Int):=⟨to.toNat,by omega⟩
 refine aK hmix k_f38 rfl rfl fun Q hQ=>?_
 unfold aFun c_f38
 unfold rAdv at hQ
 have hbad:((tn:Int)<(R.now:Int)∨(tn:Int)=18446744073709551615)→Q (.tup [.lit (.int .i64 0),.lit (.int .i64 3)]) st0:=fun c=>by
  rw[if_pos c]at hQ
  obtain⟨F',h1,h2⟩:=NP.of (hh.mono (Nat.le_succ k) fun _ q=>q) (Kp.refl st0 F) (fun b hb=>.inl hb)
  exact hQ _ _ ⟨F',rfl,h1⟩
 have hgood:¬((tn:Int)<(R.now:Int)∨(tn:Int)=18446744073709551615)→aC Go.Proofs.Try.prog id false f38_15 ⟨[(0,.ptr n 0),(1,.lit (.int .u64 (tn:Nat))),(20,.lit (.bool false))],[]⟩ st0 (retQ [RI.tmp 4,RI.tmp 5] Q):=fun c=>by
  rw[if_neg c]at hQ
  rw[Int.toNat_natCast]at hQ
  have hn1:=h1.setNow tn
  obtain⟨s1,hs1⟩:∃s,s=st0.set n [.lit (.int .u64 (tn:Nat)),.map sid,.map wid]:=⟨_,rfl⟩
  have hk1:Kp st0 s1 [n]:=by rw[hs1];exact(Oth.set st0 n _ (S:=[n]) (by simp)).kp fun _ q=>q
  have hgm:=hn1.smp.get
  simp(config:=KF) (disch:=omega)only[bZ,au,af,addA,aa,↓reduceIte,Nat.reduceEqDiff,Nat.reduceAdd,Nat.reduceLeDiff,reduceCtorEq,f38_15e,hg]
  rw[←hs1]at hn1 hgm ⊢
  have hsb:s1.boxes[sid]?=st0.boxes[sid]?:=by rw[hs1];exact cO h1.ne3.1
  have hgn1:=hn1.get
  have hB:s1.getB sid=st0.getB sid:=gW hsb
  obtain⟨bs,hbs⟩:∃bs,bs=(st0.getB sid).1:=⟨_,rfl⟩
  obtain⟨cl,hcl⟩:∃cl,cl=(st0.getB sid).2:=⟨_,rfl⟩
  have hbl:bs.length=M.length:=by rw[hbs];exact h1.smp.bl
  have hbn:bs.Nodup:=by rw[hbs];exact h1.smp.bn
  simp(config:=KF) (disch:=omega)only[bZ,bD,a9,↓reduceIte,Nat.reduceEqDiff,reduceCtorEq,hgn1,hgm,rngX,hB]
  rw[←hcl,f38_23w]
  have hs64:=h2.len64
  refine bB (A:=St×List (Int×SL)×List Nat×Nat) (fun a=>left bs a.2.2.1) (fun a=>⟨[(1,.lit (.int .u64 (tn:Nat))),(6,.lit (.int .i64 (a.2.2.2:Nat))),(29,.mit (some sid) cl a.2.2.1 cl)],[]⟩) (fun a=>a.1)
   (fun a=>NetIs a.1 n sid wid tn a.2.1 Wm∧AdvI M a.2.1 bs a.2.2.1 tn∧WaitR a.2.1 Wm W k∧a.2.2.2+sumO M=sumO a.2.1∧Kp st0 a.1 F∧a.1.boxes[sid]?=st0.boxes[sid]?∧∀b∈ck n sid wid a.2.1,b∈F∨st0.boxes.length≤b)
   (s1,M,[],0) ⟨hn1,⟨rfl,fun j hj b _=>⟨M[j].2,cp h1.smp.nd (List.getElem_mem hj),rfl,rfl,rfl,by simp⟩⟩,h3,by simp,Kp.wide hk1 fun b hb=>h5 b (by simp only[List.mem_singleton]at hb;subst hb;exact(bL h1.smp.nd).2 (.inl rfl)),hsb,fun b hb=>.inl (h5 b hb)⟩ (by simp(config:=KF) (disch:=omega)only[bZ,↓reduceIte,Nat.reduceEqDiff];exact Sf.le_refl _) rfl fun a ha K hK hKe hKr=>?_
  obtain⟨s,M1,seen,old⟩:=a
  obtain⟨j1,j2,j3,j4,j5,j6,j7⟩:=ha
  simp only at j1 j2 j3 j4 j5 j6 j7
  have hBs:s.getB sid=st0.getB sid:=gW j6
  have hM1l:M1.length=M.length:=by
   have:=congrArg List.length j2.keys
   unfold aV at this
   simpa using this
  have hold:∀p∈M1,p.2.S.old≤k:=fun p hp=>by
   obtain⟨j,hj,rfl⟩:=List.getElem_of_mem hp
   have hjM:j<M.length:=by omega
   obtain⟨y,y1,y2,y3,y4,y5⟩:=j2.at_ j hjM bs[j] (List.getElem?_eq_getElem (by omega))
   have hk1:=key_at j2.keys hjM hj
   have:aj M1[j].1 M1=some M1[j].2:=cp j1.smp.nd (List.getElem_mem hj)
   rw[hk1,y1]at this
   have hy:y=M1[j].2:=Option.some.inj this
   rw[←hy,y5]
   have hm:=h2.some (show aj M[j].1 M=some M[j].2 from cp h1.smp.nd (List.getElem_mem hjM))
   have hok:=(h2.ok _ hm.2.1).2.1
   split
   ·have:=iO tn M[j].2.S.life M[j].2.S.q 0
    unfold advS;simp only;omega
   ·omega
  have holdB:old≤64*k:=by
   have h1:=sumO_le hold
   have:M1.length*k≤64*k:=Nat.mul_le_mul_right k (by omega)
   omega
  simp(config:=KF) (disch:=omega)only[bZ,a9,↓reduceIte,Nat.reduceEqDiff]
  have hcl':cl=(s.getB sid).2:=by rw[hBs];exact hcl
  rw[hcl']
  refine oa j1.smp (fun j hj b hb hns=>?_) (fun hall=>?_)
  ·have hjM:j<M.length:=by omega
   rw[hBs,←hbs]at hb
   obtain⟨y,y1,y2,y3,y4,y5⟩:=j2.at_ j hjM b hb
   have hkj:=key_at j2.keys hjM hj
   have hy1:aj M1[j].1 M1=some M1[j].2:=cp j1.smp.nd (List.getElem_mem hj)
   have hyy:y=M1[j].2:=by rw[hkj,y1]at hy1;exact Option.some.inj hy1
   rw[if_neg hns]at y5
   have hyi:=j1.sub _ y y1
   obtain⟨o1,o2,o3,o4,o5,o6⟩:=h2.ok _ (h2.some (show aj M[j].1 M=some M[j].2 from cp h1.smp.nd (List.getElem_mem hjM))).2.1
   have hsd:(slAV M1[j].2).dis= .ptr y.s 0:=by rw[←hyy];rfl
   rw[hsd]
   simp(config:=KF) (disch:=omega)only[bZ,a9,↓reduceIte,Nat.reduceEqDiff]
   refine ob j1.smp hj (by rw[hBs,←hbs];exact hb) ?_
   rw[hsd]
   simp(config:=KF) (disch:=omega)only[bZ,bD,↓reduceIte,Nat.reduceEqDiff]
   rw[f38_32w]
   rw[←hcl']
   have hbj:=hb
   have hnin:=j1.ninx y1
   refine adv_sock hyi (to:=tn) (k:=k) (by omega) (by rw[y5];omega) hk (by rw[y5];exact o5) (by omega) (.inr trivial) fun s' qv' g1 g2 g3=>?_
   have hgK:Kp s s' y.ids:=Kp.wide g3 fun x hx=>by
    unfold SL.ids
    rcases List.mem_cons.1 hx with rfl|hx
    ·simp
    ·exact List.mem_append_right _ hx
   have hset:=j1.setSock (y:=⟨y.s,y.w,y.m,y.g,qv',y.L,advS tn y.S⟩) y1 hgK g1 (fun x hx=>.inl (by unfold SL.ids at hx ⊢;rw[←g2];exact hx)) rfl
   have hsum:=sumO_upd (y:=⟨y.s,y.w,y.m,y.g,qv',y.L,advS tn y.S⟩) y1
   simp(config:=KF) (disch:=omega)only[bZ]
   refine hK (s',updP M[j].1 ⟨y.s,y.w,y.m,y.g,qv',y.L,advS tn y.S⟩ M1,seen++[b],old+(cL tn y.S.life y.S.q 0).2) _ ⟨hset.1,⟨(lI y1).trans j2.keys,fun j' hj' b' hb'=>?_⟩,j3.sock y1 rfl rfl,?_,?_,?_,?_⟩ (qO (List.mem_of_getElem? hb) hns) (Sf.le_refl _)
   ·by_cases e:j'=j
    ·subst e
     rw[hb]at hb'
     cases hb'
     refine⟨⟨y.s,y.w,y.m,y.g,qv',y.L,advS tn y.S⟩,by rw[aZ,if_pos rfl],y2,y3,y4,?_⟩
     rw[if_pos (by simp)]
     simp only[y5]
    ·obtain⟨z,z1,z2,z3,z4,z5⟩:=j2.at_ j' hj' b' hb'
     have hne:M[j'].1≠M[j].1:=fun q=>by
      have hnd:=h1.smp.nd
      unfold aV at hnd
      have h1:(M.map Prod.fst)[j']'(by simpa using hj')=(M.map Prod.fst)[j]'(by simpa using hjM):=by simpa using q
      exact e ((List.getElem_inj hnd).1 h1)
     have hbb:b'≠b:=fun q=>by
      subst q
      obtain⟨p1,p2⟩:=List.getElem?_eq_some_iff.1 hb
      obtain⟨r1,r2⟩:=List.getElem?_eq_some_iff.1 hb'
      exact e ((List.getElem_inj hbn).1 (r2.trans p2.symm))
     refine⟨z,by rw[aZ,if_neg hne];exact z1,z2,z3,z4,?_⟩
     rw[z5]
     by_cases hs:b'∈seen
     ·rw[if_pos hs,if_pos (List.mem_append_left _ hs)]
     ·rw[if_neg hs,if_neg (by simp[hs,hbb])]
   ·simp only[advS]at hsum ⊢
    omega
   ·refine j5.trans hgK fun x hx=>j7 x (j1.ins y1 x hx)
   ·rw[hgK.2 sid (by have:=j1.smp.lt;exact this) hnin.2.1];exact j6
   ·intro x hx
    rcases hset.2 x hx with q|q
    ·exact j7 x q
    ·exact .inr (Nat.le_trans j5.1 q)
  ·simp(config:=KF) (disch:=omega)only[bZ,↓reduceIte,Nat.reduceEqDiff]
   refine hKe _ _ _ ?_
   simp(config:=KF) (disch:=omega)only[bZ,retI,↓reduceIte,Nat.reduceEqDiff]
   rw[hBs,←hbs]at hall
   have hat:∀i:Int,(aj i M1).map SL.S=atS i (R.socks.map (advS tn)):=fun i=>by
    rw[atS_adv,←h2.at_ i]
    cases hi:aj i M with
    | none =>
      cases hi1:aj i M1 with
      |none=>rfl
      | some y =>
        have h3:=look_key hi1
        rw[j2.keys]at h3
        obtain⟨p,hp,rfl⟩:=List.mem_map.1 h3
        have:=cp h1.smp.nd (show(p.1,p.2)∈M from hp)
        rw[hi]at this;cases this
    | some x =>
      obtain⟨j,hj,e⟩:=List.getElem_of_mem (fA hi)
      obtain⟨y,y1,y2,y3,y4,y5⟩:=j2.at_ j hj bs[j] (List.getElem?_eq_getElem (by omega))
      rw[e]at y1 y5
      rw[y1,if_pos (hall _ (List.getElem_mem (by omega)))]at *
      simp[y5]
   have hsrt:(R.socks.map (advS tn)).Pairwise fun S T=>S.num<T.num:=by
    rw[fV,List.map_map]
    exact fV.1 h2.srt
   have hsk:SockR M1 (R.socks.map (advS tn)) (k+1) tn:=by
    refine⟨hat,by rw[hM1l,h2.len,List.length_map],hsrt,fun S hS=>?_⟩
    obtain⟨T,hT,rfl⟩:=List.mem_map.1 hS
    obtain⟨o1,o2,o3,o4,o5,o6⟩:=h2.ok T hT
    obtain⟨l1,l2,l3,l4⟩:=iO tn T.life T.q 0
    refine⟨o1,?_,o3,o4,o5,fun p hp=>?_⟩
    ·unfold advS;simp only;omega
    ·have:=o6 p (l4 p hp)
     exact⟨this.1,by omega⟩
   have e1:=qJ h1.smp.nd h2.at_ h2.srt
   have e2:=qJ j1.smp.nd hat hsrt
   have e3:=sumS_adv tn R.socks
   have e4:old=advN tn R.socks:=by omega
   obtain⟨F',n1,n2⟩:=NP.of (st:=st0) (F:=F) (R':={now:=tn,socks:=R.socks.map (advS tn),ws:=R.ws}) ⟨⟨M1,Wm,W,j1,hsk,j3.mono (Nat.le_succ k),h4,fun _ q=>q⟩,by show tn<18446744073709551615;omega⟩ j5 j7
   rw[e4]
   exact hQ _ _ ⟨F',rfl,n1⟩
 simp(config:=KF) (disch:=omega)only[bZ,id,↓reduceIte,Nat.reduceEqDiff,reduceCtorEq]
 refine ag rfl e_f26 (cP h1) rfl ?_
 (repeat' (first|omega|(simp(config:=KF) (disch:=omega)only[bZ,retI,AI.dst,au,addA,aa,↓reduceIte,Nat.reduceEqDiff,reduceCtorEq,hg])|refine aA (fun h=>?_) (fun h=>?_)|refine bj (fun h=>?_) (fun h=>?_)|refine cn (fun h=>?_) (fun h=>?_)|exact hgood (by omega)|exact hbad (by omega)))
end Go.Fx.YtgmeefljgbaanaaFx

