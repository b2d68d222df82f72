/- What the functions that the statement reaches compute: part 7. -/
import Derived.Test.YtgmeefljgbaanaaFxW6
namespace Go.Fx.YtgmeefljgbaanaaFx
open Go Go.Fx
attribute [local irreducible] aC runI aG aH

set_option maxRecDepth 100000
set_option maxHeartbeats 4000000

section
variable {st:St} {n sid wid k:Nat} {R:NR} {F:List Nat}
theorem wait_look{st:St}{wid:Nat}{Wm:List (Int×WE)}(h:MapIs st wid .i64 weAV Wm)(t:Int):cA (.int .i64) (.agg [.lit (.int .i64 0),.lit (.int .i64 0),.lit (.int .u64 0)]) false st (.map wid) (.lit (.int .i64 t))= .ok (match aj t Wm with|some w=>weAV w|none=>.agg [.lit (.int .i64 0),.lit (.int .i64 0),.lit (.int .u64 0)]):=by
 rw[da h]
 cases aj t Wm<;>rfl
def oo(st st':St)(n sid wid k:Nat)(F:List Nat)(O:NR×List Rc×Int)(x:AV):Prop :=
 ∃av F',x= .tup [av,.lit (.int .i64 O.2.2)]∧AllV (fun b=>st.boxes.length≤b∧b ∉ F') false av st' O.2.1∧NP st st' n sid wid k F O.1 F'
theorem oo.same(hh:NetR st n sid wid k R F)(e:Int):oo st st n sid wid k F (R,[],e) (.tup [.lit (.slice none 0 0),.lit (.int .i64 e)]):=by
 obtain⟨F',h1,h2⟩:=NP.of (hh.mono (Nat.le_succ k) fun _ q=>q) (Kp.refl st F) (fun b hb=>.inl hb)
 exact⟨_,F',rfl,.inl ⟨rfl,rfl⟩,h1⟩
theorem net_mod{M:List (Int×SL)}{Wm:List (Int×WE)}{W:WL}{st':St}(h1:NetIs st n sid wid R.now M Wm)(h2:SockR M R.socks k R.now)(h3:WaitR M Wm W k)(h4:W.map de=R.ws)(h5:∀b∈ck n sid wid M,b∈F)(hlt:R.now<18446744073709551615)
  {i:Int} {x y:SL} (hx:aj i M=some x) {f:Sk→Sk} (hn:∀S,(f S).num=S.num) (hy:y.S=f x.S) (hys:y.s=x.s) (hyL:y.L=x.L) (hyg:y.g=x.g)
  (hok:(f x.S).dr+(f x.S).old+(f x.S).q.length≤k+1∧(f x.S).pol=x.S.pol∧(f x.S).nm=x.S.nm∧(f x.S).life=x.S.life∧∀p∈(f x.S).q,p.data.length≤2048∧p.at_≤R.now)
  (hk:Kp st st' x.ids) (hyi:y.is st') (hid:∀b∈y.ids,b∈x.ids∨st.boxes.length≤b) :
  ∃F',NP st st' n sid wid k F {R with socks:=modS i f R.socks} F'∧∀b∈F',b∈F∨st.boxes.length≤b:=by
 have hset:=h1.setSock hx hk hyi hid hys
 obtain⟨F',n1,n2⟩:=NP.of (st:=st) (F:=F) (R':={R with socks:=modS i f R.socks}) ⟨⟨_,_,_,hset.1,h2.set (Nat.le_succ k) hx hn hy hok,(h3.sock hx hyL hyg).mono (Nat.le_succ k),h4,fun _ q=>q⟩,hlt⟩
  (Kp.wide hk fun b hb=>h5 b (h1.ins hx b hb)) (fun b hb=>(hset.2 b hb).imp (h5 b) id)
 exact⟨F',n1,fun b hb=>(n1.2.2 b hb).1⟩
theorem SkIs.wait{st':St}{s w m g g':Nat}{qv:AV}{L L':Qu}{S:Sk}(h:SkIs st s w m g qv L S)(hq:QIs st' w m L' g')(ho:Oth st st' [w,m]):SkIs st' s w m g' qv L' S:=by
 obtain⟨n1,n2,n3,n4,n5⟩:=h.ne
 refine⟨(ho.get (by simp[n1,n2])).trans h.get,h.qb.at fun x hx=>ho.2 x ?_,hq,h.b1,h.b2,h.b3,h.ne⟩
 simp only[List.mem_cons,List.not_mem_nil,or_false]
 rintro(rfl|rfl)
 ·exact n4 hx
 ·exact n5 hx
theorem oq(hh:NetR st n sid wid k R F)(hF:∀x∈F,x<st.boxes.length)(from_:Int)(nm:ByteArray)(port:Int)(hnm:nm.size<1000000){v:AV}{d:List UInt8}(hv:DV v st d)(hd:d.length≤100000)(hk:k<900000) :
  aF Go.Proofs.Try.prog n_f36 [.ptr n 0,.lit (.int .i64 from_),adAV nm port,v] st (fun x st'=>oo st st' n sid wid k F (cy from_ nm port d R) x):=by
 obtain⟨M,Wm,W,h1,h2,h3,h4,h5⟩:=hh.ex
 obtain⟨v1,v2,v3,v4,v5,v6,v7,v8⟩:=hv.facts
 have hg:=h1.get
 have hvp:=mj st nm port (by omega)
 have hof:=of_pure h1 h2 nm port
 have hlf:=dP h1 from_
 have hlt:=hh.lt
 unfold adAV at hvp hof ⊢
 refine aK hmix k_f36 rfl rfl fun Q hQ=>?_
 unfold aFun c_f36
 unfold cy at hQ
 simp(config:=KF) (disch:=omega)only[bZ,id,↓reduceIte,Nat.reduceEqDiff,Nat.reduceAdd,reduceCtorEq,v1,v7]
 refine ag rfl e_f26 (cP h1) rfl ?_
 simp(config:=KF) (disch:=omega)only[bZ,aa,id,↓reduceIte,Nat.reduceEqDiff,Nat.reduceAdd,Nat.reduceLeDiff,reduceCtorEq]
 refine ag rfl e_f27 hvp rfl ?_
 cases hva:eE nm port with
 | false =>
   rw[if_pos hva]at hQ
   simp(config:=KF) (disch:=omega)only[bZ,retI,unA,↓reduceIte,Nat.reduceEqDiff,reduceCtorEq]
   exact hQ _ _ (oo.same hh 2)
 |true =>
 rw[if_neg (by rw[hva];simp)]at hQ
 simp(config:=KF) (disch:=omega)only[bZ,unA,↓reduceIte,Nat.reduceEqDiff,reduceCtorEq,v1,v8]
 refine aA (fun c1=>?_) (fun c1=>?_)
 ·rw[if_pos (by omega)]at hQ
  simp(config:=KF) (disch:=omega)only[bZ,retI,↓reduceIte,Nat.reduceEqDiff,reduceCtorEq]
  exact hQ _ _ (oo.same hh 5)
 rw[if_neg (by omega)]at hQ
 cases hx:aj from_ M with
 | none =>
   rw[h2.none hx]at hQ
   rw[hx]at hlf
   simp(config:=KF) (disch:=omega)only[bZ,retI,bt,au,bE,aU,addA,aa,↓reduceIte,Nat.reduceEqDiff,reduceCtorEq,hg,hlf]
   exact hQ _ _ (oo.same hh 9)
 |some xf =>
 rw[(h2.some hx).1]at hQ
 rw[hx]at hlf
 have hgf:=(h1.sub _ xf hx).get
 obtain⟨f1,f2,f3,f4,f5,f6,f7,f8⟩:=(h1.sub _ xf hx).qb.facts
 simp(config:=KF) (disch:=omega)only[bZ,bt,au,bE,aU,addA,aa,id,↓reduceIte,Nat.reduceEqDiff,Nat.reduceAdd,Nat.reduceLeDiff,reduceCtorEq,hg,hlf]
 refine ag rfl e_f28 hof rfl ?_
 simp only at hQ
 cases ho:ofS nm port R.socks with
 | none =>
   rw[ho]at hQ
   simp(config:=KF) (disch:=omega)only[bZ,retI,↓reduceIte,Nat.reduceEqDiff,Int.reduceLT,Int.reduceNeg,reduceCtorEq]
   exact hQ _ _ (oo.same hh 0)
 |some T =>
 rw[ho]at hQ
 obtain⟨t1,t2,t3⟩:=ofS_mem ho
 obtain⟨x,hx2,rfl⟩:=h2.has t1
 have hxi:=h1.sub _ x hx2
 have hlx:=dP h1 (x.S.num:Int)
 rw[hx2]at hlx
 have hgx:=hxi.get
 obtain⟨x1,x2,x3,x4,x5,x6,x7,x8⟩:=hxi.qb.facts
 simp only at hQ
 simp(config:=KF) (disch:=omega)only[bZ,bH,eP,bX,au,addA,aa,id,↓reduceIte,Nat.reduceEqDiff,Nat.reduceAdd,Nat.reduceLeDiff,reduceCtorEq,hg,v1,hlf,hgf]
 refine cD (vs:=[v]) (by simp[v1]) e_f53 (clone_pure st hv hd) (by simp[v5]) ?_
 simp(config:=KF) (disch:=omega)only[bZ,Nat.reduceBEq,ksB,aL,bh,bz,aO,bU,bK,nstB,bA,cb,bH,nQ,gg,bC,cK,fd,bt,au,af,addA,aa,id,bu,ep,cI,dq,List.nil_append,↓reduceIte,Nat.reduceEqDiff,Nat.reduceAdd,Nat.reduceLeDiff,reduceCtorEq,or_false,hg,v7,hlx,hgx]
 obtain⟨w1,w2⟩:=h3.que _ x hx2
 rw[←h4,ol]at hQ
 cases hp:popW (x.S.num:Int) W with
 | none =>
   have hL:x.L= []:=by rw[w1];exact pW _ hp
   rw[hp]at hQ
   simp only at hQ
   have hwq:=hxi.wq
   rw[hL]at hwq
   refine aR rfl e_f54 (qpop_nil hwq) rfl fun r st1 hr=>?_
   obtain⟨rfl,hs1⟩:=hr
   have hs1:=hs1.symm
   subst hs1
   simp(config:=KF) (disch:=omega)only[bZ,aa,id,↓reduceIte,Nat.reduceEqDiff,Nat.reduceAdd,Nat.reduceLeDiff,Int.reduceEq,reduceCtorEq,not_false_eq_true]
   obtain⟨o1,o2,o3,o4,o5,o6⟩:=h2.ok _ t1
   have hgc:=get_calls hxi ⟨xf.S.nm,xf.S.port,d,R.now⟩ o3 hd (by omega)
   unfold pkAV at hgc
   refine aR rfl e_f55 hgc rfl fun r st1 hr=>?_
   obtain⟨⟨qv',j1,j2⟩,j3⟩:=hr
   simp(config:=KF) (disch:=omega)only[bZ,retI,↓reduceIte,Nat.reduceEqDiff,reduceCtorEq]
   obtain⟨g1,g2⟩:=get_count ⟨xf.S.nm,xf.S.port,d,R.now⟩ x.S
   obtain⟨e1,e2,e3,e4,e5,e6,e7,e8⟩:=p0 ⟨xf.S.nm,xf.S.port,d,R.now⟩ x.S
   obtain⟨F',n1,n2⟩:=net_mod h1 h2 h3 h4 h5 hlt hx2 (y:=⟨x.s,x.w,x.m,x.g,qv',x.L,getS ⟨xf.S.nm,xf.S.port,d,R.now⟩ x.S⟩) (f:=getS ⟨xf.S.nm,xf.S.port,d,R.now⟩) (fun S=>(p0 _ S).1) rfl rfl rfl rfl ⟨by omega,e2,e3,e5,fun p hp=>by
    rcases g2 p hp with q|q
    ·exact o6 p q
    ·subst q;exact⟨by simp only;omega,Nat.le_refl _⟩⟩ (Kp.wide j3 fun b hb=>by
    unfold SL.ids
    rcases List.mem_cons.1 hb with rfl|hb
    ·simp
    ·exact List.mem_append_right _ hb) j1 (fun b hb=>by
    unfold SL.ids at hb ⊢
    rcases List.mem_append.1 hb with hb|hb
    ·exact .inl (List.mem_append_left _ hb)
    ·rcases j2 b hb with q|q
     ·exact .inl (List.mem_append_right _ q)
     ·exact .inr q)
   rw[h4]at hQ
   exact hQ _ _ ⟨_,F',rfl,.inl ⟨rfl,rfl⟩,n1⟩
 | some eb =>
   obtain⟨e,rest⟩:=eb
   obtain⟨A,B,hW,rfl,he,hqA⟩:=pX _ hp
   rw[hp]at hQ
   simp only at hQ
   subst hW
   have hL:x.L=(e.2.tick,(e.1:Int))::qOf (x.S.num:Int) B:=by
    rw[w1,gY,hqA,df,if_pos he];rfl
   have hwq:=hxi.wq
   rw[hL]at hwq
   refine aR rfl e_f54 (qpop_calls hwq (by omega)) rfl fun r st1 hr=>?_
   obtain⟨rfl,q1,q2⟩:=hr
   have hmp:aj (e.1:Int) Wm=some e.2:=by
    rw[h3.mp,gJ]
    have hnd:=h3.nd
    rw[List.map_append,List.map_cons,List.nodup_append]at hnd
    rw[gZ fun a ha q=>hnd.2.2 a.1 (List.mem_map_of_mem ha) e.1 (by simp) (by omega)]
    simp[cQ]
   have hyi:(SL.mk x.s x.w x.m x.g x.qv (qOf (x.S.num:Int) B) x.S).is st1:=SkIs.wait hxi q1 q2
   have hset:=h1.setSock (y:=⟨x.s,x.w,x.m,x.g,x.qv,qOf (x.S.num:Int) B,x.S⟩) hx2 (q2.kp fun b hb=>by
    unfold SL.ids
    simp only[List.mem_cons,List.not_mem_nil,or_false]at hb
    rcases hb with rfl|rfl<;>simp) hyi (fun b hb=>.inl hb) rfl
   have hg1:=hset.1.get
   have hwl:=wait_look hset.1.wmp (e.1:Int)
   rw[hmp]at hwl
   simp(config:=KF) (disch:=omega)only[bZ,bt,pt,au,af,addA,aa,dq,↓reduceIte,Nat.reduceEqDiff,Nat.reduceAdd,Nat.reduceLeDiff,reduceCtorEq,not_true_eq_false,hg1,hwl,weAV]
   refine iN hset.1.wmp fun st2 hm2 ho2=>?_
   have hn2:=hset.1.setMap ho2 hm2
   have hmo:=(h3.ok e (by simp)).2
   simp(config:=KF) (disch:=omega)only[bZ,addA,aa,id,↓reduceIte,Nat.reduceEqDiff,Nat.reduceAdd,Nat.reduceLeDiff,reduceCtorEq]
   have hcc:=lH st2 ⟨xf.S.nm,xf.S.port,d,R.now⟩ (e.1:Int) e.2.most hmo hd
   unfold pkAV at hcc
   refine aR rfl e_f49 hcc rfl fun r st3 hr=>?_
   obtain⟨w,rfl,m1,m2,m3⟩:=hr
   obtain⟨y1,y2,y3,y4,y5,y6,y7,y8⟩:=m1.facts
   unfold rcAV
   simp(config:=KF) (disch:=omega)only[bZ,retI,dX,bslV,List.reduceReplicate,cd,bN,aI,↓reduceIte,Nat.reduceEqDiff,Nat.reduceAdd,Nat.reduceLT,y2,y4]
   have hn3:=hn2.kp m2 (fun _ _ q=>by cases q)
   have hwd:=h3.del (x:=x) (y:=⟨x.s,x.w,x.m,x.g,x.qv,qOf (x.S.num:Int) B,x.S⟩) (by rw[he];exact hx2) (by rw[he,hqA];rfl) rfl
   rw[he]at hwd
   have hsk:SockR (updP (x.S.num:Int) ⟨x.s,x.w,x.m,x.g,x.qv,qOf (x.S.num:Int) B,x.S⟩ M) R.socks (k+1) R.now:=by
    have:=h2.set (Nat.le_succ k) hx2 (y:=⟨x.s,x.w,x.m,x.g,x.qv,qOf (x.S.num:Int) B,x.S⟩) (f:=id) (fun _=>rfl) rfl ⟨by have:=(h2.ok _ t1).2.1;simp only[id];omega,rfl,rfl,rfl,(h2.ok _ t1).2.2.2.2.2⟩
    rw[mD (h2.some hx2).1 id rfl]at this
    exact this
   have hle:st.boxes.length=st2.boxes.length:=by rw[ho2.1,q2.1]
   have hkp:Kp st st3 F:=by
    have k1:Kp st st1 F:=q2.kp fun b hb=>h5 b (h1.ins hx2 b (by
     unfold SL.ids
     simp only[List.mem_cons,List.not_mem_nil,or_false]at hb
     rcases hb with rfl|rfl<;>simp))
    have k2:Kp st1 st2 [wid]:=ho2.kp fun _ q=>q
    refine(k1.trans k2 fun b hb=>.inl ?_).trans m2 (fun _ q=>by cases q)
    simp only[List.mem_singleton]at hb
    subst hb
    exact h5 _ ((bL h1.smp.nd).2 (.inr (.inr (.inl rfl))))
   obtain⟨F',n1,n2⟩:=NP.of (st:=st) (F:=F) (R':={R with ws:=(A++B).map de}) ⟨⟨_,_,_,hn3,hsk,hwd.mono (Nat.le_succ k),rfl,fun _ q=>q⟩,hlt⟩ hkp (fun b hb=>(hset.2 b hb).imp (h5 b) id)
   have hFb:∀b∈F',b<st.boxes.length:=fun b hb=>by
    rw[hle];exact hn2.lts b (n2 b hb)
   have hrc:RcV (fun b=>st.boxes.length≤b∧b ∉ F') st3 (rcAV (e.1:Int) xf.S.nm xf.S.port w R.now (decide (e.2.most<(d.length:Int))) 0) (cutR (e.1:Int) ⟨xf.S.nm,xf.S.port,d,R.now⟩ e.2.most):=⟨w,rfl,.of_mb m1,fun b hb=>by
    have:=m3 b hb
    exact⟨by omega,fun q=>by have:=hFb b q;omega⟩⟩
   exact hQ _ _ ⟨_,F',rfl,.inr ⟨[rcAV (e.1:Int) xf.S.nm xf.S.port w R.now (decide (e.2.most<(d.length:Int))) 0],rfl,hrc,trivial⟩,n1⟩
end
end Go.Fx.YtgmeefljgbaanaaFx

