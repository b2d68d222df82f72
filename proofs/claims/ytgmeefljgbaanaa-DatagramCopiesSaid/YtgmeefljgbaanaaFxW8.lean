/- What the functions that the statement reaches compute: part 8. -/
import Derived.Test.YtgmeefljgbaanaaFxW7
namespace Go.Fx.YtgmeefljgbaanaaFx
open Go Go.Fx
attribute [local irreducible] aC runI aG aH

set_option maxRecDepth 100000
set_option maxHeartbeats 4000000

def OneV(P:Nat→Prop)(v:AV)(st:St)(r:Rc):Prop:=∃w,v=rcAV r.task r.nm r.port w r.at_ r.cut r.err∧MB w st (BB r.data)∧∀b∈ah w,P b
theorem one0(P:Nat→Prop)(st:St):OneV P (rcAV 0 ⟨#[]⟩ 0 (.lit (.slice none 0 0)) 0 false 0) st rc0:=⟨_,rfl,.inl ⟨rfl,rfl⟩,by simp[ah]⟩
section
variable {st:St} {n sid wid k:Nat} {R:NR} {F:List Nat}
theorem tailQ_eq{S:Sk}{p:Pk}{ps:List Pk}(h:S.q=p::ps):({S with q:=ps}:Sk)=eF S:=by
 unfold eF;rw[h];rfl
theorem net_take{M:List (Int×SL)}{Wm:List (Int×WE)}{W:WL}{st':St}(h1:NetIs st n sid wid R.now M Wm)(h2:SockR M R.socks k R.now)(h3:WaitR M Wm W k)(h4:W.map de=R.ws)(h5:∀b∈ck n sid wid M,b∈F)(hlt:R.now<18446744073709551615)
  {i:Int} {x:SL} (hx:aj i M=some x) {p:Pk} {ps:List Pk} (hq:x.S.q=p::ps) {qv':AV} (hj:SkIs st' x.s x.w x.m x.g qv' x.L {x.S with q:=ps}) (hb:ah qv'=ah x.qv) (hk:Kp st st' (x.s::ah x.qv)) :
  ∃F',NP st st' n sid wid k F {R with socks:=modS i eF R.socks} F'∧∀b∈F',b∈F∨st.boxes.length≤b:=by
 obtain⟨o1,o2,o3,o4,o5,o6⟩:=h2.ok _ (h2.some hx).2.1
 rw[hq,List.length_cons]at o2
 refine net_mod h1 h2 h3 h4 h5 hlt hx (y:=⟨x.s,x.w,x.m,x.g,qv',x.L,eF x.S⟩) (f:=eF) (fun _=>rfl) rfl rfl rfl rfl ⟨?_,rfl,rfl,rfl,fun r hr=>o6 r ?_⟩ (Kp.wide hk fun b hb=>?_) ?_ (fun b hb'=>.inl ?_)
 ·unfold eF;rw[hq];simp only[List.tail_cons];omega
 ·unfold eF at hr;exact List.mem_of_mem_tail hr
 ·unfold SL.ids
  rcases List.mem_cons.1 hb with rfl|hb
  ·simp
  ·exact List.mem_append_right _ hb
 ·rw[tailQ_eq hq]at hj;exact hj
 ·unfold SL.ids at hb' ⊢
  rw[←hb];exact hb'
def TryP(st st':St)(n sid wid k:Nat)(F:List Nat)(O:NR×Rc×Int)(x:AV):Prop :=
 ∃ov F',x= .tup [ov,.lit (.int .i64 O.2.2)]∧OneV (fun b=>st.boxes.length≤b∧b ∉ F') ov st' O.2.1∧NP st st' n sid wid k F O.1 F'
theorem TryP.same(hh:NetR st n sid wid k R F)(e:Int):TryP st st n sid wid k F (R,rc0,e) (.tup [rcAV 0 ⟨#[]⟩ 0 (.lit (.slice none 0 0)) 0 false 0,.lit (.int .i64 e)]):=by
 obtain⟨F',h1,h2⟩:=NP.of (hh.mono (Nat.le_succ k) fun _ q=>q) (Kp.refl st F) (fun b hb=>.inl hb)
 exact⟨_,F',rfl,one0 _ _,h1⟩
theorem NP.more{st st1 st2:St}{R':NR}{F':List Nat}(h:NP st st1 n sid wid k F R' F')(hk:Kp st1 st2 []):NP st st2 n sid wid k F R' F' :=
 ⟨h.1.kp hk fun _ _ q=>(by cases q),h.2.1.trans hk fun _ q=>(by cases q),fun b hb=>⟨(h.2.2 b hb).1,Nat.lt_of_lt_of_le (h.2.2 b hb).2 hk.1⟩⟩
theorem p5(hh:NetR st n sid wid k R F)(at_ most:Int) :
  aF Go.Proofs.Try.prog n_f31 [.ptr n 0,.lit (.int .i64 at_),.lit (.int .i64 most)] st (fun x st'=>TryP st st' n sid wid k F (rTry at_ most R) x):=by
 obtain⟨M,Wm,W,h1,h2,h3,h4,h5⟩:=hh.ex
 have hg:=h1.get
 have hlf:=dP h1 at_
 have hlt:=hh.lt
 refine aK hmix k_f31 rfl rfl fun Q hQ=>?_
 unfold aFun c_f31
 unfold rTry at hQ
 have same:=fun e=>TryP.same hh e
 unfold rcAV at same
 simp(config:=KF) (disch:=omega)only[bZ,id,↓reduceIte,Nat.reduceEqDiff,Nat.reduceAdd,reduceCtorEq]
 refine ag rfl e_f26 (cP h1) rfl ?_
 simp(config:=KF) (disch:=omega)only[bZ,↓reduceIte,Nat.reduceEqDiff,reduceCtorEq]
 refine aA (fun c1=>?_) (fun c1=>?_)
 ·rw[if_pos c1]at hQ
  simp(config:=KF) (disch:=omega)only[bZ,retI,af,aa,↓reduceIte,Nat.reduceEqDiff,Nat.reduceAdd,Nat.reduceLeDiff,reduceCtorEq]
  exact hQ _ _ (same 2)
 rw[if_neg c1]at hQ
 cases hx:aj at_ M with
 | none =>
   rw[h2.none hx]at hQ
   rw[hx]at hlf
   simp(config:=KF) (disch:=omega)only[bZ,retI,bt,au,af,bE,aU,addA,aa,↓reduceIte,Nat.reduceEqDiff,Nat.reduceAdd,Nat.reduceLeDiff,reduceCtorEq,hg,hlf]
   exact hQ _ _ (same 9)
 |some x =>
 rw[(h2.some hx).1]at hQ
 rw[hx]at hlf
 have hxi:=h1.sub _ x hx
 have hgx:=hxi.get
 obtain⟨x1,x2,x3,x4,x5,x6,x7,x8⟩:=hxi.qb.facts
 simp only at hQ
 cases hq:x.S.q with
 | nil =>
   rw[hq]at hQ x8
   simp only[List.length_nil]at x8
   simp(config:=KF) (disch:=omega)only[bZ,retI,bt,au,af,bE,aU,addA,aa,↓reduceIte,Nat.reduceEqDiff,Nat.reduceAdd,Nat.reduceLeDiff,reduceCtorEq,hg,hlf,hgx,x1,x8]
   exact hQ _ _ (same 16)
 | cons p ps =>
   rw[hq]at hQ x8
   simp only[List.length_cons]at x8 hQ
   have hb2:=hxi.b3.1
   have hb3:=hxi.b2
   rw[hq]at hb2
   simp only[used]at hb2
   have hql:ps.length<300:=by
    have:=hxi.b3.2
    rw[hq]at this
    have:=hxi.b1.2
    simp only[List.length_cons]at *
    omega
   simp(config:=KF) (disch:=omega)only[bZ,bt,au,bE,aU,addA,aa,id,↓reduceIte,Nat.reduceEqDiff,reduceCtorEq,hg,hlf,hgx,x1,x8]
   refine aR rfl e_f50 (gX hxi hq) rfl fun r st1 hr=>?_
   obtain⟨rfl,⟨qv',j1,j2⟩,j3⟩:=hr
   unfold pkAV
   simp(config:=KF) (disch:=omega)only[bZ,id,↓reduceIte,Nat.reduceEqDiff]
   have hcc:=lH st1 p 0 most (by omega) (by omega)
   unfold pkAV at hcc
   refine aR rfl e_f49 hcc rfl fun r st2 hr=>?_
   obtain⟨w,rfl,m1,m2,m3⟩:=hr
   obtain⟨y1,y2,y3,y4,y5,y6,y7,y8⟩:=m1.facts
   unfold rcAV
   simp(config:=KF) (disch:=omega)only[bZ,retI,af,aa,↓reduceIte,Nat.reduceEqDiff,Nat.reduceAdd,Nat.reduceLeDiff,y2,y4]
   obtain⟨F',n1,n2⟩:=net_take h1 h2 h3 h4 h5 hlt hx hq j1 j2 j3
   have hFb:∀b∈F',b<st1.boxes.length:=fun b hb=>(n1.2.2 b hb).2
   refine hQ _ _ ⟨_,F',rfl,⟨w,rfl,m1,fun b hb=>?_⟩,n1.more m2⟩
   have:=m3 b hb
   have:=j3.1
   exact⟨by omega,fun q=>by have:=hFb b q;omega⟩

def RecvP(st st':St)(n sid wid k:Nat)(F:List Nat)(O:NR×Rc×Bool×Int)(x:AV):Prop :=
 ∃ov F',x= .tup [ov,.lit (.bool O.2.2.1),.lit (.int .i64 O.2.2.2)]∧OneV (fun b=>st.boxes.length≤b∧b ∉ F') ov st' O.2.1∧NP st st' n sid wid k F O.1 F'
theorem RecvP.same(hh:NetR st n sid wid k R F)(e:Int):RecvP st st n sid wid k F (R,rc0,false,e) (.tup [rcAV 0 ⟨#[]⟩ 0 (.lit (.slice none 0 0)) 0 false 0,.lit (.bool false),.lit (.int .i64 e)]):=by
 obtain⟨F',h1,h2⟩:=NP.of (hh.mono (Nat.le_succ k) fun _ q=>q) (Kp.refl st F) (fun b hb=>.inl hb)
 exact⟨_,F',rfl,one0 _ _,h1⟩
theorem ot{st:St}{wid:Nat}{Wm:List (Int×WE)}(h:MapIs st wid .i64 weAV Wm)(t:Int):cA (.int .i64) (.agg [.lit (.int .i64 0),.lit (.int .i64 0),.lit (.int .u64 0)]) true st (.map wid) (.lit (.int .i64 t))= .ok (match aj t Wm with|some w=>.tup [weAV w,.lit (.bool true)]|none=>.tup [.agg [.lit (.int .i64 0),.lit (.int .i64 0),.lit (.int .u64 0)],.lit (.bool false)]):=by
 rw[da h]
 cases aj t Wm<;>rfl
theorem dup_of{M:List (Int×SL)}{Wm:List (Int×WE)}{W:WL}(h3:WaitR M Wm W k)(t:Int):(delW t (W.map de)).isSome=(aj t Wm).isSome:=by
 rw[h3.mp]
 cases hl:cQ t W with
 |none=>rw[lJ hl];rfl
 | some w =>
   obtain⟨B,C,e,rfl,he⟩:=jY hl
   have hnd:=h3.nd
   rw[List.map_append,List.map_cons,List.nodup_append]at hnd
   rw[lK (e:=(e,w)) he fun a ha q=>hnd.2.2 a.1 (List.mem_map_of_mem ha) e (by simp) (by omega)]
   rfl
theorem oz(hh:NetR st n sid wid k R F)(t at_ most:Int)(hk:k<90000) :
  aF Go.Proofs.Try.prog n_f34 [.ptr n 0,.lit (.int .i64 t),.lit (.int .i64 at_),.lit (.int .i64 most)] st (fun x st'=>RecvP st st' n sid wid k F (ei t at_ most R) x):=by
 obtain⟨M,Wm,W,h1,h2,h3,h4,h5⟩:=hh.ex
 have hg:=h1.get
 have hlf:=dP h1 at_
 have hlt:=hh.lt
 refine aK hmix k_f34 rfl rfl fun Q hQ=>?_
 unfold aFun c_f34
 unfold ei at hQ
 have same:=fun e=>RecvP.same hh e
 unfold rcAV at same
 have hbad:(t<0∨64≤t∨most<0)→∀v st',RecvP st st' n sid wid k F (R,rc0,false,2) v→Q v st':=fun c v st' h=>by
  rw[if_pos c]at hQ;exact hQ v st' h
 have hgood:¬(t<0∨64≤t∨most<0)→aC Go.Proofs.Try.prog id false f34_15 ⟨[(0,.ptr n 0),(1,.lit (.int .i64 t)),(2,.lit (.int .i64 at_)),(3,.lit (.int .i64 most)),(8,.lptr 8 0),(27,.lit (.bool false))],[(8,[.lit (.int .i64 0),.lit (.string ⟨#[]⟩),.lit (.int .i64 0),.lit (.slice none 0 0),.lit (.int .u64 0),.lit (.bool false),.lit (.int .i64 0)])]⟩ st (retQ [RI.cell 8 (some 7),RI.tmp 9,RI.tmp 10] Q):=fun c=>by
  rw[if_neg c]at hQ
  cases hx:aj at_ M with
  | none =>
    rw[h2.none hx]at hQ
    rw[hx]at hlf
    simp(config:=KF) (disch:=omega)only[bZ,retI,bt,au,af,bE,aU,addA,aa,↓reduceIte,Nat.reduceEqDiff,Nat.reduceAdd,Nat.reduceLeDiff,reduceCtorEq,f34_15e,hg,hlf]
    exact hQ _ _ (same 9)
  |some x =>
  rw[(h2.some hx).1]at hQ
  rw[hx]at hlf
  have hnum:=(h2.some hx).2.2
  have hxi:=h1.sub _ x hx
  have hgx:=hxi.get
  obtain⟨x1,x2,x3,x4,x5,x6,x7,x8⟩:=hxi.qb.facts
  simp only at hQ
  have hwl:=ot h1.wmp t
  rw[←h4,dup_of h3]at hQ
  cases hwt:aj t Wm with
  | some w =>
    rw[hwt]at hQ hwl
    simp only[Option.isSome_some,if_true]at hQ
    simp(config:=KF) (disch:=omega)only[bZ,retI,bt,au,af,bE,aU,addA,aa,dq,cx,↓reduceIte,Nat.reduceEqDiff,Nat.reduceAdd,Nat.reduceLeDiff,reduceCtorEq,f34_15e,hg,hlf,hwl,weAV]
    exact hQ _ _ (same 11)
  |none =>
  rw[hwt]at hQ hwl
  simp only[Option.isSome_none,Bool.false_eq_true,if_false]at hQ
  cases hq:x.S.q with
  | nil =>
    rw[hq]at hQ x8
    simp only[List.length_nil]at x8
    obtain⟨w1,w2⟩:=h3.que _ x hx
    have hwl64:=h3.len
    have hql:=qOf_len at_ W
    simp(config:=KF) (disch:=omega)only[bZ,bt,au,af,bE,aU,addA,aa,id,dq,cx,↓reduceIte,Nat.reduceEqDiff,Nat.reduceAdd,Nat.reduceLeDiff,reduceCtorEq,f34_15e,hg,hlf,hwl,hgx,x1,x8]
    refine aR rfl e_f51 (qpush_calls hxi.wq (v:=t) (by rw[w1];omega) (by omega)) rfl fun r st1 hr=>?_
    obtain⟨rfl,q1,q2⟩:=hr
    have hyi:(SL.mk x.s x.w x.m (x.g+1) x.qv (x.L++[(x.g+1,t)]) x.S).is st1:=SkIs.wait hxi q1 q2
    have hset:=h1.setSock (y:=⟨x.s,x.w,x.m,x.g+1,x.qv,x.L++[(x.g+1,t)],x.S⟩) hx (q2.kp fun b hb=>by
     unfold SL.ids
     simp only[List.mem_cons,List.not_mem_nil,or_false]at hb
     rcases hb with rfl|rfl<;>simp) hyi (fun b hb=>.inl hb) rfl
    have hg1:=hset.1.get
    simp(config:=KF) (disch:=omega)only[bZ,jx,au,addA,aa,↓reduceIte,Nat.reduceEqDiff,Nat.reduceAdd,Nat.reduceLeDiff,reduceCtorEq,hg1]
    obtain⟨tn,rfl⟩:∃tn:Nat,t=(tn:Int):=⟨t.toNat,by omega⟩
    subst hnum
    refine dY (b:=(⟨x.S.num,most,x.g+1⟩:WE)) hset.1.wmp rfl rfl fun st2 hm2 ho2=>?_
    have hn2:=hset.1.setMap ho2 hm2
    simp(config:=KF) (disch:=omega)only[bZ,retI,af,aa,↓reduceIte,Nat.reduceEqDiff,Nat.reduceAdd,Nat.reduceLeDiff,reduceCtorEq]
    have hwd:=h3.add (t:=tn) (w:=⟨x.S.num,most,x.g+1⟩) (x:=x) (y:=⟨x.s,x.w,x.m,x.g+1,x.qv,x.L++[(x.g+1,(tn:Int))],x.S⟩) (by rw[←h3.mp];exact hwt) (by omega) (by simp only;omega) hx rfl rfl rfl
    have hsk:SockR (updP (x.S.num:Int) ⟨x.s,x.w,x.m,x.g+1,x.qv,x.L++[(x.g+1,(tn:Int))],x.S⟩ M) R.socks (k+1) R.now:=by
     have:=h2.set (Nat.le_succ k) hx (y:=⟨x.s,x.w,x.m,x.g+1,x.qv,x.L++[(x.g+1,(tn:Int))],x.S⟩) (f:=id) (fun _=>rfl) rfl ⟨by have:=(h2.ok _ (h2.some hx).2.1).2.1;simp only[id];omega,rfl,rfl,rfl,(h2.ok _ (h2.some hx).2.1).2.2.2.2.2⟩
     rw[mD (h2.some hx).1 id rfl]at this
     exact this
    have hkp:Kp st st2 F:=by
     have k1:Kp st st1 F:=q2.kp fun b hb=>h5 b (h1.ins hx b (by
      unfold SL.ids
      simp only[List.mem_cons,List.not_mem_nil,or_false]at hb
      rcases hb with rfl|rfl<;>simp))
     have k2:Kp st1 st2 [wid]:=ho2.kp fun _ q=>q
     refine k1.trans k2 fun b hb=>.inl ?_
     simp only[List.mem_singleton]at hb
     subst hb
     exact h5 _ ((bL h1.smp.nd).2 (.inr (.inr (.inl rfl))))
    obtain⟨F',n1,n2⟩:=NP.of (st:=st) (F:=F) (R':={R with ws:=W.map de++[⟨tn,x.S.num,most⟩]}) ⟨⟨_,_,_,hn2,hsk,hwd,by rw[List.map_append];rfl,fun _ q=>q⟩,hlt⟩ hkp (fun b hb=>(hset.2 b hb).imp (h5 b) id)
    exact hQ _ _ ⟨_,F',rfl,one0 _ _,n1⟩
  | cons p ps =>
    rw[hq]at hQ x8
    simp only[List.length_cons]at x8 hQ
    have hb2:=hxi.b3.1
    have hb3:=hxi.b2
    rw[hq]at hb2
    simp only[used]at hb2
    have hql:ps.length<300:=by
     have:=hxi.b3.2
     rw[hq]at this
     have:=hxi.b1.2
     simp only[List.length_cons]at *
     omega
    rw[h4]at hQ
    simp(config:=KF) (disch:=omega)only[bZ,bt,au,af,bE,aU,addA,aa,id,dq,cx,↓reduceIte,Nat.reduceEqDiff,Nat.reduceAdd,Nat.reduceLeDiff,reduceCtorEq,f34_15e,hg,hlf,hwl,hgx,x1,x8]
    refine aR rfl e_f50 (gX hxi hq) rfl fun r st1 hr=>?_
    obtain⟨rfl,⟨qv',j1,j2⟩,j3⟩:=hr
    unfold pkAV
    simp(config:=KF) (disch:=omega)only[bZ,id,↓reduceIte,Nat.reduceEqDiff,reduceCtorEq]
    have hcc:=lH st1 p t most (by omega) (by omega)
    unfold pkAV at hcc
    refine aR rfl e_f49 hcc rfl fun r st2 hr=>?_
    obtain⟨w,rfl,m1,m2,m3⟩:=hr
    obtain⟨y1,y2,y3,y4,y5,y6,y7,y8⟩:=m1.facts
    unfold rcAV
    simp(config:=KF) (disch:=omega)only[bZ,retI,af,aa,↓reduceIte,Nat.reduceEqDiff,Nat.reduceAdd,Nat.reduceLeDiff,reduceCtorEq,y2,y4]
    obtain⟨F',n1,n2⟩:=net_take h1 h2 h3 h4 h5 hlt hx hq j1 j2 j3
    have hFb:∀b∈F',b<st1.boxes.length:=fun b hb=>(n1.2.2 b hb).2
    refine hQ _ _ ⟨_,F',rfl,⟨w,rfl,m1,fun b hb=>?_⟩,n1.more m2⟩
    have:=m3 b hb
    have:=j3.1
    exact⟨by omega,fun q=>by have:=hFb b q;omega⟩
 simp(config:=KF) (disch:=omega)only[bZ,id,↓reduceIte,Nat.reduceEqDiff,Nat.reduceAdd,reduceCtorEq]
 refine ag rfl e_f26 (cP h1) rfl ?_
 (repeat' (first|omega|(simp(config:=KF) (disch:=omega)only[bZ,retI,AI.dst,af,aa,↓reduceIte,Nat.reduceEqDiff,Nat.reduceAdd,Nat.reduceLeDiff,reduceCtorEq])|refine aA (fun h=>?_) (fun h=>?_)|refine bj (fun h=>?_) (fun h=>?_)|refine cn (fun h=>?_) (fun h=>?_)|exact hgood (by omega)|exact hbad (by omega) _ _ (same 2)))

theorem qV(hh:NetR st n sid wid k R F)(t:Int)(hk:k<900000) :
  aF Go.Proofs.Try.prog n_f37 [.ptr n 0,.lit (.int .i64 t)] st (fun x st'=>∃F',x= .lit (.int .i64 (eY t R).2)∧NP st st' n sid wid k F (eY t R).1 F'):=by
 obtain⟨M,Wm,W,h1,h2,h3,h4,h5⟩:=hh.ex
 have hg:=h1.get
 have hlt:=hh.lt
 refine aK hmix k_f37 rfl rfl fun Q hQ=>?_
 unfold aFun c_f37
 unfold eY at hQ
 have same:∀e:Int,∃F',AV.lit (.int .i64 e)=AV.lit (.int .i64 e)∧NP st st n sid wid k F R F':=fun e=>by
  obtain⟨F',h1,h2⟩:=NP.of (hh.mono (Nat.le_succ k) fun _ q=>q) (Kp.refl st F) (fun b hb=>.inl hb)
  exact⟨F',rfl,h1⟩
 have hbad:(t<0∨64≤t)→Q (.lit (.int .i64 2)) st:=fun c=>by
  rw[if_pos c]at hQ;exact hQ _ _ (same 2)
 have hgood:¬(t<0∨64≤t)→aC Go.Proofs.Try.prog id false f37_15 ⟨[(0,.ptr n 0),(1,.lit (.int .i64 t)),(14,.lit (.bool false))],[]⟩ st (retQ [RI.tmp 4] Q):=fun c=>by
  rw[if_neg c]at hQ
  have hwl:=ot h1.wmp t
  cases hl:cQ t W with
  | none =>
    rw[←h4,lJ hl]at hQ
    rw[h3.mp,hl]at hwl
    simp(config:=KF) (disch:=omega)only[bZ,retI,bt,au,af,addA,aa,unA,dq,cx,↓reduceIte,Nat.reduceEqDiff,Nat.reduceAdd,Nat.reduceLeDiff,reduceCtorEq,f37_15e,hg,hwl]
    exact hQ _ _ (same 9)
  | some w =>
    rw[h3.mp,hl]at hwl
    obtain⟨A,B,e,rfl,he⟩:=jY hl
    have hnd:=h3.nd
    rw[List.map_append,List.map_cons,List.nodup_append]at hnd
    rw[←h4,lK (e:=(e,w)) he fun a ha q=>hnd.2.2 a.1 (List.mem_map_of_mem ha) e (by simp) (by omega)]at hQ
    simp only at hQ
    obtain⟨x,hx⟩:=h3.has (e,w) (by simp)
    simp only at hx
    have hxi:=h1.sub _ x hx
    have hgx:=hxi.get
    obtain⟨x1,x2,x3,x4,x5,x6,x7,x8⟩:=hxi.qb.facts
    have hlx:=dP h1 (w.sock:Int)
    rw[hx]at hlx
    obtain⟨w1,w2⟩:=h3.que _ x hx
    have hL:x.L=qOf (w.sock:Int) A++(w.tick,(e:Int))::qOf (w.sock:Int) B:=by
     rw[w1,gY,df,if_pos rfl];rfl
    have hwq:=hxi.wq
    rw[hL]at hwq
    simp(config:=KF) (disch:=omega)only[bZ,bH,eP,bt,au,af,addA,aa,unA,id,dq,cx,↓reduceIte,Nat.reduceEqDiff,Nat.reduceAdd,Nat.reduceLeDiff,reduceCtorEq,f37_15e,hg,hwl,weAV,hlx,hgx]
    refine aR rfl e_f56 (jz hwq (by omega)) rfl fun r st1 hr=>?_
    obtain⟨rfl,q1,q2⟩:=hr
    have hyi:(SL.mk x.s x.w x.m x.g x.qv (qOf (w.sock:Int) A++qOf (w.sock:Int) B) x.S).is st1:=SkIs.wait hxi q1 q2
    have hset:=h1.setSock (y:=⟨x.s,x.w,x.m,x.g,x.qv,qOf (w.sock:Int) A++qOf (w.sock:Int) B,x.S⟩) hx (q2.kp fun b hb=>by
     unfold SL.ids
     simp only[List.mem_cons,List.not_mem_nil,or_false]at hb
     rcases hb with rfl|rfl<;>simp) hyi (fun b hb=>.inl hb) rfl
    have hg1:=hset.1.get
    subst he
    simp(config:=KF) (disch:=omega)only[bZ,pt,au,addA,aa,↓reduceIte,Nat.reduceEqDiff,reduceCtorEq,hg1]
    refine iN hset.1.wmp fun st2 hm2 ho2=>?_
    have hn2:=hset.1.setMap ho2 hm2
    simp(config:=KF) (disch:=omega)only[bZ,retI,↓reduceIte]
    have hwd:=h3.del (e:=(e,w)) (x:=x) (y:=⟨x.s,x.w,x.m,x.g,x.qv,qOf (w.sock:Int) A++qOf (w.sock:Int) B,x.S⟩) hx rfl rfl
    have hsk:SockR (updP (w.sock:Int) ⟨x.s,x.w,x.m,x.g,x.qv,qOf (w.sock:Int) A++qOf (w.sock:Int) B,x.S⟩ M) R.socks (k+1) R.now:=by
     have:=h2.set (Nat.le_succ k) hx (y:=⟨x.s,x.w,x.m,x.g,x.qv,qOf (w.sock:Int) A++qOf (w.sock:Int) B,x.S⟩) (f:=id) (fun _=>rfl) rfl ⟨by have:=(h2.ok _ (h2.some hx).2.1).2.1;simp only[id];omega,rfl,rfl,rfl,(h2.ok _ (h2.some hx).2.1).2.2.2.2.2⟩
     rw[mD (h2.some hx).1 id rfl]at this
     exact this
    have hkp:Kp st st2 F:=by
     have k1:Kp st st1 F:=q2.kp fun b hb=>h5 b (h1.ins hx b (by
      unfold SL.ids
      simp only[List.mem_cons,List.not_mem_nil,or_false]at hb
      rcases hb with rfl|rfl<;>simp))
     have k2:Kp st1 st2 [wid]:=ho2.kp fun _ q=>q
     refine k1.trans k2 fun b hb=>.inl ?_
     simp only[List.mem_singleton]at hb
     subst hb
     exact h5 _ ((bL h1.smp.nd).2 (.inr (.inr (.inl rfl))))
    obtain⟨F',n1,n2⟩:=NP.of (st:=st) (F:=F) (R':={R with ws:=(A++B).map de}) ⟨⟨_,_,_,hn2,hsk,hwd.mono (Nat.le_succ k),rfl,fun _ q=>q⟩,hlt⟩ hkp (fun b hb=>(hset.2 b hb).imp (h5 b) id)
    exact hQ _ _ ⟨F',rfl,n1⟩
 simp(config:=KF) (disch:=omega)only[bZ,id,↓reduceIte,Nat.reduceEqDiff,reduceCtorEq]
 refine ag rfl e_f26 (cP h1) rfl ?_
 (repeat' (first|omega|(simp(config:=KF) (disch:=omega)only[bZ,retI,AI.dst,↓reduceIte,Nat.reduceEqDiff,reduceCtorEq])|refine aA (fun h=>?_) (fun h=>?_)|refine bj (fun h=>?_) (fun h=>?_)|refine cn (fun h=>?_) (fun h=>?_)|exact hgood (by omega)|exact hbad (by omega)))
end
end Go.Fx.YtgmeefljgbaanaaFx

