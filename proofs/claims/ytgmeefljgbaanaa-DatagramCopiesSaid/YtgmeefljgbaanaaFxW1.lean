/- What the functions that the statement reaches compute: part 1. -/
import Derived.Test.YtgmeefljgbaanaaFxT
namespace Go.Fx.YtgmeefljgbaanaaFx
open Go Go.Fx
attribute [local irreducible] aC runI aG aH

set_option maxRecDepth 100000
set_option maxHeartbeats 4000000

theorem eQ{q mid:Nat}{a b c:AV}{st:St}(hg:st.get q=some [a,b,c,.map mid]):az Go.Proofs.Try.prog n_f58 [.ptr q 0] st (.lit (.bool false)):=by
 refine al hmix k_f58 rfl rfl fun Q hQ=>?_
 unfold aFun c_f58
 simp(config:=KF) (disch:=omega)only[bZ,retI,AI.dst,au,bE,aU,addA,aa,↓reduceIte,Nat.reduceEqDiff,reduceCtorEq,hg]
 exact hQ _

theorem qnew_calls(st:St):aF Go.Proofs.Try.prog n_f29 [] st (fun v st'=>v= .ptr (st.boxes.length+1) 0∧QIs st' (st.boxes.length+1) st.boxes.length [] 0∧st'.boxes.length=st.boxes.length+2∧∀id,id<st.boxes.length→st'.boxes[id]?=st.boxes[id]?):=by
 refine aK hmix k_f29 rfl rfl fun Q hQ=>?_
 unfold aFun c_f29
 simp(config:=KF) (disch:=omega)only[bZ,retI,nv,qw,kF,ja,fO,eV,↓reduceIte,Nat.reduceEqDiff,Nat.reduceAdd,Nat.reduceLeDiff,reduceCtorEq,aJ]
 refine hQ _ _ ⟨by simp[aJ],⟨?_,⟨[],?_,fun _=>rfl,rfl⟩,by simp[aT],by simp[aT]⟩,by simp[aJ],fun id hid=>?_⟩
 ·have:=bG (st.push (.mp [] [] 0)) [.lit (.int .u64 0),.lit (.int .u64 0),.lit (.int .u64 0),.map st.boxes.length]
  rw[aJ]at this
  exact this
 ·exact(MapIs.new st .u64 ndAV).push _
 ·rw[bp (by rw[aJ];omega),bp hid]

theorem qlen_pure{q mid g:Nat}{L:Qu}{st:St}(h:QIs st q mid L g):az Go.Proofs.Try.prog n_f40 [.ptr q 0] st (.lit (.int .i64 (L.length:Nat))):=by
 refine al hmix k_f40 rfl rfl fun Q hQ=>?_
 unfold aFun c_f40
 obtain⟨m,hm,hl,hlen⟩:=h.mp
 have hg:=h.get
 simp(config:=KF) (disch:=omega)only[bZ,id,↓reduceIte,reduceCtorEq]
 refine ag rfl e_f58 (eQ hg) rfl ?_
 simp(config:=KF) (disch:=omega)only[bZ,retI,au,addA,aa,↓reduceIte,Nat.reduceEqDiff,reduceCtorEq,hg,kI,hlen]
 exact hQ _

theorem mf{q mid g:Nat}{L:Qu}{st:St}(h:QIs st q mid L g):az Go.Proofs.Try.prog n_f72 [.ptr q 0] st
  (match L with| []=>.tup [.lit (.int .i64 0),.lit (.int .u64 0),.lit (.int .i64 9)]|(t,v)::_=>.tup [.lit (.int .i64 v),.lit (.int .u64 (t:Nat)),.lit (.int .i64 0)]):=by
 refine al hmix k_f72 rfl rfl fun Q hQ=>?_
 unfold aFun c_f72
 obtain⟨m,hm,hl,hlen⟩:=h.mp
 have hg:=h.get
 cases L with
 | nil =>
   simp(config:=KF) (disch:=omega)only[bZ,id,↓reduceIte,Nat.reduceEqDiff,reduceCtorEq]
   refine ag rfl e_f58 (eQ hg) rfl ?_
   simp(config:=KF) (disch:=omega)only[bZ,retI,au,addA,aa,↓reduceIte,Nat.reduceEqDiff,reduceCtorEq,hg,aQ]
   exact hQ _
 | cons x r =>
   obtain⟨t,v⟩:=x
   have hp:=h.pos t (by simp[aT])
   have hk:∀z,cA (.int .u64) z false st (.map mid) (.lit (.int .u64 (t:Nat)))= .ok (ndAV (v,0,aQ r 0)):=fun z=>by
    rw[da hm,hl t];simp[bw,ndAV_dis]
   have hn:((t:Int)=0)=False:=by simp;omega
   simp(config:=KF) (disch:=omega)only[bZ,id,↓reduceIte,Nat.reduceEqDiff,reduceCtorEq]
   refine ag rfl e_f58 (eQ hg) rfl ?_
   simp(config:=KF) (disch:=omega)only[bZ,hh_field,bH,eP,retI,eJ,au,addA,aa,↓reduceIte,Nat.reduceEqDiff,reduceCtorEq,hg,aQ,hk,hn,ndAV]
   exact hQ _
end Go.Fx.YtgmeefljgbaanaaFx

namespace Go.Fx.YtgmeefljgbaanaaFx
open Go Go.Fx
attribute [local irreducible] aC runI aG aH

set_option maxRecDepth 100000
set_option maxHeartbeats 4000000

theorem qpush_calls{q mid g:Nat}{L:Qu}{v:Int}{st:St}(h:QIs st q mid L g)(hlen:L.length<4096)(hgb:g<1000000) :
  aF Go.Proofs.Try.prog n_f51 [.ptr q 0,.lit (.int .i64 v)] st (fun r st'=>r= .tup [.lit (.int .u64 ((g+1:Nat))),.lit (.int .i64 0)]∧QIs st' q mid (L++[(g+1,v)]) (g+1)∧Oth st st' [q,mid]):=by
 refine aK hmix k_f51 rfl rfl fun Q hQ=>?_
 unfold aFun c_f51
 obtain⟨m,hm,hl,hml⟩:=h.mp
 have hg:=h.get
 have hne:=h.ne
 have hlt:=h.ltq
 have hfr:=h.fresh
 have hnq:mid ∉ [q]:=by simp[hne]
 have hqm:q ∉ [mid]:=by simp;exact fun e=>hne e.symm
 simp(config:=KF) (disch:=omega)only[bZ,id,↓reduceIte,Nat.reduceEqDiff,reduceCtorEq]
 refine ag rfl e_f58 (eQ hg) rfl ?_
 by_cases hL:L= []
 ·subst hL
  simp(config:=KF) (disch:=omega)only[bZ,bH,nQ,jx,au,af,addA,aa,↓reduceIte,Nat.reduceEqDiff,Nat.reduceAdd,Nat.reduceLeDiff,reduceCtorEq,IntWalk.u64_in,aY,hg,kI,hml,aQ,aP]
  refine dY (b:=(v,0,0)) (hm.set hne) rfl rfl fun st2 hm2 ho2=>?_
  have hg2:st2.get q=some [.lit (.int .u64 0),.lit (.int .u64 0),.lit (.int .u64 ((g:Int)+1)),.map mid]:=(ho2.get hqm).trans (aY hlt)
  have hlt2:q<st2.boxes.length:=bI hg2
  simp(config:=KF) (disch:=omega)only[bZ,retI,au,af,addA,aa,↓reduceIte,Nat.reduceEqDiff,Nat.reduceAdd,Nat.reduceLeDiff,reduceCtorEq,aY,ge,hg2]
  have ho:Oth st (st2.set q [.lit (.int .u64 ((g:Int)+1)),.lit (.int .u64 ((g:Int)+1)),.lit (.int .u64 ((g:Int)+1)),.map mid]) [q,mid]:=((Oth.set st q _ (by simp)).trans (ho2.mono (by simp))).trans (Oth.set _ _ _ (by simp))
  refine hQ _ _ ⟨rfl,h.push (v:=v) (m':=updP (g+1:Nat) (v,0,0) m) (aY hlt2) (hm2.set hne) (fun t=>?_) ?_,ho⟩
  ·rw[aZ,hl t]
   simp only[List.nil_append,bw,aQ]
   by_cases e:t=g+1
   ·subst e;simp
   ·have:¬(t:Int)=((g+1:Nat):Int):=by omega
    rw[if_neg this,if_neg e]
  ·rw[ez,hl,dn hfr]
   simp[hml]
 ·have hlm:=ff (p:=0) hL
  have hlp:=h.pos _ hlm
  obtain⟨x,hx⟩:=fR (p:=0) hlm
  have hnil:=h.nil_iff
  have hL0:((aP 0 L:Int)=0)=False:=by simp;omega
  have hlg:aP 0 L≠g+1:=fun e=>hfr (e▸ hlm)
  simp(config:=KF) (disch:=omega)only[bZ,bH,nQ,jx,au,af,addA,aa,↓reduceIte,Nat.reduceEqDiff,Nat.reduceAdd,Nat.reduceLeDiff,reduceCtorEq,IntWalk.u64_in,aY,hg,kI,hml]
  refine dY (b:=(v,aP 0 L,0)) (hm.set hne) rfl rfl fun st2 hm2 ho2=>?_
  have hg2:st2.get q=some [.lit (.int .u64 (aQ L 0:Nat)),.lit (.int .u64 (aP 0 L:Nat)),.lit (.int .u64 ((g:Int)+1)),.map mid]:=(ho2.get hqm).trans (aY hlt)
  have hlt2:q<st2.boxes.length:=bI hg2
  have hk:∀z,cA (.int .u64) z false st2 (.map mid) (.lit (.int .u64 (aP 0 L:Nat)))= .ok (ndAV x):=fun z=>by
   rw[da hm2,aZ,if_neg (by omega),hl,hx];rfl
  simp(config:=KF) (disch:=omega)only[bZ,Nat.reduceBEq,ksB,aL,bh,bz,aO,bU,bK,nstB,bA,cb,bH,eP,gg,cK,fd,jx,au,af,addA,aa,ep,dq,List.nil_append,↓reduceIte,Nat.reduceEqDiff,Nat.reduceAdd,Nat.reduceLeDiff,reduceCtorEq,or_false,hg2,hL0,hk,ndAV]
  refine dY (b:=(x.1,x.2.1,g+1)) hm2 rfl rfl fun st3 hm3 ho3=>?_
  have hg3:st3.get q=some [.lit (.int .u64 (aQ L 0:Nat)),.lit (.int .u64 (aP 0 L:Nat)),.lit (.int .u64 ((g:Int)+1)),.map mid]:=(ho3.get hqm).trans hg2
  have hlt3:q<st3.boxes.length:=bI hg3
  simp(config:=KF) (disch:=omega)only[bZ,retI,au,af,addA,aa,↓reduceIte,Nat.reduceEqDiff,Nat.reduceAdd,Nat.reduceLeDiff,reduceCtorEq,aY,hg3]
  have ho:Oth st (st3.set q [.lit (.int .u64 (aQ L 0:Nat)),.lit (.int .u64 ((g:Int)+1)),.lit (.int .u64 ((g:Int)+1)),.map mid]) [q,mid]:=(((Oth.set st q _ (by simp)).trans (ho2.mono (by simp))).trans (ho3.mono (by simp))).trans (Oth.set _ _ _ (by simp))
  have hnx:aQ (L++[(g+1,v)]) 0=aQ L 0:=by cases L with
   |nil=>exact absurd rfl hL
   |cons _ _=>rfl
  refine hQ _ _ ⟨rfl,h.push (v:=v) (by rw[hnx];exact aY hlt3) (hm3.set hne) (fun t=>?_) ?_,ho⟩
  ·rw[aZ,aZ,hl t,nodeA_push h.nd hfr hL]
   by_cases e:t=aP 0 L
   ·subst e;simp[hx]
   ·have e1:¬(t:Int)=(aP 0 L:Nat):=by omega
    rw[if_neg e1,if_neg e]
    by_cases e2:t=g+1
    ·subst e2;simp
    ·have e3:¬(t:Int)=((g+1:Nat):Int):=by omega
     rw[if_neg e3,if_neg e2]
  ·have h1:aj ((g+1:Nat):Int) m=none:=by rw[hl,dn hfr]
   have h2:aj ((aP 0 L:Nat):Int) (updP ((g+1:Nat):Int) (v,aP 0 L,0) m)=some x:=by rw[aZ,if_neg (by omega),hl,hx]
   rw[ez,h2,ez,h1]
   simp[hml]

theorem jz{q mid g t:Nat}{v:Int}{A B:Qu}{st:St}(h:QIs st q mid (A++(t,v)::B) g)(hgb:g<1000000) :
  aF Go.Proofs.Try.prog n_f56 [.ptr q 0,.lit (.int .u64 (t:Nat))] st (fun r st'=>r= .tup [.lit (.int .i64 v),.lit (.int .i64 0)]∧QIs st' q mid (A++B) g∧Oth st st' [q,mid]):=by
 refine aK hmix k_f56 rfl rfl fun Q hQ=>?_
 unfold aFun c_f56
 obtain⟨m,hm,hl,hml⟩:=h.mp
 have hg:=h.get
 have hne:=h.ne
 have hlt:=h.ltq
 have hnd:=h.nd
 have hqm:q ∉ [mid]:=by simp;exact fun e=>hne e.symm
 have h1:t ∉ aT A∧t ∉ aT B:=by
  rw[db]at hnd
  obtain⟨_,h2,h3⟩:=List.nodup_append.1 hnd
  exact⟨fun e=>h3 t e t (by simp[aT]) rfl,(List.nodup_cons.1 h2).1⟩
 have hat:=nodeA_at (v:=v) (B:=B) h1.1
 have hk:∀z,cA (.int .u64) z true st (.map mid) (.lit (.int .u64 (t:Nat)))= .ok (.tup [ndAV (v,aP 0 A,aQ B 0),.lit (.bool true)]):=fun z=>by
  rw[da hm,hl,hat];rfl
 have hposA:A≠[]→0<aP 0 A:=fun e=>(h.pos _ (by rw[db];exact List.mem_append_left _ (ff e))).1
 have hposB:B≠[]→0<aQ B 0∧aQ B 0∈aT B:=fun e=>by
  cases B with
  |nil=>exact absurd rfl e
  |cons x r=>exact⟨(h.pos _ (by rw[db];simp[aT,aQ])).1,by simp[aT,aQ]⟩
 have hlx:∀t':Nat,aj (t':Int) (delP (t:Int) m)=if t'=t then none else bw 0 (A++(t,v)::B) 0 t':=fun t'=>by
  rw[ey _ _ hm.nd,hl]
  by_cases e:t'=t
  ·subst e;simp
  ·have:¬(t':Int)=(t:Int):=by omega
   rw[if_neg this,if_neg e]
 have hdel:(delP (t:Int) m).length=(A++B).length:=by
  rw[mB,hl,hat];simp[hml]
 simp(config:=KF) (disch:=omega)only[bZ,id,↓reduceIte,Nat.reduceEqDiff,reduceCtorEq]
 refine ag rfl e_f58 (eQ hg) rfl ?_
 simp(config:=KF) (disch:=omega)only[bZ,bt,pt,au,af,addA,aa,unA,dq,cx,↓reduceIte,Nat.reduceEqDiff,Nat.reduceAdd,Nat.reduceLeDiff,reduceCtorEq,hg,hk,ndAV]
 refine iN hm fun st2 hm2 ho2=>?_
 have hg2:st2.get q=_:=(ho2.get hqm).trans hg
 have hlt2:q<st2.boxes.length:=bI hg2
 have hfin:∀t':Nat,bw 0 (A++B) 0 t'=_:=fun t'=>nodeA_del (t:=t') hnd
 have hAB:∀x∈aT A,x ∉ aT B:=by
  rw[db]at hnd
  obtain⟨_,h2,h3⟩:=List.nodup_append.1 hnd
  exact fun x hx hb=>h3 x hx x (by simp only[aT,List.map_cons,List.mem_cons];exact .inr hb) rfl
 by_cases hA:A= []
 ·subst hA
  have e0:aP 0 ([]:Qu)=0:=rfl
  by_cases hB:B= []
  ·subst hB
   simp(config:=KF) (disch:=omega)only[bZ,retI,au,af,addA,aa,List.nil_append,↓reduceIte,Nat.reduceEqDiff,Nat.reduceAdd,Nat.reduceLeDiff,reduceCtorEq,aY,ge,hg2,e0,aQ]
   refine hQ _ _ ⟨rfl,h.del (A:=[]) (B:=[]) (m':=delP (t:Int) m) (aY hlt2) (hm2.set hne) (fun t'=>?_) hdel,(ho2.mono (by simp)).trans (Oth.set _ _ _ (by simp))⟩
   rw[hlx,hfin]
   by_cases e:t'=t
   ·simp[e]
   ·simp[e]
  ·obtain⟨hp,hw⟩:=hposB hB
   have hn0:((aQ B 0:Int)=0)=False:=by simp;omega
   have hnl:aQ (([]:Qu)++(t,v)::B) 0=t:=rfl
   have hll:aP 0 (([]:Qu)++(t,v)::B)=aP 0 B:=by rw[gG];exact last_ne hB
   have hwt:aQ B 0≠t:=fun e=>h1.2 (e▸ hw)
   obtain⟨y,hy⟩:=fR (L:=[]++(t,v)::B) (p:=0) (t:=aQ B 0) (by rw[db];simp only[aT,List.map_cons,List.mem_append,List.mem_cons];exact .inr (.inr hw))
   have hk2:∀z,cA (.int .u64) z false (st2.set q [.lit (.int .u64 (aQ B 0:Nat)),.lit (.int .u64 (aP 0 ((t,v)::B):Nat)),.lit (.int .u64 (g:Nat)),.map mid]) (.map mid) (.lit (.int .u64 (aQ B 0:Nat)))= .ok (ndAV y):=fun z=>by
    rw[da (hm2.set hne),hlx,if_neg hwt,hy];rfl
   simp only[e0]
   simp(config:=KF) (disch:=omega)only[bZ,Nat.reduceBEq,ksB,aL,bh,bz,aO,bU,bK,nstB,bA,cb,bH,eP,gg,cK,fd,jx,au,af,addA,aa,ep,dq,List.nil_append,↓reduceIte,Nat.reduceEqDiff,Nat.reduceAdd,Nat.reduceLeDiff,reduceCtorEq,or_false,aY,hg2,hn0,hk2,ndAV]
   refine dY (b:=(y.1,0,y.2.2)) (hm2.set hne) rfl rfl fun st3 hm3 ho3=>?_
   simp(config:=KF) (disch:=omega)only[bZ,retI,addA,aa,↓reduceIte,Nat.reduceEqDiff,reduceCtorEq]
   have hg3:st3.get q=some [.lit (.int .u64 (aQ B 0:Nat)),.lit (.int .u64 (aP 0 ((t,v)::B):Nat)),.lit (.int .u64 (g:Nat)),.map mid]:=(ho3.get hqm).trans (aY hlt2)
   refine hQ _ _ ⟨rfl,h.del (A:=[]) (B:=B) (by rw[hg3,show aP 0 ((t,v)::B)=aP 0 B from hll];rfl) hm3 (fun t'=>?_) ?_,((ho2.mono (by simp)).trans (Oth.set _ _ _ (by simp))).trans (ho3.mono (by simp))⟩
   ·rw[aZ,hlx,hfin]
    by_cases e:t'=t
    ·subst e
     have:¬(t':Int)=(aQ B 0:Nat):=by omega
     rw[if_neg this,if_pos rfl,if_pos rfl]
    ·by_cases e2:t'=aQ B 0
     ·subst e2
      rw[if_pos rfl,if_neg hwt,if_neg (fun q=>q.1 rfl),if_pos ⟨hB,rfl⟩,hy];rfl
     ·have:¬(t':Int)=(aQ B 0:Nat):=by omega
      rw[if_neg this,if_neg e,if_neg e,if_neg (fun q=>q.1 rfl),if_neg (fun q=>e2 q.2)]
   ·rw[ez,hlx,if_neg hwt,hy];simpa using hdel
 ·have hp:=hposA hA
  have hb0:((aP 0 A:Int)=0)=False:=by simp;omega
  have hbm:=ff (p:=0) hA
  have hbt:aP 0 A≠t:=fun e=>h1.1 (e▸ hbm)
  have hnl:aQ (A++(t,v)::B) 0=aQ A 0:=by cases A with
   |nil=>exact absurd rfl hA
   |cons _ _=>rfl
  have hnl2:aQ (A++B) 0=aQ A 0:=by cases A with
   |nil=>exact absurd rfl hA
   |cons _ _=>rfl
  obtain⟨y,hy⟩:=fR (L:=A++(t,v)::B) (p:=0) (t:=aP 0 A) (by rw[db];exact List.mem_append_left _ hbm)
  have hk2:∀z,cA (.int .u64) z false st2 (.map mid) (.lit (.int .u64 (aP 0 A:Nat)))= .ok (ndAV y):=fun z=>by
   rw[da hm2,hlx,if_neg hbt,hy];rfl
  simp(config:=KF) (disch:=omega)only[bZ,Nat.reduceBEq,ksB,aL,bh,bz,aO,bU,bK,nstB,bA,cb,bH,eP,gg,cK,fd,jx,au,af,addA,aa,ep,dq,List.nil_append,↓reduceIte,Nat.reduceEqDiff,Nat.reduceAdd,Nat.reduceLeDiff,reduceCtorEq,or_false,hg2,hb0,hk2,ndAV]
  refine dY (b:=(y.1,y.2.1,aQ B 0)) hm2 rfl rfl fun st3 hm3 ho3=>?_
  have hg3:st3.get q=_:=(ho3.get hqm).trans hg2
  have hlt3:q<st3.boxes.length:=bI hg3
  have hl3:∀t':Nat,aj (t':Int) (updP ((aP 0 A:Nat):Int) (y.1,y.2.1,aQ B 0) (delP (t:Int) m))=if t'=aP 0 A then some (y.1,y.2.1,aQ B 0)else if t'=t then none else bw 0 (A++(t,v)::B) 0 t':=fun t'=>by
   rw[aZ,hlx]
   by_cases e:t'=aP 0 A
   ·subst e;simp
   ·have:¬(t':Int)=(aP 0 A:Nat):=by omega
    rw[if_neg this,if_neg e]
  have hn3:(updP ((aP 0 A:Nat):Int) (y.1,y.2.1,aQ B 0) (delP (t:Int) m)).length=(A++B).length:=by
   rw[ez,hlx,if_neg hbt,hy];simpa using hdel
  by_cases hB:B= []
  ·subst hB
   simp(config:=KF) (disch:=omega)only[bZ,retI,au,af,addA,aa,↓reduceIte,Nat.reduceEqDiff,Nat.reduceAdd,Nat.reduceLeDiff,reduceCtorEq,hg3,aQ]
   refine hQ _ _ ⟨rfl,h.del (A:=A) (B:=[]) (by rw[hnl2,←hnl,gG];exact aY hlt3) (hm3.set hne) (fun t'=>?_) hn3,((ho2.mono (by simp)).trans (ho3.mono (by simp))).trans (Oth.set _ _ _ (by simp))⟩
   rw[hl3,hfin]
   by_cases e:t'=aP 0 A
   ·subst e;simp[hbt,hA,hy,aQ]
   ·simp[e]
  ·obtain⟨hpb,hw⟩:=hposB hB
   have hn0:((aQ B 0:Int)=0)=False:=by simp;omega
   have hll:aP 0 (A++(t,v)::B)=aP 0 (A++B):=by rw[gG,gG];exact last_ne hB
   have hwt:aQ B 0≠t:=fun e=>h1.2 (e▸ hw)
   have hwb:aQ B 0≠aP 0 A:=fun e=>hAB _ hbm (e▸ hw)
   obtain⟨x,hx⟩:=fR (L:=A++(t,v)::B) (p:=0) (t:=aQ B 0) (by rw[db];simp only[aT,List.map_cons,List.mem_append,List.mem_cons];exact .inr (.inr hw))
   have hk3:∀z,cA (.int .u64) z false st3 (.map mid) (.lit (.int .u64 (aQ B 0:Nat)))= .ok (ndAV x):=fun z=>by
    rw[da hm3,hl3,if_neg hwb,if_neg hwt,hx];rfl
   simp(config:=KF) (disch:=omega)only[bZ,Nat.reduceBEq,ksB,aL,bh,bz,aO,bU,bK,nstB,bA,cb,bH,eP,gg,cK,fd,jx,au,af,addA,aa,ep,dq,List.nil_append,↓reduceIte,Nat.reduceEqDiff,Nat.reduceAdd,Nat.reduceLeDiff,reduceCtorEq,or_false,hg3,hn0,hk3,ndAV]
   refine dY (b:=(x.1,aP 0 A,x.2.2)) hm3 rfl rfl fun st4 hm4 ho4=>?_
   simp(config:=KF) (disch:=omega)only[bZ,retI,addA,aa,↓reduceIte,Nat.reduceEqDiff,reduceCtorEq]
   have hg4:st4.get q=_:=(ho4.get hqm).trans hg3
   refine hQ _ _ ⟨rfl,h.del (A:=A) (B:=B) (by rw[hnl2,←hnl,←hll];exact hg4) hm4 (fun t'=>?_) ?_,((ho2.mono (by simp)).trans (ho3.mono (by simp))).trans (ho4.mono (by simp))⟩
   ·rw[aZ,hl3,hfin]
    by_cases e2:t'=aQ B 0
    ·subst e2;simp[hwt,hwb,hB,hx]
    ·have:¬(t':Int)=(aQ B 0:Nat):=by omega
     rw[if_neg this]
     by_cases e:t'=aP 0 A
     ·subst e;simp[hbt,hA,hy]
     ·simp[e,e2]
   ·rw[ez,hl3,if_neg hwb,if_neg hwt,hx];simpa using hn3

theorem qpop_nil{q mid g:Nat}{st:St}(h:QIs st q mid [] g) :
  aF Go.Proofs.Try.prog n_f54 [.ptr q 0] st (fun r st'=>r= .tup [.lit (.int .i64 0),.lit (.int .u64 0),.lit (.int .i64 9)]∧st'=st):=by
 refine aK hmix k_f54 rfl rfl fun Q hQ=>?_
 unfold aFun c_f54
 simp(config:=KF) (disch:=omega)only[bZ,id,↓reduceIte,Nat.reduceEqDiff,reduceCtorEq]
 refine ag rfl e_f72 (mf h) rfl ?_
 simp(config:=KF) (disch:=omega)only[bZ,retI,↓reduceIte,Nat.reduceEqDiff,Int.reduceEq,reduceCtorEq]
 exact hQ _ _ ⟨rfl,rfl⟩

theorem qpop_calls{q mid g t:Nat}{v:Int}{B:Qu}{st:St}(h:QIs st q mid ((t,v)::B) g)(hgb:g<1000000) :
  aF Go.Proofs.Try.prog n_f54 [.ptr q 0] st (fun r st'=>r= .tup [.lit (.int .i64 v),.lit (.int .u64 (t:Nat)),.lit (.int .i64 0)]∧QIs st' q mid B g∧Oth st st' [q,mid]):=by
 refine aK hmix k_f54 rfl rfl fun Q hQ=>?_
 unfold aFun c_f54
 simp(config:=KF) (disch:=omega)only[bZ,id,↓reduceIte,Nat.reduceEqDiff,reduceCtorEq]
 refine ag rfl e_f72 (mf h) rfl ?_
 simp(config:=KF) (disch:=omega)only[bZ,id,↓reduceIte,Nat.reduceEqDiff,reduceCtorEq]
 refine aR rfl e_f56 (jz (A:=[]) h hgb) rfl fun r st' hr=>?_
 obtain⟨rfl,h1,h2⟩:=hr
 simp(config:=KF) (disch:=omega)only[bZ,retI,↓reduceIte,Nat.reduceEqDiff,reduceCtorEq]
 exact hQ _ _ ⟨rfl,h1,h2⟩
end Go.Fx.YtgmeefljgbaanaaFx

