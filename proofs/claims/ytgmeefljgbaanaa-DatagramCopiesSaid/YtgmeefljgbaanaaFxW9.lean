/- What the functions that the statement reaches compute: part 9. -/
import Derived.Test.YtgmeefljgbaanaaFxW8
namespace Go.Fx.YtgmeefljgbaanaaFx
open Go Go.Fx
attribute [local irreducible] aC runI aG aH

set_option maxRecDepth 100000
set_option maxHeartbeats 4000000

theorem kQ{i:Int}(t:Int):∀{W:WL},(W.map Prod.fst).Nodup→cQ t (W.filter fun e=>decide ((e.2.sock:Int)≠i))=if t∈(qOf i W).map Prod.snd then none else cQ t W
 | [],_=>by simp[qOf,cQ]
 | e :: r, hn => by
   simp only[List.map_cons,List.nodup_cons]at hn
   have ih:=kQ (i:=i) t hn.2
   rw[List.filter_cons,df]
   by_cases h:(e.2.sock:Int)=i
   ·rw[if_neg (by simpa using h),ih,if_pos h]
    simp only[List.singleton_append,List.map_cons,List.mem_cons,cQ]
    by_cases ht:(e.1:Int)=t
    ·have hno:cQ t r=none:=gZ fun a ha q=>hn.1 (List.mem_map.2 ⟨a,ha,by omega⟩)
     simp[ht,hno]
    ·have:¬t=(e.1:Int):=fun q=>ht q.symm
     rw[if_neg ht]
     split
     ·rename_i hm;rw[if_pos (.inr hm)]
     ·rename_i hm;rw[if_neg (fun q=>q.elim this hm)]
   ·rw[if_pos (by simpa using h),if_neg h]
    simp only[List.nil_append,cQ,ih]
    by_cases ht:(e.1:Int)=t
    ·have hno:t ∉ (qOf i r).map Prod.snd:=fun q=>by
      obtain⟨a,ha,hb⟩:=List.mem_map.1 q
      unfold qOf at ha
      obtain⟨c,hc,hd⟩:=List.mem_flatMap.1 ha
      split at hd
      ·simp only[List.mem_singleton]at hd
       subst hd
       exact hn.1 (List.mem_map.2 ⟨c,hc,by simp only at hb;omega⟩)
      ·cases hd
     simp[ht,hno]
    ·simp[ht]
theorem jZ{i j:Int}(h:j≠i):∀W:WL,qOf j (W.filter fun e=>decide ((e.2.sock:Int)≠i))=qOf j W
 | []=>rfl
 | e :: r => by
   rw[List.filter_cons,df]
   split
   ·rw[df,jZ h r]
   ·rename_i hc
    have hc:(e.2.sock:Int)=i:=by simpa using hc
    rw[jZ h r,if_neg (by omega),List.nil_append]
theorem lL{i:Int}:∀W:WL,(W.filter fun e=>decide ((e.2.sock:Int)≠i)).map de=(W.map de).filter fun w=>decide ((w.sock:Int)≠i)
 | []=>rfl
 | e :: r => by
   rw[List.map_cons,List.filter_cons,List.filter_cons]
   have:(de e).sock=e.2.sock:=rfl
   rw[this]
   split
   ·rw[List.map_cons,lL r]
   ·rw[lL r]
def clAV(t:Int):AV:=rcAV t ⟨#[]⟩ 0 (.lit (.slice none 0 0)) 0 false 14
def clG(l:List Int):AV:=if l= []then .lit (.slice none 0 0)else .sl true 7 (l.map clAV)
def clV(l:List Int):AV:=if l= []then .lit (.slice none 0 0)else .sl false 7 (l.map clAV)
theorem clG_snoc(l:List Int)(t:Int):clG (l++[t])= .sl true 7 (l.map clAV++[clAV t]):=by
 unfold clG
 rw[if_neg (by simp),List.map_append];rfl
theorem clG_dis(l:List Int):(clG l).dis=clV l:=by unfold clG clV;split<;>rfl
theorem cl_rcs(P:Nat→Prop)(st:St)(i:Int):∀ws:List Wt,RcsV P st (((ws.filter fun w=>decide ((w.sock:Int)=i)).map fun w=>(w.task:Int)).map clAV) ((ws.filter fun w=>decide ((w.sock:Int)=i)).map clRc)
 | []=>trivial
 | w :: r => by
   rw[List.filter_cons]
   split
   ·exact⟨⟨.lit (.slice none 0 0),rfl,.inl ⟨rfl,rfl⟩,by simp[ah]⟩,cl_rcs P st i r⟩
   ·exact cl_rcs P st i r
theorem tasks_of(i:Int):∀W:WL,(qOf i W).map Prod.snd=((W.map de).filter fun w=>decide ((w.sock:Int)=i)).map fun w=>(w.task:Int)
 | []=>rfl
 | e :: r => by
   rw[df,List.map_cons,List.filter_cons,List.map_append,tasks_of i r]
   have:(de e).sock=e.2.sock:=rfl
   rw[this]
   by_cases h:(e.2.sock:Int)=i
   ·rw[if_pos h,if_pos (decide_eq_true h)];rfl
   ·rw[if_neg h,if_neg (by simpa using h)];rfl
theorem SockR.del{M:List (Int×SL)}{socks:List Sk}{k now:Nat}(h:SockR M socks k now)(hn:(aV M).Nodup){i:Int}{x:SL}(hx:aj i M=Option.some x):SockR (delP i M) (delS i socks) k now:=by
 obtain⟨q1,q2,q3⟩:=h.some hx
 refine⟨fun j=>?_,?_,h.srt.sublist od,fun S hS=>h.ok S (od.subset hS)⟩
 ·rw[ey _ _ hn,atS_del j h.srt]
  split
  ·rfl
  ·exact h.at_ j
 ·have h1:=delS_len q1
  have h2:=h.len
  rw[mB,hx]
  simp only[Option.isSome_some,if_true]
  omega

structure ClJ (st0:St) (id:Nat) (r:Loop) (rs:List (Nat×AV)) (bo bn o q mid g n sid wid now:Nat) (M:List (Int×SL)) (Wm:List (Int×WE)) (L:Qu) (i:Nat) (st:St):Prop where
 lp:st.isLp id r rs
 w:st.get bo=some [clG ((L.take i).map Prod.snd)]
 b:st.get bn=some [.ptr n 0]
 o:st.get o=some [.ptr q 0]
 q:QIs st q mid L g
 net:∃Wm',NetIs st n sid wid now M Wm'∧∀t,aj t Wm'=if t∈(L.take i).map Prod.snd then none else aj t Wm
 kp:Kp st0 st [wid]

theorem close_calls{st0:St}{n sid wid k:Nat}{R:NR}{F:List Nat}(hh:NetR st0 n sid wid k R F)(at_:Int)(hk:k<90000) :
  aF Go.Proofs.Try.prog n_f12 [.ptr n 0,.lit (.int .i64 at_)] st0 (fun x st'=>∃av F',x= .tup [av,.lit (.int .i64 (eB at_ R).2.2)]∧AllV (fun _=>False) false av st' (eB at_ R).2.1∧NP st0 st' n sid wid k F (eB at_ R).1 F'):=by
 obtain⟨M,Wm,W,h1,h2,h3,h4,h5⟩:=hh.ex
 have hlt:=hh.lt
 have hlts:=h1.lts
 have hln:n<st0.boxes.length:=hlts n ((bL h1.smp.nd).2 (.inl rfl))
 have hlw:wid<st0.boxes.length:=hlts wid ((bL h1.smp.nd).2 (.inr (.inr (.inl rfl))))
 refine aK hmix k_f12 rfl rfl fun Q hQ=>?_
 unfold aFun c_f12
 unfold eB at hQ
 obtain⟨s1,hs1⟩:∃s,s=st0.push (.cells [.ptr n 0]):=⟨_,rfl⟩
 have hk1:∀i,i<st0.boxes.length→s1.boxes[i]?=st0.boxes[i]?:=fun i hi=>by rw[hs1];exact bp hi
 have hl1:s1.boxes.length=st0.boxes.length+1:=by rw[hs1,aJ]
 have hK1:Kp st0 s1 []:=⟨by omega,fun i hi _=>hk1 i hi⟩
 have hb1:s1.get st0.boxes.length=some [.ptr n 0]:=by rw[hs1];exact bG _ _
 simp(config:=KF) (disch:=omega)only[bZ,nv,aa,id,i9,eK,↓reduceIte,Nat.reduceEqDiff,reduceCtorEq,bG]
 rw[←hs1]
 clear hs1
 have hn1:NetIs s1 n sid wid R.now M Wm:=h1.kp hK1 fun _ _ q=>by cases q
 have hg1:=hn1.get
 have hlf:=dP hn1 at_
 refine ag rfl e_f26 (cP hn1) rfl ?_
 cases hx:aj at_ M with
 | none =>
   rw[h2.none hx]at hQ
   rw[hx]at hlf
   simp(config:=KF) (disch:=omega)only[bZ,retI,bt,au,bE,aU,addA,aa,↓reduceIte,Nat.reduceEqDiff,hb1,hg1,hlf]
   obtain⟨F',n1,n2⟩:=NP.of (st:=st0) (st':=s1) (F:=F) (R':=R) ⟨⟨M,Wm,W,hn1,h2.mono (Nat.le_succ k) (Nat.le_refl _),h3.mono (Nat.le_succ k),h4,h5⟩,hlt⟩ (Kp.wide hK1 fun _ q=>by cases q) (fun b hb=>.inl hb)
   exact hQ _ _ ⟨_,F',rfl,.inl ⟨rfl,rfl⟩,n1⟩
 |some x =>
 rw[(h2.some hx).1]at hQ
 rw[hx]at hlf
 have hxi:=hn1.sub _ x hx
 have hgx:=hxi.get
 obtain⟨x1,x2,x3,x4,x5,x6,x7,x8⟩:=hxi.qb.facts
 simp only at hQ
 obtain⟨w1,w2⟩:=h3.que _ x hx
 obtain⟨s2,hs2⟩:∃s,s=s1.push (.cells [.lit (.slice none 0 0)]):=⟨_,rfl⟩
 have hk2:∀i,i<s1.boxes.length→s2.boxes[i]?=s1.boxes[i]?:=fun i hi=>by rw[hs2];exact bp hi
 have hl2:s2.boxes.length=st0.boxes.length+2:=by rw[hs2,aJ,hl1]
 have hw2:s2.get (st0.boxes.length+1)=some [.lit (.slice none 0 0)]:=by rw[hs2,←hl1];exact bG _ _
 simp(config:=KF) (disch:=omega)only[bZ,bt,o_newB,au,bE,aU,addA,aa,↓reduceIte,Nat.reduceEqDiff,hb1,hg1,hlf]
 rw[←hs2,hl1]
 clear hs2
 have hb2:s2.get st0.boxes.length=_:=(bJ (hk2 _ (by omega))).trans hb1
 have hK2:Kp s1 s2 []:=⟨by omega,fun i hi _=>hk2 i hi⟩
 have hn2:=hn1.kp hK2 fun _ _ q=>by cases q
 have hxi2:=hn2.sub _ x hx
 have hgx2:=hxi2.get
 simp(config:=KF) (disch:=omega)only[bZ,id,↓reduceIte,Nat.reduceEqDiff,hgx2]
 refine aR rfl e_f35 (qall_calls hxi2.wq) rfl fun z s3 hz=>?_
 obtain⟨o,q',mid',rfl,ho,hq,l1,l2,l3,l4,hold⟩:=hz
 rw[hl2]at l1 l2 l3 l4 hold
 have hw3:s3.get (st0.boxes.length+1)=_:=(bJ (hold _ (by omega))).trans hw2
 have hb3:s3.get st0.boxes.length=_:=(bJ (hold _ (by omega))).trans hb2
 have hK3:Kp s2 s3 []:=⟨by omega,fun i hi _=>hold i (by omega)⟩
 have hn3:=hn2.kp hK3 fun _ _ q=>by cases q
 have hoL:=bI ho
 have hqL:=hq.ltq
 have hmL:=hq.ltm
 have hK03:Kp st0 s3 []:=(hK1.trans hK2 fun _ q=>(by cases q)).trans hK3 fun _ q=>by cases q
 have hLl:x.L.length<100000:=by
  have:=qis_len hxi.wq
  omega
 simp(config:=KF) (disch:=omega)only[bZ,↓reduceIte,Nat.reduceEqDiff]
 rw[f12_23w]
 refine⟨rfl,range_a e_f52 fun r hy=>?_⟩
 simp(config:=KF) (disch:=omega)only[bZ,pE,nO,keep_eq,dis_any,noL_any,eV,↓reduceIte,Nat.reduceEqDiff]at hy
 simp(config:=KF) (disch:=omega)only[bZ,pE,nO,keep_eq,dis_any,noL_any,eV,List.nil_append,List.cons_append,↓reduceIte,Nat.reduceEqDiff]
 obtain⟨rs,hrs⟩:∃rs,rs= [(2,AV.ptr st0.boxes.length 0),(7,AV.ptr (st0.boxes.length+1) 0),(26,AV.any)]:=⟨_,rfl⟩
 have hsr:∀x y:AV,g9 rs [25,26] [x,y]= [(2,AV.ptr st0.boxes.length 0),(7,AV.ptr (st0.boxes.length+1) 0),(26,y.dis),(25,x.dis)]:=fun x y=>by rw[hrs];simp(config:=KF) (disch:=omega)only[bZ,setRs_nil,setRs_cons,↓reduceIte,Nat.reduceEqDiff]
 rw[←hrs]at hy ⊢
 have b3:∀id,id<s3.boxes.length→(s3.push (.lp r rs)).boxes[id]?=s3.boxes[id]?:=fun id hid=>bp hid
 have hnet:∀b∈ck n sid wid M,b<st0.boxes.length:=hlts
 refine⟨_,iter_calls (o:=o) (q:=q') (mid:=mid') (g:=x.g) (L:=x.L) s3.boxes.length (ClJ st0 s3.boxes.length r rs (st0.boxes.length+1) st0.boxes.length o q' mid' x.g n sid wid R.now M Wm x.L) (fun _=>False) (fun i st' hJ=>⟨hJ.o,hJ.q⟩) (fun i hi st' hJ=>?_) ?_,fun v st' hQc=>?_⟩
 ·refine round_a hy hJ.lp rfl ?_
  have hne:∀{b:Nat} {cs:List AV},st'.get b=some cs→b≠s3.boxes.length:=fun {b cs} hb e=>by
   subst e
   have h1:=hJ.lp
   unfold St.isLp at h1
   unfold St.get at hb
   rw[h1]at hb;cases hb
  have hset:∀(r':Loop) (b:Nat),b≠s3.boxes.length→(st'.setL s3.boxes.length r' rs).get b=st'.get b:=fun r' b hb=>bJ (iM hb)
  obtain⟨Wm',hn',hlk'⟩:=hJ.net
  have gw:=(hset (dS r) _ (hne hJ.w)).trans hJ.w
  have gb:=(hset (dS r) _ (hne hJ.b)).trans hJ.b
  have nw:=hne hJ.w
  have nb:=hne hJ.b
  have no:=hne hJ.o
  have nq:=hne hJ.q.get
  have nm:mid'≠s3.boxes.length:=by omega
  have htk:(x.L.take (i+1)).map Prod.snd=(x.L.take i).map Prod.snd++[x.L[i].2]:=by rw[List.take_succ_eq_append_getElem hi,List.map_append];rfl
  have htl:((x.L.take i).map Prod.snd).length=i:=by rw[List.length_map,List.length_take];omega
  have hlp2:(st'.setL s3.boxes.length (dS r) rs).isLp s3.boxes.length (dS r) rs:=pF hJ.lp
  have gw2:=bI gw
  obtain⟨sb,hsb⟩:∃s,s=st'.setL s3.boxes.length (dS r) rs:=⟨_,rfl⟩
  rw[←hsb]at gw gb hlp2 gw2
  have hsbb:∀b,b≠s3.boxes.length→sb.boxes[b]?=st'.boxes[b]?:=fun b hb=>by rw[hsb];exact iM hb
  have hfin:∀X,X=clG ((x.L.take (i+1)).map Prod.snd)→
    ((sb.set (st0.boxes.length+1) [X]).get n=some [.lit (.int .u64 (R.now:Nat)),.map sid,.map wid]∧(sb.set (st0.boxes.length+1) [X]).get st0.boxes.length=some [.ptr n 0])∧∀(K:Sf→St→Prop) (sf:Sf),(∀s4,s4.isLp s3.boxes.length (dS r) rs→ClJ st0 s3.boxes.length r rs (st0.boxes.length+1) st0.boxes.length o q' mid' x.g n sid wid R.now M Wm x.L (i+1) (s4.setL s3.boxes.length r rs)→K sf s4)→delX false (.int .i64) (.map wid) (.lit (.int .i64 x.L[i].2)) K sf (sb.set (st0.boxes.length+1) [X]):=fun X hX=>by
   have hb:∀b,b<st0.boxes.length→(sb.set (st0.boxes.length+1) [X]).boxes[b]?=st'.boxes[b]?:=fun b hb=>by
    rw[cO (by omega),hsbb b (by omega)]
   have hn4:NetIs (sb.set (st0.boxes.length+1) [X]) n sid wid R.now M Wm':=hn'.at fun b hb'=>hb b (hnet b hb')
   refine⟨⟨hn4.get,by rw[jO (by omega)];exact gb⟩,fun K sf hQf=>?_⟩
   refine iN hn4.wmp fun s5 hm5 ho5=>hQf s5 ?_ ?_
   ·exact my (my hlp2 (cO (fun e=>nw e.symm))) (ho5.2 _ (by simp;omega))
   ·have hn5:=hn4.setMap ho5 hm5
    have hbs:∀b,b≠s3.boxes.length→b≠wid→b≠st0.boxes.length+1→(s5.setL s3.boxes.length r rs).boxes[b]?=st'.boxes[b]?:=fun b q1 q2 q3=>by
     rw[iM q1,ho5.2 b (by simpa using q2),cO q3,hsbb b q1]
    have hl5:s5.boxes.length=st'.boxes.length:=by rw[ho5.1,gU,hsb];simp[St.setL]
    refine⟨pF (my (my hlp2 (cO (fun e=>nw e.symm))) (ho5.2 _ (by simp;omega))),?_,?_,?_,?_,⟨delP x.L[i].2 Wm',hn5.at fun b hb'=>iM (by have:=hnet b hb';omega),fun t=>?_⟩,?_⟩
    ·rw[bJ (iM nw),ho5.get (by simp;omega),←hX];exact aY gw2
    ·rw[bJ (hbs _ nb (by omega) (by omega))];exact hJ.b
    ·rw[bJ (hbs _ no (by omega) (by omega))];exact hJ.o
    ·exact hJ.q.at (hbs _ nq (by omega) (by omega)) (hbs _ nm (by omega) (by omega))
    ·rw[ey _ _ hn'.wmp.nd,hlk',htk]
     by_cases e:t=x.L[i].2
     ·rw[if_pos e,if_pos (by rw[e];simp)]
     ·rw[if_neg e]
      by_cases e2:t∈(x.L.take i).map Prod.snd
      ·rw[if_pos e2,if_pos (List.mem_append_left _ e2)]
      ·rw[if_neg e2,if_neg]
       intro q
       rcases List.mem_append.1 q with q|q
       ·exact e2 q
       ·simp only[List.mem_singleton]at q;exact e q
    ·refine⟨?_,fun b hb1 hb2=>?_⟩
     ·have:=hJ.kp.1
      simp only[St.setL,List.length_set,hl5];exact this
     ·simp only[List.mem_singleton]at hb2
      rw[hbs b (by omega) hb2 (by omega)]
      exact hJ.kp.2 b hb1 (by simpa using hb2)
  rw[hsr]
  have hX:clG ((x.L.take (i+1)).map Prod.snd)= .sl true 7 (((x.L.take i).map Prod.snd).map clAV++[.agg [.lit (.int .i64 x.L[i].2),.lit (.string ⟨#[]⟩),.lit (.int .i64 0),.lit (.slice none 0 0),.lit (.int .u64 0),.lit (.bool false),.lit (.int .i64 14)]]):=by rw[htk,clG_snoc];rfl
  obtain⟨⟨f1,f2⟩,f3⟩:=hfin _ rfl
  rw[hX]at f1 f2 f3
  by_cases hl0:(x.L.take i).map Prod.snd= []
  ·rw[hl0]at gw f1 f2 f3
   simp only[List.map_nil,List.nil_append]at f1 f2 f3
   unfold clG at gw
   rw[if_pos rfl]at gw
   simp(config:=KF) (disch:=omega)only[bZ,dX,dt,ci,bslV,dp,cX,af,List.reduceReplicate,aa,ce,srcA,cd,iL,bN,↓reduceIte,Nat.reduceEqDiff,Nat.reduceAdd,Nat.reduceLT,Nat.reduceLeDiff,ge]
   rw[←hsb]
   simp(config:=KF) (disch:=omega)only[bZ,dX,ci,pt,au,bslV,cX,af,List.reduceReplicate,addA,aa,bd,srcA,cd,bN,bu,↓reduceIte,Nat.reduceEqDiff,Nat.reduceAdd,Nat.reduceLT,Nat.reduceLeDiff,bg,aY,gw,f1,f2]
   refine⟨hJ.lp,f3 _ _ fun s4 g1 g2=>?_⟩
   simp(config:=KF) (disch:=omega)only[bZ,mc,reduceCtorEq,or_false]
   exact g2
  ·unfold clG at gw
   rw[if_neg hl0]at gw
   have hll:(x.L.take i).length=i:=by rw[List.length_take];omega
   simp(config:=KF) (disch:=omega)only[bZ,dX,dt,ci,bslV,dp,cX,af,List.reduceReplicate,aa,ce,srcA,cd,iL,bN,↓reduceIte,Nat.reduceEqDiff,Nat.reduceAdd,Nat.reduceLT,Nat.reduceLeDiff,ge]
   rw[←hsb]
   simp(config:=KF) (disch:=omega)only[bZ,dX,ci,pt,au,bslV,cX,List.reduceReplicate,addA,aa,bd,srcA,cd,wp_fail,bN,bu,↓reduceIte,Nat.reduceEqDiff,Nat.reduceAdd,Nat.reduceLT,Nat.reduceLeDiff,bg,aY,gw,f1,f2]
   refine⟨hJ.lp,f3 _ _ fun s4 g1 g2=>?_⟩
   simp(config:=KF) (disch:=omega)only[bZ,mc,reduceCtorEq,or_false]
   exact g2
 ·refine⟨push_isLp ..,?_,?_,?_,?_,⟨Wm,hn3.at fun b hb=>b3 b (by have:=hnet b hb;omega),fun t=>by simp⟩,?_⟩
  ·rw[bJ (b3 _ (by omega))];exact hw3
  ·rw[bJ (b3 _ (by omega))];exact hb3
  ·rw[bJ (b3 _ (by omega))];exact ho
  ·exact hq.at (b3 _ (by omega)) (b3 _ (by omega))
  ·exact⟨by rw[aJ];have:=hK03.1;omega,fun b hb1 _=>(b3 b (by omega)).trans (hK03.2 b hb1 (by simp))⟩
 ·rcases hQc with hJ|hf
  ·left
   refine⟨hJ.lp,?_⟩
   have hne:∀{b:Nat} {cs:List AV},st'.get b=some cs→(st'.drop s3.boxes.length).get b=some cs:=fun {b cs} hb=>(bJ (me (fun e=>by
    subst e
    have h1:=hJ.lp
    unfold St.isLp at h1
    unfold St.get at hb
    rw[h1]at hb;cases hb))).trans hb
   have gw:=hne hJ.w
   have gb:=hne hJ.b
   have hll:x.L.take x.L.length=x.L:=List.take_length
   rw[hll]at gw
   obtain⟨Wm',hn',hlk'⟩:=hJ.net
   rw[hll]at hlk'
   obtain⟨sd,hsd⟩:∃s,s=st'.drop s3.boxes.length:=⟨_,rfl⟩
   have hdb:∀b,b≠s3.boxes.length→sd.boxes[b]?=st'.boxes[b]?:=fun b hb=>by rw[hsd];exact me hb
   have hdl:sd.boxes.length=st'.boxes.length:=by rw[hsd];exact drop_len
   rw[←hsd]at gw gb ⊢
   have hnd:NetIs sd n sid wid R.now M Wm':=hn'.at fun b hb=>hdb b (by have:=hnet b hb;omega)
   have hgd:=hnd.get
   simp(config:=KF) (disch:=omega)only[bZ,pt,au,addA,aa,↓reduceIte,Nat.reduceEqDiff,gb,hgd]
   refine iN hnd.smp fun s6 hm6 ho6=>?_
   obtain⟨hn6,hi6⟩:=hnd.del ho6 hm6
   have hls:sid<st0.boxes.length:=hlts sid ((bL h1.smp.nd).2 (.inr (.inl rfl)))
   have gw6:s6.get (st0.boxes.length+1)=_:=(ho6.get (by simp;omega)).trans gw
   have hkp:Kp st0 s6 F:=by
    refine⟨by rw[ho6.1,hdl];exact hJ.kp.1,fun b hb1 hb2=>?_⟩
    have q1:b≠sid:=fun e=>hb2 (h5 b ((bL h1.smp.nd).2 (.inr (.inl e))))
    have q2:b≠wid:=fun e=>hb2 (h5 b ((bL h1.smp.nd).2 (.inr (.inr (.inl e)))))
    rw[ho6.2 b (by simpa using q1),hdb b (by omega)]
    exact hJ.kp.2 b hb1 (by simpa using q2)
   have hws:WaitR (delP at_ M) Wm' (W.filter fun e=>decide ((e.2.sock:Int)≠at_)) k:=by
    refine⟨fun j z hz=>?_,fun t=>?_,hnd.wmp.nd,?_,fun e he=>h3.ok e (List.mem_filter.1 he).1,fun e he=>?_⟩
    ·rw[ey _ _ h1.smp.nd]at hz
     split at hz
     ·cases hz
     ·rename_i hj
      rw[jZ hj]
      exact h3.que j z hz
    ·rw[hlk',kQ t h3.nd,←w1,h3.mp]
    ·exact h3.nd.sublist (List.Sublist.map _ List.filter_sublist)
    ·obtain⟨e1,e2⟩:=List.mem_filter.1 he
     obtain⟨z,hz⟩:=h3.has e e1
     refine⟨z,?_⟩
     rw[ey _ _ h1.smp.nd,if_neg (by simpa using e2)]
     exact hz
   obtain⟨F',n1,n2⟩:=NP.of (st:=st0) (F:=F) (R':={R with socks:=delS at_ R.socks,ws:=R.ws.filter fun w=>decide ((w.sock:Int)≠at_)}) ⟨⟨_,_,_,hn6,(h2.del h1.smp.nd hx).mono (Nat.le_succ k) (Nat.le_refl _),hws.mono (Nat.le_succ k),by rw[lL,h4],fun b hb=>h5 b (hi6 b hb)⟩,hlt⟩ hkp (fun b hb=>.inl hb)
   have htk:x.L.map Prod.snd=(R.ws.filter fun w=>decide ((w.sock:Int)=at_)).map fun w=>(w.task:Int):=by rw[w1,tasks_of,h4]
   have hal:AllV (fun _=>False) false (clV (x.L.map Prod.snd)) s6 ((R.ws.filter fun w=>decide ((w.sock:Int)=at_)).map clRc):=by
    unfold clV
    rw[htk]
    by_cases hz:(R.ws.filter fun w=>decide ((w.sock:Int)=at_)).map (fun w=>(w.task:Int))= []
    ·rw[if_pos hz]
     refine .inl ⟨rfl,?_⟩
     rw[List.map_eq_nil_iff]at hz ⊢
     exact hz
    ·rw[if_neg hz]
     exact .inr ⟨_,rfl,cl_rcs _ _ _ _⟩
   have hcd:=clG_dis (x.L.map Prod.snd)
   have hcv:∃v,v=clV (x.L.map Prod.snd)∧v.dis=v∧v.own1=v∧v.noL=true:=by
    refine⟨_,rfl,?_⟩
    unfold clV
    split<;>exact⟨rfl,rfl,rfl⟩
   obtain⟨cv,hv0,hv1,hv2,hv3⟩:=hcv
   rw[←hv0]at hcd hal
   simp(config:=KF) (disch:=omega)only[bZ,retI,aa,↓reduceIte,Nat.reduceEqDiff,gw6,hcd,hv1,hv3]
   exact hQ _ _ ⟨_,F',rfl,hal,n1⟩
  ·exact hf.elim
end Go.Fx.YtgmeefljgbaanaaFx

