/- What the functions that the statement reaches compute: part 26. -/
import Derived.Test.YtgmeefljgbaanaaFxW25
namespace Go.Fx.YtgmeefljgbaanaaFx
open Go Go.Fx
attribute [local irreducible] aC runI aG aH

set_option maxRecDepth 100000
set_option maxHeartbeats 4000000

theorem new_net(st:St)(now:Nat):∃s,s=((st.push (.mp [] [] 0)).push (.mp [] [] 0)).push (.cells [.lit (.int .u64 (now:Nat)),.map st.boxes.length,.map (st.boxes.length+1)])∧NetIs s (st.boxes.length+2) st.boxes.length (st.boxes.length+1) now [] []∧Kp st s []:=by
 obtain⟨n,hnn⟩:∃n,n=st.boxes.length:=⟨_,rfl⟩
 obtain⟨s,hs⟩:∃s,s=((st.push (.mp [] [] 0)).push (.mp [] [] 0)).push (.cells [.lit (.int .u64 (now:Nat)),.map st.boxes.length,.map (st.boxes.length+1)]):=⟨_,rfl⟩
 have hl:s.boxes.length=n+3:=by rw[hs,hnn];simp[aJ]
 have hg:s.get (n+2)=some [.lit (.int .u64 (now:Nat)),.map n,.map (n+1)]:=by
  have:=bG ((st.push (.mp [] [] 0)).push (.mp [] [] 0)) [.lit (.int .u64 (now:Nat)),.map st.boxes.length,.map (st.boxes.length+1)]
  rw[aJ,aJ,←hs,←hnn]at this
  exact this
 have h1:MapIs s n .i64 slAV []:=by
  have:=(((MapIs.new st .i64 slAV).push (.mp [] [] 0)).push (.cells [.lit (.int .u64 (now:Nat)),.map st.boxes.length,.map (st.boxes.length+1)]))
  rw[←hs,←hnn]at this;exact this
 have h2:MapIs s (n+1) .i64 weAV []:=by
  have:=((MapIs.new (st.push (.mp [] [] 0)) .i64 weAV).push (.cells [.lit (.int .u64 (now:Nat)),.map st.boxes.length,.map (st.boxes.length+1)]))
  rw[aJ,←hs,←hnn]at this;exact this
 refine⟨s,hs,?_,⟨by omega,fun i hi _=>by rw[hs,bp (by simp[aJ];omega),bp (by simp[aJ];omega),bp hi]⟩⟩
 rw[←hnn]
 exact⟨hg,h1,h2,fun i x h=>(by cases h),by omega,fun _=>-1,fun i x h=>(by cases h),rfl,rfl,rfl⟩

structure SCp (M M':List (Int×SL)) (bs seen:List Nat):Prop where
 yes:∀(j:Nat) (hj:j<M.length) (b:Nat),bs[j]?=some b→b∈seen→∃y,aj M[j].1 M'=some y∧y.S=M[j].2.S∧y.L=M[j].2.L∧y.g=M[j].2.g
 no:∀(j:Nat) (hj:j<M.length) (b:Nat),bs[j]?=some b→b ∉ seen→aj M[j].1 M'=none
 le:∀i,aj i M=none→aj i M'=none
theorem SCp.nil(M:List (Int×SL))(bs:List Nat):SCp M [] bs []:=⟨fun _ _ _ _ h=>(by simp at h),fun _ _ _ _ _=>rfl,fun _ _=>rfl⟩
theorem SCp.snoc{M M':List (Int×SL)}{bs seen:List Nat}(h:SCp M M' bs seen)(hn:(aV M).Nodup)(hb:bs.Nodup){j b:Nat}(hj:j<M.length)(hbj:bs[j]?=some b){y:SL}(hy:y.S=M[j].2.S∧y.L=M[j].2.L∧y.g=M[j].2.g) :
  SCp M (updP M[j].1 y M') bs (seen++[b]):=by
 have hne:∀(j':Nat) (hj':j'<M.length),M[j'].1=M[j].1→j'=j:=fun j' hj' q=>by
  unfold aV at hn
  have h1:(M.map Prod.fst)[j']'(by simpa using hj')=(M.map Prod.fst)[j]'(by simpa using hj):=by simpa using q
  exact(List.getElem_inj hn).1 h1
 have hbe:∀(j':Nat),bs[j']?=some b→j'=j:=fun j' hb'=>by
  obtain⟨p1,p2⟩:=List.getElem?_eq_some_iff.1 hbj
  obtain⟨r1,r2⟩:=List.getElem?_eq_some_iff.1 hb'
  exact(List.getElem_inj hb).1 (r2.trans p2.symm)
 refine⟨fun j' hj' b' hb' hs=>?_,fun j' hj' b' hb' hs=>?_,fun i hi=>?_⟩
 ·rw[aZ]
  by_cases e:M[j'].1=M[j].1
  ·have:=hne j' hj' e
   subst this
   exact⟨y,if_pos rfl,hy⟩
  ·rw[if_neg e]
   refine h.yes j' hj' b' hb' ?_
   rcases List.mem_append.1 hs with hs|hs
   ·exact hs
   ·simp only[List.mem_singleton]at hs
    subst hs
    have:=hbe j' hb'
    subst this
    exact absurd rfl e
 ·rw[aZ,if_neg]
  ·exact h.no j' hj' b' hb' fun q=>hs (List.mem_append_left _ q)
  ·intro e
   have:=hne j' hj' e
   subst this
   rw[hbj]at hb'
   cases hb'
   exact hs (by simp)
 ·rw[aZ,if_neg]
  ·exact h.le i hi
  ·intro e
   subst e
   have:=cp hn (show(M[j].1,M[j].2)∈M from List.getElem_mem hj)
   rw[hi]at this
   cases this
theorem SCp.all{M M':List (Int×SL)}{bs seen:List Nat}(h:SCp M M' bs seen)(hl:bs.length=M.length)(ha:∀b∈bs,b∈seen)(i:Int) :
  (aj i M=none∧aj i M'=none)∨∃x y,aj i M=some x∧aj i M'=some y∧y.S=x.S∧y.L=x.L∧y.g=x.g:=by
 cases hi:aj i M with
 |none=>exact .inl ⟨rfl,h.le i hi⟩
 | some x =>
   obtain⟨j,hj,e⟩:=List.getElem_of_mem (fA hi)
   have hjb:j<bs.length:=by omega
   obtain⟨y,y1,y2,y3,y4⟩:=h.yes j hj bs[j] (List.getElem?_eq_getElem hjb) (ha _ (List.getElem_mem hjb))
   rw[e]at y1 y2 y3 y4
   exact .inr ⟨x,y,rfl,y1,y2,y3,y4⟩
theorem len_keys{M M':List (Int×SL)}(h1:(aV M).Nodup)(h2:(aV M').Nodup)(h:∀i,(aj i M).isSome=(aj i M').isSome):M'.length=M.length:=by
 have hm:∀(M:List (Int×SL)),(aV M).Nodup→∀i,i∈aV M↔(aj i M).isSome=true:=fun M hn i=>by
  constructor
  ·intro hi
   obtain⟨p,hp,rfl⟩:=List.mem_map.1 hi
   rw[cp hn (show(p.1,p.2)∈M from hp)];rfl
  ·intro hi
   obtain⟨x,hx⟩:=Option.isSome_iff_exists.1 hi
   exact List.mem_map.2 ⟨(i,x),fA hx,rfl⟩
 have hp:(aV M').Perm (aV M):=(List.perm_ext_iff_of_nodup h2 h1).2 fun i=>by rw[hm M h1,hm M' h2,h]
 have:=hp.length_eq
 unfold aV at this
 simpa using this

section
variable {st:St} {n sid wid now:Nat} {M:List (Int×SL)} {W:List (Int×WE)}
theorem ncopy_socks(hh:NetIs st n sid wid now M W)(hq:∀(i:Int) x,aj i M=some x→x.S.q.length≤1000){c cs cw:Nat}{s0:St}(hk0:Kp st s0 [])(hc0:NetIs s0 c cs cw now [] [])(hf0:∀b∈ck c cs cw [],st.boxes.length≤b){K:Exit→Sf→St→Prop}
  (hK:∀s' M',NetIs s' c cs cw now M' []→SCp M M' (st.getB sid).1 (st.getB sid).1→Kp st s' []→(∀b∈ck c cs cw M',st.boxes.length≤b)→K (.exit 0) ⟨[(0,.ptr n 0),(3,.ptr c 0)],[]⟩ s') :
  aC Go.Proofs.Try.prog id false f23_15 ⟨[(0,.ptr n 0),(3,.ptr c 0),(23,.mit (some sid) (st.getB sid).2 [] (st.getB sid).2)],[]⟩ s0 K:=by
 have hms:=hh.smp
 have hlt:=hms.lt
 obtain⟨ow,o1,_⟩:=hh.sep
 rw[f23_15w]
 refine bB (A:=List Nat×Nat×List (Int×SL)×St) (fun a=>left (st.getB sid).1 a.1) (fun a=>⟨[(0,.ptr n 0),(3,.ptr c 0),(23,.mit (some sid) (st.getB sid).2 a.1 a.2.1)],[]⟩) (fun a=>a.2.2.2)
  (fun a=>SCp M a.2.2.1 (st.getB sid).1 a.1∧NetIs a.2.2.2 c cs cw now a.2.2.1 []∧Kp st a.2.2.2 []∧∀b∈ck c cs cw a.2.2.1,st.boxes.length≤b) ([],(st.getB sid).2,[],s0) ⟨.nil _ _,hc0,hk0,hf0⟩ (Sf.le_refl _) rfl ?_
 rintro⟨seen,stp,M',s⟩ ⟨h1,h2,h3,h4⟩ K2 hK2 hKe hKr
 simp only at h1 h2 h3 h4
 dsimp only
 have hB:s.getB sid=st.getB sid:=gW (h3.2 sid hlt (by simp))
 have hho:=hh.kp h3 fun _ _ q=>by cases q
 have hms':=hho.smp
 have hcg:=h2.get
 rw[←hB]
 simp(config:=KF) (disch:=omega)only[bZ,a9,↓reduceIte,Nat.reduceEqDiff,reduceCtorEq]
 refine oa hms' (fun i hi k hk hn=>?_) fun hd=>?_
 ·have hx:aj M[i].1 M=some M[i].2:=cp hms.nd (List.getElem_mem hi)
  have hxi:=hho.sub _ _ hx
  have hi0:=(o1 _ _ hx).1
  have hqx:=hq _ _ hx
  have hno:=h1.no i hi k (by rw[←hB];exact hk) hn
  have hsn:=fun y hy=>h1.snoc (y:=y) hms.nd hms.bn hi (by rw[←hB];exact hk) hy
  simp(config:=KF) (disch:=omega)only[bZ,a9,↓reduceIte,Nat.reduceEqDiff,reduceCtorEq]
  refine ob hms' hi hk ?_
  have hsd:(slAV M[i].2).dis= .ptr M[i].2.s 0:=rfl
  rw[bD,hsd]
  generalize M[i].1=num at hx hi0 hno hsn hsd ⊢
  generalize M[i].2=x at hx hxi hqx hsn hsd ⊢
  have hgx:=hxi.get
  obtain⟨q1,q2,q3,q4,q5,q6,q7,q8⟩:=hxi.qb.facts
  have hgp:=fun b=>(bJ (bp (b:=b) (bI hgx))).trans hgx
  simp(config:=KF) (disch:=omega)only[bZ,o_newB,au,af,addA,aa,id,own1_ptr,eK,↓reduceIte,Nat.reduceEqDiff,Nat.reduceAdd,Nat.reduceLeDiff,reduceCtorEq,bG,set_push,hgx,q1,q2,q4,hgp]
  obtain⟨s1,hs1⟩:∃s1,s1=s.push (.cells [.lit (.string x.S.nm),.lit (.int .i64 x.S.port),.lit (.int .i64 (x.S.pks:Nat)),.lit (.int .i64 (x.S.byt:Nat)),.lit (.int .i64 x.S.pol),.lit (.int .u64 (x.S.life:Nat)),x.qv,.lit (.int .i64 (used x.S.q:Nat)),.lit (.int .i64 (x.S.dr:Nat)),.lit (.int .i64 (x.S.old:Nat)),.ptr x.w 0]):=⟨_,rfl⟩
  rw[←hs1]
  have hl1:s1.boxes.length=s.boxes.length+1:=by rw[hs1,aJ]
  have hat1:∀b,b<s.boxes.length→s1.boxes[b]?=s.boxes[b]?:=fun b hb=>by rw[hs1];exact bp hb
  have hg1:=bG s [.lit (.string x.S.nm),.lit (.int .i64 x.S.port),.lit (.int .i64 (x.S.pks:Nat)),.lit (.int .i64 (x.S.byt:Nat)),.lit (.int .i64 x.S.pol),.lit (.int .u64 (x.S.life:Nat)),x.qv,.lit (.int .i64 (used x.S.q:Nat)),.lit (.int .i64 (x.S.dr:Nat)),.lit (.int .i64 (x.S.old:Nat)),.ptr x.w 0]
  rw[←hs1]at hg1
  have hxl:=SL.lts hxi
  have hx1:x.is s1:=SL.at hxi fun b hb=>hat1 b (hxl b hb)
  refine aR rfl e_f44 (qQ (l:=x.S.q) (by rw[q1];exact hx1.qb) hqx) (by simp[q5]) fun w s2 hr=>?_
  obtain⟨w1,w2,w3⟩:=hr
  obtain⟨u1,u2,u3,u4,u5,u6,u7,u8⟩:=w1.facts
  have hg2:=(bJ (w2.2 s.boxes.length (by omega) (by simp))).trans hg1
  have hgx2:=(bJ (w2.2 x.s (by have:=bI hgx;omega) (by simp))).trans hx1.get
  have hxs:x.s≠s.boxes.length:=by have:=bI hgx;omega
  have hgx3:=fun cs=>(bJ (cO (st:=s2) (cs:=cs) hxs)).trans hgx2
  simp(config:=KF) (disch:=omega)only[bZ,au,af,addA,aa,id,↓reduceIte,Nat.reduceEqDiff,Nat.reduceAdd,Nat.reduceLeDiff,reduceCtorEq,u1,u4,u6,hg2,hgx3]
  obtain⟨s3,hs3⟩:∃s3,s3=s2.set s.boxes.length [.lit (.string x.S.nm),.lit (.int .i64 x.S.port),.lit (.int .i64 (x.S.pks:Nat)),.lit (.int .i64 (x.S.byt:Nat)),.lit (.int .i64 x.S.pol),.lit (.int .u64 (x.S.life:Nat)),w,.lit (.int .i64 (used x.S.q:Nat)),.lit (.int .i64 (x.S.dr:Nat)),.lit (.int .i64 (x.S.old:Nat)),.ptr x.w 0]:=⟨_,rfl⟩
  rw[←hs3]
  have hl2:=w2.1
  have hl3:s3.boxes.length=s2.boxes.length:=by rw[hs3,gU]
  have hat3:∀b,b≠s.boxes.length→s3.boxes[b]?=s2.boxes[b]?:=fun b hb=>by rw[hs3];exact cO hb
  have hat03:∀b,b<s.boxes.length→s3.boxes[b]?=s.boxes[b]?:=fun b hb=>by
   rw[hat3 b (by omega),w2.2 b (by omega) (by simp),hat1 b hb]
  have hx3:x.is s3:=SL.at hxi fun b hb=>hat03 b (hxl b hb)
  have hg3:=aY (st:=s2) (id:=s.boxes.length) (cs:=[.lit (.string x.S.nm),.lit (.int .i64 x.S.port),.lit (.int .i64 (x.S.pks:Nat)),.lit (.int .i64 (x.S.byt:Nat)),.lit (.int .i64 x.S.pol),.lit (.int .u64 (x.S.life:Nat)),w,.lit (.int .i64 (used x.S.q:Nat)),.lit (.int .i64 (x.S.dr:Nat)),.lit (.int .i64 (x.S.old:Nat)),.ptr x.w 0]) (by omega)
  rw[←hs3]at hg3
  refine aR rfl e_f45 (mi hx3.wq) rfl fun v s4 hr=>?_
  obtain⟨rfl,hq4,hl4,hat4⟩:=hr
  have hg4:=(bJ (hat4 s.boxes.length (by omega))).trans hg3
  have hlc:=h2.lts
  have hcl:c<s.boxes.length:=hlc c ((bL h2.smp.nd).2 (.inl rfl))
  have hcg4:=fun cs=>(bJ (cO (st:=s4) (cs:=cs) (show c≠s.boxes.length by omega))).trans ((bJ ((hat4 c (by omega)).trans (hat03 c hcl))).trans hcg)
  simp(config:=KF) (disch:=omega)only[bZ,jx,au,af,addA,aa,i9,eK,↓reduceIte,Nat.reduceEqDiff,Nat.reduceAdd,Nat.reduceLeDiff,reduceCtorEq,hg4,hcg4]
  obtain⟨s5,hs5⟩:∃s5,s5=s4.set s.boxes.length [.lit (.string x.S.nm),.lit (.int .i64 x.S.port),.lit (.int .i64 (x.S.pks:Nat)),.lit (.int .i64 (x.S.byt:Nat)),.lit (.int .i64 x.S.pol),.lit (.int .u64 (x.S.life:Nat)),w,.lit (.int .i64 (used x.S.q:Nat)),.lit (.int .i64 (x.S.dr:Nat)),.lit (.int .i64 (x.S.old:Nat)),.ptr (s3.boxes.length+1) 0]:=⟨_,rfl⟩
  rw[←hs5]
  have hl5:s5.boxes.length=s3.boxes.length+2:=by rw[hs5,gU,hl4]
  have hat5:∀b,b≠s.boxes.length→s5.boxes[b]?=s4.boxes[b]?:=fun b hb=>by rw[hs5];exact cO hb
  have hat05:∀b,b<s.boxes.length→s5.boxes[b]?=s.boxes[b]?:=fun b hb=>by
   rw[hat5 b (by omega),hat4 b (by omega),hat03 b hb]
  have hg5:=aY (st:=s4) (id:=s.boxes.length) (cs:=[.lit (.string x.S.nm),.lit (.int .i64 x.S.port),.lit (.int .i64 (x.S.pks:Nat)),.lit (.int .i64 (x.S.byt:Nat)),.lit (.int .i64 x.S.pol),.lit (.int .u64 (x.S.life:Nat)),w,.lit (.int .i64 (used x.S.q:Nat)),.lit (.int .i64 (x.S.dr:Nat)),.lit (.int .i64 (x.S.old:Nat)),.ptr (s3.boxes.length+1) 0]) (by omega)
  rw[←hs5]at hg5
  have hwl:∀b∈ah w,s1.boxes.length≤b∧b<s2.boxes.length:=fun b hb=>⟨w3 b hb,w1.lt b hb⟩
  have hy:(SL.mk s.boxes.length (s3.boxes.length+1) s3.boxes.length x.g w x.L x.S).is s5 :=
   ⟨hg5,w1.at fun b hb=>by
    have:=hwl b hb
    rw[hat5 b (by omega),hat4 b (by omega),hat3 b (by omega)],
    hq4.at (hat5 _ (by omega)) (hat5 _ (by omega)),hxi.b1,hxi.b2,hxi.b3,by simp only;omega,by simp only;omega,fun hb=>by have:=hwl _ hb;simp only at this;omega,fun hb=>by have:=hwl _ hb;simp only at this;omega,fun hb=>by have:=hwl _ hb;simp only at this;omega⟩
  have hid:∀b∈(SL.mk s.boxes.length (s3.boxes.length+1) s3.boxes.length x.g w x.L x.S).ids,s.boxes.length≤b:=fun b hb=>by
   simp only[SL.ids,List.cons_append,List.nil_append,List.mem_cons]at hb
   rcases hb with rfl|rfl|rfl|hb
   ·omega
   ·omega
   ·omega
   ·have:=hwl b hb;omega
  have hk5:Kp s s5 []:=⟨by omega,fun b hb _=>hat05 b hb⟩
  have hcsl:cs<s.boxes.length:=hlc cs ((bL h2.smp.nd).2 (.inr (.inl rfl)))
  have hmap5:MapIs s5 cs .i64 slAV M':=h2.smp.at (hat05 cs hcsl)
  refine dY hmap5 (b:=SL.mk s.boxes.length (s3.boxes.length+1) s3.boxes.length x.g w x.L x.S) rfl rfl fun s' hm' ho'=>?_
  simp(config:=KF) (disch:=omega)only[bZ,↓reduceIte,Nat.reduceEqDiff,reduceCtorEq]
  obtain⟨a1,a2⟩:=h2.add hi0 hno hk5 hy hid ho' hm'
  rw[hB]at hk ⊢
  refine hK2 (seen++[k],_,updP num (SL.mk s.boxes.length (s3.boxes.length+1) s3.boxes.length x.g w x.L x.S) M',s') _ ⟨hsn _ ⟨rfl,rfl,rfl⟩,a1,⟨by have:=h3.1;have:=ho'.1;simp only;omega,fun b b1 _=>?_⟩,fun b hb=>?_⟩ (qO (List.mem_of_getElem? hk) hn) (Sf.le_refl _)
  ·have:=h3.1
   have:=h4 cs ((bL h2.smp.nd).2 (.inr (.inl rfl)))
   simp only
   rw[ho'.2 b (by simp;omega),hat05 b (by omega)]
   exact h3.2 b b1 (by simp)
  ·rcases a2 b hb with hb|hb
   ·exact h4 b hb
   ·have:=h3.1;omega
 ·simp(config:=KF) (disch:=omega)only[bZ,↓reduceIte,Nat.reduceEqDiff,reduceCtorEq]
  refine hKe _ _ _ ?_
  rw[hB]at hd
  refine hK s M' h2 ⟨fun j hj b hb _=>h1.yes j hj b hb (hd b (List.mem_of_getElem? hb)),fun j hj b hb hs=>absurd (List.mem_of_getElem? hb) hs,h1.le⟩ h3 h4

theorem ncopy_waits(hh:NetIs st n sid wid now M W){c cs cw:Nat}{s0:St}{M':List (Int×SL)}(hk0:Kp st s0 [])(hc0:NetIs s0 c cs cw now M' [])(hf0:∀b∈ck c cs cw M',st.boxes.length≤b){K:Exit→Sf→St→Prop}
  (hK:∀s' W',NetIs s' c cs cw now M' W'→(∀t,aj t W'=aj t W)→Kp st s' []→K (.exit 2) ⟨[(3,.ptr c 0)],[]⟩ s') :
  aC Go.Proofs.Try.prog id false f23_34 ⟨[(3,.ptr c 0),(53,.mit (some wid) (st.getB wid).2 [] (st.getB wid).2)],[]⟩ s0 K:=by
 have hms:=hh.wmp
 have hlt:=hms.lt
 rw[f23_34w]
 refine bB (A:=List Nat×Nat×List (Int×WE)×St) (fun a=>left (st.getB wid).1 a.1) (fun a=>⟨[(3,.ptr c 0),(53,.mit (some wid) (st.getB wid).2 a.1 a.2.1)],[]⟩) (fun a=>a.2.2.2)
  (fun a=>Cpd W a.2.2.1 (st.getB wid).1 a.1∧NetIs a.2.2.2 c cs cw now M' a.2.2.1∧Kp st a.2.2.2 []) ([],(st.getB wid).2,[],s0) ⟨.nil _ _,hc0,hk0⟩ (Sf.le_refl _) rfl ?_
 rintro⟨seen,stp,W',s⟩ ⟨h1,h2,h3⟩ K2 hK2 hKe hKr
 simp only at h1 h2 h3
 dsimp only
 have hB:s.getB wid=st.getB wid:=gW (h3.2 wid hlt (by simp))
 have hms':=(hh.kp h3 fun _ _ q=>by cases q).wmp
 have hcg:=h2.get
 rw[←hB]
 simp(config:=KF) (disch:=omega)only[bZ,a9,↓reduceIte,Nat.reduceEqDiff]
 refine oa hms' (fun i hi k hk hn=>?_) fun hd=>?_
 ·have hsn:=h1.snoc hms.nd hms.bn hi (by rw[←hB];exact hk)
  simp(config:=KF) (disch:=omega)only[bZ,a9,↓reduceIte,Nat.reduceEqDiff]
  refine ob hms' hi hk ?_
  rw[bD,weAV_dis]
  generalize W[i].1=num at hsn ⊢
  generalize W[i].2=x at hsn ⊢
  unfold weAV
  simp(config:=KF) (disch:=omega)only[bZ,bH,jx,au,af,addA,aa,cx,↓reduceIte,Nat.reduceEqDiff,Nat.reduceAdd,Nat.reduceLeDiff,hcg]
  refine dY h2.wmp (b:=x) rfl rfl fun s' hm' ho'=>?_
  simp(config:=KF) (disch:=omega)only[bZ,↓reduceIte,Nat.reduceEqDiff]
  rw[hB]at hk ⊢
  refine hK2 (seen++[k],_,updP num x W',s') _ ⟨hsn,h2.setMap ho' hm',⟨by have:=h3.1;have:=ho'.1;simp only;omega,fun b b1 _=>?_⟩⟩ (qO (List.mem_of_getElem? hk) hn) (Sf.le_refl _)
  have:=hf0 cw ((bL h2.smp.nd).2 (.inr (.inr (.inl rfl))))
  simp only
  rw[ho'.2 b (by simp;omega)]
  exact h3.2 b b1 (by simp)
 ·simp(config:=KF) (disch:=omega)only[bZ,↓reduceIte,Nat.reduceEqDiff]
  refine hKe _ _ _ ?_
  rw[hB]at hd
  exact hK s W' h2 (h1.all hms.nd hms.bl hd) h3
end

theorem ncopy_calls{st:St}{n sid wid k:Nat}{R:NR}{F:List Nat}(hh:NetR st n sid wid k R F) :
  aF Go.Proofs.Try.prog n_f23 [.ptr n 0] st (fun v st'=>∃n' sid' wid' F',v= .ptr n' 0∧NetR st' n' sid' wid' k R F'∧Kp st st' []∧∀x∈F',st.boxes.length≤x∧x<st'.boxes.length):=by
 obtain⟨M,Wm,W,h1,h2,h3,h4,h5⟩:=hh.ex
 refine aK hmix k_f23 rfl rfl fun Q hQ=>?_
 unfold aFun c_f23
 simp(config:=KF) (disch:=omega)only[bZ,id,↓reduceIte,reduceCtorEq]
 refine ag rfl e_f26 (cP h1) rfl ?_
 have hg:=h1.get
 have hlt:=h1.lts
 obtain⟨s0,e0,c0,k0⟩:=new_net st R.now
 simp(config:=KF) (disch:=omega)only[bZ,nv,qw,au,addA,aa,kF,ja,fO,↓reduceIte,Nat.reduceEqDiff,Nat.reduceAdd,Nat.reduceLeDiff,reduceCtorEq,aJ,hg]
 rw[←e0]
 have h10:=h1.kp k0 fun _ _ q=>by cases q
 have hg0:=h10.get
 have hgm:=h10.smp.get
 have hB0:s0.getB sid=st.getB sid:=gW (k0.2 sid h1.smp.lt (by simp))
 simp(config:=KF) (disch:=omega)only[bZ,bD,a9,↓reduceIte,Nat.reduceEqDiff,reduceCtorEq,hg0,hgm,rngX,hB0]
 have hq:∀(i:Int) x,aj i M=some x→x.S.q.length≤1000:=fun i x hx=>by
  have h:=h1.sub i x hx
  have:=h.b3.2
  have:=h.b1.2
  omega
 refine ncopy_socks h1 hq k0 c0 (fun b hb=>?_) fun s1 M' c1 a1 k1 f1=>?_
 ·have hids:ck (st.boxes.length+2) st.boxes.length (st.boxes.length+1) []= [st.boxes.length+2,st.boxes.length,st.boxes.length+1]:=rfl
  rw[hids]at hb
  simp only[List.mem_cons,List.not_mem_nil,or_false]at hb
  omega
 have h11:=h1.kp k1 fun _ _ q=>by cases q
 have hg1:=h11.get
 have hgm1:=h11.wmp.get
 have hB1:s1.getB wid=st.getB wid:=gW (k1.2 wid h1.wmp.lt (by simp))
 simp(config:=KF) (disch:=omega)only[bZ,bD,au,a9,addA,aa,↓reduceIte,Nat.reduceEqDiff,reduceCtorEq,hg1,hgm1,rngX,hB1]
 refine ncopy_waits h1 k1 c1 f1 fun s2 W' c2 a2 k2=>?_
 simp(config:=KF) (disch:=omega)only[bZ,retI,eV,↓reduceIte,Nat.reduceEqDiff]
 have hall:=a1.all h1.smp.bl fun b hb=>hb
 have hl2:=c2.lts
 refine hQ _ _ ⟨st.boxes.length+2,st.boxes.length,st.boxes.length+1,ck (st.boxes.length+2) st.boxes.length (st.boxes.length+1) M',rfl,⟨⟨M',W',W,c2,⟨fun i=>?_,?_,h2.srt,h2.ok⟩,⟨fun i y hy=>?_,fun t=>(a2 t).trans (h3.mp t),c2.wmp.nd,h3.nd,h3.ok,fun e he=>?_⟩,h4,fun b hb=>hb⟩,hh.lt⟩,k2,fun b hb=>⟨f1 b hb,hl2 b hb⟩⟩
 ·rw[←h2.at_ i]
  rcases hall i with⟨e1,e2⟩|⟨x,y,e1,e2,e3,_⟩
  ·rw[e1,e2]
   first|done|rfl
  ·rw[e1,e2];simp[e3]
 ·rw[←h2.len]
  refine len_keys h1.smp.nd c2.smp.nd fun i=>?_
  rcases hall i with⟨e1,e2⟩|⟨x,y,e1,e2,_⟩
  ·rw[e1,e2]
  ·rw[e1,e2];rfl
 ·rcases hall i with⟨e1,e2⟩|⟨x,z,e1,e2,e3,e4,e5⟩
  ·rw[e2]at hy;cases hy
  ·rw[e2]at hy;cases hy
   rw[e4,e5]
   exact h3.que i x e1
 ·obtain⟨x,hx⟩:=h3.has e he
  rcases hall (e.2.sock:Int)with⟨e1,e2⟩|⟨x,y,e1,e2,_⟩
  ·rw[e1]at hx;cases hx
  ·exact⟨y,e2⟩
end Go.Fx.YtgmeefljgbaanaaFx

