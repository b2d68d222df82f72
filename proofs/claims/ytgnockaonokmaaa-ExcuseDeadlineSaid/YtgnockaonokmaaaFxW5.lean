/- What the functions that the statement reaches compute: part 5. -/
import Derived.Test.YtgnockaonokmaaaFxW4
namespace Go.Fx.YtgnockaonokmaaaFx
open Go Go.Fx
attribute [local irreducible] aC runI az bj

set_option maxRecDepth 100000
set_option maxHeartbeats 4000000

def pAdd (P:PS) (e:Ev):PS :=
 if e.kind = 1∧e.err = 0 then { P with calls:=updP e.task e.call P.calls,pend:=updP e.task true P.pend }
 else if e.kind = 2∧e.done = true then
  (match bF e.task P.calls with
   | some c=>if c.kind = e.en.kind∧e.en.err = 0 then cR c e.en { P with pend:=delP e.task P.pend } else { P with pend:=delP e.task P.pend }
   | none=>{ P with pend:=delP e.task P.pend })
 else P
def P0:PS:=⟨[],[],[],0,[],[],false⟩
structure PSn (n:Nat) (P:PS):Prop where
 fl:P.files.length≤2 * n
 op:0≤P.opened∧P.opened≤2 * n
 bd:P.bound.length≤n
theorem PSn.zero:PSn 0 P0:=⟨by simp [P0],by simp [P0],by simp [P0]⟩
theorem jt (f1 f2 k:Int) (P:PS):(f0 f1 f2 k P).files.length≤P.files.length + 1∧(f0 f1 f2 k P).opened = P.opened∧(f0 f1 f2 k P).bound = P.bound:=by
 refine ⟨?_,rfl,rfl⟩
 have:=List.length_filter_le (fun x=>!bJ f1 f2 x) P.files
 simp only [f0,List.length_append,List.length_cons,List.length_nil]
 omega
theorem PSn.done {n:Nat} {P:PS} (h:PSn n P) (c:Cl) (x:En):PSn (n + 1) (cR c x P):=by
 obtain ⟨h1,h2,h3⟩:=h
 unfold cR
 split
 ·obtain ⟨a,b,d⟩:=jt x.f1 x.f2 c.kind { P with bound:=P.bound++[x],opened:=P.opened + 1 }
  exact ⟨by simp only at a; omega,by rw [b]; simp only; omega,by rw [d]; simp; omega⟩
 split
 ·obtain ⟨a,b,d⟩:=jt x.f1 x.f2 c.kind { P with opened:=P.opened + 1 }
  exact ⟨by simp only at a; omega,by rw [b]; simp only; omega,by rw [d]; simp only; omega⟩
 split
 ·obtain ⟨a,b,d⟩:=jt x.f1 x.f2 c.kind { P with opened:=P.opened + 2 }
  split
  ·exact ⟨by simp only at a; omega,by rw [b]; simp only; omega,by rw [d]; simp only; omega⟩
  ·obtain ⟨a',b',d'⟩:=jt x.t1 x.t2 c.kind (f0 x.f1 x.f2 c.kind { P with opened:=P.opened + 2 })
   exact ⟨by simp only at a; omega,by rw [b',b]; simp only; omega,by rw [d',d]; simp only; omega⟩
 split
 ·exact ⟨by simp only; omega,by simp only; omega,by simp only; omega⟩
 split
 ·have:=List.length_filter_le (fun y=>!c9 c.f1 c.f2 y) P.bound
  exact ⟨by simp only [List.length_map]; omega,by simp only; omega,by simp only; omega⟩
 ·exact ⟨by omega,by omega,by omega⟩
theorem PSn.add {n:Nat} {P:PS} (h:PSn n P) (e:Ev):PSn (n + 1) (pAdd P e):=by
 have h0:PSn n { P with pend:=delP e.task P.pend }:=⟨h.fl,h.op,h.bd⟩
 have h':∀ {Q:PS},PSn n Q→PSn (n + 1) Q:=fun q=>⟨by have:=q.fl; omega,by have:=q.op; omega,by have:=q.bd; omega⟩
 unfold pAdd
 split
 ·exact h' ⟨h.fl,h.op,h.bd⟩
 split
 ·split
  ·split
   ·exact h0.done _ _
   ·exact h' h0
  ·exact h' h0
 ·exact h' h
def pAll (l:List Ev):PS:=l.foldl pAdd P0
theorem j9 {l:List Ev} {k:Nat} (hk:k < l.length):pAll (l.take (k + 1)) = pAdd (pAll (l.take k)) l[k]:=by
 unfold pAll
 rw [List.take_succ_eq_append_getElem hk,List.foldl_append]
 rfl
theorem PSn.all:∀ (l:List Ev) (n:Nat) (P:PS),PSn n P→PSn (n + l.length) (l.foldl pAdd P)
 | [],n,P,h=>h
 | e :: l, n, P, h => by
   have:=PSn.all l (n + 1) (pAdd P e) (h.add e)
   rw [List.foldl_cons,List.length_cons]
   rw [show n + (l.length + 1) = n + 1 + l.length by omega]
   exact this

theorem nB {B:Nat→Prop} {st:St} {p n:Nat} {tr:AV} {P:PS} (hB:∀ b,st.boxes.length≤b→B b) (h:PastK B st p tr P) (hn:PSn n P) (hn1:n≤10000) {l:List Ev} {k:Nat} (hk:k < l.length) (hl:l.length≤10000) :
  aF Go.Proofs.Try.prog n_f38 [.ptr p 0,.sl false 30 (l.map evA),.lit (.int .i64 (k:Nat))] st (fun _ st'=>PastK B st' p (.sl false 30 ((l.take (k + 1)).map evA)) (pAdd P l[k])∧Lo B st st'):=by
 obtain ⟨m1,m2,m3,m4,fv,bv,h1,hlo⟩:=h.ex
 refine a8 hmix k_f38 rfl rfl fun Q hQ=>?_
 unfold aFun c_f38
 have hgd:=eH hk
 have hm:=@mem_pIds p m1 m2 m3 m4 fv bv
 have hll:(l.map evA).length = l.length:=List.length_map ..
 have htk:(l.map evA).take (k + 1) = (l.take (k + 1)).map evA:=(List.map_take ..).symm
 have hpB:B p:=hlo p ((hm p).2 (by simp))
 have hfin:∀ {s:St} {m1 m2 m3 m4:Nat} {fv bv:AV} {P':PS},PastIs s p m1 m2 m3 m4 fv bv tr P'→(∀ b ∈ pIds p m1 m2 m3 m4 fv bv,B b)→Lo B st s→P' = pAdd P l[k]→Q (.tup []) (s.set p [.sl false 30 ((l.take (k + 1)).map evA),.map m1,.map m2,fv,.lit (.int .i64 P'.opened),.map m3,.map m4,bv,.lit (.bool P'.lis)]):=fun hp hlo hlo' he=>by
  subst he
  exact hQ _ _ ⟨⟨⟨_,_,_,_,_,_,hp.cells _ _ _,hlo⟩⟩,hlo'.trans (Lo.set _ _ hpB)⟩
 have hg:=h1.get
 obtain ⟨v1,v2,v3,v4,v5,v6,v7,v8⟩:=h1.fb.facts
 obtain ⟨w1,w2,w3,w4,w5,w6,w7,w8⟩:=h1.bb.facts
 generalize l[k] = e at hgd hfin
 have hev:evC e = [.lit (.int .i64 e.kind),.lit (.int .i64 e.task),.lit (.int .i64 e.call.kind),.lit (.int .i64 e.call.f1),.lit (.int .i64 e.call.f2),.lit (.int .i64 e.call.t1),.lit (.int .i64 e.call.t2),.lit (.string e.call.nm),.lit (.int .i64 e.call.port),e.call.data.v,.lit (.int .i64 e.call.most),.lit (.int .i64 e.call.n),.lit (.int .i64 e.call.dir),.lit (.int .u64 (e.call.at_:Nat)),.lit (.int .i64 e.err),.lit (.bool e.done),.lit (.int .i64 e.en.task),.lit (.int .i64 e.en.kind),.lit (.int .i64 e.en.err),.lit (.int .i64 e.en.n),e.en.data.v,.lit (.int .i64 e.en.f1),.lit (.int .i64 e.en.f2),.lit (.int .i64 e.en.t1),.lit (.int .i64 e.en.t2),.lit (.string e.en.nm),.lit (.int .i64 e.en.port),.lit (.int .u64 (e.en.at_:Nat)),e.woke.v,.lit (.int .u64 (e.now:Nat))]:=rfl
 rw [hev] at hgd
 have hm1B:=hlo m1 ((hm m1).2 (by simp))
 have hm2B:=hlo m2 ((hm m2).2 (by simp))
 by_cases k1:e.kind = 1∧e.err = 0
 ·obtain ⟨k1,k0⟩:=k1
  have hpa:pAdd P e = { P with calls:=updP e.task e.call P.calls,pend:=updP e.task true P.pend }:=if_pos ⟨k1,k0⟩
  simp (config:=KF) (disch:=omega) only [bZ,bk,bE,aZ,AI.dst,b9,bw,nn,ixSV,aJ,aw,addA,aa,cq,d9,↓reduceIte,Nat.reduceEqDiff,Nat.reduceAdd,Nat.reduceLeDiff,reduceCtorEq,aM,ai,ak,al,hgd,hll,hg]
  refine upd_step h1.cm (b:=e.call) (by simp [lT,jX,al,iB]) (by unfold clA; rw [df]; simp [gV,eC,ak]) fun s1 hm1 ho1=>?_
  have h2:=h1.setC ho1 hm1
  have hg2:=h2.get
  simp (config:=KF) (disch:=omega) only [bZ,bk,bE,aZ,nn,aJ,addA,aa,cq,↓reduceIte,Nat.reduceEqDiff,reduceCtorEq,hg2]
  refine upd_step h2.pm (b:=true) rfl rfl fun s2 hm2 ho2=>?_
  have h3:=h2.setP ho2 hm2
  have hg3:=h3.get
  simp (config:=KF) (disch:=omega) only [bZ,aA,retI,bN,fc,aJ,eS,aw,ixTo,addA,dP,dq,↓reduceIte,Nat.reduceEqDiff,Nat.reduceAdd,Nat.reduceLeDiff,reduceCtorEq,aR,ai,hg3,hll,htk]
  have hend:=hfin h3 hlo ((Lo.oth ho1 (by simpa using hm1B)).trans (Lo.oth ho2 (by simpa using hm2B))) hpa.symm
  exact hend
 by_cases k2:e.kind = 2∧e.done = true
 ·obtain ⟨k2,kd⟩:=k2
  have hpa:pAdd P e = (match bF e.task P.calls with
   | some c=>if c.kind = e.en.kind∧e.en.err = 0 then cR c e.en { P with pend:=delP e.task P.pend } else { P with pend:=delP e.task P.pend }
   | none=>{ P with pend:=delP e.task P.pend }):=by
   unfold pAdd
   rw [if_neg k1,if_pos ⟨k2,kd⟩]
  have k1':¬ e.kind = 1:=by omega
  rw [kd] at hgd
  simp (config:=KF) (disch:=omega) only [bZ,bk,bE,aZ,aG,AI.dst,b9,bw,o_del,ixSV,aJ,aw,addA,aa,cq,d9,↓reduceIte,Nat.reduceEqDiff,Nat.reduceAdd,Nat.reduceLeDiff,reduceCtorEq,aM,aY,ai,ak,al,hgd,hll,hg]
  refine del_step h1.pm fun s1 hm1 ho1=>?_
  have h2:=h1.setP ho1 hm1
  have hg2:=h2.get
  have hlo1:Lo B st s1:=Lo.oth ho1 (by simpa using hm2B)
  have hlk:=fun z=>nz h2.cm (z:=z) (ok:=true) (t:=e.task)
  cases hc:bF e.task P.calls with
  | none =>
    rw [hc] at hpa
    simp only [hc,if_true] at hlk
    simp (config:=KF) (disch:=omega) only [bZ,Nat.reduceBEq,Bool.or_true,ksB,au,aT,br,aE,bH,bq,fU,jo,nstB,bt,bM,Option.getD_some,kN,jZ,bk,bE,ec,kM,dQ,eW,jn,aA,retI,aG,AI.dst,bN,fc,aJ,eS,aw,ixTo,addA,aa,cq,dP,dq,ji,bD,jk,ca,List.nil_append,List.cons_append,↓reduceIte,Nat.reduceEqDiff,Nat.reduceAdd,Nat.reduceLeDiff,reduceCtorEq,or_true,or_false,aR,ai,hg2,hlk,hll,htk]
    have hend:=hfin h2 hlo hlo1 hpa.symm
    exact hend
  | some c =>
    rw [hc] at hpa
    simp only [hc,if_true,js] at hlk
    unfold clA at hlk
    rw [df] at hlk
    simp only at hpa
    by_cases k3:c.kind = e.en.kind
    ·by_cases k4:e.en.err = 0
     ·rw [if_pos ⟨k3,k4⟩] at hpa
      simp (config:=KF) (disch:=omega) only [bZ,Nat.reduceBEq,Bool.or_true,ksB,au,aT,br,aE,bH,bq,fU,jo,nstB,bt,bM,Option.getD_some,kN,jZ,bk,bE,ec,kM,dQ,eW,jn,AI.dst,aJ,addA,aa,id,cq,ji,bD,jk,ca,List.nil_append,List.cons_append,↓reduceIte,Nat.reduceEqDiff,Nat.reduceAdd,Nat.reduceLeDiff,reduceCtorEq,or_true,or_false,aM,ak,al,hg2,hlk]
      refine aK (vs:=[.ptr p 0,clA c,rcA enC e.en]) (by show [AV.ptr p 0,(clA c).dis,(rcA enC e.en).dis] = _; rw [js,e7 fF]) e_f56 (done_calls (fun b q=>hB b (by have:=hlo1.1; omega)) ⟨⟨m1,m2,m3,m4,fv,bv,h2,hlo⟩⟩ (by have:=hn.fl; simp only; omega) (by have:=hn.op; simp only; omega) (by have:=hn.bd; simp only; omega) c e.en) (by simp [bG,cI,fT,eG]) fun v s3 hr=>?_
      obtain ⟨⟨n1,n2,n3,n4,fv',bv',i1,i2⟩,i3⟩:=hr
      have hg3:=i1.get
      obtain ⟨x1,x2,x3,x4,x5,x6,x7,x8⟩:=i1.fb.facts
      obtain ⟨y1,y2,y3,y4,y5,y6,y7,y8⟩:=i1.bb.facts
      simp (config:=KF) (disch:=omega) only [bZ,aA,retI,bN,fc,aJ,eS,aw,ixTo,addA,dP,dq,↓reduceIte,Nat.reduceEqDiff,Nat.reduceAdd,Nat.reduceLeDiff,reduceCtorEq,aR,ai,hg3,hll,htk]
      have hend:=hfin i1 i2 (hlo1.trans i3) hpa.symm
      exact hend
     ·rw [if_neg (fun q=>k4 q.2)] at hpa
      simp (config:=KF) (disch:=omega) only [bZ,Nat.reduceBEq,Bool.or_true,ksB,au,aT,br,aE,bH,bq,fU,jo,nstB,bt,bM,Option.getD_some,kN,jZ,bk,bE,ec,kM,dQ,eW,jn,aA,retI,AI.dst,bN,fc,aJ,eS,aw,ixTo,addA,aa,cq,dP,dq,ji,bD,jk,ca,List.nil_append,List.cons_append,↓reduceIte,Nat.reduceEqDiff,Nat.reduceAdd,Nat.reduceLeDiff,reduceCtorEq,or_true,or_false,aM,aR,ai,ak,al,hg2,hlk,hll,htk]
      have hend:=hfin h2 hlo hlo1 hpa.symm
      exact hend
    ·rw [if_neg (fun q=>k3 q.1)] at hpa
     simp (config:=KF) (disch:=omega) only [bZ,Nat.reduceBEq,Bool.or_true,ksB,au,aT,br,aE,bH,bq,fU,jo,nstB,bt,bM,Option.getD_some,kN,jZ,bk,bE,ec,kM,dQ,eW,jn,aA,retI,aG,AI.dst,bN,fc,aJ,eS,aw,ixTo,addA,aa,cq,dP,dq,ji,bD,jk,ca,List.nil_append,List.cons_append,↓reduceIte,Nat.reduceEqDiff,Nat.reduceAdd,Nat.reduceLeDiff,reduceCtorEq,or_true,or_false,aY,aR,ai,ak,al,hg2,hlk,hll,htk]
     have hend:=hfin h2 hlo hlo1 hpa.symm
     exact hend
 ·have hpa:pAdd P e = P:=by
   unfold pAdd
   rw [if_neg k1,if_neg k2]
  by_cases q1:e.kind = 1
  ·have q0:¬ e.err = 0:=fun q=>k1 ⟨q1,q⟩
   simp (config:=KF) (disch:=omega) only [bZ,aA,retI,aG,AI.dst,b9,bN,fc,bw,ixSV,aJ,eS,aw,ixTo,addA,aa,dP,dq,d9,↓reduceIte,Nat.reduceEqDiff,Nat.reduceAdd,Nat.reduceLeDiff,reduceCtorEq,aM,aY,aR,ai,ak,al,hgd,hll,hg,htk]
   have hend:=hfin h1 hlo (Lo.refl _ _) hpa.symm
   exact hend
  ·by_cases q2:e.kind = 2
   ·have qd:e.done = false:=by cases hd:e.done with | false=>rfl | true=>exact absurd ⟨q2,hd⟩ k2
    rw [qd] at hgd
    simp (config:=KF) (disch:=omega) only [bZ,aA,retI,aG,AI.dst,b9,bN,fc,bw,ixSV,aJ,eS,aw,ixTo,addA,aa,dP,dq,d9,↓reduceIte,Nat.reduceEqDiff,Nat.reduceAdd,Nat.reduceLeDiff,reduceCtorEq,aM,aY,aR,ai,ak,al,hgd,hll,hg,htk]
    have hend:=hfin h1 hlo (Lo.refl _ _) hpa.symm
    exact hend
   ·simp (config:=KF) (disch:=omega) only [bZ,aA,retI,aG,AI.dst,b9,bN,fc,bw,ixSV,aJ,eS,aw,ixTo,addA,aa,dP,dq,d9,↓reduceIte,Nat.reduceEqDiff,Nat.reduceAdd,Nat.reduceLeDiff,reduceCtorEq,aY,aR,ai,ak,al,hgd,hll,hg,htk]
    have hend:=hfin h1 hlo (Lo.refl _ _) hpa.symm
    exact hend
end Go.Fx.YtgnockaonokmaaaFx

namespace Go.Fx.YtgnockaonokmaaaFx
open Go Go.Fx
attribute [local irreducible] aC runI az bj

set_option maxRecDepth 100000
set_option maxHeartbeats 4000000

theorem kF (st:St):aF Go.Proofs.Try.prog n_f37 [] st (fun v st'=>v = .ptr (st.boxes.length + 4) 0∧PastK (st.boxes.length≤·) st' (st.boxes.length + 4) (.lit (.slice none 0 0)) P0∧Lo (st.boxes.length≤·) st st'):=by
 refine a8 hmix k_f37 rfl rfl fun Q hQ=>?_
 unfold aFun c_f37
 simp (config:=KF) (disch:=omega) only [bZ,and_self,retI,nj,dU,o_mkmap,bstV,bg,cq,own1_map,cells_map,solid1_map,fT,↓reduceIte,Nat.reduceEqDiff,Nat.reduceAdd,Nat.reduceLeDiff,reduceCtorEq,am,ai]
 obtain ⟨n,hn⟩:∃ n,n = st.boxes.length:=⟨_,rfl⟩
 obtain ⟨s,hs⟩:∃ s,s = ((((st.push (.mp [] [] 0)).push (.mp [] [] 0)).push (.mp [] [] 0)).push (.mp [] [] 0)).push (.cells [.lit (.slice none 0 0),.map st.boxes.length,.map (st.boxes.length + 1),.lit (.slice none 0 0),.lit (.int .i64 0),.map (st.boxes.length + 2),.map (st.boxes.length + 3),.lit (.slice none 0 0),.lit (.bool false)]):=⟨_,rfl⟩
 have hl:s.boxes.length = n + 5:=by rw [hs,hn]; simp [am]
 have hg:s.get (n + 4) = some [.lit (.slice none 0 0),.map n,.map (n + 1),.lit (.slice none 0 0),.lit (.int .i64 0),.map (n + 2),.map (n + 3),.lit (.slice none 0 0),.lit (.bool false)]:=by
  have:=cQ ((((st.push (.mp [] [] 0)).push (.mp [] [] 0)).push (.mp [] [] 0)).push (.mp [] [] 0)) [.lit (.slice none 0 0),.map st.boxes.length,.map (st.boxes.length + 1),.lit (.slice none 0 0),.lit (.int .i64 0),.map (st.boxes.length + 2),.map (st.boxes.length + 3),.lit (.slice none 0 0),.lit (.bool false)]
  rw [am,am,am,am,← hs,← hn] at this
  exact this
 have h1:MapIs s n .i64 clA []:=by
  have:=((((MapIs.new st .i64 clA).push (.mp [] [] 0)).push (.mp [] [] 0)).push (.mp [] [] 0)).push (.cells [.lit (.slice none 0 0),.map st.boxes.length,.map (st.boxes.length + 1),.lit (.slice none 0 0),.lit (.int .i64 0),.map (st.boxes.length + 2),.map (st.boxes.length + 3),.lit (.slice none 0 0),.lit (.bool false)])
  rw [← hs,← hn] at this; exact this
 have h2:MapIs s (n + 1) .i64 blA []:=by
  have:=(((MapIs.new (st.push (.mp [] [] 0)) .i64 blA).push (.mp [] [] 0)).push (.mp [] [] 0)).push (.cells [.lit (.slice none 0 0),.map st.boxes.length,.map (st.boxes.length + 1),.lit (.slice none 0 0),.lit (.int .i64 0),.map (st.boxes.length + 2),.map (st.boxes.length + 3),.lit (.slice none 0 0),.lit (.bool false)])
  rw [am,← hs,← hn] at this; exact this
 have h3:Map3 s (n + 2) nAV []:=by
  have h0:=Map3.new ((st.push (.mp [] [] 0)).push (.mp [] [] 0)) nAV
  rw [am,am,← hn] at h0
  refine h0.at ?_
  rw [hs,bp (by simp [am]; omega),bp (by simp [am]; omega)]
 have h4:Map3 s (n + 3) blA []:=by
  have h0:=Map3.new (((st.push (.mp [] [] 0)).push (.mp [] [] 0)).push (.mp [] [] 0)) blA
  rw [am,am,am,← hn] at h0
  refine h0.at ?_
  rw [hs,bp (by simp [am]; omega)]
 have hN:PastIs s (n + 4) n (n + 1) (n + 2) (n + 3) (.lit (.slice none 0 0)) (.lit (.slice none 0 0)) (.lit (.slice none 0 0)) P0 :=
  ⟨hg,h1,h2,h3,⟨[],h4⟩,RB.nil _ _ _,RB.nil _ _ _,fun b=>if b = n + 4 then 0 else if b = n then 1 else if b = n + 1 then 2 else if b = n + 2 then 3 else 4,by simp,by simp,by simp,by simp,by simp,fun b q=>by simp [ae] at q,fun b q=>by simp [ae] at q⟩
 have hlo:Lo (n≤·) st s:=⟨by omega,fun i hi _=>by rw [hs,bp (by simp [am]; omega),bp (by simp [am]; omega),bp (by simp [am]; omega),bp (by simp [am]; omega),bp (by omega)]⟩
 have hend:=hQ (.ptr (st.boxes.length + 4) 0) s ⟨rfl,by
  rw [← hn]
  exact ⟨⟨_,_,_,_,_,_,hN,fun b q=>by
   simp only [pIds,ae,List.cons_append,List.nil_append,List.append_nil,List.mem_cons,List.not_mem_nil,or_false] at q
   show n≤b
   omega⟩⟩,by rw [← hn]; exact hlo⟩
 rw [hs] at hend
 exact hend
theorem fX (st:St) {l:List Ev} {k:Nat} (hk:k≤l.length) (hl:l.length≤10000) :
  aF Go.Proofs.Try.prog n_f20 [.sl false 30 (l.map evA),.lit (.int .i64 (k:Nat))] st (fun v st'=>∃ p tr,v = .ptr p 0∧PastK (st.boxes.length≤·) st' p tr (pAll (l.take k))∧Lo (st.boxes.length≤·) st st'):=by
 refine a8 hmix k_f20 rfl rfl fun Q hQ=>?_
 unfold aFun c_f20
 simp (config:=KF) (disch:=omega) only [bZ,id,↓reduceIte,Nat.reduceEqDiff,reduceCtorEq]
 refine aK rfl e_f37 (kF st) rfl fun v s1 hr=>?_
 obtain ⟨rfl,b1,b2⟩:=hr
 generalize st.boxes.length + 4 = p at b1 ⊢
 simp (config:=KF) (disch:=omega) only [bZ,↓reduceIte,Nat.reduceEqDiff,reduceCtorEq]
 rw [f20_9w]
 refine cJ (A:=Nat×AV×St) (fun a=>k - a.1) (fun a=>⟨[(0,.sl false 30 (l.map evA)),(5,.ptr p 0),(8,.lit (.int .i64 (k:Nat))),(9,.lit (.int .i64 (a.1:Nat)))],[]⟩) (fun a=>a.2.2)
  (fun a=>a.1≤k∧PastK (st.boxes.length≤·) a.2.2 p a.2.1 (pAll (l.take a.1))∧Lo (st.boxes.length≤·) st a.2.2) (0,_,s1) ⟨Nat.zero_le _,b1,b2⟩ (Sf.le_refl _) rfl ?_
 rintro ⟨j,tr,s⟩ ⟨h1,h2,h3⟩ K hK hKe hKr
 simp only at h1 h2 h3
 dsimp only
 by_cases hj:j < k
 ·have hn:=PSn.all (l.take j) 0 P0 PSn.zero
  rw [Nat.zero_add,List.length_take,Nat.min_eq_left (by omega)] at hn
  simp (config:=KF) (disch:=omega) only [bZ,id,↓reduceIte,Nat.reduceEqDiff,reduceCtorEq]
  refine aK rfl e_f38 (nB (fun b q=>Nat.le_trans h3.1 q) h2 hn (by omega) (show j < l.length by omega) hl) rfl fun v s2 hr=>?_
  obtain ⟨a1,a2⟩:=hr
  simp (config:=KF) (disch:=omega) only [bZ,↓reduceIte,Nat.reduceEqDiff,reduceCtorEq,aR]
  rw [← j9] at a1
  exact hK (j + 1,_,s2) _ ⟨by simp only; omega,a1,h3.trans a2⟩ (by simp only; omega) (Sf.le_refl _)
 ·have hjk:j = k:=by omega
  subst hjk
  simp (config:=KF) (disch:=omega) only [bZ,↓reduceIte,Nat.reduceEqDiff,reduceCtorEq]
  refine hKe _ _ _ ?_
  simp (config:=KF) (disch:=omega) only [bZ,retI,fT,↓reduceIte,Nat.reduceEqDiff]
  exact hQ _ _ ⟨p,tr,rfl,h2,h3⟩
theorem e8 (st:St) (l:List Ev) (at_ most:Int) (hl:l.length≤1000000):aI Go.Proofs.Try.prog n_f19 [.sl false 30 (l.map evA),.lit (.int .i64 at_),.lit (.int .i64 most)] st (.lit (.int .i64 (if 5000 < l.length then 7 else if at_ < 0∨most < at_ then 3 else 0))):=by
 have hll:(l.map evA).length = l.length:=List.length_map ..
 refine aP hmix k_f19 rfl rfl fun Q hQ=>?_
 unfold aFun c_f19
 by_cases c1:5000 < l.length
 ·rw [if_pos c1] at hQ
  simp (config:=KF) (disch:=omega) only [bZ,aD,retI,lenI,eT,↓reduceIte,Nat.reduceEqDiff,Nat.reduceAdd,reduceCtorEq,hll]
  exact hQ _
 ·rw [if_neg c1] at hQ
  by_cases c2:at_ < 0
  ·rw [if_pos (.inl c2)] at hQ
   simp (config:=KF) (disch:=omega) only [bZ,aD,retI,aG,AI.dst,lenI,eT,↓reduceIte,Nat.reduceEqDiff,Nat.reduceAdd,reduceCtorEq,aM,hll]
   exact hQ _
  ·by_cases c3:most < at_
   ·rw [if_pos (.inr c3)] at hQ
    simp (config:=KF) (disch:=omega) only [bZ,aD,retI,AI.dst,lenI,eT,↓reduceIte,Nat.reduceEqDiff,Nat.reduceAdd,reduceCtorEq,aY,hll]
    exact hQ _
   ·rw [if_neg (by omega)] at hQ
    simp (config:=KF) (disch:=omega) only [bZ,retI,AI.dst,lenI,eT,↓reduceIte,Nat.reduceEqDiff,Nat.reduceAdd,reduceCtorEq,aY,hll]
    exact hQ _
end Go.Fx.YtgnockaonokmaaaFx

