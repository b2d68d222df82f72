/- What the functions that the statement reaches compute: part 22. -/
import Derived.Test.YtgmeefljgbaanaaFxW21
namespace Go.Fx.YtgmeefljgbaanaaFx
open Go Go.Fx
attribute [local irreducible] aC runI aG aH

set_option maxRecDepth 100000
set_option maxHeartbeats 4000000

theorem qP:∀{a b c d:List AV},leL a b→leL c d→leL (a++c) (b++d)
 | [],[],_,_,_,h=>h
 | [],_::_,_,_,h,_=>h.elim
 |_::_,[],_,_,h,_=>h.elim
 |_::_,_::_,_,_,⟨h1,h2⟩,h=>⟨h1,qP h2 h⟩
def RLe(v v':AV):Prop:=∀(g:Gh) (u:Value),R g v u→R g v' u
theorem RLe.sl{k:Nat}{es ds:List AV}(hl:ds.length=es.length)(hk:∀e∈ds,e.cells.length=k)(hc:leL (es.flatMap AV.cells) (ds.flatMap AV.cells)):RLe (.sl false k es) (.sl false k ds):=by
 intro g u h
 obtain⟨q1,q2⟩:=iX hc
 have hat:∀(i:Nat) x,(ds.flatMap AV.cells)[i]?=some x→∃y,(es.flatMap AV.cells)[i]?=some y∧AV.le y x:=fun i x hx=>by
  have hlt:=(List.getElem?_eq_some_iff.1 hx).1
  have hy:(es.flatMap AV.cells)[i]?=some ((es.flatMap AV.cells)[i]'(by omega)):=List.getElem?_eq_getElem (by omega)
  exact⟨_,hy,q2 i _ x hy hx⟩
 cases h with
 | sl _ _ _ us b o c hcc hkk h1 h2 h3 =>
   rw[←hl]
   refine .sl false k ds us b o c (by omega) hk (fun i x hx=>?_) (fun i x hx=>?_) (fun i x hx=>?_)
   ·obtain⟨y,hy,_⟩:=hat i x hx;exact h1 i y hy
   ·obtain⟨y,hy,hle⟩:=hat i x hx;exact hle.r (h2 i y hy)
   ·obtain⟨y,hy,_⟩:=hat i x hx;exact h3 i y hy
 | slE _ _ a c =>
   have:ds= []:=by simpa using hl
   subst this;exact .slE false k a c
 | slN =>
   have:ds= []:=by simpa using hl
   subst this;exact .slN false k
theorem RLe.net{n a a' w:AV}{r:List AV}(h:RLe a a'):RLe (.tup (.agg [n,a,w]::r)) (.tup (.agg [n,a',w]::r)):=by
 intro g u hr
 cases hr with
 | tup _ us hu hx =>
   refine .tup _ us hu fun i x u hi hu'=>?_
   cases i with
   | zero =>
     simp only[List.getElem?_cons_zero,Option.some.injEq]at hi
     subst hi
     have:=hx 0 _ u rfl hu'
     cases this with
     | agg _ us2 hu2 hx2 =>
       refine .agg _ us2 hu2 fun j x u hj hu3=>?_
       match j with
       |0=>exact hx2 0 x u hj hu3
       | 1 =>
         simp only[List.getElem?_cons_succ,List.getElem?_cons_zero,Option.some.injEq]at hj
         subst hj
         exact h g u (hx2 1 a u rfl hu3)
       |j+2=>exact hx2 (j+2) x u (by simpa using hj) hu3
   |succ i=>exact hx (i+1) x u (by simpa using hi) hu'
theorem monoR{P:Program}{f:FuncId}{vs:List AV}{st:St}{Q Q':AV→St→Prop}(h:aF P f vs st Q)(hq:∀v st',Q v st'→∃cs ds,v= .tup cs∧RLe (.tup cs) (.tup ds)∧Q' (.tup ds) st'):aF P f vs st Q' :=
 fun D g w us L hg hb ha=>(h D g w us L hg hb ha).mono fun _ _ ⟨u,v,st',g',he,hQ,h1,h2,h3,h4⟩=>by
  obtain⟨cs,ds,rfl,hv,hQ'⟩:=hq v st' hQ
  exact⟨u,.tup ds,st',g',he,hQ',h1,h2,hv g' u h3,fun i c x hc hx=>by
   cases i with
   |succ i=>simp[AV.cells]at hc
   |zero=>simp[AV.cells]at hc;subst hc;exact Own.of_no trivial⟩

theorem ins_eq{N:Nat}{S:Sk}(hS:S.num=N):∀{l:List Sk} {j:Nat},l.Pairwise (fun S T=>S.num<T.num)→(∀x∈l,x.num≠N)→(∀x∈l.take j,x.num<N)→(∀x∈l.drop j,¬x.num<N)→insS S l=l.take j++S::l.drop j:=by
 intro l j hp hn h1 h2
 unfold insS
 rw[hS]
 have e:l=l.take j++l.drop j:=(List.take_append_drop j l).symm
 have f1:l.filter (fun T=>decide (T.num<N))=l.take j:=by
  conv=>lhs;rw[e]
  rw[List.filter_append,List.filter_eq_self.2 (fun x hx=>by simpa using h1 x hx),List.filter_eq_nil_iff.2 (fun x hx=>by simpa using h2 x hx),List.append_nil]
 have f2:l.filter (fun T=>decide (N<T.num))=l.drop j:=by
  conv=>lhs;rw[e]
  rw[List.filter_append,List.filter_eq_nil_iff.2 (fun x hx=>by have:=h1 x hx;simp;omega),List.filter_eq_self.2 (fun x hx=>by
   have:=h2 x hx
   have:=hn x (List.mem_of_mem_drop hx)
   simp;omega),List.nil_append]
 rw[f1,f2]
def newR(N:Nat)(nm:ByteArray)(port packets bytes pol:Int)(life:Nat):AV:=.agg [.lit (.int .i64 (N:Nat)),.lit (.string nm),.lit (.int .i64 port),.lit (.int .i64 packets),.lit (.int .i64 bytes),.lit (.int .i64 pol),.lit (.int .u64 (life:Nat)),.lit (.slice none 0 0),.lit (.int .i64 0),.lit (.int .i64 0)]
section
variable {R:NR} {k:Nat}
theorem rbind_raw(h:ROk R k)(nm:ByteArray)(port packets bytes pol:Int)(life:Nat)(hnm:nm.size<1000000000)(hva:eE nm port=true)(g1:1≤packets)(g2:packets≤256)(g3:0≤bytes)(g4:bytes≤65536)(g5:1≤pol)(g6:pol≤2)(hof0:ofS nm port R.socks=none)(hln:R.socks.length<64) :
  aF Go.Proofs.Try.prog n_f59 [rnV R,adAV nm port,.lit (.int .i64 packets),.lit (.int .i64 bytes),.lit (.int .i64 pol),.lit (.int .u64 (life:Nat))] ⟨[]⟩
   (fun v _=>∃j,j≤R.socks.length∧(∀x∈R.socks.take j,x.num<dG R.socks 64 0)∧(∀x∈R.socks.drop j,¬x.num<dG R.socks 64 0)∧atS (dG R.socks 64 0:Nat) R.socks=none∧v= .tup [.agg [.lit (.int .u64 (R.now:Nat)),.sl false 10 ((R.socks.take j).map skV++newR (dG R.socks 64 0) nm port packets bytes pol life::(R.socks.drop j).map skV),wsV R.ws],.lit (.int .i64 (dG R.socks 64 0:Nat)),.lit (.int .i64 0)]):=by
 obtain⟨s1,s2,s3,s4,s5,s6,s7,s8⟩:=aB R.socks
 obtain⟨w1,w2,w3,w4,w5,w6,w7,w8⟩:=aE R.ws
 have hsl:R.socks.length≤1000:=by omega
 have hwl:R.ws.length≤1000:=by have:=h.wl;omega
 have had:=fT ⟨[]⟩ nm port hnm
 have hof:=kL (R:=R) hsl hwl nm port ⟨[]⟩
 rw[hva]at had
 rcases n9 nm port R.socks with⟨f1,_⟩|⟨j,hj,f1,f2⟩
 case inr=>rw[hof0]at f2;cases f2
 rw[f1]at hof
 refine aK hmix k_f59 rfl rfl fun Q hQ=>?_
 unfold aFun c_f59
 unfold adAV at had hof ⊢
 have hat:∀n,_:=fun n=>jf (R:=R) hsl hwl n ⟨[]⟩
 unfold rnV at hof hat ⊢
 simp(config:=KF) (disch:=omega)only[bZ,aa,id,↓reduceIte,Nat.reduceEqDiff,Nat.reduceAdd,Nat.reduceLeDiff,reduceCtorEq,s2,s4,w2,w4]
 refine ag rfl e_f73 had rfl ?_
 simp(config:=KF) (disch:=omega)only[bZ,AI.dst,aa,unA,id,↓reduceIte,Nat.reduceEqDiff,Nat.reduceAdd,Nat.reduceLeDiff,s2,w2]
 refine ag (by simp[am,ai,aw,ar,aM,s2,w2]) e_f74 hof (by simp[ao,aq,aI,s5,w5]) ?_
 simp(config:=KF) (disch:=omega)only[bZ,addA,aa,↓reduceIte,Nat.reduceEqDiff,Int.reduceNeg,s1,s8]
 rw[f59_25w]
 generalize hN:dG R.socks 64 0=N at hQ
 refine bB (A:=Nat) (fun a=>64-a) (fun a=>⟨[(2,.lit (.int .i64 packets)),(3,.lit (.int .i64 bytes)),(4,.lit (.int .i64 pol)),(5,.lit (.int .u64 (life:Nat))),(6,.lptr 6 0),(7,.lptr 7 0),(12,.lptr 12 0),(15,.lit (.int .i64 (a:Nat)))],[(6,[.lit (.int .u64 (R.now:Nat)),ssV R.socks,wsV R.ws]),(7,[.lit (.string nm),.lit (.int .i64 port)]),(12,[.lit (.int .u64 0),.lit (.slice none 0 0),.lit (.slice none 0 0)])]⟩) (fun _=>⟨[]⟩)
  (fun a=>(∀j,j<a→(atS (j:Int) R.socks).isSome=true)∧dG R.socks (64-a) a=N) 0 ⟨fun _ q=>absurd q (Nat.not_lt_zero _),hN⟩ (Sf.le_refl _) rfl ?_
 rintro a ⟨a1,a2⟩ K hK hKe hKr
 have hal:=used_len a1
 have hat':=hat a
 have hfr:dG R.socks (64-a) a=if(atS (a:Int) R.socks).isSome then dG R.socks (64-(a+1)) (a+1)else a:=by
  rw[show 64-a=(64-(a+1))+1 by omega];rfl
 rw[hfr]at a2
 rcases eA (a:Nat) R.socks with⟨e1,e2⟩|⟨i,hi,e1,_,e3,_,_⟩
 case inr =>
  rw[e1]at hat'
  rw[e3]at a2
  simp(config:=KF) (disch:=omega)only[bZ,aa,id,↓reduceIte,Nat.reduceEqDiff,Nat.reduceAdd,Nat.reduceLeDiff,s2,w2]
  refine ag (by simp[am,ai,aw,ar,aM,s2,w2]) e_f41 hat' (by simp[ao,aq,aI,s5,w5]) ?_
  simp(config:=KF) (disch:=omega)only[bZ,↓reduceIte,Nat.reduceEqDiff]
  refine hK (a+1) _ ⟨fun j hj=>?_,a2⟩ (by omega) (Sf.le_refl _)
  rcases Nat.lt_or_eq_of_le (Nat.le_of_lt_succ hj)with q|q
  ·exact a1 j q
  ·rw[q,e3];rfl
 rw[e2]at a2
 simp only[Option.isSome_none,Bool.false_eq_true,if_false]at a2
 subst a2
 rw[e1]at hat'
 have hno:∀x∈R.socks,x.num≠a:=fun x hx e=>by
  have:=fi h.srt hx
  rw[e,e2]at this;cases this
 simp(config:=KF) (disch:=omega)only[bZ,aa,id,↓reduceIte,Nat.reduceEqDiff,Nat.reduceAdd,Nat.reduceLeDiff,s2,w2]
 refine ag (by simp[am,ai,aw,ar,aM,s2,w2]) e_f41 hat' (by simp[ao,aq,aI,s5,w5]) ?_
 simp(config:=KF) (disch:=omega)only[bZ,↓reduceIte,Nat.reduceEqDiff,Int.reduceNeg]
 refine hKe _ _ _ ?_
 simp(config:=KF) (disch:=omega)only[bZ,↓reduceIte,Nat.reduceEqDiff]
 rw[f59_38w]
 refine bB (A:=Nat) (fun j=>R.socks.length-j) (fun j=>⟨[(2,.lit (.int .i64 packets)),(3,.lit (.int .i64 bytes)),(4,.lit (.int .i64 pol)),(5,.lit (.int .u64 (life:Nat))),(6,.lptr 6 0),(7,.lptr 7 0),(12,.lptr 12 0),(15,.lit (.int .i64 (a:Nat))),(16,rowG 10 ((R.socks.take j).map skV)),(17,.lit (.int .i64 (j:Nat)))],[(6,[.lit (.int .u64 (R.now:Nat)),ssV R.socks,wsV R.ws]),(7,[.lit (.string nm),.lit (.int .i64 port)]),(12,[.lit (.int .u64 0),.lit (.slice none 0 0),.lit (.slice none 0 0)])]⟩) (fun _=>⟨[]⟩)
  (fun j=>j≤R.socks.length∧∀x∈R.socks.take j,x.num<a) 0 ⟨Nat.zero_le _,fun x hx=>by simp at hx⟩ (Sf.le_refl _) rfl ?_
 rintro j ⟨j1,j2⟩ K2 hK2 hKe2 hKr2
 obtain⟨r1,r2,r3,r4⟩:=nZ 10 ((R.socks.take j).map skV)
 have htl:((R.socks.take j).map skV).length=j:=by rw[List.length_map,List.length_take];omega
 rw[htl]at r4
 have hd1:=kM (R.socks.take j)
 have hd2:=kM (R.socks.drop j)
 have hdl:((R.socks.drop j).map skV).length≤64:=by rw[List.length_map,List.length_drop];omega
 have hend:(∀x∈R.socks.drop j,¬x.num<a)→∀s:St,Q (.tup [.agg [.lit (.int .u64 (R.now:Nat)),.sl false 10 ((R.socks.take j).map skV++newR a nm port packets bytes pol life::(R.socks.drop j).map skV),wsV R.ws],.lit (.int .i64 (a:Nat)),.lit (.int .i64 0)]) s:=fun e s=>hQ _ s ⟨j,j1,j2,e,e2,rfl⟩
 unfold newR at hend
 by_cases hj:j<R.socks.length
 ·have hg:=eW hj
  have hne:R.socks≠[]:=fun e=>by rw[e]at hj;simp at hj
  have hsv:ssV R.socks= .sl false 10 (R.socks.map skV):=if_neg hne
  have hll:(R.socks.map skV).length=R.socks.length:=List.length_map ..
  have hdm:(R.socks.map skV).drop j=(R.socks.drop j).map skV:=(List.map_drop ..).symm
  have hn:=hK2 (j+1)
  rw[hsv]at hn s1 s2 s3 s4 s5 s6 s7 ⊢
  by_cases hlt:R.socks[j].num<a
  ·have htk:(R.socks.take (j+1)).map skV=(R.socks.take j).map skV++[.agg [.lit (.int .i64 (R.socks[j].num:Nat)),.lit (.string R.socks[j].nm),.lit (.int .i64 R.socks[j].port),.lit (.int .i64 (R.socks[j].pks:Nat)),.lit (.int .i64 (R.socks[j].byt:Nat)),.lit (.int .i64 R.socks[j].pol),.lit (.int .u64 (R.socks[j].life:Nat)),.sl false 4 (R.socks[j].q.map pV),.lit (.int .i64 (R.socks[j].dr:Nat)),.lit (.int .i64 (R.socks[j].old:Nat))]]:=by
    rw[List.take_succ_eq_append_getElem hj,List.map_append];rfl
   have hfin:=fun sf hs=>hn sf ⟨hj,fun x hx=>by
    rw[List.take_succ_eq_append_getElem hj]at hx
    rcases List.mem_append.1 hx with hx|hx
    ·exact j2 x hx
    ·simp only[List.mem_singleton]at hx;subst hx;exact hlt⟩ (by omega) hs
   rw[htk,je (by simp)]at hfin
   by_cases h0:j=0
   ·subst h0
    rw[List.take_zero,List.map_nil,List.nil_append]at hfin
    rw[List.take_zero,List.map_nil,nY]
    simp(config:=KF) (disch:=omega)only[bZ,AI.dst,dX,ci,ixSV,bslV,cX,List.reduceReplicate,lenI,addA,aa,bd,srcA,cd,bN,↓reduceIte,Nat.reduceEqDiff,Nat.reduceAdd,Nat.reduceLT,Nat.reduceLeDiff,Int.reduceLE,bg,ba,Int.zero_add,s1,hg,hll]
    exact hfin _ (Sf.le_refl _)
   ·have hr:rowG 10 ((R.socks.take j).map skV)= .sl true 10 ((R.socks.take j).map skV):=je fun e=>by
     have:=congrArg List.length e
     rw[htl]at this;exact h0 this
    rw[hr]
    simp(config:=KF) (disch:=omega)only[bZ,AI.dst,dX,ci,ixSV,bslV,cX,List.reduceReplicate,lenI,addA,aa,ce,srcA,cd,bN,↓reduceIte,Nat.reduceEqDiff,Nat.reduceAdd,Nat.reduceLT,Nat.reduceLeDiff,bg,ba,s1,hg,hll,htl]
    exact hfin _ (Sf.le_refl _)
  ·have hend':=hend fun x hx=>by
    intro hxl
    obtain⟨i,hi,rfl⟩:=List.mem_iff_getElem.1 hx
    rw[List.length_drop]at hi
    rw[List.getElem_drop]at hxl
    rcases Nat.eq_zero_or_pos i with q|q
    ·subst q;exact hlt hxl
    ·have:=List.pairwise_iff_getElem.1 h.srt j (j+i) hj (by omega) (by omega)
     omega
   by_cases h0:j=0
   ·subst h0
    rw[List.take_zero,List.map_nil,List.nil_append,List.drop_zero]at hend'
    rw[List.take_zero,List.map_nil,nY]
    have hd3:=kM R.socks
    simp(config:=KF) (disch:=omega)only[bZ,AI.dst,ixSV,lenI,addA,aa,↓reduceIte,Nat.reduceEqDiff,Int.reduceLE,ba,s1,hg,hll]
    refine hKe2 _ _ _ ?_
    simp(config:=KF) (disch:=omega)only[bZ,retI,dX,dt,fc,ci,cu,bslV,dp,eU,cX,af,List.reduceReplicate,ixTo,lenI,addA,aa,bd,ce,srcA,cd,bN,bu,List.nil_append,List.cons_append,↓reduceIte,Nat.reduceEqDiff,Nat.reduceAdd,Nat.reduceLT,Nat.reduceLeDiff,Int.reduceLE,bF,bg,cZ,s1,w2,w4,hll,hd3]
    exact hend' _
   ·have hr:rowG 10 ((R.socks.take j).map skV)= .sl true 10 ((R.socks.take j).map skV):=je fun e=>by
     have:=congrArg List.length e
     rw[htl]at this;exact h0 this
    rw[hr]
    rw[List.append_cons]at hend'
    have hrm:eZ (j+1+(R.socks.drop j).length) 104=true:=bg (by rw[List.length_drop];omega)
    simp(config:=KF) (disch:=omega)only[bZ,AI.dst,ixSV,lenI,addA,aa,↓reduceIte,Nat.reduceEqDiff,ba,s1,hg,hll]
    refine hKe2 _ _ _ ?_
    simp(config:=KF) (disch:=omega)only[bZ,retI,dX,dt,fc,ci,cu,bslV,dp,eU,cX,af,List.reduceReplicate,ixTo,lenI,addA,aa,bd,ce,srcA,cd,bN,bu,↓reduceIte,Nat.reduceEqDiff,Nat.reduceAdd,Nat.reduceLT,Nat.reduceLeDiff,bF,bg,List.length_append,cZ,s1,w2,w4,hll,hdm,hd2,htl,hrm]
    exact hend' _
 ·obtain rfl:j=R.socks.length:=by omega
  have hend':=hend fun x hx=>by rw[List.drop_length]at hx;cases hx
  rw[List.drop_length,List.map_nil]at hend'
  rw[List.take_length]at hend' r1 r2 r3 r4 htl hd1 ⊢
  by_cases h0:R.socks= []
  ·have hsn:ssV R.socks= .lit (.slice none 0 0):=if_pos h0
   have hl0:R.socks.length=0:=by rw[h0];rfl
   rw[hsn]at s1 s2 s3 s4 s5 s6 s7 ⊢
   rw[h0,List.map_nil,List.nil_append]at hend'
   rw[h0,List.map_nil,nY]
   simp(config:=KF) (disch:=omega)only[bZ,AI.dst,lenI,addA,aa,↓reduceIte,Nat.reduceEqDiff,Int.reduceLT,s1]
   refine hKe2 _ _ _ ?_
   simp(config:=KF) (disch:=omega)only[bZ,retI,dX,dt,fc,ci,cu,bslV,dp,eU,cX,af,List.reduceReplicate,ixTo,lenI,addA,aa,bd,ce,srcA,cd,bN,bu,List.nil_append,List.cons_append,↓reduceIte,Nat.reduceEqDiff,Nat.reduceAdd,Nat.reduceLT,Nat.reduceLeDiff,Int.reduceLE,bg,cZ,s1,s2,s4,w2,w4]
   exact hend' _
  ·have hsv:ssV R.socks= .sl false 10 (R.socks.map skV):=if_neg h0
   have hr:rowG 10 (R.socks.map skV)= .sl true 10 (R.socks.map skV):=je (by simpa using h0)
   have hdn:(R.socks.map skV).drop R.socks.length= []:=by rw[←htl,List.drop_length]
   rw[hsv]at s1 s2 s3 s4 s5 s6 s7 ⊢
   rw[hr]
   simp(config:=KF) (disch:=omega)only[bZ,AI.dst,lenI,addA,aa,↓reduceIte,Nat.reduceEqDiff,s1,htl]
   refine hKe2 _ _ _ ?_
   simp(config:=KF) (disch:=omega)only[bZ,retI,dX,dt,fc,ci,cu,bslV,dp,eU,cX,af,List.reduceReplicate,ixTo,lenI,addA,aa,bd,ce,srcA,cd,bN,bu,↓reduceIte,Nat.reduceEqDiff,Nat.reduceAdd,Nat.reduceLT,Nat.reduceLeDiff,reduceCtorEq,bF,bg,List.length_append,cZ,s1,w2,w4,htl,hdn]
   exact hend' _
end
end Go.Fx.YtgmeefljgbaanaaFx

