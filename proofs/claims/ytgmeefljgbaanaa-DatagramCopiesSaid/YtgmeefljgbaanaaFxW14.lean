/- What the functions that the statement reaches compute: part 14. -/
import Derived.Test.YtgmeefljgbaanaaFxW13
namespace Go.Fx.YtgmeefljgbaanaaFx
open Go Go.Fx
attribute [local irreducible] aC runI aG aH

set_option maxRecDepth 100000
set_option maxHeartbeats 4000000

def pdV(d:List UInt8):AV:=if d= []then .lit (.slice none 0 0)else .sl false 1 (BB d)
def pV(p:Pk):AV:=.agg [.lit (.string p.nm),.lit (.int .i64 p.port),pdV p.data,.lit (.int .u64 (p.at_:Nat))]
def skV(S:Sk):AV:=.agg [.lit (.int .i64 (S.num:Nat)),.lit (.string S.nm),.lit (.int .i64 S.port),.lit (.int .i64 (S.pks:Nat)),.lit (.int .i64 (S.byt:Nat)),.lit (.int .i64 S.pol),.lit (.int .u64 (S.life:Nat)),.sl false 4 (S.q.map pV),.lit (.int .i64 (S.dr:Nat)),.lit (.int .i64 (S.old:Nat))]
def ssV(l:List Sk):AV:=if l= []then .lit (.slice none 0 0)else .sl false 10 (l.map skV)
def wtV(w:Wt):AV:=.agg [.lit (.int .i64 (w.task:Nat)),.lit (.int .i64 (w.sock:Nat)),.lit (.int .i64 w.most)]
def wsV(ws:List Wt):AV:=if ws= []then .lit (.slice none 0 0)else .sl false 3 (ws.map wtV)
def rnV(R:NR):AV:=.agg [.lit (.int .u64 (R.now:Nat)),ssV R.socks,wsV R.ws]
theorem bT(d:List UInt8):(pdV d).dis=pdV d∧(pdV d).own1=pdV d∧(pdV d).own2=pdV d∧(pdV d).solid1=true∧(pdV d).noL=true∧(pdV d).cells= [pdV d]∧(∀s,kill s (pdV d)=pdV d)∧∀st',lenI .sl st' (pdV d)= .ok (.lit (.int .i64 (d.length:Nat))):=by
 unfold pdV
 split
 ·rename_i h;rw[h];exact⟨rfl,rfl,rfl,rfl,rfl,rfl,fun _=>rfl,fun _=>rfl⟩
 ·exact⟨rfl,rfl,rfl,rfl,rfl,rfl,fun _=>rfl,fun _=>by rw[ew,bq]⟩
theorem aB(l:List Sk):(ssV l).dis=ssV l∧(ssV l).own1=ssV l∧(ssV l).own2=ssV l∧(ssV l).solid1=true∧(ssV l).noL=true∧(ssV l).cells= [ssV l]∧(∀s,kill s (ssV l)=ssV l)∧∀st',lenI .sl st' (ssV l)= .ok (.lit (.int .i64 (l.length:Nat))):=by
 unfold ssV
 split
 ·rename_i h;rw[h];exact⟨rfl,rfl,rfl,rfl,rfl,rfl,fun _=>rfl,fun _=>rfl⟩
 ·exact⟨rfl,rfl,rfl,rfl,rfl,rfl,fun _=>rfl,fun _=>by rw[ew,List.length_map]⟩
theorem aE(l:List Wt):(wsV l).dis=wsV l∧(wsV l).own1=wsV l∧(wsV l).own2=wsV l∧(wsV l).solid1=true∧(wsV l).noL=true∧(wsV l).cells= [wsV l]∧(∀s,kill s (wsV l)=wsV l)∧∀st',lenI .sl st' (wsV l)= .ok (.lit (.int .i64 (l.length:Nat))):=by
 unfold wsV
 split
 ·rename_i h;rw[h];exact⟨rfl,rfl,rfl,rfl,rfl,rfl,fun _=>rfl,fun _=>rfl⟩
 ·exact⟨rfl,rfl,rfl,rfl,rfl,rfl,fun _=>rfl,fun _=>by rw[ew,List.length_map]⟩
theorem eW{l:List Sk}{i:Nat}(h:i<l.length):(l.map skV).getD i .any= .agg [.lit (.int .i64 (l[i].num:Nat)),.lit (.string l[i].nm),.lit (.int .i64 l[i].port),.lit (.int .i64 (l[i].pks:Nat)),.lit (.int .i64 (l[i].byt:Nat)),.lit (.int .i64 l[i].pol),.lit (.int .u64 (l[i].life:Nat)),.sl false 4 (l[i].q.map pV),.lit (.int .i64 (l[i].dr:Nat)),.lit (.int .i64 (l[i].old:Nat))]:=by
 rw[List.getD_eq_getElem?_getD,List.getElem?_map,List.getElem?_eq_getElem h];rfl
theorem kJ{l:List Wt}{i:Nat}(h:i<l.length):(l.map wtV).getD i .any= .agg [.lit (.int .i64 (l[i].task:Nat)),.lit (.int .i64 (l[i].sock:Nat)),.lit (.int .i64 l[i].most)]:=by
 rw[List.getD_eq_getElem?_getD,List.getElem?_map,List.getElem?_eq_getElem h];rfl
theorem pk_getD{l:List Pk}{i:Nat}(h:i<l.length):(l.map pV).getD i .any= .agg [.lit (.string l[i].nm),.lit (.int .i64 l[i].port),pdV l[i].data,.lit (.int .u64 (l[i].at_:Nat))]:=by
 rw[List.getD_eq_getElem?_getD,List.getElem?_map,List.getElem?_eq_getElem h];rfl

theorem mh(c:Nat)(st:St):az Go.Proofs.Try.prog n_f85 [.lit (.int .u8 (c:Nat))] st (.lit (.bool (decide (65≤c∧c≤90∨97≤c∧c≤122)))):=by
 refine al hmix k_f85 rfl rfl fun Q hQ=>?_
 unfold aFun c_f85
 have hfin:∀x,x=decide (65≤c∧c≤90∨97≤c∧c≤122)→∀st',Q (.lit (.bool x)) st':=fun x hx st'=>by rw[hx];exact hQ st'
 (repeat' (first|omega|(simp(config:=KF) (disch:=omega)only[bZ,gB,retI,AI.dst,nD,↓reduceIte,Nat.reduceEqDiff,reduceCtorEq,ba])|refine aA (fun h=>?_) (fun h=>?_)|refine bj (fun h=>?_) (fun h=>?_)|refine cn (fun h=>?_) (fun h=>?_)|exact hfin _ (by first|(refine(decide_eq_true ?_).symm;omega)|(refine(decide_eq_false ?_).symm;omega)|(exact decide_eq_decide.2 (by omega))) _))
theorem okC_0(c:Nat):okC 0 c=decide (65≤c∧c≤90∨97≤c∧c≤122):=by
 unfold okC
 refine Bool.eq_iff_iff.2 ?_
 simp
theorem okC_s{i:Nat}(hi:1≤i)(c:Nat):okC i c=decide ((65≤c∧c≤90∨97≤c∧c≤122)∨(48≤c∧c≤57)∨c=45∨c=95):=by
 unfold okC
 have:¬i=0:=by omega
 refine Bool.eq_iff_iff.2 ?_
 simp[this]
theorem byte_at{nm:ByteArray}{i:Nat}(hi:i<nm.size):∃c r,(bW nm).drop i=c::r∧r=(bW nm).drop (i+1)∧(nm.data.getD i 0).toNat=c:=by
 have hl:i<(bW nm).length:=by rw[jX];exact hi
 refine⟨(bW nm)[i],_,List.drop_eq_getElem_cons hl,rfl,?_⟩
 have h1:(bW nm)[i]?=some (nm.data.getD i 0).toNat:=by
  unfold bW
  have hi':i<nm.data.size:=hi
  rw[List.getElem?_map,Array.getElem?_toList,Array.getElem?_eq_getElem hi',Array.getD_eq_getD_getElem?,Array.getElem?_eq_getElem hi']
  rfl
 rw[List.getElem?_eq_getElem hl]at h1
 exact(Option.some.inj h1).symm
theorem fT(st:St)(nm:ByteArray)(port:Int)(hb:nm.size<1000000000):az Go.Proofs.Try.prog n_f73 [adAV nm port] st (.lit (.bool (eE nm port))):=by
 refine al hmix k_f73 rfl rfl fun Q hQ=>?_
 unfold aFun c_f73
 unfold adAV
 have hfin:∀x,x=eE nm port→∀st',Q (.lit (.bool x)) st':=fun x hx st'=>by rw[hx];exact hQ st'
 have hbl:=jX nm
 unfold eE hZ at hfin
 by_cases h1:1≤nm.size
 case neg =>
  simp(config:=KF) (disch:=omega)only[bZ,retI,AI.dst,lenI,addA,aa,↓reduceIte,Nat.reduceEqDiff,Nat.reduceAdd,reduceCtorEq,ba]
  exact hfin _ (by simp[h1]) _
 by_cases h2:nm.size≤32
 case neg =>
  simp(config:=KF) (disch:=omega)only[bZ,retI,AI.dst,lenI,addA,aa,↓reduceIte,Nat.reduceEqDiff,Nat.reduceAdd,reduceCtorEq,ba]
  exact hfin _ (by simp[h2]) _
 obtain⟨c,r,e1,e2,e3⟩:=byte_at (nm:=nm) (i:=0) h1
 rw[List.drop_zero]at e1
 simp(config:=KF) (disch:=omega)only[bZ,AI.dst,o_ixStr,ixStrV,lenI,addA,aa,id,↓reduceIte,Nat.reduceEqDiff,Nat.reduceAdd,Int.reduceLE,reduceCtorEq,e3]
 refine ag rfl e_f85 (mh c st) rfl ?_
 have ho:okF 0 (bW nm)=(okC 0 c && okF 1 r):=by rw[e1];rfl
 rw[okC_0]at ho
 by_cases hc:65≤c∧c≤90∨97≤c∧c≤122
 case neg =>
  rw[decide_eq_false hc]
  simp(config:=KF) (disch:=omega)only[bZ,retI,AI.dst,unA,↓reduceIte,Nat.reduceEqDiff]
  exact hfin _ (by rw[ho,decide_eq_false hc];rfl) _
 rw[decide_eq_true hc,Bool.true_and]at ho
 rw[decide_eq_true hc]
 by_cases h3:1≤port
 case neg =>
  simp(config:=KF) (disch:=omega)only[bZ,retI,AI.dst,addA,aa,unA,↓reduceIte,Nat.reduceEqDiff,ba]
  refine hfin _ ?_ _
  have:¬(0<port):=by omega
  simp[this]
 by_cases h4:port≤65535
 case neg =>
  simp(config:=KF) (disch:=omega)only[bZ,retI,AI.dst,addA,aa,unA,↓reduceIte,Nat.reduceEqDiff]
  refine hfin _ ?_ _
  simp[h4]
 have hok:∀x,x=okF 0 (bW nm)→∀st',Q (.lit (.bool x)) st':=fun x hx st'=>by
  refine hfin _ ?_ _
  have:0<port:=by omega
  rw[hx];simp[h1,h2,h4,this]
 simp(config:=KF) (disch:=omega)only[bZ,AI.dst,addA,aa,unA,↓reduceIte,Nat.reduceEqDiff]
 rw[f73_13w]
 refine bB (A:=Nat) (fun i=>nm.size-i) (fun i=>⟨[(1,.lptr 1 0),(3,.lit (.int .i64 (i:Nat)))],[(1,[.lit (.string nm),.lit (.int .i64 port)])]⟩) (fun _=>st)
  (fun i=>1≤i∧i≤nm.size∧okF 0 (bW nm)=okF i ((bW nm).drop i)) 1 ⟨Nat.le_refl _,h1,by rw[ho,e2]⟩ (Sf.le_refl _) rfl ?_
 rintro i ⟨i1,i2,i3⟩ K hK hKe hKr
 by_cases hi:i<nm.size
 ·obtain⟨c,r,f1,f2,f3⟩:=byte_at (nm:=nm) (i:=i) hi
  rw[f1,okF,okC_s i1]at i3
  simp(config:=KF) (disch:=omega)only[bZ,o_ixStr,ixStrV,lenI,addA,aa,id,↓reduceIte,Nat.reduceEqDiff,f3]
  refine ag rfl e_f85 (mh c st) rfl ?_
  by_cases hc:65≤c∧c≤90∨97≤c∧c≤122
  ·rw[decide_eq_true hc]
   rw[decide_eq_true (.inl hc),Bool.true_and,f2]at i3
   simp(config:=KF) (disch:=omega)only[bZ,gB,AI.dst,unA,↓reduceIte,Nat.reduceEqDiff]
   exact hK (i+1) _ ⟨by omega,hi,i3⟩ (by omega) (Sf.le_refl _)
  ·rw[decide_eq_false hc]
   have hgood:(48≤c∧c≤57)∨c=45∨c=95→okF 0 (bW nm)=okF (i+1) ((bW nm).drop (i+1)):=fun q=>by
    rw[i3,decide_eq_true (.inr q),Bool.true_and,f2]
   have hbad:¬((48≤c∧c≤57)∨c=45∨c=95)→false=okF 0 (bW nm):=fun q=>by
    rw[i3,decide_eq_false (fun z=>z.elim hc q),Bool.false_and]
   by_cases hd:48≤c∧c≤57
   ·obtain⟨d1,d2⟩:=hd
    simp(config:=KF) (disch:=omega)only[bZ,AI.dst,unA,↓reduceIte,Nat.reduceEqDiff]
    exact hK (i+1) _ ⟨by omega,hi,hgood (.inl ⟨d1,d2⟩)⟩ (by omega) (Sf.le_refl _)
   ·by_cases c1:c=45
    ·subst c1
     simp(config:=KF) (disch:=omega)only[bZ,AI.dst,unA,↓reduceIte,Nat.reduceEqDiff,Int.reduceLT,not_true_eq_false]
     exact hK (i+1) _ ⟨by omega,hi,hgood (.inr (.inl rfl))⟩ (by omega) (Sf.le_refl _)
    ·by_cases c2:c=95
     ·subst c2
      simp(config:=KF) (disch:=omega)only[bZ,AI.dst,unA,↓reduceIte,Nat.reduceEqDiff,Int.reduceLT,Int.reduceEq,not_false_eq_true,not_true_eq_false,ba]
      exact hK (i+1) _ ⟨by omega,hi,hgood (.inr (.inr rfl))⟩ (by omega) (Sf.le_refl _)
     ·have hb:=hbad (by omega)
      by_cases c3:c<48
      ·simp(config:=KF) (disch:=omega)only[bZ,AI.dst,unA,↓reduceIte,Nat.reduceEqDiff,ba]
       refine hKr _ _ ?_
       simp(config:=KF) (disch:=omega)only[bZ,retI,↓reduceIte]
       exact hok _ hb _
      ·have c4:57<c:=by omega
       simp(config:=KF) (disch:=omega)only[bZ,AI.dst,unA,↓reduceIte,Nat.reduceEqDiff,ba]
       refine hKr _ _ ?_
       simp(config:=KF) (disch:=omega)only[bZ,retI,↓reduceIte]
       exact hok _ hb _
 ·obtain rfl:i=nm.size:=by omega
  simp(config:=KF) (disch:=omega)only[bZ,lenI,addA,aa,↓reduceIte,Nat.reduceEqDiff]
  refine hKe _ _ _ ?_
  simp(config:=KF) (disch:=omega)only[bZ,retI,↓reduceIte]
  refine hok _ ?_ _
  rw[i3,List.drop_of_length_le (by omega)];rfl
end Go.Fx.YtgmeefljgbaanaaFx

namespace Go.Fx.YtgmeefljgbaanaaFx
open Go Go.Fx
attribute [local irreducible] aC runI aG aH

set_option maxRecDepth 100000
set_option maxHeartbeats 4000000

def fstI{A:Type}(f:A→Bool):List A→Int→Int
 | [],_=>-1
 |x::r,i=>if f x=true then i else fstI f r (i+1)
theorem kK{A:Type}(f:A→Bool):∀(l:List A) (k i:Nat),(∀x∈l.take i,f x=false)→(h:i<l.length)→f l[i]=true→fstI f l k=((k+i:Nat):Int)
 | [],_,_,_,h,_=>by simp at h
 | x :: r, k, 0, _, _, hf => by
   have hf':f x=true:=hf
   unfold fstI
   rw[if_pos hf'];rfl
 | x :: r, k, i + 1, ht, h, hf => by
   unfold fstI
   have hx:f x=false:=ht x (by simp)
   rw[if_neg (by rw[hx];simp)]
   have:=kK f r (k+1) i (fun y hy=>ht y (by simp[hy])) (by simpa using h) hf
   rw[show(((k+1:Nat)):Int)=(k:Int)+1 by omega]at this
   rw[this];omega
theorem gH{A:Type}(f:A→Bool):∀(l:List A) (k:Int),(∀x∈l,f x=false)→fstI f l k= -1
 | [],_,_=>rfl
 | x :: r, k, h => by
   unfold fstI
   rw[if_neg (by rw[h x (by simp)];simp)]
   exact gH f r (k+1) fun y hy=>h y (by simp[hy])
section
variable {R:NR}
theorem jf(hs:R.socks.length≤1000)(hw:R.ws.length≤1000)(n:Int)(st:St):az Go.Proofs.Try.prog n_f41 [rnV R,.lit (.int .i64 n)] st (.lit (.int .i64 (fstI (fun x:Sk=>decide ((x.num:Int)=n)) R.socks 0))):=by
 obtain⟨s1,s2,s3,s4,s5,s6,s7,s8⟩:=aB R.socks
 obtain⟨w1,w2,w3,w4,w5,w6,w7,w8⟩:=aE R.ws
 refine al hmix k_f41 rfl rfl fun Q hQ=>?_
 unfold aFun c_f41
 unfold rnV
 simp(config:=KF) (disch:=omega)only[bZ,↓reduceIte,Nat.reduceEqDiff,Nat.reduceAdd,reduceCtorEq,s2,s4,w2,w4]
 rw[f41_7w]
 refine bB (A:=Nat) (fun i=>R.socks.length-i) (fun i=>⟨[(1,.lit (.int .i64 n)),(2,.lptr 2 0),(5,.lit (.int .i64 (i:Nat)))],[(2,[.lit (.int .u64 (R.now:Nat)),ssV R.socks,wsV R.ws])]⟩) (fun _=>st)
  (fun i=>i≤R.socks.length∧∀x∈R.socks.take i,(fun x:Sk=>decide ((x.num:Int)=n)) x=false) 0 ⟨Nat.zero_le _,by simp⟩ (Sf.le_refl _) rfl ?_
 rintro i ⟨i1,i2⟩ K hK hKe hKr
 by_cases h3:i<R.socks.length
 ·have hg:=eW h3
  have hsv:ssV R.socks= .sl false 10 (R.socks.map skV):=by unfold ssV;rw[if_neg (fun e=>by rw[e]at h3;simp at h3)]
  have hll:(R.socks.map skV).length=R.socks.length:=List.length_map ..
  have hn:=hK (i+1)
  rw[hsv]at hn s1 s2 s3 s4 s5 s6 s7 ⊢
  by_cases h4:((R.socks[i].num:Int)=n)
  ·have hf:=kK (fun x:Sk=>decide ((x.num:Int)=n)) R.socks 0 i i2 h3 (decide_eq_true h4)
   rw[show((0:Nat):Int)=0 from rfl,Nat.zero_add]at hf
   rw[hf]at hQ
   simp(config:=KF) (disch:=omega)only[bZ,ixSV,lenI,addA,aa,↓reduceIte,Nat.reduceEqDiff,s1,hg,hll]
   refine hKr _ _ ?_
   simp(config:=KF) (disch:=omega)only[bZ,retI,↓reduceIte]
   exact hQ _
  ·have hnn:∀x∈R.socks.take (i+1),(fun x:Sk=>decide ((x.num:Int)=n)) x=false:=by
    rw[List.take_succ_eq_append_getElem h3]
    intro x hx
    rcases List.mem_append.1 hx with hx|hx
    ·exact i2 x hx
    ·simp only[List.mem_singleton]at hx;subst hx;exact decide_eq_false h4
   simp(config:=KF) (disch:=omega)only[bZ,ixSV,lenI,addA,aa,↓reduceIte,Nat.reduceEqDiff,s1,hg,hll]
   exact hn _ ⟨h3,hnn⟩ (by omega) (Sf.le_refl _)
 ·obtain rfl:i=R.socks.length:=by omega
  rw[List.take_length]at i2
  rw[gH (fun x:Sk=>decide ((x.num:Int)=n)) R.socks 0 i2]at hQ
  simp(config:=KF) (disch:=omega)only[bZ,addA,aa,↓reduceIte,Nat.reduceEqDiff,s1,s8]
  refine hKe _ _ _ ?_
  simp(config:=KF) (disch:=omega)only[bZ,retI,↓reduceIte,Int.reduceNeg]
  exact hQ _
theorem jR(hs:R.socks.length≤1000)(hw:R.ws.length≤1000)(n:Int)(st:St):az Go.Proofs.Try.prog n_f75 [rnV R,.lit (.int .i64 n)] st (.lit (.int .i64 (fstI (fun x:Wt=>decide ((x.sock:Int)=n)) R.ws 0))):=by
 obtain⟨s1,s2,s3,s4,s5,s6,s7,s8⟩:=aB R.socks
 obtain⟨w1,w2,w3,w4,w5,w6,w7,w8⟩:=aE R.ws
 refine al hmix k_f75 rfl rfl fun Q hQ=>?_
 unfold aFun c_f75
 unfold rnV
 simp(config:=KF) (disch:=omega)only[bZ,↓reduceIte,Nat.reduceEqDiff,Nat.reduceAdd,reduceCtorEq,s2,s4,w2,w4]
 rw[f75_7w]
 refine bB (A:=Nat) (fun i=>R.ws.length-i) (fun i=>⟨[(1,.lit (.int .i64 n)),(2,.lptr 2 0),(5,.lit (.int .i64 (i:Nat)))],[(2,[.lit (.int .u64 (R.now:Nat)),ssV R.socks,wsV R.ws])]⟩) (fun _=>st)
  (fun i=>i≤R.ws.length∧∀x∈R.ws.take i,(fun x:Wt=>decide ((x.sock:Int)=n)) x=false) 0 ⟨Nat.zero_le _,by simp⟩ (Sf.le_refl _) rfl ?_
 rintro i ⟨i1,i2⟩ K hK hKe hKr
 by_cases h3:i<R.ws.length
 ·have hg:=kJ h3

  have hsv:wsV R.ws= .sl false 3 (R.ws.map wtV):=by unfold wsV;rw[if_neg (fun e=>by rw[e]at h3;simp at h3)]
  have hll:(R.ws.map wtV).length=R.ws.length:=List.length_map ..
  have hn:=hK (i+1)
  rw[hsv]at hn w1 w2 w3 w4 w5 w6 w7 ⊢
  by_cases h4:((R.ws[i].sock:Int)=n)
  ·have hf:=kK (fun x:Wt=>decide ((x.sock:Int)=n)) R.ws 0 i i2 h3 (decide_eq_true h4)
   rw[show((0:Nat):Int)=0 from rfl,Nat.zero_add]at hf
   rw[hf]at hQ
   simp(config:=KF) (disch:=omega)only[bZ,ixSV,lenI,addA,aa,↓reduceIte,Nat.reduceEqDiff,w1,hg,hll]
   refine hKr _ _ ?_
   simp(config:=KF) (disch:=omega)only[bZ,retI,↓reduceIte]
   exact hQ _
  ·have hnn:∀x∈R.ws.take (i+1),(fun x:Wt=>decide ((x.sock:Int)=n)) x=false:=by
    rw[List.take_succ_eq_append_getElem h3]
    intro x hx
    rcases List.mem_append.1 hx with hx|hx
    ·exact i2 x hx
    ·simp only[List.mem_singleton]at hx;subst hx;exact decide_eq_false h4
   simp(config:=KF) (disch:=omega)only[bZ,ixSV,lenI,addA,aa,↓reduceIte,Nat.reduceEqDiff,w1,hg,hll]
   exact hn _ ⟨h3,hnn⟩ (by omega) (Sf.le_refl _)
 ·obtain rfl:i=R.ws.length:=by omega
  rw[List.take_length]at i2
  rw[gH (fun x:Wt=>decide ((x.sock:Int)=n)) R.ws 0 i2]at hQ
  simp(config:=KF) (disch:=omega)only[bZ,addA,aa,↓reduceIte,Nat.reduceEqDiff,w1,w8]
  refine hKe _ _ _ ?_
  simp(config:=KF) (disch:=omega)only[bZ,retI,↓reduceIte,Int.reduceNeg]
  exact hQ _
theorem n0(hs:R.socks.length≤1000)(hw:R.ws.length≤1000)(n:Int)(st:St):az Go.Proofs.Try.prog n_f80 [rnV R,.lit (.int .i64 n)] st (.lit (.int .i64 (fstI (fun x:Wt=>decide ((x.task:Int)=n)) R.ws 0))):=by
 obtain⟨s1,s2,s3,s4,s5,s6,s7,s8⟩:=aB R.socks
 obtain⟨w1,w2,w3,w4,w5,w6,w7,w8⟩:=aE R.ws
 refine al hmix k_f80 rfl rfl fun Q hQ=>?_
 unfold aFun c_f80
 unfold rnV
 simp(config:=KF) (disch:=omega)only[bZ,↓reduceIte,Nat.reduceEqDiff,Nat.reduceAdd,reduceCtorEq,s2,s4,w2,w4]
 rw[f80_7w]
 refine bB (A:=Nat) (fun i=>R.ws.length-i) (fun i=>⟨[(1,.lit (.int .i64 n)),(2,.lptr 2 0),(5,.lit (.int .i64 (i:Nat)))],[(2,[.lit (.int .u64 (R.now:Nat)),ssV R.socks,wsV R.ws])]⟩) (fun _=>st)
  (fun i=>i≤R.ws.length∧∀x∈R.ws.take i,(fun x:Wt=>decide ((x.task:Int)=n)) x=false) 0 ⟨Nat.zero_le _,by simp⟩ (Sf.le_refl _) rfl ?_
 rintro i ⟨i1,i2⟩ K hK hKe hKr
 by_cases h3:i<R.ws.length
 ·have hg:=kJ h3

  have hsv:wsV R.ws= .sl false 3 (R.ws.map wtV):=by unfold wsV;rw[if_neg (fun e=>by rw[e]at h3;simp at h3)]
  have hll:(R.ws.map wtV).length=R.ws.length:=List.length_map ..
  have hn:=hK (i+1)
  rw[hsv]at hn w1 w2 w3 w4 w5 w6 w7 ⊢
  by_cases h4:((R.ws[i].task:Int)=n)
  ·have hf:=kK (fun x:Wt=>decide ((x.task:Int)=n)) R.ws 0 i i2 h3 (decide_eq_true h4)
   rw[show((0:Nat):Int)=0 from rfl,Nat.zero_add]at hf
   rw[hf]at hQ
   simp(config:=KF) (disch:=omega)only[bZ,ixSV,lenI,addA,aa,↓reduceIte,Nat.reduceEqDiff,w1,hg,hll]
   refine hKr _ _ ?_
   simp(config:=KF) (disch:=omega)only[bZ,retI,↓reduceIte]
   exact hQ _
  ·have hnn:∀x∈R.ws.take (i+1),(fun x:Wt=>decide ((x.task:Int)=n)) x=false:=by
    rw[List.take_succ_eq_append_getElem h3]
    intro x hx
    rcases List.mem_append.1 hx with hx|hx
    ·exact i2 x hx
    ·simp only[List.mem_singleton]at hx;subst hx;exact decide_eq_false h4
   simp(config:=KF) (disch:=omega)only[bZ,ixSV,lenI,addA,aa,↓reduceIte,Nat.reduceEqDiff,w1,hg,hll]
   exact hn _ ⟨h3,hnn⟩ (by omega) (Sf.le_refl _)
 ·obtain rfl:i=R.ws.length:=by omega
  rw[List.take_length]at i2
  rw[gH (fun x:Wt=>decide ((x.task:Int)=n)) R.ws 0 i2]at hQ
  simp(config:=KF) (disch:=omega)only[bZ,addA,aa,↓reduceIte,Nat.reduceEqDiff,w1,w8]
  refine hKe _ _ _ ?_
  simp(config:=KF) (disch:=omega)only[bZ,retI,↓reduceIte,Int.reduceNeg]
  exact hQ _
theorem kL(hs:R.socks.length≤1000)(hw:R.ws.length≤1000)(nm:ByteArray)(port:Int)(st:St):az Go.Proofs.Try.prog n_f74 [rnV R,adAV nm port] st (.lit (.int .i64 (fstI (fun x:Sk=>decide (x.nm=nm∧x.port=port)) R.socks 0))):=by
 obtain⟨s1,s2,s3,s4,s5,s6,s7,s8⟩:=aB R.socks
 obtain⟨w1,w2,w3,w4,w5,w6,w7,w8⟩:=aE R.ws
 refine al hmix k_f74 rfl rfl fun Q hQ=>?_
 unfold aFun c_f74
 unfold rnV adAV
 simp(config:=KF) (disch:=omega)only[bZ,↓reduceIte,Nat.reduceEqDiff,Nat.reduceAdd,reduceCtorEq,s2,s4,w2,w4]
 rw[f74_7w]
 refine bB (A:=Nat) (fun i=>R.socks.length-i) (fun i=>⟨[(2,.lptr 2 0),(3,.lptr 3 0),(5,.lit (.int .i64 (i:Nat)))],[(2,[.lit (.int .u64 (R.now:Nat)),ssV R.socks,wsV R.ws]),(3,[.lit (.string nm),.lit (.int .i64 port)])]⟩) (fun _=>st)
  (fun i=>i≤R.socks.length∧∀x∈R.socks.take i,(fun x:Sk=>decide (x.nm=nm∧x.port=port)) x=false) 0 ⟨Nat.zero_le _,by simp⟩ (Sf.le_refl _) rfl ?_
 rintro i ⟨i1,i2⟩ K hK hKe hKr
 by_cases h3:i<R.socks.length
 ·have hg:=eW h3
  have hsv:ssV R.socks= .sl false 10 (R.socks.map skV):=by unfold ssV;rw[if_neg (fun e=>by rw[e]at h3;simp at h3)]
  have hll:(R.socks.map skV).length=R.socks.length:=List.length_map ..
  have hn:=hK (i+1)
  rw[hsv]at hn s1 s2 s3 s4 s5 s6 s7 ⊢
  by_cases h4:(R.socks[i].nm=nm∧R.socks[i].port=port)
  ·have hf:=kK (fun x:Sk=>decide (x.nm=nm∧x.port=port)) R.socks 0 i i2 h3 (decide_eq_true h4)
   rw[show((0:Nat):Int)=0 from rfl,Nat.zero_add]at hf
   rw[hf]at hQ
   simp(config:=KF) (disch:=omega)only[bZ,eO,ixSV,lenI,addA,aa,↓reduceIte,Nat.reduceEqDiff,Nat.reduceAdd,Nat.reduceLeDiff,s1,hg,hll,ad_eql]
   refine hKr _ _ ?_
   simp(config:=KF) (disch:=omega)only[bZ,retI,↓reduceIte]
   exact hQ _
  ·have hnn:∀x∈R.socks.take (i+1),(fun x:Sk=>decide (x.nm=nm∧x.port=port)) x=false:=by
    rw[List.take_succ_eq_append_getElem h3]
    intro x hx
    rcases List.mem_append.1 hx with hx|hx
    ·exact i2 x hx
    ·simp only[List.mem_singleton]at hx;subst hx;exact decide_eq_false h4
   simp(config:=KF) (disch:=omega)only[bZ,eO,ixSV,lenI,addA,aa,↓reduceIte,Nat.reduceEqDiff,Nat.reduceAdd,Nat.reduceLeDiff,s1,hg,hll,ad_eql]
   exact hn _ ⟨h3,hnn⟩ (by omega) (Sf.le_refl _)
 ·obtain rfl:i=R.socks.length:=by omega
  rw[List.take_length]at i2
  rw[gH (fun x:Sk=>decide (x.nm=nm∧x.port=port)) R.socks 0 i2]at hQ
  simp(config:=KF) (disch:=omega)only[bZ,addA,aa,↓reduceIte,Nat.reduceEqDiff,s1,s8]
  refine hKe _ _ _ ?_
  simp(config:=KF) (disch:=omega)only[bZ,retI,↓reduceIte,Int.reduceNeg]
  exact hQ _
end
end Go.Fx.YtgmeefljgbaanaaFx

