/- What the functions that the statement reaches compute: part 3. -/
import Derived.Test.YtgmeefljgbaanaaFxW2
namespace Go.Fx.YtgmeefljgbaanaaFx
open Go Go.Fx
attribute [local irreducible] aC runI aG aH

set_option maxRecDepth 100000
set_option maxHeartbeats 4000000

def bW(b:ByteArray):List Nat:=b.data.toList.map UInt8.toNat
def okC(i c:Nat):Bool:=(decide (65≤c) && decide (c≤90)||decide (97≤c) && decide (c≤122))||(decide (i≠0) && ((decide (48≤c) && decide (c≤57))||(decide (c=45)||decide (c=95))))
def okF:Nat→List Nat→Bool
 |_,[]=>true
 |i,c::r=>okC i c && okF (i+1) r
def hZ(b:ByteArray):Bool:=okF 0 (bW b) && (decide (1≤b.size) && decide (b.size≤32))
def eE(n:ByteArray)(p:Int):Bool:=hZ n && (decide (0<p) && decide (p≤65535))

theorem jX(b:ByteArray):(bW b).length=b.size:=by
 unfold bW
 rw[List.length_map];rfl
theorem bytesN_lt(b:ByteArray):∀x∈bW b,x<256:=fun x hx=>by
 obtain⟨y,_,rfl⟩:=List.mem_map.1 hx
 exact y.toNat_lt
theorem pP:∀(a b:List UInt8),Go.Lib.compareBytes a b=0↔a=b
 | [],[]=>by simp[Go.Lib.compareBytes]
 | [],_::_=>by simp[Go.Lib.compareBytes]
 |_::_,[]=>by simp[Go.Lib.compareBytes]
 | a :: r, b :: s => by
   unfold Go.Lib.compareBytes
   rw[List.cons.injEq,←pP r s]
   split
   ·rename_i h
    have:a≠b:=fun e=>by subst e;exact absurd h (UInt8.lt_irrefl _)
    simp[this]
   ·split
    ·rename_i h
     have:a≠b:=fun e=>by subst e;exact absurd h (UInt8.lt_irrefl _)
     simp[this]
    ·rename_i h1 h2
     have:a=b:=UInt8.le_antisymm (UInt8.not_lt.1 h2) (UInt8.not_lt.1 h1)
     simp[this]

theorem runes_step{bs:List Nat}{p s:Nat}{d:Option Nat}{sf:Sf}{st:St}{K:Sf→St→Prop}(h256:∀b∈bs,b<256)(he:bs.length≤p→K (sf.put d (.tup [.lit (.bool false)])) st)
  (hc:∀(h:p<bs.length) (c wd:Nat),((c=bs[p]∧wd=1)∨(128≤bs[p]∧128≤c∧0<wd))→K ((sf.set s (.mit none 1 bs (p+wd+1))).put d (.tup [.lit (.bool true),.lit (.int .i64 (p:Nat)),.lit (.int .i32 (c:Nat))])) st) :
  mZ s d (.mit none 1 bs (p+1)) K sf st:=by
 by_cases h:p<bs.length
 ·have hp:bs[p]?=some bs[p]:=List.getElem?_eq_getElem h
  simp only[mZ,hp]
  exact⟨h256 _ (List.getElem_mem h),fun _=>hc h _ 1 (.inl ⟨rfl,rfl⟩),fun q c wd a b=>hc h c wd (.inr ⟨q,a,b⟩)⟩
 ·have hp:bs[p]?=none:=List.getElem?_eq_none (by omega)
  simp only[mZ,hp]
  exact he (by omega)

theorem vname_pure(st:St)(b:ByteArray)(hb:b.size<1000000000):az Go.Proofs.Try.prog n_f67 [.lit (.string b)] st (.lit (.bool (hZ b))):=by
 refine al hmix k_f67 rfl rfl fun Q hQ=>?_
 unfold aFun c_f67
 have hl:=jX b
 simp(config:=KF) (disch:=omega)only[bZ,bD,a9,↓reduceIte,Nat.reduceEqDiff,reduceCtorEq,rngSX]
 rw[f67_7w]
 have e0:b.data.toList.map UInt8.toNat=bW b:=rfl
 rw[e0]
 refine bB (A:=Nat×St) (fun a=>b.size+1-a.1) (fun a=>⟨[(0,.lit (.string b)),(7,.mit none 1 (bW b) (a.1+1))],[]⟩) (fun a=>a.2)
  (fun a=>a.1≤b.size∧okF a.1 ((bW b).drop a.1)=okF 0 (bW b)) (0,_) ⟨Nat.zero_le _,rfl⟩ (by simp(config:=KF) (disch:=omega)only[bZ,↓reduceIte,reduceCtorEq];exact Sf.le_refl _) rfl fun a ha K hK hKe hKr=>?_
 obtain⟨p,st1⟩:=a
 obtain⟨h1,h2⟩:=ha
 simp only at h1 h2
 simp(config:=KF) (disch:=omega)only[bZ,a9,↓reduceIte,reduceCtorEq]
 refine runes_step (bytesN_lt b) (fun he=>?_) (fun h c wd hc=>?_)
 ·simp(config:=KF) (disch:=omega)only[bZ,↓reduceIte,Nat.reduceEqDiff,reduceCtorEq]
  refine hKe _ _ _ ?_
  have hp:p=b.size:=by omega
  have hn:hZ b=(decide (1≤b.size) && decide (b.size≤32)):=by
   unfold hZ
   rw[←h2,hp,List.drop_of_length_le (by omega)];rfl
  rw[hn]at hQ
  have hq1:1≤b.size→∀s,Q (.lit (.bool (decide ((b.size:Int)≤32)))) s:=fun g s=>by
   have:=hQ s
   rw[decide_eq_true g,Bool.true_and,show decide (b.size≤32)=decide ((b.size:Int)≤32)from decide_eq_decide.2 (by omega)]at this
   exact this
  have hq0:¬1≤b.size→∀s,Q (.lit (.bool false)) s:=fun g s=>by
   have:=hQ s
   rw[decide_eq_false g,Bool.false_and]at this
   exact this
  (repeat' (first|omega|(simp(config:=KF) (disch:=omega)only[bZ,retI,AI.dst,lenI,nD,↓reduceIte,Nat.reduceEqDiff,reduceCtorEq])|refine aA (fun h=>?_) (fun h=>?_)|refine bj (fun h=>?_) (fun h=>?_)|refine cn (fun h=>?_) (fun h=>?_)|exact hq1 (by omega) _|exact hq0 (by omega) _))
 have hdr:(bW b).drop p=(bW b)[p]::(bW b).drop (p+1):=List.drop_eq_getElem_cons h
 rw[hdr,okF]at h2
 have hgood:((65≤c∧c≤90)∨(97≤c∧c≤122)∨(p≠0∧((48≤c∧c≤57)∨c=45∨c=95)))→∀sf',(sf'.mask [0,7] []).le ⟨[(0,.lit (.string b)),(7,.mit none 1 (bW b) (p+wd+1))],[]⟩→K .normal sf' st1:=fun g sf' hs=>by
  obtain⟨h3,rfl⟩:c=(bW b)[p]∧wd=1:=by
   rcases hc with hc|hc
   ·exact hc
   ·omega
  have hok:okC p (bW b)[p]=true:=by
   rw[←h3];unfold okC
   simp only[Bool.or_eq_true,Bool.and_eq_true,decide_eq_true_eq]
   omega
  rw[hok,Bool.true_and]at h2
  exact hK (p+1,st1) sf' ⟨by show p+1≤b.size;omega,h2⟩ (by show b.size+1-(p+1)<b.size+1-p;omega) hs
 have hbad:¬((65≤c∧c≤90)∨(97≤c∧c≤122)∨(p≠0∧((48≤c∧c≤57)∨c=45∨c=95)))→∀s,Q (.lit (.bool false)) s:=fun g s=>by
  have hno:okC p (bW b)[p]=false:=by
   rw[Bool.eq_false_iff]
   intro e
   unfold okC at e
   simp only[Bool.or_eq_true,Bool.and_eq_true,decide_eq_true_eq]at e
   rcases hc with⟨hc,_⟩|⟨hc,_⟩
   ·rw[←hc]at e;exact g (by omega)
   ·omega
  rw[hno,Bool.false_and]at h2
  have hn:hZ b=false:=by unfold hZ;rw[←h2];rfl
  rw[hn]at hQ
  exact hQ s
 (repeat' (first|omega|(simp(config:=KF) (disch:=omega)only[bZ,gB,retI,AI.dst,unA,nD,↓reduceIte,Nat.reduceEqDiff,reduceCtorEq,not_dec,ba])|refine aA (fun h=>?_) (fun h=>?_)|refine bj (fun h=>?_) (fun h=>?_)|refine cn (fun h=>?_) (fun h=>?_)|exact hgood (by omega) _ (Sf.le_refl _)|exact hbad (by omega) _|refine hKr _ _ ?_))

def adAV(n:ByteArray)(p:Int):AV:=.agg [.lit (.string n),.lit (.int .i64 p)]
theorem avalid_pure(st:St)(n:ByteArray)(p:Int)(hb:n.size<1000000000):az Go.Proofs.Try.prog n_f47 [adAV n p] st (.lit (.bool (hZ n && (decide (0≤p) && decide (p≤65535))))):=by
 refine al hmix k_f47 rfl rfl fun Q hQ=>?_
 unfold aFun c_f47 adAV
 simp(config:=KF) (disch:=omega)only[bZ,addA,aa,id,↓reduceIte,Nat.reduceEqDiff,Nat.reduceAdd,reduceCtorEq]
 refine ag rfl e_f67 (vname_pure _ n hb) rfl ?_
 cases hv:hZ n with
 | false =>
   rw[hv]at hQ
   simp(config:=KF) (disch:=omega)only[bZ,retI,AI.dst,↓reduceIte,Nat.reduceEqDiff]
   exact hQ _
 | true =>
   rw[hv]at hQ
   simp(config:=KF) (disch:=omega)only[bZ,AI.dst,addA,aa,↓reduceIte,Nat.reduceEqDiff]
   refine bj (fun h=>?_) (fun h=>?_)
   ·rw[decide_eq_true (show 0≤p from h)]at hQ
    simp(config:=KF) (disch:=omega)only[bZ,retI,AI.dst,addA,aa,nD,↓reduceIte,Nat.reduceEqDiff]
    exact hQ _
   ·rw[decide_eq_false (show ¬0≤p from h)]at hQ
    simp(config:=KF) (disch:=omega)only[bZ,retI,AI.dst,↓reduceIte,Nat.reduceEqDiff]
    exact hQ _
theorem mj(st:St)(n:ByteArray)(p:Int)(hb:n.size<1000000000):az Go.Proofs.Try.prog n_f27 [adAV n p] st (.lit (.bool (eE n p))):=by
 refine al hmix k_f27 rfl rfl fun Q hQ=>?_
 unfold aFun c_f27
 unfold adAV
 simp(config:=KF) (disch:=omega)only[bZ,aa,id,↓reduceIte,Nat.reduceEqDiff,Nat.reduceAdd,Nat.reduceLeDiff,reduceCtorEq]
 refine ag (vs:=[adAV n p]) rfl e_f47 (avalid_pure _ n p hb) rfl ?_
 have hv:eE n p=(hZ n && (decide (0<p) && decide (p≤65535))):=rfl
 cases hc:(hZ n && (decide (0≤p) && decide (p≤65535)))with
 | false =>
   have h0:eE n p=false:=by
    rw[Bool.eq_false_iff]at hc ⊢
    intro e
    apply hc
    rw[hv]at e
    simp only[Bool.and_eq_true,decide_eq_true_eq]at e ⊢
    exact⟨e.1,by omega,e.2.2⟩
   rw[h0]at hQ
   simp(config:=KF) (disch:=omega)only[bZ,retI,AI.dst,↓reduceIte,Nat.reduceEqDiff]
   exact hQ _
 | true =>
   have h0:eE n p=decide (p > 0):=by
    rw[hv]
    simp only[Bool.and_eq_true,decide_eq_true_eq]at hc
    rw[hc.1,Bool.true_and,decide_eq_true hc.2.2,Bool.and_true]
   rw[h0]at hQ
   simp(config:=KF) (disch:=omega)only[bZ,retI,AI.dst,addA,aa,↓reduceIte,Nat.reduceEqDiff]
   exact hQ _

def cmpS(a b:ByteArray):Int:=Go.Lib.compareBytes a.data.toList b.data.toList
def cmpI(p q:Int):Int:=if p<q then -1 else if q<p then 1 else 0
def cmpA(a:ByteArray)(p:Int)(b:ByteArray)(q:Int):Int:=if cmpS a b≠0 then cmpS a b else cmpI p q
theorem pQ{a b:ByteArray}:cmpS a b=0↔a=b:=by
 unfold cmpS
 rw[pP]
 constructor
 ·intro h
  cases a;cases b
  simp only[ByteArray.mk.injEq]
  exact Array.ext' h
 ·rintro rfl;rfl
theorem pR{a b:ByteArray}{p q:Int}:cmpA a p b q=0↔a=b∧p=q:=by
 unfold cmpA cmpI
 by_cases h:cmpS a b=0
 ·have h1:=pQ.1 h
  rw[if_neg (by simpa using h)]
  constructor
  ·intro e
   refine⟨h1,?_⟩
   split at e
   ·omega
   ·split at e<;>omega
  ·rintro⟨_,rfl⟩
   simp
 ·have h1:a≠b:=fun e=>h (pQ.2 e)
  rw[if_pos h]
  exact⟨fun e=>absurd e h,fun e=>absurd e.1 h1⟩
theorem cstr_pure(st:St)(a b:ByteArray):az Go.Proofs.Try.prog n_f83 [.lit (.string a),.lit (.string b)] st (.lit (.int .i64 (cmpS a b))):=by
 refine al hmix k_f83 rfl rfl fun Q hQ=>?_
 unfold aFun c_f83
 simp(config:=KF) (disch:=omega)only[bZ,retI,bD,a9,↓reduceIte,Nat.reduceEqDiff,reduceCtorEq,cmpSX]
 exact hQ _
theorem scmp_pure(st:St)(a b:ByteArray):az Go.Proofs.Try.prog n_f69 [.lit (.string a),.lit (.string b)] st (.lit (.int .i64 (cmpS a b))):=by
 refine al hmix k_f69 rfl rfl fun Q hQ=>?_
 unfold aFun c_f69
 simp(config:=KF) (disch:=omega)only[bZ,id,↓reduceIte,Nat.reduceEqDiff,reduceCtorEq]
 refine ag rfl e_f83 (cstr_pure _ a b) rfl ?_
 simp(config:=KF) (disch:=omega)only[bZ,retI,↓reduceIte,Nat.reduceEqDiff,reduceCtorEq]
 exact hQ _
theorem oc(st:St)(p:Int):az Go.Proofs.Try.prog n_f84 [.lit (.int .i64 p)] st (.lit (.bool false)):=by
 refine al hmix k_f84 rfl rfl fun Q hQ=>?_
 unfold aFun c_f84
 simp(config:=KF) (disch:=omega)only[bZ,retI,↓reduceIte,Nat.reduceEqDiff,reduceCtorEq,not_true_eq_false]
 exact hQ _
theorem icmp_pure(st:St)(p q:Int):az Go.Proofs.Try.prog n_f70 [.lit (.int .i64 p),.lit (.int .i64 q)] st (.lit (.int .i64 (cmpI p q))):=by
 refine al hmix k_f70 rfl rfl fun Q hQ=>?_
 unfold aFun c_f70
 unfold cmpI at hQ
 simp(config:=KF) (disch:=omega)only[bZ,id,↓reduceIte,Nat.reduceEqDiff,reduceCtorEq]
 refine ag rfl e_f84 (oc _ p) rfl ?_
 simp(config:=KF) (disch:=omega)only[bZ,id,↓reduceIte,Nat.reduceEqDiff,reduceCtorEq]
 refine ag rfl e_f84 (oc _ q) rfl ?_
 simp(config:=KF) (disch:=omega)only[bZ,↓reduceIte,Nat.reduceEqDiff,reduceCtorEq]
 refine aA (fun h=>?_) (fun h=>?_)
 ·rw[if_pos h]at hQ
  simp(config:=KF) (disch:=omega)only[bZ,retI,↓reduceIte,Nat.reduceEqDiff,Int.reduceNeg,reduceCtorEq]
  exact hQ _
 ·rw[if_neg h]at hQ
  simp(config:=KF) (disch:=omega)only[bZ,↓reduceIte,Nat.reduceEqDiff,reduceCtorEq]
  refine aA (fun h2=>?_) (fun h2=>?_)
  ·rw[if_pos h2]at hQ
   simp(config:=KF) (disch:=omega)only[bZ,retI,↓reduceIte,Nat.reduceEqDiff]
   exact hQ _
  ·rw[if_neg h2]at hQ
   simp(config:=KF) (disch:=omega)only[bZ,retI,↓reduceIte,Nat.reduceEqDiff]
   exact hQ _
theorem cor_pure(st:St)(p q:Int):az Go.Proofs.Try.prog n_f68 [.sl false 1 [.lit (.int .i64 p),.lit (.int .i64 q)]] st (.lit (.int .i64 (if p≠0 then p else q))):=by
 refine al hmix k_f68 rfl rfl fun Q hQ=>?_
 unfold aFun c_f68
 simp(config:=KF) (disch:=omega)only[bZ,lenI,↓reduceIte,Nat.reduceEqDiff,Nat.reduceAdd,reduceCtorEq]
 rw[f68_9w]
 refine loop_rounds 3 ?_
 rw[jM]
 simp(config:=KF) (disch:=omega)only[bZ,ixSV,aa,List.getD_cons_zero,↓reduceIte,Nat.reduceEqDiff,Nat.reduceAdd,Int.reduceLT,Int.reduceLE]
 refine aA (fun h=>?_) (fun h=>?_)
 ·rw[if_pos h]at hQ
  simp(config:=KF) (disch:=omega)only[bZ,retI,unrQ_ret,↓reduceIte,Nat.reduceEqDiff]
  exact hQ _
 ·rw[if_neg h]at hQ
  simp(config:=KF) (disch:=omega)only[bZ,ma,↓reduceIte,Nat.reduceEqDiff,Int.zero_add]
  rw[jM]
  simp(config:=KF) (disch:=omega)only[bZ,ixSV,aa,List.getD_cons_zero,List.getD_cons_succ,Int.toNat_one,↓reduceIte,Nat.reduceEqDiff,Nat.reduceAdd,Int.reduceLT,Int.reduceLE]
  refine aA (fun h2=>?_) (fun h2=>?_)
  ·simp(config:=KF) (disch:=omega)only[bZ,retI,unrQ_ret,↓reduceIte,Nat.reduceEqDiff]
   exact hQ _
  ·have:q=0:=by omega
   subst this
   simp(config:=KF) (disch:=omega)only[bZ,ma,↓reduceIte,Nat.reduceEqDiff,Int.reduceAdd,not_true_eq_false]
   rw[jM]
   simp(config:=KF) (disch:=omega)only[bZ,retI,unrQ_exit,↓reduceIte,Nat.reduceEqDiff,Int.reduceLT]
   exact hQ _
theorem acmp_pure(st:St)(a b:ByteArray)(p q:Int):az Go.Proofs.Try.prog n_f48 [adAV a p,adAV b q] st (.lit (.int .i64 (cmpA a p b q))):=by
 refine al hmix k_f48 rfl rfl fun Q hQ=>?_
 unfold aFun c_f48 adAV
 simp(config:=KF) (disch:=omega)only[bZ,bX,addA,aa,id,↓reduceIte,Nat.reduceEqDiff,Nat.reduceAdd,reduceCtorEq]
 refine cD rfl e_f69 (scmp_pure _ a b) rfl ?_
 simp(config:=KF) (disch:=omega)only[bZ,bC,addA,aa,id,↓reduceIte,Nat.reduceEqDiff]
 refine ag rfl e_f70 (icmp_pure _ p q) rfl ?_
 simp(config:=KF) (disch:=omega)only[bZ,dX,bslV,List.reduceReplicate,cd,id,ny,↓reduceIte,Nat.reduceEqDiff,Nat.reduceAdd,Nat.reduceLT]
 refine ag rfl e_f68 (cor_pure _ _ _) rfl ?_
 simp(config:=KF) (disch:=omega)only[bZ,retI,↓reduceIte,Nat.reduceEqDiff]
 exact hQ _
end Go.Fx.YtgmeefljgbaanaaFx

namespace Go.Fx.YtgmeefljgbaanaaFx
open Go Go.Fx
attribute [local irreducible] aC runI aG aH

set_option maxRecDepth 100000
set_option maxHeartbeats 4000000

structure Pk where
 nm:ByteArray
 port:Int
 data:List UInt8
 at_:Nat
def pkAV(p:Pk):AV:=.agg [.lit (.string p.nm),.lit (.int .i64 p.port),.sl false 1 (BB p.data),.lit (.int .u64 (p.at_:Nat))]
def pcs:List Pk→List AV
 | []=>[]
 |p::r=>.lit (.string p.nm)::.lit (.int .i64 p.port)::.sl false 1 (BB p.data)::.lit (.int .u64 (p.at_:Nat))::pcs r
theorem cB:∀l,(pcs l).length=l.length*4
 | []=>rfl
 |p::r=>by simp only[pcs,List.length_cons,cB r];omega
theorem qR:∀a b,pcs (a++b)=pcs a++pcs b
 | [],_=>rfl
 |p::r,b=>by simp only[List.cons_append,pcs,qR r b]
theorem jh:∀l:List Pk,cellsD (l.map pkAV)=pcs l
 | []=>rfl
 | p :: r => by
   have:=jh r
   unfold cellsD at this ⊢
   rw[List.map_cons,List.map_cons,List.flatMap_cons,this]
   rfl
theorem pcs_own:∀l:List Pk,(pcs l).map AV.own1=pcs l
 | []=>rfl
 |p::r=>by simp only[pcs,List.map_cons,pcs_own r];rfl
theorem qS:∀(l:List Pk) (r:List AV),grp 4 l.length (pcs l++r)=l.map pkAV
 | [],_=>rfl
 | p :: l, r => by
   rw[List.length_cons]
   simp only[pcs,grp,List.cons_append,List.map_cons]
   rw[show List.drop 4 (AV.lit (.string p.nm)::.lit (.int .i64 p.port)::.sl false 1 (BB p.data)::.lit (.int .u64 (p.at_:Nat))::(pcs l++r))=pcs l++r from rfl,qS l r]
   rfl

def PB(v:AV)(st:St)(l:List Pk):Prop:=(v= .lit (.slice none 0 0)∧l= [])∨∃id cap r,v= .bs id 4 0 l.length cap∧st.get id=some (pcs l++r)∧l.length≤cap∧cap*4≤(pcs l++r).length
section
variable {v:AV} {st st':St} {l:List Pk}
theorem PB.facts(h:PB v st l):v.dis=v∧v.own1=v∧v.own2=v∧v.solid1=true∧v.noL=true∧v.cells= [v]∧(∀s,kill s v=v)∧∀st',lenI .sl st' v= .ok (.lit (.int .i64 (l.length:Nat))):=by
 rcases h with⟨rfl,rfl⟩|⟨id,cap,r,rfl,_⟩
 ·exact⟨rfl,rfl,rfl,rfl,rfl,rfl,fun _=>rfl,fun _=>rfl⟩
 ·exact⟨rfl,rfl,rfl,rfl,rfl,rfl,fun _=>rfl,fun _=>rfl⟩
theorem PB.at(h:PB v st l)(hb:∀x∈ah v,st'.boxes[x]?=st.boxes[x]?):PB v st' l:=by
 rcases h with h|⟨id,cap,r,rfl,hg,h1,h2⟩
 ·exact .inl h
 ·exact .inr ⟨id,cap,r,rfl,(bJ (hb id (by simp[ah]))).trans hg,h1,h2⟩
theorem PB.lt(h:PB v st l):∀x∈ah v,x<st.boxes.length:=by
 rcases h with⟨rfl,_⟩|⟨id,cap,r,rfl,hg,_⟩
 ·simp[ah]
 ·intro x hx;simp only[ah,List.mem_singleton]at hx;subst hx;exact bI hg
theorem PB.nil(st:St):PB (.lit (.slice none 0 0)) st []:=.inl ⟨rfl,rfl⟩
theorem PB.app(h:PB v st l)(hl:l.length<100000){new:List Pk}(hn:new.length<100000){C:AV→St→Prop}(hC:∀v' st',PB v' st' (l++new)→Kp st st' (ah v)→(∀x∈ah v',x∈ah v∨st.boxes.length≤x)→C v' st'):appX false 4 56 v C st (new.map pkAV):=by
 rcases h with⟨rfl,rfl⟩|⟨id,cap,r,rfl,hg,h1,h2⟩
 ·refine⟨rfl,bg (by rw[List.length_map];omega),?_⟩
  cases new with
  |nil=>exact hC _ _ (PB.nil _) (Kp.refl _ _) (by simp[ah])
  | cons p r =>
    refine fun c hc=>hC _ _ (.inr ⟨st.boxes.length,c,List.replicate ((c-(p::r).length)*4) .any,by simp,?_,by simpa using hc,?_⟩) ⟨by rw[aJ];omega,fun i hi _=>bp hi⟩ (by simp[ah])
    ·rw[jh,List.length_map]
     simp only[List.nil_append]
     exact bG _ _
    ·simp only[List.nil_append,List.length_append,List.length_replicate,cB,List.length_cons,List.length_map]at hc ⊢
     omega
 ·have hid:=bI hg
  refine⟨rfl,rfl,bg (by rw[List.length_map];omega),?_⟩
  rw[hg]
  show(Res.ok _).wp _
  rw[pu,jh,List.length_map]
  rw[List.length_append,cB]at h2
  split
  ·rename_i hc
   have hsa:ca (pcs l++r) (0+l.length*4) (pcs new)=pcs (l++new)++r.drop (new.length*4):=by
    rw[Nat.zero_add,gE (cB l).symm (by rw[cB];omega),cB,qR]
    simp
   refine⟨by rw[List.length_append,cB];omega,hC _ _ (.inr ⟨id,cap,r.drop (new.length*4),by simp,?_,by simpa using hc,?_⟩) ((Oth.set st id _ (S:=[id]) (by simp)).kp (by simp[ah])) (by simp[ah])⟩
   ·rw[aY hid,hsa]
   ·rw[List.length_append,cB,List.length_append,List.length_drop];omega
  ·rename_i hc
   refine⟨by rw[List.length_append,cB];omega,fun c hc=>hC _ _ (.inr ⟨st.boxes.length,c,List.replicate ((c-(l.length+new.length))*4) .any,by simp,?_,by simpa using hc,?_⟩) ⟨by rw[aJ];omega,fun i hi _=>bp hi⟩ (by simp[ah])⟩
   ·rw[List.drop_zero,List.take_left' (cB l),pcs_own,←qR]
    exact bG _ _
   ·simp only[List.length_append,List.length_replicate,cB]
    omega
theorem PB.src(h:PB v st l){K:List AV→Prop}(hK:K (l.map pkAV)):(srcA st 4 v).wp K:=by
 rcases h with⟨rfl,rfl⟩|⟨id,cap,r,rfl,hg,h1,h2⟩
 ·exact hK
 ·show(cR st id 4 0 l.length).wp K
  unfold cR
  rw[hg]
  refine⟨by rw[List.length_append,cB];simp,?_⟩
  rw[List.drop_zero,qS]
  exact hK

theorem oM(p:Pk)(l:List Pk){bv:AV}{st:St}(hm:PB bv st (p::l))(hl:l.length<100000) :
  aF Go.Proofs.Try.prog n_f71 [bv,.lit (.int .i64 0),.lit (.int .i64 1)] st (fun r st'=>PB r st' l∧ah r=ah bv∧Oth st st' (ah bv)):=by
 rcases hm with⟨_,e⟩|⟨bi,cap,r0,rfl,hg,h1,h2⟩
 ·cases e
 simp only[List.length_cons]at h1 ⊢
 have hlt:=bI hg
 have hcs:(pcs (p::l)++r0).length=l.length*4+4+r0.length:=by rw[List.length_append,cB,List.length_cons];omega
 rw[hcs]at h2
 have hdr:(pcs (p::l)++r0).drop 4=pcs l++r0:=rfl
 refine aK hmix k_f71 rfl rfl fun Q hQ=>?_
 unfold aFun c_f71
 have hz:List.flatMap AV.cells (List.replicate 1 (AV.agg [AV.lit (.string ⟨#[]⟩),.lit (.int .i64 0),.lit (.slice none 0 0),.lit (.int .u64 0)]))= [AV.lit (.string ⟨#[]⟩),.lit (.int .i64 0),.lit (.slice none 0 0),.lit (.int .u64 0)]:=rfl
 by_cases hc:cap=1
 ·have hl0:l= []:=List.eq_nil_of_length_eq_zero (by omega)
  subst hl0
  subst hc
  simp(config:=KF) (disch:=omega)only[bZ,gf,retI,bD,iI,o_sli3,cu,sli3V,a9,List.reduceReplicate,appX,clrX,sliB,sl3,ixTo,lenI,srcA,putN,gT,noL_bs,Int.toNat_one,↓reduceIte,Nat.reduceEqDiff,Nat.reduceAdd,Nat.reduceMul,Nat.reduceLeDiff,Int.reduceLE,Int.reduceEq,reduceCtorEq,Nat.sub_zero,bg,aY,ge,cellsD_nil,hg,hcs]
  refine hQ _ _ ⟨.inr ⟨bi,1,ca (pcs [p]++r0) 0 [AV.lit (.string ⟨#[]⟩),.lit (.int .i64 0),.lit (.slice none 0 0),.lit (.int .u64 0)],rfl,?_,by simp,?_⟩,rfl,Oth.set _ _ _ (by simp[ah])⟩
  ·rw[aY hlt];rfl
  ·rw[List.length_append,cZ,List.length_append,cB];simp[pcs]
 ·have hbs:cR st bi 4 4 l.length= .req true (.ok (l.map pkAV)):=by
   unfold cR
   rw[hg]
   simp only[Res.ofOpt,Res.bind,hdr,qS]
   congr 1
   rw[hcs]
   exact decide_eq_true (by omega)
  simp(config:=KF) (disch:=omega)only[bZ,gf,retI,bD,iI,o_sli3,cu,sli3V,a9,appX,clrX,sliB,sl3,ixTo,lenI,srcA,putN,gT,noL_bs,Int.toNat_one,↓reduceIte,Nat.reduceEqDiff,Nat.reduceAdd,Nat.reduceMul,Int.reduceLE,Int.reduceEq,reduceCtorEq,Nat.sub_zero,bg,aY,if_pos,if_neg,cZ,ge,hg,hcs,hc,Nat.add_one_sub_one,hbs]
  rw[jh,show l.length+1-l.length=1 by omega,hz,setAt_zero (by rw[hcs,cB];omega)]
  have hll:((pcs (p::l)++r0).drop (pcs l).length).length=4+r0.length:=by rw[List.length_drop,hcs,cB];omega
  rw[gE (cB l).symm (by rw[hll];simp)]
  generalize (pcs (p::l)++r0).drop (pcs l).length=D at hll
  refine hQ _ _ ⟨.inr ⟨bi,cap,_,rfl,aY hlt,by omega,?_⟩,rfl,Oth.set _ _ _ (by simp[ah])⟩
  simp only[List.length_append,List.length_drop,List.length_cons,List.length_nil,cB,hll]
  omega
end
end Go.Fx.YtgmeefljgbaanaaFx

