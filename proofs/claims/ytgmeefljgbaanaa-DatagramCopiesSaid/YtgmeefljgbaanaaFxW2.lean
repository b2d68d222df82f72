/- What the functions that the statement reaches compute: part 2. -/
import Derived.Test.YtgmeefljgbaanaaFxW1
namespace Go.Fx.YtgmeefljgbaanaaFx
open Go Go.Fx
attribute [local irreducible] aC runI aG aH

set_option maxRecDepth 100000
set_option maxHeartbeats 4000000

theorem qN{mid:Nat}{m:List (Int×Nd)}{st:St}(h:MapIs st mid .u64 ndAV m):aF Go.Proofs.Try.prog n_f66 [.map mid] st (fun r st'=>r= .map st.boxes.length∧st'=st.push (.mp (encM .u64 ndAV m) (st.getB mid).1 (st.getB mid).2)):=by
 refine aK hmix k_f66 rfl rfl fun Q hQ=>?_
 unfold aFun c_f66
 have hg:=h.get
 simp(config:=KF) (disch:=omega)only[bZ,retI,bD,o_mkif,o_tas,tasV,mkifV,a9,bE,aU,fO,noL_map,↓reduceIte,Nat.reduceEqDiff,reduceCtorEq,kq,hg]
 exact hQ _ _ ⟨rfl,rfl⟩

theorem mi{q mid g:Nat}{L:Qu}{st:St}(h:QIs st q mid L g):aF Go.Proofs.Try.prog n_f45 [.ptr q 0] st
  (fun r st'=>r= .ptr (st.boxes.length+1) 0∧QIs st' (st.boxes.length+1) st.boxes.length L g∧st'.boxes.length=st.boxes.length+2∧∀id,id<st.boxes.length→st'.boxes[id]?=st.boxes[id]?):=by
 refine aK hmix k_f45 rfl rfl fun Q hQ=>?_
 unfold aFun c_f45
 have hg:=h.get
 obtain⟨m,hm,hl,hml⟩:=h.mp
 simp(config:=KF) (disch:=omega)only[bZ,id,↓reduceIte,reduceCtorEq]
 refine ag rfl e_f58 (eQ hg) rfl ?_
 simp(config:=KF) (disch:=omega)only[bZ,↓reduceIte,Nat.reduceEqDiff,reduceCtorEq]
 refine draw_s ?_
 simp(config:=KF) (disch:=omega)only[bZ,pG,qE,m_val,mm_mv,qF,mA,nR,atM_eq,fL,dropP,dropQ,nc,au,addA,aa,id,List.nil_append,List.cons_append,↓reduceIte,Nat.reduceEqDiff,Nat.reduceAdd,Nat.reduceLeDiff,reduceCtorEq,hg]
 refine call_m rfl e_f66 (qN hm) rfl ?_
 simp(config:=KF) (disch:=omega)only[bZ,ksB,aL,bh,bz,aO,nstB,bA,hm_nil,nT,↓reduceIte,Nat.reduceEqDiff,reduceCtorEq]
 rintro r st1 ⟨rfl,rfl⟩
 refine⟨St.sub_push _ _,?_⟩
 simp(config:=KF) (disch:=omega)only[bZ,ksB,aL,bh,bz,aO,bU,bK,nstB,bA,pG,nS,lz,nU,qG,retI,nv,kF,ja,fO,eV,↓reduceIte,Nat.reduceEqDiff,Nat.reduceAdd,Nat.reduceLeDiff,reduceCtorEq,aJ]
 refine hQ _ _ ⟨by simp[aJ],h.clone ?_ fun m' hm'=>?_,by simp[aJ],fun id hid=>?_⟩
 ·have:=bG (st.push (.mp (encM .u64 ndAV m) (st.getB mid).1 (st.getB mid).2)) [.lit (.int .u64 (aQ L 0:Nat)),.lit (.int .u64 (aP 0 L:Nat)),.lit (.int .u64 (g:Nat)),.map st.boxes.length]
  rw[aJ]at this
  exact this
 ·have e:encM .u64 ndAV m'=encM .u64 ndAV m:=by
   have:=hm'.get.symm.trans hm.get
   exact Option.some.inj this
  have:=hm'.clone
  rw[e]at this
  exact this.push _
 ·rw[bp (by rw[aJ];omega),bp hid]

theorem iter_calls{o q mid g:Nat}{L:Qu}(y:Nat)(J:Nat→St→Prop)(Jx:St→Prop)(hkeep:∀i st',J i st'→st'.get o=some [.ptr q 0]∧QIs st' q mid L g)
  (hround:∀(i:Nat) (hi:i<L.length) (st':St),J i st'→gP Go.Proofs.Try.prog y [.lit (.int .u64 (L[i].1:Nat)),.lit (.int .i64 L[i].2)] st' (fun t st''=>(t=true∧J (i+1) st'')∨(t=false∧Jx st''))) {st:St} (h0:J 0 st) :
  aF Go.Proofs.Try.prog n_f52 [.yld y,.ptr o 0] st (fun _ st'=>J L.length st'∨Jx st'):=by
 refine aK hmix k_f52 rfl rfl fun Q hQ=>?_
 unfold aFun c_f52
 obtain⟨ho,hq⟩:=hkeep 0 st h0
 have hg:=hq.get
 simp(config:=KF) (disch:=omega)only[bZ,au,bE,aU,addA,aa,dis_yld,↓reduceIte,Nat.reduceEqDiff,reduceCtorEq,ho,hg]
 rw[f52_8w]
 refine bB (A:=Nat×St) (fun a=>L.length-a.1) (fun a=>⟨[(0,.yld y),(1,.ptr o 0),(3,.lit (.int .u64 (aQ (L.drop a.1) 0:Nat)))],[]⟩) (fun a=>a.2) (fun a=>a.1≤L.length∧J a.1 a.2) (0,st) ⟨by simp,h0⟩ (by rw[List.drop_zero];exact Sf.le_refl _) rfl ?_
 rintro⟨i,st⟩ ⟨h1,h2⟩ K hK hKe hKr
 simp only at h1 h2
 obtain⟨ho,hq⟩:=hkeep i st h2
 have hg:=hq.get
 obtain⟨m,hm,hl,hml⟩:=hq.mp
 by_cases hi:i<L.length
 ·have ht:=nxt_drop hi
  have hp:=(hq.pos _ (tick_get hi)).1
  have hn:=nodeA_get hq.nd hi
  have hk:∀z,cA (.int .u64) z false st (.map mid) (.lit (.int .u64 (L[i].1:Nat)))= .ok (ndAV (L[i].2,aP 0 (L.take i),aQ (L.drop (i+1)) 0)):=fun z=>by
   rw[da hm,hl,hn];rfl
  rw[ht]
  have hne:((L[i].1:Nat):Int)≠0:=by omega
  simp(config:=KF) (disch:=omega)only[bZ,eT,bt,eJ,au,addA,aa,dis_yld,↓reduceIte,Nat.reduceEqDiff,reduceCtorEq,not_false_eq_true,ho,hg,hk,ndAV,hne]
  refine call_y rfl (hround i hi st h2) rfl fun t st1 hr=>?_
  rcases hr with⟨rfl,hJ⟩|⟨rfl,hJ⟩
  ·obtain⟨ho1,hq1⟩:=hkeep (i+1) st1 hJ
   have hg1:=hq1.get
   obtain⟨m1,hm1,hl1,hml1⟩:=hq1.mp
   have hk1:∀z,cA (.int .u64) z false st1 (.map mid) (.lit (.int .u64 (L[i].1:Nat)))= .ok (ndAV (L[i].2,aP 0 (L.take i),aQ (L.drop (i+1)) 0)):=fun z=>by
    rw[da hm1,hl1,hn];rfl
   simp(config:=KF) (disch:=omega)only[bZ,eT,bt,eJ,au,addA,aa,unA,↓reduceIte,Nat.reduceEqDiff,reduceCtorEq,ho1,hg1,hk1,ndAV]
   exact hK (i+1,st1) _ ⟨by simp only;omega,hJ⟩ (by simp only;omega) (Sf.le_refl _)
  ·simp(config:=KF) (disch:=omega)only[bZ,unA,↓reduceIte,Nat.reduceEqDiff,reduceCtorEq]
   exact hKr _ _ (by simp(config:=KF) (disch:=omega)only[bZ,retI,↓reduceIte];exact hQ _ _ (.inr hJ))
 ·have hiL:i=L.length:=by omega
  subst hiL
  rw[List.drop_length]
  simp(config:=KF) (disch:=omega)only[bZ,↓reduceIte,Nat.reduceEqDiff,reduceCtorEq,not_true_eq_false,aQ]
  exact hKe _ _ _ (by simp(config:=KF) (disch:=omega)only[bZ,l9,retI,↓reduceIte];exact hQ _ _ (.inl h2))

theorem qall_calls{q mid g:Nat}{L:Qu}{st:St}(h:QIs st q mid L g):aF Go.Proofs.Try.prog n_f35 [.ptr q 0] st
  (fun r st'=>∃o q' mid',r= .fn (.func n_f52) [] [.ptr o 0]∧st'.get o=some [.ptr q' 0]∧QIs st' q' mid' L g∧st.boxes.length≤o∧st.boxes.length≤q'∧st.boxes.length≤mid'∧st.boxes.length≤st'.boxes.length∧∀id,id<st.boxes.length→st'.boxes[id]?=st.boxes[id]?):=by
 refine aK hmix k_f35 rfl rfl fun Q hQ=>?_
 unfold aFun c_f35
 simp(config:=KF) (disch:=omega)only[bZ,id,↓reduceIte,reduceCtorEq,f35_1e]
 refine aR rfl e_f45 (mi h) rfl fun r st1 hr=>?_
 obtain⟨rfl,hq,hlen,hold⟩:=hr
 simp(config:=KF) (disch:=omega)only[bZ,retI,o_mkfn,o_newB,mkfnV,af,id,dis_fn,i9,eK,noL_fn,List.nil_append,↓reduceIte,Nat.reduceEqDiff,Nat.reduceLeDiff,reduceCtorEq,bG,set_push]
 refine hQ _ _ ⟨st1.boxes.length,_,_,rfl,bG ..,hq.at (bp (by omega)) (bp (by omega)),by omega,by omega,by omega,by rw[aJ];omega,fun id hid=>?_⟩
 rw[bp (by omega),hold id hid]

theorem srt_len{n:Nat}:∀(l:List Nat) (a:Nat),l.Pairwise (· < ·)→(∀x∈l,a<x∧x≤n)→l.length≤n-a
 | [],_,_,_=>Nat.zero_le _
 | x :: l, a, hp, hx => by
   have h1:=srt_len l x (List.pairwise_cons.mp hp).2 fun y hy=>⟨(List.pairwise_cons.mp hp).1 y hy,(hx y (by simp[hy])).2⟩
   have h2:=hx x (by simp)
   rw[List.length_cons];omega
theorem qis_len{st:St}{q mid g:Nat}{L:Qu}(h:QIs st q mid L g):L.length≤g:=by
 have:=srt_len (aT L) 0 h.srt h.pos
 simpa [aT]using this

end Go.Fx.YtgmeefljgbaanaaFx

namespace Go.Fx.YtgmeefljgbaanaaFx
open Go Go.Fx
attribute [local irreducible] aC runI aG aH

set_option maxRecDepth 100000
set_option maxHeartbeats 4000000

def St.only(st:St)(G:List Nat):St:=⟨st.boxes.mapIdx fun i b=>if i∈G then b else none⟩
theorem only_at(st:St){G:List Nat}{x:Nat}(h:x∈G):(St.only st G).boxes[x]?=st.boxes[x]?:=by
 unfold St.only
 rw[List.getElem?_mapIdx]
 simp only[h,if_true]
 cases st.boxes[x]? <;> rfl
theorem only_sub{st st':St}{G:List Nat}(h:∀x∈G,x<st.boxes.length→st'.boxes[x]?=st.boxes[x]?):St.sub (St.only st G) st':=fun id b hb=>by
 unfold St.only at hb
 rw[List.getElem?_mapIdx]at hb
 obtain⟨c,hc,hd⟩:=Option.map_eq_some_iff.1 hb
 by_cases hg:id∈G
 ·rw[if_pos hg]at hd
  subst hd
  rw[h id hg (List.getElem?_eq_some_iff.1 hc).1]
  exact hc
 ·rw[if_neg hg]at hd
  cases hd

theorem Kp.wide{st st':St}{F F':List Nat}(h:Kp st st' F)(hf:∀x∈F,x∈F'):Kp st st' F':=⟨h.1,fun i hi hn=>h.2 i hi fun e=>hn (hf i e)⟩
theorem cutS_sl(n:Nat)(o:Bool)(k:Nat)(es:List AV):cutS n (.sl o k es)=if es.length≤n then .sl o k es else .sl false k (es.take n):=rfl
theorem cutS_bs(n id k off len cap:Nat):cutS n (.bs id k off len cap)=if len≤n then .bs id k off len cap else .bs id k off n cap:=rfl

def DV(v:AV)(st:St)(p:List UInt8):Prop:=(v= .lit (.slice none 0 0)∧p= [])∨v= .sl false 1 (BB p)∨∃bi cap r,v= .bs bi 1 0 p.length cap∧st.get bi=some (BB p++r)∧p.length≤cap∧cap≤(BB p++r).length
section
variable {v:AV} {st st':St} {p:List UInt8}
theorem DV.facts(h:DV v st p):v.dis=v∧v.own1=v∧v.own2=v∧v.solid1=true∧v.noL=true∧v.cells= [v]∧(∀s,kill s v=v)∧∀st',lenI .sl st' v= .ok (.lit (.int .i64 (p.length:Nat))):=by
 rcases h with⟨rfl,rfl⟩|rfl|⟨id,cap,r,rfl,_⟩
 ·exact⟨rfl,rfl,rfl,rfl,rfl,rfl,fun _=>rfl,fun _=>rfl⟩
 ·exact⟨rfl,rfl,rfl,rfl,rfl,rfl,fun _=>rfl,fun _=>by rw[ew,bq]⟩
 ·exact⟨rfl,rfl,rfl,rfl,rfl,rfl,fun _=>rfl,fun _=>rfl⟩
theorem DV.at(h:DV v st p)(hb:∀x∈ah v,st'.boxes[x]?=st.boxes[x]?):DV v st' p:=by
 rcases h with h|h|⟨id,cap,r,rfl,hg,h1,h2⟩
 ·exact .inl h
 ·exact .inr (.inl h)
 ·exact .inr (.inr ⟨id,cap,r,rfl,(bJ (hb id (by simp[ah]))).trans hg,h1,h2⟩)
theorem DV.lt(h:DV v st p):∀x∈ah v,x<st.boxes.length:=by
 rcases h with⟨rfl,_⟩|rfl|⟨id,cap,r,rfl,hg,_⟩
 ·simp[ah]
 ·simp[ah]
 ·intro x hx;simp only[ah,List.mem_singleton]at hx;subst hx;exact bI hg
theorem DV.sl(st:St)(p:List UInt8):DV (.sl false 1 (BB p)) st p:=.inr (.inl rfl)
theorem DV.of_mb(h:MB v st (BB p)):DV v st p:=by
 rcases h with⟨rfl,e⟩|⟨id,cap,r,rfl,hg,h1,h2⟩
 ·refine .inl ⟨rfl,?_⟩
  have:=congrArg List.length e
  rw[bq]at this
  exact List.eq_nil_of_length_eq_zero this
 ·rw[bq]at *
  exact .inr (.inr ⟨id,cap,r,rfl,hg,h1,h2⟩)
theorem DV.src(h:DV v st p){K:List AV→Prop}(hK:K (BB p)):(srcA st 1 v).wp K:=by
 rcases h with⟨rfl,rfl⟩|rfl|⟨id,cap,r,rfl,hg,h1,h2⟩
 ·exact hK
 ·exact hK
 ·show(cR st id 1 0 p.length).wp K
  unfold cR
  rw[hg]
  refine⟨by simp[bq],?_⟩
  rw[List.drop_zero,qC (by simp[bq]),←bq p,List.take_left]
  exact hK
theorem DV.cut(h:DV v st p){lo:Nat}(hlo:lo≤p.length):∃sv,(∀K:AV→Prop,K sv→(cu v (some (.lit (.int .i64 (lo:Nat)))) (some (.lit (.int .i64 (p.length:Nat)))) 1).wp K) ∧
  ∀st',(∀x∈ah v,st'.boxes[x]?=st.boxes[x]?)→∀n (K:List AV→Prop),K (BB ((p.drop lo).take n))→(srcA st' 1 (cutS n sv)).wp K:=by
 rcases h with⟨rfl,rfl⟩|rfl|⟨bi,cap,r,rfl,hg,h1,h2⟩
 ·have:lo=0:=by simpa using hlo
  subst this
  refine⟨.lit (.slice none 0 0),fun K hK=>(by simp(config:=KF) (disch:=omega)only[bZ,cu,ixTo,Int.reduceLE];exact hK),fun st' _ n K hK=>?_⟩
  simp only[List.drop_nil,List.take_nil]at hK
  exact hK
 ·refine⟨.sl false 1 (BB (p.drop lo)),fun K hK=>?_,fun st' _ n K hK=>?_⟩
  ·simp(config:=KF) (disch:=omega)only[bZ,cu,ixTo,↓reduceIte,List.take_length,bq,fp,jb]
   exact hK
  ·rw[cutS_sl]
   split
   ·rename_i hc
    rw[bq]at hc
    rw[List.take_of_length_le hc]at hK
    exact hK
   ·rw[fp]
    exact hK
 ·by_cases hc:cap=lo
  ·have hl:lo=p.length:=by omega
   refine⟨.sl true 1 [],fun K hK=>?_,fun st' _ n K hK=>?_⟩
   ·subst hl
    subst hc
    simp(config:=KF) (disch:=omega)only[bZ,cu,sliB,sl3,ixTo,↓reduceIte,Nat.mul_one]
    exact hK
   ·subst hl
    rw[List.drop_length]at hK
    rw[cutS_sl,if_pos (show([]:List AV).length≤n from Nat.zero_le _)]
    have hK':K []:=by simpa [BB]using hK
    exact hK'
  ·refine⟨.bs bi 1 lo (p.length-lo) (cap-lo),fun K hK=>?_,fun st' hb n K hK=>?_⟩
   ·simp(config:=KF) (disch:=omega)only[bZ,cu,sliB,sl3,ixTo,↓reduceIte,if_pos,if_neg,Nat.mul_one]
    exact hK
   ·have hg':st'.get bi=some (BB p++r):=(bJ (hb bi (by simp[ah]))).trans hg
    have key:∀q,q≤p.length-lo→K (BB ((p.drop lo).take q))→(cR st' bi 1 lo q).wp K:=fun q hq hK=>by
     unfold cR
     rw[hg']
     refine⟨by simp[bq];omega,?_⟩
     have e:List.take q (List.drop lo (BB p++r))=BB ((p.drop lo).take q):=by
      rw[List.drop_append_of_le_length (by rw[bq];exact hlo),List.take_append_of_le_length (by rw[List.length_drop,bq];exact hq),jb,fp]
     rw[qC (by simp only[List.length_drop,List.length_append,bq];omega),e]
     exact hK
    rw[cutS_bs]
    split
    ·rename_i hc
     rw[List.take_of_length_le (by rw[List.length_drop];exact hc)]at hK
     refine key _ (Nat.le_refl _) ?_
     rw[List.take_of_length_le (by rw[List.length_drop];exact Nat.le_refl _)]
     exact hK
    ·exact key n (by omega) hK
end

section
variable {β:Type} {st:St} {id:Nat} {k:IntKind} {ev:β→AV} {m:List (Int×β)}

theorem oa(h:MapIs st id k ev m){seen:List Nat}{stp s:Nat}{d:Option Nat}{sf:Sf}{K:Sf→St→Prop}
  (hm:∀(i:Nat) (hi:i<m.length) (b:Nat),(st.getB id).1[i]?=some b→b ∉ seen→K ((sf.set s (.mit (some id) (st.getB id).2 (seen++[b]) (st.getB id).2)).put d (.tup [.lit (.bool true),.lit (.int k m[i].1),(ev m[i].2).dis])) st)
  (hd:(∀b∈(st.getB id).1,b∈seen)→K (sf.put d (.tup [.lit (.bool false)])) st):nxtX s d (.mit (some id) (st.getB id).2 seen stp) K sf st:=by
 unfold nxtX
 simp only[h.get,Res.ofOpt,Res.wp]
 refine⟨h.bc,Nat.le_refl _,fun i kk x b hi hb hn=>?_,hd⟩
 simp only[encM,List.getElem?_map,Option.map_eq_some_iff]at hi
 obtain⟨p,hp,he⟩:=hi
 obtain⟨hi,hpe⟩:=List.getElem?_eq_some_iff.1 hp
 have:=hm i hi b hb hn
 rw[hpe]at this
 cases he
 exact this

theorem ob(h:MapIs st id k ev m){seen:List Nat}{C:AV→St→Prop}{i b:Nat}(hi:i<m.length)(hb:(st.getB id).1[i]?=some b)(hC:C (.tup [.lit (.int k m[i].1),(ev m[i].2).dis]) st) :
  entX (.mit (some id) (st.getB id).2 (seen++[b]) (st.getB id).2) C st:=by
 unfold entX
 simp only[h.get,Res.ofOpt,Res.wp]
 refine⟨trivial,i,.lit (.int k m[i].1),ev m[i].2,b,by simp,?_,hb,hC⟩
 simp[encM,encE,hi]

def left(bs seen:List Nat):Nat:=(bs.filter fun b=>!seen.contains b).length
theorem qO{bs seen:List Nat}{b:Nat}(hb:b∈bs)(hn:b ∉ seen):left bs (seen++[b])<left bs seen:=by
 unfold left
 induction bs with
 |nil=>cases hb
 | cons a bs ih =>
   have key:∀l:List Nat,(l.filter fun x=>!(seen++[b]).contains x).length≤(l.filter fun x=>!seen.contains x).length:=by
    intro l
    induction l with
    |nil=>simp
    | cons x l ih =>
      simp only[List.filter_cons]
      by_cases h1:x∈seen
      ·simp[h1];simpa using ih
      ·by_cases h2:x=b
       ·subst h2;simp[h1];simp at ih;omega
       ·simp[h1,h2];simpa using ih
   simp only[List.filter_cons]
   rcases List.mem_cons.1 hb with rfl|hb
   ·have:=key bs
    simp[hn];simp at this;omega
   ·have ih:=ih hb
    by_cases h1:a∈seen
    ·simp[h1];simpa using ih
    ·by_cases h2:a=b
     ·have:=key bs
      subst h2
      simp[h1];simp at this;omega
     ·simp[h1,h2];simpa using ih
end

theorem cp{β:Type}{t:Int}{b:β}:∀{m:List (Int×β)},(aV m).Nodup→(t,b)∈m→aj t m=some b
 | (k, c) :: r, hn, hm => by
   simp only[aV,List.map_cons,List.nodup_cons]at hn
   simp only[aj]
   rcases List.mem_cons.1 hm with e|hm
   ·cases e;simp
   ·have:t≠k:=fun e=>hn.1 (e▸ List.mem_map.2 ⟨(t,b),hm,rfl⟩)
    rw[if_neg this];exact cp hn.2 hm
theorem fA{β:Type}{t:Int}{b:β}:∀{m:List (Int×β)},aj t m=some b→(t,b)∈m
 | (k, c) :: r, h => by
   simp only[aj]at h
   split at h
   ·rename_i e;subst e;cases h;simp
   ·exact List.mem_cons_of_mem _ (fA h)

structure Cpd {B:Type} (m M:List (Int×B)) (bs seen:List Nat):Prop where
 le:∀c v,aj c M=some v→aj c m=some v
 has:∀(i:Nat) (hi:i<m.length) (b:Nat),bs[i]?=some b→b∈seen→aj m[i].1 M=some m[i].2
theorem Cpd.nil{B:Type}(m:List (Int×B))(bs:List Nat):Cpd m [] bs []:=⟨fun c v h=>by simp[aj]at h,fun i hi b _ h=>by simp at h⟩
theorem Cpd.snoc{B:Type}{m M:List (Int×B)}{bs seen:List Nat}(h:Cpd m M bs seen)(hn:(aV m).Nodup)(hb:bs.Nodup){i b:Nat}(hi:i<m.length)(hbi:bs[i]?=some b):Cpd m (updP m[i].1 m[i].2 M) bs (seen++[b]):=by
 have hx:aj m[i].1 m=some m[i].2:=cp hn (List.getElem_mem hi)
 refine⟨fun c v hc=>?_,fun j hj b' hbj hs=>?_⟩
 ·rw[aZ]at hc
  split at hc
  ·rename_i e;subst e;rw[hx];exact hc
  ·exact h.le c v hc
 ·rw[aZ]
  split
  ·rename_i e
   have hy:aj m[j].1 m=some m[j].2:=cp hn (List.getElem_mem hj)
   rw[e,hx]at hy
   rw[hy]
  ·rename_i e
   rcases List.mem_append.1 hs with hs|hs
   ·exact h.has j hj b' hbj hs
   ·simp only[List.mem_singleton]at hs
    subst hs
    obtain⟨p1,p2⟩:=List.getElem?_eq_some_iff.1 hbi
    obtain⟨r1,r2⟩:=List.getElem?_eq_some_iff.1 hbj
    have:i=j:=(List.getElem_inj hb).1 (p2.trans r2.symm)
    subst this
    exact absurd rfl e
theorem Cpd.all{B:Type}{m M:List (Int×B)}{bs seen:List Nat}(h:Cpd m M bs seen)(hn:(aV m).Nodup)(hl:bs.length=m.length)(ha:∀b∈bs,b∈seen)(c:Int):aj c M=aj c m:=by
 cases hm:aj c m with
 | none =>
   cases hM:aj c M with
   |none=>rfl
   |some v=>have:=h.le c v hM;rw[hm]at this;cases this
 | some v =>
   obtain⟨i,hi,e⟩:=List.getElem_of_mem (fA hm)
   have hb:bs[i]?=some bs[i]:=List.getElem?_eq_getElem (by omega)
   have:=h.has i hi _ hb (ha _ (List.getElem_mem (by omega)))
   rw[e]at this
   exact this

end Go.Fx.YtgmeefljgbaanaaFx

