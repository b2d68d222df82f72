/- What the functions that the statement reaches compute: part 13. -/
import Derived.Test.YtgmeefljgbaanaaFxW12
namespace Go.Fx.YtgmeefljgbaanaaFx
open Go Go.Fx
attribute [local irreducible] aC runI aG aH

set_option maxRecDepth 100000
set_option maxHeartbeats 4000000

def rDo(w t n m:Int)(nm:ByteArray)(port pol:Int)(life:Nat)(d:List UInt8)(at_:Int)(R:NR):NR×RO :=
 if w=0 then((dc nm port n m pol life R).1,⟨(dc nm port n m pol life R).2.1,false,rc0,[],(dc nm port n m pol life R).2.2⟩)
 else if w=1 then((cy n nm port d R).1,⟨0,false,rc0,(cy n nm port d R).2.1,(cy n nm port d R).2.2⟩)
 else if w=2 then((ei t n m R).1,⟨0,(ei t n m R).2.2.1,(ei t n m R).2.1,[],(ei t n m R).2.2.2⟩)
 else if w=3 then((rTry n m R).1,⟨0,false,(rTry n m R).2.1,[],(rTry n m R).2.2⟩)
 else if w=4 then((eY t R).1,⟨0,false,rc0,[],(eY t R).2⟩)
 else if w=5 then((eB n R).1,⟨0,false,rc0,(eB n R).2.1,(eB n R).2.2⟩)
 else((rAdv at_ R).1,⟨(rAdv at_ R).2.1,false,rc0,[],(rAdv at_ R).2.2⟩)

def DoK(st st':St)(n sid wid k:Nat)(F:List Nat)(x:NR×RO)(v:AV):Prop :=
 ∃dv av F',v=resV x.2 dv av∧MB dv st' (BB x.2.one.data)∧(∀b∈ah dv,st.boxes.length≤b∧b ∉ F')∧AllV (fun b=>st.boxes.length≤b∧b ∉ F') false av st' x.2.all∧NP st st' n sid wid k F x.1 F'
theorem AllV.imp{P P':Nat→Prop}{o:Bool}{v:AV}{st:St}{l:List Rc}(h:AllV P o v st l)(hp:∀b,P b→P' b):AllV P' o v st l:=by
 rcases h with h|⟨es,rfl,h⟩
 ·exact .inl h
 ·refine .inr ⟨es,rfl,?_⟩
  induction es generalizing l with
  |nil=>cases l<;>exact h
  | cons e es ih => cases l with
    |nil=>exact h
    | cons r rs =>
      obtain⟨⟨w,h1,h2,h3⟩,h4⟩:=h
      exact⟨⟨w,h1,h2,fun b hb=>hp b (h3 b hb)⟩,ih h4⟩
theorem do_calls{st:St}{n sid wid k:Nat}{R:NR}{F:List Nat}(hh:NetR st n sid wid k R F)(hF:∀x∈F,x<st.boxes.length)(w t i m:Int)(nm:ByteArray)(port pol:Int)(life:Nat){v:AV}{d:List UInt8}(at_:Int)(hv:DV v st d)(hd:d.length≤100000)
  (hnm:nm.size<1000000) (hlife:life<18446744073709551616) (h0:0≤at_) (h1:at_<18446744073709551616) (hk:k<90000) :
  aF Go.Proofs.Try.prog n_f14 [.ptr n 0,actA w t i m nm port pol life v at_] st (fun x st'=>DoK st st' n sid wid k F (rDo w t i m nm port pol life d at_ R) x):=by
 obtain⟨v1,v2,v3,v4,v5,v6,v7,v8⟩:=hv.facts
 unfold actA
 refine aK hmix k_f14 rfl rfl fun Q hQ=>?_
 unfold aFun c_f14
 unfold rDo at hQ
 have same:∀(st':St) (x:NR×RO) (F':List Nat),x.2.one=rc0→x.2.all= []→NP st st' n sid wid k F x.1 F'→DoK st st' n sid wid k F x (resA x.2.n x.2.done 0 ⟨#[]⟩ 0 (.lit (.slice none 0 0)) 0 false 0 (.lit (.slice none 0 0)) x.2.err):=fun st' x F' hx hy h1 =>
  ⟨.lit (.slice none 0 0),.lit (.slice none 0 0),F',by unfold resV;rw[hx];rfl,by rw[hx];exact .inl ⟨rfl,rfl⟩,fun _ q=>(by cases q),.inl ⟨rfl,hy⟩,h1⟩
 unfold resA at same
 simp(config:=KF) (disch:=omega)only[bZ,addA,aa,↓reduceIte,Nat.reduceEqDiff,Nat.reduceAdd,reduceCtorEq,v2,v4]
 refine aA (fun c0=>?_) (fun c0=>?_)
 ·rw[if_pos c0]at hQ
  simp(config:=KF) (disch:=omega)only[bZ,addA,aa,id,↓reduceIte,Nat.reduceEqDiff,Nat.reduceAdd,Nat.reduceLeDiff,reduceCtorEq]
  refine aR (vs:=[.ptr n 0,adAV nm port,.lit (.int .i64 i),.lit (.int .i64 m),.lit (.int .i64 pol),.lit (.int .u64 (life:Nat))]) (by simp[v1,i8,ar,adAV,am,ai]) e_f9 (nW hh nm port i m pol life hnm hlife) (by simp[v5,eV,aq,adAV,ao]) fun x st1 hr=>?_
  obtain⟨F',rfl,r1⟩:=hr
  generalize dc nm port i m pol life R=O at hQ r1
  simp(config:=KF) (disch:=omega)only[bZ,retI,af,addA,aa,↓reduceIte,Nat.reduceEqDiff,Nat.reduceAdd,Nat.reduceLeDiff,reduceCtorEq]
  exact hQ _ _ (same st1 (O.1,⟨O.2.1,false,rc0,[],O.2.2⟩) F' rfl rfl r1)
 rw[if_neg c0]at hQ
 simp(config:=KF) (disch:=omega)only[bZ,↓reduceIte,Nat.reduceEqDiff,reduceCtorEq]
 refine aA (fun c1=>?_) (fun c1=>?_)
 ·rw[if_pos c1]at hQ
  simp(config:=KF) (disch:=omega)only[bZ,addA,aa,id,↓reduceIte,Nat.reduceEqDiff,Nat.reduceAdd,Nat.reduceLeDiff,reduceCtorEq,v1]
  refine aR (vs:=[.ptr n 0,.lit (.int .i64 i),adAV nm port,v]) (by simp[v1,i8,ar,adAV,am,ai]) e_f36 (oq hh hF i nm port hnm hv hd (by omega)) (by simp[v5,eV,aq,adAV,ao]) fun x st1 hr=>?_
  obtain⟨av,F',rfl,ha,r1⟩:=hr
  generalize cy i nm port d R=O at hQ r1 ha
  obtain⟨a1,a2,a3,a4,a5,a6,a7,a8⟩:=ha.facts
  simp(config:=KF) (disch:=omega)only[bZ,retI,af,addA,aa,↓reduceIte,Nat.reduceEqDiff,Nat.reduceAdd,Nat.reduceLeDiff,reduceCtorEq,a1,a2,a3,a4,a6]
  exact hQ _ _ ⟨.lit (.slice none 0 0),av,F',rfl,.inl ⟨rfl,rfl⟩,fun _ q=>(by cases q),ha,r1⟩
 rw[if_neg c1]at hQ
 simp(config:=KF) (disch:=omega)only[bZ,↓reduceIte,Nat.reduceEqDiff,reduceCtorEq]
 refine aA (fun c2=>?_) (fun c2=>?_)
 ·rw[if_pos c2]at hQ
  simp(config:=KF) (disch:=omega)only[bZ,addA,aa,id,↓reduceIte,Nat.reduceEqDiff,reduceCtorEq]
  refine aR (vs:=[.ptr n 0,.lit (.int .i64 t),.lit (.int .i64 i),.lit (.int .i64 m)]) rfl e_f34 (oz hh t i m hk) rfl fun x st1 hr=>?_
  obtain⟨ov,F',rfl,⟨dv,rfl,hmb,hb⟩,r1⟩:=hr
  generalize ei t i m R=O at hQ r1 hmb
  obtain⟨a1,a2,a3,a4,a5,a6,a7,a8⟩:=hmb.facts
  unfold rcAV
  simp(config:=KF) (disch:=omega)only[bZ,retI,af,addA,aa,↓reduceIte,Nat.reduceEqDiff,Nat.reduceAdd,Nat.reduceLeDiff,reduceCtorEq,a2,a4]
  exact hQ _ _ ⟨dv,.lit (.slice none 0 0),F',rfl,hmb,hb,.inl ⟨rfl,rfl⟩,r1⟩
 rw[if_neg c2]at hQ
 simp(config:=KF) (disch:=omega)only[bZ,↓reduceIte,Nat.reduceEqDiff,reduceCtorEq]
 refine aA (fun c3=>?_) (fun c3=>?_)
 ·rw[if_pos c3]at hQ
  simp(config:=KF) (disch:=omega)only[bZ,addA,aa,id,↓reduceIte,Nat.reduceEqDiff,reduceCtorEq]
  refine aR (vs:=[.ptr n 0,.lit (.int .i64 i),.lit (.int .i64 m)]) rfl e_f31 (p5 hh i m) rfl fun x st1 hr=>?_
  obtain⟨ov,F',rfl,⟨dv,rfl,hmb,hb⟩,r1⟩:=hr
  generalize rTry i m R=O at hQ r1 hmb
  obtain⟨a1,a2,a3,a4,a5,a6,a7,a8⟩:=hmb.facts
  unfold rcAV
  simp(config:=KF) (disch:=omega)only[bZ,retI,af,addA,aa,↓reduceIte,Nat.reduceEqDiff,Nat.reduceAdd,Nat.reduceLeDiff,reduceCtorEq,a2,a4]
  exact hQ _ _ ⟨dv,.lit (.slice none 0 0),F',rfl,hmb,hb,.inl ⟨rfl,rfl⟩,r1⟩
 rw[if_neg c3]at hQ
 simp(config:=KF) (disch:=omega)only[bZ,↓reduceIte,Nat.reduceEqDiff,reduceCtorEq]
 refine aA (fun c4=>?_) (fun c4=>?_)
 ·rw[if_pos c4]at hQ
  simp(config:=KF) (disch:=omega)only[bZ,addA,aa,id,↓reduceIte,Nat.reduceEqDiff,reduceCtorEq]
  refine aR (vs:=[.ptr n 0,.lit (.int .i64 t)]) rfl e_f37 (qV hh t (by omega)) rfl fun x st1 hr=>?_
  obtain⟨F',rfl,r1⟩:=hr
  generalize eY t R=O at hQ r1
  simp(config:=KF) (disch:=omega)only[bZ,retI,af,addA,aa,↓reduceIte,Nat.reduceEqDiff,Nat.reduceAdd,Nat.reduceLeDiff,reduceCtorEq]
  exact hQ _ _ (same st1 (O.1,⟨0,false,rc0,[],O.2⟩) F' rfl rfl r1)
 rw[if_neg c4]at hQ
 simp(config:=KF) (disch:=omega)only[bZ,↓reduceIte,Nat.reduceEqDiff,reduceCtorEq]
 refine aA (fun c5=>?_) (fun c5=>?_)
 ·rw[if_pos c5]at hQ
  simp(config:=KF) (disch:=omega)only[bZ,addA,aa,id,↓reduceIte,Nat.reduceEqDiff,reduceCtorEq]
  refine aR (vs:=[.ptr n 0,.lit (.int .i64 i)]) rfl e_f12 (close_calls hh i hk) rfl fun x st1 hr=>?_
  obtain⟨av,F',rfl,ha,r1⟩:=hr
  generalize eB i R=O at hQ r1 ha
  obtain⟨a1,a2,a3,a4,a5,a6,a7,a8⟩:=ha.facts
  simp(config:=KF) (disch:=omega)only[bZ,retI,af,addA,aa,↓reduceIte,Nat.reduceEqDiff,Nat.reduceAdd,Nat.reduceLeDiff,reduceCtorEq,a1,a2,a3,a4,a6]
  exact hQ _ _ ⟨.lit (.slice none 0 0),av,F',rfl,.inl ⟨rfl,rfl⟩,fun _ q=>(by cases q),ha.imp fun _ q=>q.elim,r1⟩
 rw[if_neg c5]at hQ
 simp(config:=KF) (disch:=omega)only[bZ,addA,aa,id,↓reduceIte,Nat.reduceEqDiff,reduceCtorEq]
 refine aR (vs:=[.ptr n 0,.lit (.int .u64 at_)]) rfl e_f38 (pI hh at_ h0 h1 hk) rfl fun x st1 hr=>?_
 obtain⟨F',rfl,r1⟩:=hr
 generalize rAdv at_ R=O at hQ r1
 simp(config:=KF) (disch:=omega)only[bZ,retI,af,addA,aa,↓reduceIte,Nat.reduceEqDiff,Nat.reduceAdd,Nat.reduceLeDiff,reduceCtorEq]
 exact hQ _ _ (same st1 (O.1,⟨O.2.1,false,rc0,[],O.2.2⟩) F' rfl rfl r1)
end Go.Fx.YtgmeefljgbaanaaFx

namespace Go.Fx.YtgmeefljgbaanaaFx
open Go Go.Fx
attribute [local irreducible] aC runI aG aH

set_option maxRecDepth 100000
set_option maxHeartbeats 4000000

structure Act where
 w:Int
 t:Int
 n:Int
 m:Int
 nm:ByteArray
 port:Int
 pol:Int
 life:Nat
 d:List UInt8
 at_:Nat
def dV(d:List UInt8):AV:=.sl false 1 (BB d)
def actV(a:Act):AV:=actA a.w a.t a.n a.m a.nm a.port a.pol (a.life:Nat) (dV a.d) (a.at_:Nat)
def fewB(l:List Act):Bool:=l.all fun a=>decide (a.d.length≤2060∧a.nm.size≤50)
theorem act_getD{l:List Act}{i:Nat}(h:i<l.length):(l.map actV).getD i .any= .agg [.lit (.int .i64 l[i].w),.lit (.int .i64 l[i].t),.lit (.int .i64 l[i].n),.lit (.int .i64 l[i].m),.lit (.string l[i].nm),.lit (.int .i64 l[i].port),.lit (.int .i64 l[i].pol),.lit (.int .u64 (l[i].life:Nat)),.sl false 1 (BB l[i].d),.lit (.int .u64 (l[i].at_:Nat))]:=by
 rw[List.getD_eq_getElem?_getD,List.getElem?_map,List.getElem?_eq_getElem h];rfl
theorem nX(l:List Act)(hl:l.length≤60)(st:St):az Go.Proofs.Try.prog n_f13 [.sl false 10 (l.map actV)] st (.lit (.bool (fewB l))):=by
 refine al hmix k_f13 rfl rfl fun Q hQ=>?_
 unfold aFun c_f13
 simp(config:=KF) (disch:=omega)only[bZ,↓reduceIte,reduceCtorEq]
 rw[f13_7w]
 refine bB (A:=Nat) (fun i=>l.length-i) (fun i=>⟨[(0,.sl false 10 (l.map actV)),(3,.lit (.int .i64 (i:Nat)))],[]⟩) (fun _=>st)
  (fun i=>i≤l.length∧fewB (l.take i)=true) 0 ⟨Nat.zero_le _,rfl⟩ (Sf.le_refl _) rfl ?_
 rintro i ⟨h1,h2⟩ K hK hKe hKr
 by_cases h3:i<l.length
 ·have hg:=act_getD h3
  have htk:fewB (l.take (i+1))=decide (l[i].d.length≤2060∧l[i].nm.size≤50):=by
   rw[List.take_succ_eq_append_getElem h3]
   unfold fewB at h2 ⊢
   rw[List.all_append,h2];simp
  have hf:¬(l[i].d.length≤2060∧l[i].nm.size≤50)→fewB l=false:=fun h4=>by
   unfold fewB
   rw[List.all_eq_false]
   exact⟨l[i],List.getElem_mem h3,by simpa using h4⟩
  by_cases h4:l[i].d.length≤2060
  ·by_cases h5:l[i].nm.size≤50
   ·rw[decide_eq_true ⟨h4,h5⟩]at htk
    simp(config:=KF) (disch:=omega)only[bZ,AI.dst,ixSV,lenI,addA,aa,↓reduceIte,Nat.reduceEqDiff,reduceCtorEq,bq,hg]
    exact hK (i+1) _ ⟨h3,htk⟩ (by omega) (Sf.le_refl _)
   ·rw[hf (fun q=>h5 q.2)]at hQ
    simp(config:=KF) (disch:=omega)only[bZ,AI.dst,ixSV,lenI,addA,aa,↓reduceIte,Nat.reduceEqDiff,reduceCtorEq,bq,hg]
    refine hKr _ _ ?_
    simp(config:=KF) (disch:=omega)only[bZ,retI,↓reduceIte]
    exact hQ _
  ·rw[hf (fun q=>h4 q.1)]at hQ
   simp(config:=KF) (disch:=omega)only[bZ,AI.dst,ixSV,lenI,addA,aa,↓reduceIte,Nat.reduceEqDiff,reduceCtorEq,bq,ba,hg]
   refine hKr _ _ ?_
   simp(config:=KF) (disch:=omega)only[bZ,retI,↓reduceIte]
   exact hQ _
 ·obtain rfl:i=l.length:=by omega
  rw[List.take_length]at h2
  rw[h2]at hQ
  simp(config:=KF) (disch:=omega)only[bZ,lenI,↓reduceIte,Nat.reduceEqDiff,reduceCtorEq]
  refine hKe _ _ _ ?_
  simp(config:=KF) (disch:=omega)only[bZ,retI,↓reduceIte]
  exact hQ _

theorem fp(p:List UInt8)(k:Nat):(BB p).take k=BB (p.take k):=by unfold BB;rw[List.map_take]
end Go.Fx.YtgmeefljgbaanaaFx

namespace Go.Fx.YtgmeefljgbaanaaFx
open Go Go.Fx
attribute [local irreducible] aC runI aG aH

set_option maxRecDepth 100000
set_option maxHeartbeats 4000000

def rowG(k:Nat)(vs:List AV):AV:=if vs= []then .lit (.slice none 0 0)else .sl true k vs
theorem nY(k:Nat):rowG k []= .lit (.slice none 0 0):=rfl
theorem je{k:Nat}{vs:List AV}(h:vs≠[]):rowG k vs= .sl true k vs:=if_neg h
theorem nZ(k:Nat)(vs:List AV):(∀s,kill s (rowG k vs)=rowG k vs)∧(rowG k vs).noL=true∧(rowG k vs).solid1=true∧∀st,lenI .sl st (rowG k vs).dis= .ok (.lit (.int .i64 (vs.length:Nat))):=by
 unfold rowG;split
 ·rename_i h;rw[h];exact⟨fun _=>rfl,rfl,rfl,fun _=>rfl⟩
 ·exact⟨fun _=>rfl,rfl,rfl,fun _=>rfl⟩
theorem RcsV.app{P:Nat→Prop}{st:St}:∀{es:List AV} {l:List Rc} {fs:List AV} {m:List Rc},RcsV P st es l→RcsV P st fs m→RcsV P st (es++fs) (l++m)
 | [],[],_,_,_,h=>h
 |_::_,_::_,_,_,h,k=>⟨h.1,RcsV.app h.2 k⟩
 | [],_::_,_,_,h,_=>h.elim
 |_::_,[],_,_,h,_=>h.elim
theorem RcsV.kp{st st':St}{F F':List Nat}(hk:Kp st st' F)(hf:∀b∈F',b∈F∨st.boxes.length≤b):∀{es:List AV} {l:List Rc},RcsV (fun b=>b ∉ F) st es l→RcsV (fun b=>b ∉ F') st' es l
 | [],[],_=>trivial
 | _ :: _, _ :: _, h => by
   obtain⟨⟨w,h1,h2,h3⟩,h4⟩:=h
   refine⟨⟨w,h1,h2.at fun b hb=>hk.2 b (h2.lt b hb) (h3 b hb),fun b hb q=>?_⟩,RcsV.kp hk hf h4⟩
   rcases hf b q with q|q
   ·exact h3 b hb q
   ·have:=h2.lt b hb;omega
 | [],_::_,h=>h.elim
 |_::_,[],h=>h.elim
end Go.Fx.YtgmeefljgbaanaaFx

namespace Go.Fx.YtgmeefljgbaanaaFx
open Go Go.Fx
attribute [local irreducible] aC runI aG aH

set_option maxRecDepth 100000
set_option maxHeartbeats 4000000

abbrev ActT:=Int×Int×Int×Int×(ByteArray×Int×Unit)×Int×Int×List Int×Int×Unit
def okT(x:ActT):Prop:=(0≤x.2.2.2.2.2.2.1∧x.2.2.2.2.2.2.1≤18446744073709551615)∧(∀i∈x.2.2.2.2.2.2.2.1,0≤i∧i≤255)∧(0≤x.2.2.2.2.2.2.2.2.1∧x.2.2.2.2.2.2.2.2.1≤18446744073709551615)
def avT(x:ActT):AV:=.agg [.lit (.int .i64 x.1),.lit (.int .i64 x.2.1),.lit (.int .i64 x.2.2.1),.lit (.int .i64 x.2.2.2.1),.lit (.string x.2.2.2.2.1.1),.lit (.int .i64 x.2.2.2.2.1.2.1),.lit (.int .i64 x.2.2.2.2.2.1),.lit (.int .u64 x.2.2.2.2.2.2.1),.sl false 1 (x.2.2.2.2.2.2.2.1.map fun i=>.lit (.int .u8 i)),.lit (.int .u64 x.2.2.2.2.2.2.2.2.1)]
theorem ip:∀{b:List Int},(∀i∈b,0≤i∧i≤255)→∃d:List UInt8,(b.map fun i=>AV.lit (.int .u8 i))=BB d
 | [],_=>⟨[],rfl⟩
 | x :: r, h => by
   obtain⟨d,hd⟩:=ip (b:=r) fun i hi=>h i (by simp[hi])
   obtain⟨h0,h1⟩:=h x (by simp)
   refine⟨UInt8.ofNat x.toNat::d,?_⟩
   have e:(((UInt8.ofNat x.toNat).toNat:Nat):Int)=x:=by simp;omega
   rw[List.map_cons,hd,mz,e]
theorem mC:∀{l:List ActT},(∀x∈l,okT x)→∃acts:List Act,l.map avT=acts.map actV∧∀a∈acts,a.life<18446744073709551616∧a.at_<18446744073709551616
 | [],_=>⟨[],rfl,fun a ha=>(by cases ha)⟩
 | x :: r, h => by
   obtain⟨d,hd,hb⟩:=mC (l:=r) fun i hi=>h i (by simp[hi])
   obtain⟨⟨h1,h2⟩,h3,h4,h5⟩:=h x (by simp)
   obtain⟨p,hp⟩:=ip h3
   refine⟨⟨x.1,x.2.1,x.2.2.1,x.2.2.2.1,x.2.2.2.2.1.1,x.2.2.2.2.1.2.1,x.2.2.2.2.2.1,x.2.2.2.2.2.2.1.toNat,p,x.2.2.2.2.2.2.2.2.1.toNat⟩::d,?_,fun a ha=>?_⟩
   ·rw[List.map_cons,hd,List.map_cons]
    unfold avT actV actA dV
    rw[hp,Int.toNat_of_nonneg h1,Int.toNat_of_nonneg h4]
   ·rcases List.mem_cons.1 ha with rfl|ha
    ·exact⟨by simp only;omega,by simp only;omega⟩
    ·exact hb a ha
end Go.Fx.YtgmeefljgbaanaaFx

