/- What the functions that the statement reaches compute: part 1. -/
import Derived.Test.YtoiokbmgdcaaoaaFxT
namespace Go.Fx.YtoiokbmgdcaaoaaFx
open Go Go.Fx
attribute [local irreducible] aC runI ap am

set_option maxRecDepth 100000
set_option maxHeartbeats 4000000

theorem cellsD_cons (x:AV) (l:List AV):cellsD (x::l) = x.dis.cells++cellsD l:=by
 unfold cellsD; rw [List.map_cons,List.flatMap_cons]
section
variable {α:Type} {c:α→List AV} {k:Nat}
structure RC (c:α→List AV) (k:Nat):Prop where
 len:∀ a,(c a).length = k
 own:∀ a,(c a).map AV.own1 = c a
def rcs (c:α→List AV) (l:List α):List AV:=l.flatMap c
def rcA (c:α→List AV) (a:α):AV:=.agg (c a)
theorem dO (hc:RC c k):∀ l:List α,(rcs c l).length = l.length * k
 | []=>by simp [rcs]
 | a :: l => by
   have:=dO hc l
   unfold rcs at this ⊢
   rw [List.flatMap_cons,List.length_append,this,hc.len,List.length_cons,Nat.succ_mul]; omega
theorem rcs_app (c:α→List AV) (a b:List α):rcs c (a++b) = rcs c a++rcs c b:=List.flatMap_append
theorem rcs_own (hc:RC c k):∀ l:List α,(rcs c l).map AV.own1 = rcs c l
 | []=>rfl
 | a :: l => by
   have:=rcs_own hc l
   unfold rcs at this ⊢
   rw [List.flatMap_cons,List.map_append,this,hc.own]
theorem rcA_dis (hc:RC c k) (a:α):(rcA c a).dis = rcA c a:=by
 unfold rcA; rw [dK,hc.own]
theorem nc (hc:RC c k):∀ l:List α,cellsD (l.map (rcA c)) = rcs c l
 | []=>rfl
 | a :: l => by
   have:=nc hc l
   rw [List.map_cons,cellsD_cons,this,rcA_dis hc]
   rfl
def RB (c:α→List AV) (k:Nat) (v:AV) (st:St) (l:List α):Prop:=(v = .lit (.slice none 0 0)∧l = [])∨∃ id cap r,v = .bs id k 0 l.length cap∧st.get id = some (rcs c l++r)∧l.length≤cap∧cap * k≤(rcs c l++r).length
variable {v:AV} {st st':St} {l:List α}
theorem RB.nil (c:α→List AV) (k:Nat) (st:St):RB c k (.lit (.slice none 0 0)) st []:=.inl ⟨rfl,rfl⟩
theorem RB.app (hc:RC c k) (h:RB c k v st l) {bytes:Nat} {new:List α} (hr:fM (l.length + new.length) bytes = true) {C:AV→St→Prop} (hC:∀ v' st',RB c k v' st' (l++new)→Kp st st' (bF v)→(∀ x ∈ bF v',x ∈ bF v∨st.boxes.length≤x)→C v' st'):appX false k bytes v C st (new.map (rcA c)):=by
 rcases h with ⟨rfl,rfl⟩ | ⟨id,cap,r,rfl,hg,h1,h2⟩
 ·refine ⟨rfl,by rw [List.length_map]; simpa using hr,?_⟩
  cases new with
  | nil=>exact hC _ _ (RB.nil c k _) (Kp.refl _ _) (by simp [bF])
  | cons p r =>
    refine fun cc hcc=>hC _ _ (.inr ⟨st.boxes.length,cc,List.replicate ((cc - (p::r).length) * k) .any,by simp,?_,by simpa using hcc,?_⟩) ⟨by rw [fi]; omega,fun i hi _=>push_at hi⟩ (by simp [bF])
    ·rw [nc hc,List.length_map]
     simp only [List.nil_append]
     exact ca _ _
    ·rw [List.nil_append,List.length_append,dO hc,List.length_replicate,← Nat.add_mul]
     rw [List.length_map] at hcc
     exact Nat.mul_le_mul_right k (by omega)
 ·have hid:=gK hg
  refine ⟨rfl,rfl,by rw [List.length_map]; exact hr,?_⟩
  rw [hg]
  show (Res.ok _).wp _
  rw [wp_ok,nc hc,List.length_map]
  rw [List.length_append,dO hc] at h2
  split
  ·rename_i hcc
   have hmul:(l.length + new.length) * k≤cap * k:=Nat.mul_le_mul_right k hcc
   rw [Nat.add_mul] at hmul
   have hsa:aG (rcs c l++r) (0 + l.length * k) (rcs c new) = rcs c (l++new)++r.drop (new.length * k):=by
    rw [Nat.zero_add,qe (dO hc l).symm (by rw [dO hc]; omega),dO hc,rcs_app]
    simp
   refine ⟨by simp only [List.length_append,dO hc,Nat.add_mul]; omega,hC _ _ (.inr ⟨id,cap,r.drop (new.length * k),by simp,?_,by simpa using hcc,?_⟩) ((Oth.set st id _ (S:=[id]) (by simp)).kp (by simp [bF])) (by simp [bF])⟩
   ·rw [eG hid,hsa]
   ·simp only [List.length_append,dO hc,List.length_drop,Nat.add_mul]; omega
  ·rename_i hcc
   refine ⟨by rw [List.length_append,dO hc]; omega,fun cc hcc=>hC _ _ (.inr ⟨st.boxes.length,cc,List.replicate ((cc - (l.length + new.length)) * k) .any,by simp,?_,by simpa using hcc,?_⟩) ⟨by rw [fi]; omega,fun i hi _=>push_at hi⟩ (by simp [bF])⟩
   ·rw [List.drop_zero,List.take_left' (dO hc l),rcs_own hc,← rcs_app]
    exact ca _ _
   ·rw [List.length_append,dO hc,List.length_replicate,List.length_append,← Nat.add_mul]
    exact Nat.mul_le_mul_right k (by omega)
end

def Fz (v:AV):Prop:=v = .lit (.slice none 0 0)∨∃ k es,v = .sl false k es
structure FV where
 v:AV
 h:Fz v
section
variable (x:FV)
theorem fv_dis:x.v.dis = x.v:=by rcases x.h with h | ⟨k,es,h⟩ <;> rw [h] <;> rfl
theorem aU:x.v.own1 = x.v:=by rcases x.h with h | ⟨k,es,h⟩ <;> rw [h] <;> rfl
theorem aL:x.v.solid1 = true:=by rcases x.h with h | ⟨k,es,h⟩ <;> rw [h] <;> rfl
end
def fv0:FV:=⟨.lit (.slice none 0 0),.inl rfl⟩

structure Cl where
 kind:Int
 f1:Int
 f2:Int
 t1:Int
 t2:Int
 nm:ByteArray
 port:Int
 data:FV
 most:Int
 n:Int
 dir:Int
 at_:Nat
structure En where
 task:Int
 kind:Int
 err:Int
 n:Int
 data:FV
 f1:Int
 f2:Int
 t1:Int
 t2:Int
 nm:ByteArray
 port:Int
 at_:Nat
structure Ev where
 kind:Int
 task:Int
 call:Cl
 err:Int
 done:Bool
 en:En
 woke:FV
 now:Nat
def clC (c:Cl):List AV:=[.lit (.int .i64 c.kind),.lit (.int .i64 c.f1),.lit (.int .i64 c.f2),.lit (.int .i64 c.t1),.lit (.int .i64 c.t2),.lit (.string c.nm),.lit (.int .i64 c.port),c.data.v,.lit (.int .i64 c.most),.lit (.int .i64 c.n),.lit (.int .i64 c.dir),.lit (.int .u64 (c.at_:Nat))]
def enC (e:En):List AV:=[.lit (.int .i64 e.task),.lit (.int .i64 e.kind),.lit (.int .i64 e.err),.lit (.int .i64 e.n),e.data.v,.lit (.int .i64 e.f1),.lit (.int .i64 e.f2),.lit (.int .i64 e.t1),.lit (.int .i64 e.t2),.lit (.string e.nm),.lit (.int .i64 e.port),.lit (.int .u64 (e.at_:Nat))]
def evC (e:Ev):List AV:=.lit (.int .i64 e.kind)::.lit (.int .i64 e.task)::(clC e.call++(.lit (.int .i64 e.err)::.lit (.bool e.done)::(enC e.en++[e.woke.v,.lit (.int .u64 (e.now:Nat))])))
def evA (e:Ev):AV:=.agg (evC e)
theorem qi (c:Cl):clC c = [.lit (.int .i64 c.kind),.lit (.int .i64 c.f1),.lit (.int .i64 c.f2),.lit (.int .i64 c.t1),.lit (.int .i64 c.t2),.lit (.string c.nm),.lit (.int .i64 c.port),c.data.v,.lit (.int .i64 c.most),.lit (.int .i64 c.n),.lit (.int .i64 c.dir),.lit (.int .u64 (c.at_:Nat))]:=rfl
theorem cl_own (c:Cl):(clC c).map AV.own1 = clC c:=by unfold clC; simp only [List.map_cons,List.map_nil,cR,aU]
theorem fm {l:List Ev} {j:Nat} (hj:j < l.length):(l.map evA).getD j .any = .agg (evC l[j]):=by simp [hj,evA]
end Go.Fx.YtoiokbmgdcaaoaaFx

namespace Go.Fx.YtoiokbmgdcaaoaaFx
open Go Go.Fx
attribute [local irreducible] aC runI ap am

set_option maxRecDepth 100000
set_option maxHeartbeats 4000000

def clA (c:Cl):AV:=.agg (clC c)
theorem iD (e:Ev):evC e = [.lit (.int .i64 e.kind),.lit (.int .i64 e.task),.lit (.int .i64 e.call.kind),.lit (.int .i64 e.call.f1),.lit (.int .i64 e.call.f2),.lit (.int .i64 e.call.t1),.lit (.int .i64 e.call.t2),.lit (.string e.call.nm),.lit (.int .i64 e.call.port),e.call.data.v,.lit (.int .i64 e.call.most),.lit (.int .i64 e.call.n),.lit (.int .i64 e.call.dir),.lit (.int .u64 (e.call.at_:Nat)),.lit (.int .i64 e.err),.lit (.bool e.done),.lit (.int .i64 e.en.task),.lit (.int .i64 e.en.kind),.lit (.int .i64 e.en.err),.lit (.int .i64 e.en.n),e.en.data.v,.lit (.int .i64 e.en.f1),.lit (.int .i64 e.en.f2),.lit (.int .i64 e.en.t1),.lit (.int .i64 e.en.t2),.lit (.string e.en.nm),.lit (.int .i64 e.en.port),.lit (.int .u64 (e.en.at_:Nat)),e.woke.v,.lit (.int .u64 (e.now:Nat))]:=rfl
def cl0:Cl:=⟨0,0,0,0,0,⟨#[]⟩,0,fv0,0,0,0,0⟩
def mo (t:Int) (e:Ev):Bool:=decide (e.kind = 1∧e.task = t∧e.err = 0)
def subC (t:Int) (l:List Ev):Option Cl:=l.foldl (fun o e=>if mo t e = true then some e.call else o) none
theorem subC_snoc (t:Int) (l:List Ev) (e:Ev):subC t (l++[e]) = if mo t e = true then some e.call else subC t l:=by
 unfold subC
 rw [List.foldl_append]
 rfl
theorem rq (t:Int) {l:List Ev} {k:Nat} (hk:k < l.length):subC t (l.take (k + 1)) = if mo t l[k] = true then some l[k].call else subC t (l.take k):=by
 rw [List.take_succ_eq_append_getElem hk,subC_snoc]
theorem rcall_pure (st:St) {l:List Ev} {k:Nat} (hk:k < l.length) (hl:l.length≤10000) :
  aF Go.Proofs.Try.prog n_f24 [.sl false 30 (l.map evA),.lit (.int .i64 (k:Nat))] st (.tup [clA ((subC l[k].task (l.take k)).getD cl0),.lit (.bool (subC l[k].task (l.take k)).isSome)]):=by
 have hll:(l.map evA).length = l.length:=List.length_map ..
 have hgk:=fm hk
 rw [iD] at hgk
 generalize ht:l[k].task = t at hgk ⊢
 generalize l[k] = e0 at hgk
 have hc0:clA cl0 = .agg [.lit (.int .i64 0),.lit (.int .i64 0),.lit (.int .i64 0),.lit (.int .i64 0),.lit (.int .i64 0),.lit (.string ⟨#[]⟩),.lit (.int .i64 0),.lit (.slice none 0 0),.lit (.int .i64 0),.lit (.int .i64 0),.lit (.int .i64 0),.lit (.int .u64 0)]:=rfl
 refine aV hmix k_f24 rfl rfl fun Q hQ=>?_
 unfold aFun c_f24
 simp (config:=KF) (disch:=omega) only [bZ,fZ,↓reduceIte,Nat.reduceEqDiff,reduceCtorEq]
 rw [f24_7w]
 refine da (A:=Nat) (fun j=>j) (fun j=>⟨[(0,.sl false 30 (l.map evA)),(1,.lit (.int .i64 (k:Nat))),(4,.lptr 4 0),(6,.lit (.int .i64 ((j:Int) - 1)))],[(4,[.lit (.int .i64 0),.lit (.int .i64 0),.lit (.int .i64 0),.lit (.int .i64 0),.lit (.int .i64 0),.lit (.string ⟨#[]⟩),.lit (.int .i64 0),.lit (.slice none 0 0),.lit (.int .i64 0),.lit (.int .i64 0),.lit (.int .i64 0),.lit (.int .u64 0)])]⟩) (fun _=>st)
  (fun j=>j≤k∧subC t (l.take k) = subC t (l.take j)) k ⟨Nat.le_refl _,rfl⟩ (Sf.le_refl _) rfl ?_
 rintro j ⟨h1,h2⟩ K hK hKe hKr
 try dsimp only
 cases j with
 | zero =>
   simp (config:=KF) (disch:=omega) only [bZ,az,bp,f0,↓reduceIte,Nat.reduceEqDiff,Int.reduceSub,Int.reduceNeg,reduceCtorEq]
   refine hKe _ _ _ ?_
   simp (config:=KF) (disch:=omega) only [bZ,aj,retI,resI,resL,kQ,bstV,ar,ag,br,cr,bd,↓reduceIte,Nat.reduceEqDiff,Nat.reduceAdd,Nat.reduceLeDiff]
   rw [h2] at hQ
   have:subC t (l.take 0) = none:=rfl
   rw [this] at hQ
   exact hQ _
 | succ j =>
   have hj:j < l.length:=by omega
   have hgd:=fm hj
   rw [iD] at hgd
   rw [rq t hj] at h2
   rw [show ((j + 1:Nat):Int) - 1 = (j:Int) by omega]
   have hgo:mo t l[j] = false→K .normal ⟨[(0,.sl false 30 (l.map evA)),(1,.lit (.int .i64 (k:Nat))),(4,.lptr 4 0),(6,.lit (.int .i64 ((j:Int) - 1)))],[(4,[.lit (.int .i64 0),.lit (.int .i64 0),.lit (.int .i64 0),.lit (.int .i64 0),.lit (.int .i64 0),.lit (.string ⟨#[]⟩),.lit (.int .i64 0),.lit (.slice none 0 0),.lit (.int .i64 0),.lit (.int .i64 0),.lit (.int .i64 0),.lit (.int .u64 0)])]⟩ st:=fun q=>by
    rw [if_neg (by rw [q]; simp)] at h2
    exact hK j _ ⟨by omega,h2⟩ (by omega) (Sf.le_refl _)
   have hyes:mo t l[j] = true→subC t (l.take k) = some l[j].call:=fun q=>by rw [h2,if_pos q]
   have hsb:mo t l[j] = decide (l[j].kind = 1∧l[j].task = t∧l[j].err = 0):=rfl
   clear hK h2
   generalize l[j] = e at hgd hgo hyes hsb
   by_cases c1:e.kind = 1
   ·by_cases c2:e.task = t
    ·by_cases c3:e.err = 0
     ·have hy:=hyes (hsb.trans (decide_eq_true ⟨c1,c2,c3⟩))
      rw [hy] at hQ
      simp (config:=KF) (disch:=omega) only [bZ,dM,cv,cG,dz,ef,dN,bR,fj,bL,bq,aE,bg,AI.dst,ixSV,ar,addA,ag,f0,aM,↓reduceIte,Nat.reduceEqDiff,Nat.reduceAdd,Nat.reduceLeDiff,reduceCtorEq,cT,hgd,hll,hgk,aU,aL]
      refine hKr _ _ ?_
      simp (config:=KF) (disch:=omega) only [bZ,retI,resI,resL,ag,cr,bd,↓reduceIte,Nat.reduceEqDiff,Nat.reduceAdd,Nat.reduceLeDiff,aU]
      exact hQ _
     ·simp (config:=KF) (disch:=omega) only [bZ,dM,cv,cG,dz,ef,dN,bR,fj,bL,bq,aE,bg,AI.dst,ixSV,addA,ag,fZ,f0,aM,↓reduceIte,Nat.reduceEqDiff,reduceCtorEq,cT,hgd,hll,hgk]
      exact hgo (hsb.trans (decide_eq_false fun q=>c3 q.2.2))
    ·simp (config:=KF) (disch:=omega) only [bZ,dM,cv,cG,dz,ef,dN,bR,fj,bL,bq,bB,cE,aE,bg,AI.dst,ixSV,addA,ag,fZ,f0,aM,↓reduceIte,Nat.reduceEqDiff,reduceCtorEq,cT,d4,hgd,hll,hgk]
     exact hgo (hsb.trans (decide_eq_false fun q=>c2 q.2.1))
   ·simp (config:=KF) (disch:=omega) only [bZ,dM,cv,cG,dz,ef,dN,bR,fj,bL,bB,cE,aE,bg,AI.dst,ixSV,addA,ag,fZ,f0,aM,↓reduceIte,Nat.reduceEqDiff,reduceCtorEq,d4,hgd,hll]
    exact hgo (hsb.trans (decide_eq_false fun q=>c1 q.1))

def endC (pre:List Ev) (e:Ev):Cl:=if e.kind = 2∧e.done = true then (subC e.task pre).getD cl0 else cl0
def endB (pre:List Ev) (e:Ev):Bool:=decide (e.kind = 2∧e.done = true) && (match subC e.task pre with | some c=>decide (c.kind = e.en.kind) | none=>false)
theorem rr (st:St) {l:List Ev} {k:Nat} (hk:k < l.length) (hl:l.length≤10000) :
  aF Go.Proofs.Try.prog n_f38 [.sl false 30 (l.map evA),.lit (.int .i64 (k:Nat))] st (.tup [clA (endC (l.take k) l[k]),.lit (.bool (endB (l.take k) l[k]))]):=by
 have hll:(l.map evA).length = l.length:=List.length_map ..
 have hgk:=fm hk
 rw [iD] at hgk
 have hca:=rcall_pure st hk hl
 generalize l[k] = e at hgk hca ⊢
 have hz:clA cl0 = .agg [.lit (.int .i64 0),.lit (.int .i64 0),.lit (.int .i64 0),.lit (.int .i64 0),.lit (.int .i64 0),.lit (.string ⟨#[]⟩),.lit (.int .i64 0),.lit (.slice none 0 0),.lit (.int .i64 0),.lit (.int .i64 0),.lit (.int .i64 0),.lit (.int .u64 0)]:=rfl
 refine aV hmix k_f38 rfl rfl fun Q hQ=>?_
 unfold aFun c_f38
 have hbad:¬ (e.kind = 2∧e.done = true)→Q (.tup [.agg [.lit (.int .i64 0),.lit (.int .i64 0),.lit (.int .i64 0),.lit (.int .i64 0),.lit (.int .i64 0),.lit (.string ⟨#[]⟩),.lit (.int .i64 0),.lit (.slice none 0 0),.lit (.int .i64 0),.lit (.int .i64 0),.lit (.int .i64 0),.lit (.int .u64 0)],.lit (.bool false)]) st:=fun q=>by
  unfold endC endB at hQ
  rw [if_neg q,decide_eq_false q,Bool.false_and] at hQ
  exact hQ _
 by_cases c1:e.kind = 2
 ·cases hd:e.done with
  | false =>
    have hb:=hbad (by rw [hd]; simp)
    rw [hd] at hgk
    simp (config:=KF) (disch:=omega) only [bZ,retI,resI,resL,AI.dst,o_un,kQ,ixSV,bstV,ar,addA,ag,br,unA,pY,cr,bd,↓reduceIte,Nat.reduceEqDiff,Nat.reduceAdd,Nat.reduceLeDiff,reduceCtorEq,hgk,hll]
    exact hb
  | true =>
    rw [hd] at hgk
    unfold endC endB at hQ
    rw [if_pos ⟨c1,hd⟩,decide_eq_true ⟨c1,hd⟩,Bool.true_and] at hQ
    simp (config:=KF) (disch:=omega) only [bZ,AI.dst,o_un,ixSV,addA,ag,unA,pY,id,↓reduceIte,Nat.reduceEqDiff,reduceCtorEq,hgk,hll]
    cases hs:subC e.task (l.take k) with
    | none =>
      rw [hs] at hca hQ
      simp only [Option.getD_none,hz,Option.isSome_none] at hca hQ
      refine aK rfl e_f24 hca rfl ?_
      simp (config:=KF) (disch:=omega) only [bZ,Nat.reduceBEq,Bool.or_false,ksB,aD,bz,bX,bj,bP,bk,nstB,bY,dM,cv,cG,dz,ef,bL,ge,dA,c9,bB,cE,aE,jg,dZ,retI,resI,resL,AI.dst,de,extV,ar,ag,aM,aY,cr,bd,aT,List.nil_append,↓reduceIte,Nat.reduceEqDiff,Nat.reduceAdd,Nat.reduceLeDiff,reduceCtorEq,or_false]
      exact hQ _
    | some c =>
      rw [hs] at hca hQ
      simp only [Option.getD_some,Option.isSome_some] at hca hQ
      refine aK rfl e_f24 hca rfl ?_
      unfold clA at hQ ⊢
      rw [qi] at hQ ⊢
      simp (config:=KF) (disch:=omega) only [bZ,Nat.reduceBEq,Bool.or_false,ksB,aD,bz,bX,bj,bP,bk,nstB,bY,dM,cv,cG,dz,ef,dN,bR,fj,bL,ge,dA,c9,bq,aE,jg,dZ,retI,resI,resL,AI.dst,de,extV,ixSV,ar,addA,ag,aM,aY,cr,bd,aT,List.nil_append,↓reduceIte,Nat.reduceEqDiff,Nat.reduceAdd,Nat.reduceLeDiff,reduceCtorEq,or_false,hgk,hll,aU,aL]
      exact hQ _
 ·have hb:=hbad (fun q=>c1 q.1)
  simp (config:=KF) (disch:=omega) only [bZ,retI,resI,resL,AI.dst,kQ,ixSV,bstV,ar,addA,ag,br,pY,cr,bd,↓reduceIte,Nat.reduceEqDiff,Nat.reduceAdd,Nat.reduceLeDiff,reduceCtorEq,hgk,hll]
  exact hb
end Go.Fx.YtoiokbmgdcaaoaaFx

