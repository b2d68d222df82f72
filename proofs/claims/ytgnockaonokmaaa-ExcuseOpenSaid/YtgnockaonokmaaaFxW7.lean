/- What the functions that the statement reaches compute: part 7. -/
import Derived.Test.YtgnockaonokmaaaFxW6
namespace Go.Fx.YtgnockaonokmaaaFx
open Go Go.Fx
attribute [local irreducible] aC runI az aU

set_option maxRecDepth 100000
set_option maxHeartbeats 4000000

theorem eO (e:Ev):evC e = [.lit (.int .i64 e.kind),.lit (.int .i64 e.task),.lit (.int .i64 e.call.kind),.lit (.int .i64 e.call.f1),.lit (.int .i64 e.call.f2),.lit (.int .i64 e.call.t1),.lit (.int .i64 e.call.t2),.lit (.string e.call.nm),.lit (.int .i64 e.call.port),e.call.data.v,.lit (.int .i64 e.call.most),.lit (.int .i64 e.call.n),.lit (.int .i64 e.call.dir),.lit (.int .u64 (e.call.at_:Nat)),.lit (.int .i64 e.err),.lit (.bool e.done),.lit (.int .i64 e.en.task),.lit (.int .i64 e.en.kind),.lit (.int .i64 e.en.err),.lit (.int .i64 e.en.n),e.en.data.v,.lit (.int .i64 e.en.f1),.lit (.int .i64 e.en.f2),.lit (.int .i64 e.en.t1),.lit (.int .i64 e.en.t2),.lit (.string e.en.nm),.lit (.int .i64 e.en.port),.lit (.int .u64 (e.en.at_:Nat)),e.woke.v,.lit (.int .u64 (e.now:Nat))]:=rfl
def cl0:Cl:=⟨0,0,0,0,0,⟨#[]⟩,0,fv0,0,0,0,0⟩
def mD (t:Int) (e:Ev):Bool:=decide (e.kind = 1∧e.task = t∧e.err = 0)
def subC (t:Int) (l:List Ev):Option Cl:=l.foldl (fun o e=>if mD t e = true then some e.call else o) none
theorem nZ (t:Int) (l:List Ev) (e:Ev):subC t (l++[e]) = if mD t e = true then some e.call else subC t l:=by
 unfold subC
 rw [List.foldl_append]
 rfl
theorem subC_take (t:Int) {l:List Ev} {k:Nat} (hk:k < l.length):subC t (l.take (k + 1)) = if mD t l[k] = true then some l[k].call else subC t (l.take k):=by
 rw [List.take_succ_eq_append_getElem hk,nZ]
theorem rcall_pure (st:St) {l:List Ev} {k:Nat} (hk:k < l.length) (hl:l.length≤10000) :
  aE Go.Proofs.Try.prog n_f50 [.sl false 30 (l.map evA),.lit (.int .i64 (k:Nat))] st (.tup [clA ((subC l[k].task (l.take k)).getD cl0),.lit (.bool (subC l[k].task (l.take k)).isSome)]):=by
 have hll:(l.map evA).length = l.length:=List.length_map ..
 have hgk:=dH hk
 rw [eO] at hgk
 generalize ht:l[k].task = t at hgk ⊢
 generalize l[k] = e0 at hgk
 have hc0:clA cl0 = .agg [.lit (.int .i64 0),.lit (.int .i64 0),.lit (.int .i64 0),.lit (.int .i64 0),.lit (.int .i64 0),.lit (.string ⟨#[]⟩),.lit (.int .i64 0),.lit (.slice none 0 0),.lit (.int .i64 0),.lit (.int .i64 0),.lit (.int .i64 0),.lit (.int .u64 0)]:=rfl
 refine aD hmix k_f50 rfl rfl fun Q hQ=>?_
 unfold aFun c_f50
 simp (config:=KF) (disch:=omega) only [bZ,im,↓reduceIte,Nat.reduceEqDiff,reduceCtorEq]
 rw [f50_7w]
 refine b5 (A:=Nat) (fun j=>j) (fun j=>⟨[(0,.sl false 30 (l.map evA)),(1,.lit (.int .i64 (k:Nat))),(4,.lptr 4 0),(6,.lit (.int .i64 ((j:Int) - 1)))],[(4,[.lit (.int .i64 0),.lit (.int .i64 0),.lit (.int .i64 0),.lit (.int .i64 0),.lit (.int .i64 0),.lit (.string ⟨#[]⟩),.lit (.int .i64 0),.lit (.slice none 0 0),.lit (.int .i64 0),.lit (.int .i64 0),.lit (.int .i64 0),.lit (.int .u64 0)])]⟩) (fun _=>st)
  (fun j=>j≤k∧subC t (l.take k) = subC t (l.take j)) k ⟨Nat.le_refl _,rfl⟩ (Sf.le_refl _) rfl ?_
 rintro j ⟨h1,h2⟩ K hK hKe hKr
 try dsimp only
 cases j with
 | zero =>
   simp (config:=KF) (disch:=omega) only [bZ,gD,↓reduceIte,Nat.reduceEqDiff,Int.reduceSub,Int.reduceNeg,reduceCtorEq]
   refine hKe _ _ _ ?_
   simp (config:=KF) (disch:=omega) only [bZ,retI,resI,nJ,bstV,am,aa,bg,bH,↓reduceIte,Nat.reduceEqDiff,Nat.reduceAdd,Nat.reduceLeDiff,ae]
   rw [h2] at hQ
   have:subC t (l.take 0) = none:=rfl
   rw [this] at hQ
   exact hQ _
 | succ j =>
   have hj:j < l.length:=by omega
   have hgd:=dH hj
   rw [eO] at hgd
   rw [subC_take t hj] at h2
   rw [show ((j + 1:Nat):Int) - 1 = (j:Int) by omega]
   have hgo:mD t l[j] = false→K .normal ⟨[(0,.sl false 30 (l.map evA)),(1,.lit (.int .i64 (k:Nat))),(4,.lptr 4 0),(6,.lit (.int .i64 ((j:Int) - 1)))],[(4,[.lit (.int .i64 0),.lit (.int .i64 0),.lit (.int .i64 0),.lit (.int .i64 0),.lit (.int .i64 0),.lit (.string ⟨#[]⟩),.lit (.int .i64 0),.lit (.slice none 0 0),.lit (.int .i64 0),.lit (.int .i64 0),.lit (.int .i64 0),.lit (.int .u64 0)])]⟩ st:=fun q=>by
    rw [if_neg (by rw [q]; simp)] at h2
    exact hK j _ ⟨by omega,h2⟩ (by omega) (Sf.le_refl _)
   have hyes:mD t l[j] = true→subC t (l.take k) = some l[j].call:=fun q=>by rw [h2,if_pos q]
   have hsb:mD t l[j] = decide (l[j].kind = 1∧l[j].task = t∧l[j].err = 0):=rfl
   clear hK h2
   generalize l[j] = e at hgd hgo hyes hsb
   by_cases c1:e.kind = 1
   ·by_cases c2:e.task = t
    ·by_cases c3:e.err = 0
     ·have hy:=hyes (hsb.trans (decide_eq_true ⟨c1,c2,c3⟩))
      rw [hy] at hQ
      simp (config:=KF) (disch:=omega) only [bZ,bu,bE,cT,cH,aJ,AI.dst,ixSV,am,addA,aa,gD,↓reduceIte,Nat.reduceEqDiff,Nat.reduceAdd,Nat.reduceLeDiff,reduceCtorEq,iI,ae,hgd,hll,hgk,aj,ak]
      refine hKr _ _ ?_
      simp (config:=KF) (disch:=omega) only [bZ,retI,resI,aa,bH,↓reduceIte,Nat.reduceEqDiff,Nat.reduceAdd,Nat.reduceLeDiff,aj]
      exact hQ _
     ·simp (config:=KF) (disch:=omega) only [bZ,bu,bE,cT,cH,aJ,AI.dst,ixSV,addA,aa,im,gD,↓reduceIte,Nat.reduceEqDiff,reduceCtorEq,iI,hgd,hll,hgk]
      exact hgo (hsb.trans (decide_eq_false fun q=>c3 q.2.2))
    ·simp (config:=KF) (disch:=omega) only [bZ,bu,bE,cT,cH,aJ,bV,cF,AI.dst,ixSV,addA,aa,im,gD,↓reduceIte,Nat.reduceEqDiff,reduceCtorEq,iI,gX,hgd,hll,hgk]
     exact hgo (hsb.trans (decide_eq_false fun q=>c2 q.2.1))
   ·simp (config:=KF) (disch:=omega) only [bZ,bu,bE,cT,cH,bV,cF,AI.dst,ixSV,addA,aa,im,gD,↓reduceIte,Nat.reduceEqDiff,reduceCtorEq,gX,hgd,hll]
    exact hgo (hsb.trans (decide_eq_false fun q=>c1 q.1))

def endC (pre:List Ev) (e:Ev):Cl:=if e.kind = 2∧e.done = true then (subC e.task pre).getD cl0 else cl0
def endB (pre:List Ev) (e:Ev):Bool:=decide (e.kind = 2∧e.done = true) && (match subC e.task pre with | some c=>decide (c.kind = e.en.kind) | none=>false)
def ir (pre:List Ev) (e:Ev):Bool:=endB pre e && decide (e.en.err = 0)
theorem rend_pure (st:St) {l:List Ev} {k:Nat} (hk:k < l.length) (hl:l.length≤10000) :
  aE Go.Proofs.Try.prog n_f29 [.sl false 30 (l.map evA),.lit (.int .i64 (k:Nat))] st (.tup [clA (endC (l.take k) l[k]),.lit (.bool (endB (l.take k) l[k]))]):=by
 have hll:(l.map evA).length = l.length:=List.length_map ..
 have hgk:=dH hk
 rw [eO] at hgk
 have hca:=rcall_pure st hk hl
 generalize l[k] = e at hgk hca ⊢
 have hz:clA cl0 = .agg [.lit (.int .i64 0),.lit (.int .i64 0),.lit (.int .i64 0),.lit (.int .i64 0),.lit (.int .i64 0),.lit (.string ⟨#[]⟩),.lit (.int .i64 0),.lit (.slice none 0 0),.lit (.int .i64 0),.lit (.int .i64 0),.lit (.int .i64 0),.lit (.int .u64 0)]:=rfl
 refine aD hmix k_f29 rfl rfl fun Q hQ=>?_
 unfold aFun c_f29
 have hbad:¬ (e.kind = 2∧e.done = true)→Q (.tup [.agg [.lit (.int .i64 0),.lit (.int .i64 0),.lit (.int .i64 0),.lit (.int .i64 0),.lit (.int .i64 0),.lit (.string ⟨#[]⟩),.lit (.int .i64 0),.lit (.slice none 0 0),.lit (.int .i64 0),.lit (.int .i64 0),.lit (.int .i64 0),.lit (.int .u64 0)],.lit (.bool false)]) st:=fun q=>by
  unfold endC endB at hQ
  rw [if_neg q,decide_eq_false q,Bool.false_and] at hQ
  exact hQ _
 by_cases c1:e.kind = 2
 ·cases hd:e.done with
  | false =>
    have hb:=hbad (by rw [hd]; simp)
    rw [hd] at hgk
    simp (config:=KF) (disch:=omega) only [bZ,retI,resI,AI.dst,o_un,nJ,ixSV,bstV,am,addA,aa,bg,unA,bH,↓reduceIte,Nat.reduceEqDiff,Nat.reduceAdd,Nat.reduceLeDiff,reduceCtorEq,aZ,ae,hgk,hll]
    exact hb
  | true =>
    rw [hd] at hgk
    unfold endC endB at hQ
    rw [if_pos ⟨c1,hd⟩,decide_eq_true ⟨c1,hd⟩,Bool.true_and] at hQ
    simp (config:=KF) (disch:=omega) only [bZ,AI.dst,o_un,ixSV,addA,aa,unA,id,↓reduceIte,Nat.reduceEqDiff,reduceCtorEq,aZ,hgk,hll]
    cases hs:subC e.task (l.take k) with
    | none =>
      rw [hs] at hca hQ
      simp only [Option.getD_none,hz,Option.isSome_none] at hca hQ
      refine aH rfl e_f50 hca rfl ?_
      simp (config:=KF) (disch:=omega) only [bZ,Nat.reduceBEq,ksB,aw,aQ,bp,aF,bI,bk,nstB,bq,bu,bE,dX,e7,ef,bV,cF,e8,fY,retI,resI,AI.dst,am,aa,bH,aI,aX,List.nil_append,↓reduceIte,Nat.reduceEqDiff,Nat.reduceAdd,Nat.reduceLeDiff,reduceCtorEq,or_false,ae]
      exact hQ _
    | some c =>
      rw [hs] at hca hQ
      simp only [Option.getD_some,Option.isSome_some] at hca hQ
      refine aH rfl e_f50 hca rfl ?_
      unfold clA at hQ ⊢
      rw [c8] at hQ ⊢
      simp (config:=KF) (disch:=omega) only [bZ,Nat.reduceBEq,ksB,aw,aQ,bp,aF,bI,bk,nstB,bq,bu,bE,cT,cH,dX,e7,ef,aJ,e8,fY,retI,resI,AI.dst,ixSV,am,addA,aa,bH,aI,aX,List.nil_append,↓reduceIte,Nat.reduceEqDiff,Nat.reduceAdd,Nat.reduceLeDiff,reduceCtorEq,or_false,ae,hgk,hll,aj,ak]
      exact hQ _
 ·have hb:=hbad (fun q=>c1 q.1)
  simp (config:=KF) (disch:=omega) only [bZ,retI,resI,AI.dst,nJ,ixSV,bstV,am,addA,aa,bg,bH,↓reduceIte,Nat.reduceEqDiff,Nat.reduceAdd,Nat.reduceLeDiff,reduceCtorEq,aY,ae,hgk,hll]
  exact hb
theorem mE (st:St) {l:List Ev} {k:Nat} (hk:k < l.length) (hl:l.length≤10000) :
  aE Go.Proofs.Try.prog n_f25 [.sl false 30 (l.map evA),.lit (.int .i64 (k:Nat))] st (.tup [clA (endC (l.take k) l[k]),.lit (.bool (ir (l.take k) l[k]))]):=by
 have hll:(l.map evA).length = l.length:=List.length_map ..
 have hgk:=dH hk
 rw [eO] at hgk
 have hca:=rend_pure st hk hl
 unfold ir
 generalize l[k] = e at hgk hca ⊢
 generalize endC (l.take k) e = c at hca ⊢
 refine aD hmix k_f25 rfl rfl fun Q hQ=>?_
 unfold aFun c_f25
 simp (config:=KF) (disch:=omega) only [bZ,id,↓reduceIte,Nat.reduceEqDiff,reduceCtorEq]
 refine aH rfl e_f29 hca rfl ?_
 unfold clA at hQ ⊢
 rw [c8] at hQ ⊢
 cases hb:endB (l.take k) e with
 | false =>
   rw [hb,Bool.false_and] at hQ
   simp (config:=KF) (disch:=omega) only [bZ,Nat.reduceBEq,ksB,aw,aQ,bp,aF,bI,bk,nstB,bq,bu,bE,dX,e7,ef,bV,cF,e8,fY,retI,resI,AI.dst,am,aa,bH,aI,aX,List.nil_append,↓reduceIte,Nat.reduceEqDiff,Nat.reduceAdd,Nat.reduceLeDiff,reduceCtorEq,or_false,ae,aj,ak]
   exact hQ _
 | true =>
   rw [hb,Bool.true_and] at hQ
   simp (config:=KF) (disch:=omega) only [bZ,Nat.reduceBEq,ksB,aw,aQ,bp,aF,bI,bk,nstB,bq,bu,bE,cT,cH,dX,e7,ef,aJ,e8,fY,retI,resI,AI.dst,ixSV,am,addA,aa,bH,aI,aX,List.nil_append,↓reduceIte,Nat.reduceEqDiff,Nat.reduceAdd,Nat.reduceLeDiff,reduceCtorEq,or_false,ae,hgk,hll,aj,ak]
   exact hQ _
end Go.Fx.YtgnockaonokmaaaFx

