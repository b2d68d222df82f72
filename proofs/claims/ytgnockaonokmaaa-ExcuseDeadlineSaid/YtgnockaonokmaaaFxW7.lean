/- What the functions that the statement reaches compute: part 7. -/
import Derived.Test.YtgnockaonokmaaaFxW6
namespace Go.Fx.YtgnockaonokmaaaFx
open Go Go.Fx
attribute [local irreducible] aC runI az bj

set_option maxRecDepth 100000
set_option maxHeartbeats 4000000

theorem fY (e:Ev):evC e = [.lit (.int .i64 e.kind),.lit (.int .i64 e.task),.lit (.int .i64 e.call.kind),.lit (.int .i64 e.call.f1),.lit (.int .i64 e.call.f2),.lit (.int .i64 e.call.t1),.lit (.int .i64 e.call.t2),.lit (.string e.call.nm),.lit (.int .i64 e.call.port),e.call.data.v,.lit (.int .i64 e.call.most),.lit (.int .i64 e.call.n),.lit (.int .i64 e.call.dir),.lit (.int .u64 (e.call.at_:Nat)),.lit (.int .i64 e.err),.lit (.bool e.done),.lit (.int .i64 e.en.task),.lit (.int .i64 e.en.kind),.lit (.int .i64 e.en.err),.lit (.int .i64 e.en.n),e.en.data.v,.lit (.int .i64 e.en.f1),.lit (.int .i64 e.en.f2),.lit (.int .i64 e.en.t1),.lit (.int .i64 e.en.t2),.lit (.string e.en.nm),.lit (.int .i64 e.en.port),.lit (.int .u64 (e.en.at_:Nat)),e.woke.v,.lit (.int .u64 (e.now:Nat))]:=rfl
def cl0:Cl:=⟨0,0,0,0,0,⟨#[]⟩,0,fv0,0,0,0,0⟩
def mg (t:Int) (e:Ev):Bool:=decide (e.kind = 1∧e.task = t∧e.err = 0)
def subC (t:Int) (l:List Ev):Option Cl:=l.foldl (fun o e=>if mg t e = true then some e.call else o) none
theorem nC (t:Int) (l:List Ev) (e:Ev):subC t (l++[e]) = if mg t e = true then some e.call else subC t l:=by
 unfold subC
 rw [List.foldl_append]
 rfl
theorem subC_take (t:Int) {l:List Ev} {k:Nat} (hk:k < l.length):subC t (l.take (k + 1)) = if mg t l[k] = true then some l[k].call else subC t (l.take k):=by
 rw [List.take_succ_eq_append_getElem hk,nC]
theorem rcall_pure (st:St) {l:List Ev} {k:Nat} (hk:k < l.length) (hl:l.length≤10000) :
  aI Go.Proofs.Try.prog n_f50 [.sl false 30 (l.map evA),.lit (.int .i64 (k:Nat))] st (.tup [clA ((subC l[k].task (l.take k)).getD cl0),.lit (.bool (subC l[k].task (l.take k)).isSome)]):=by
 have hll:(l.map evA).length = l.length:=List.length_map ..
 have hgk:=eH hk
 rw [fY] at hgk
 generalize ht:l[k].task = t at hgk ⊢
 generalize l[k] = e0 at hgk
 have hc0:clA cl0 = .agg [.lit (.int .i64 0),.lit (.int .i64 0),.lit (.int .i64 0),.lit (.int .i64 0),.lit (.int .i64 0),.lit (.string ⟨#[]⟩),.lit (.int .i64 0),.lit (.slice none 0 0),.lit (.int .i64 0),.lit (.int .i64 0),.lit (.int .i64 0),.lit (.int .u64 0)]:=rfl
 refine aP hmix k_f50 rfl rfl fun Q hQ=>?_
 unfold aFun c_f50
 simp (config:=KF) (disch:=omega) only [bZ,bw,gC,↓reduceIte,Nat.reduceEqDiff,reduceCtorEq]
 rw [f50_7w]
 refine cJ (A:=Nat) (fun j=>j) (fun j=>⟨[(0,.sl false 30 (l.map evA)),(1,.lit (.int .i64 (k:Nat))),(4,.lptr 4 0),(6,.lit (.int .i64 ((j:Int) - 1)))],[(4,[.lit (.int .i64 0),.lit (.int .i64 0),.lit (.int .i64 0),.lit (.int .i64 0),.lit (.int .i64 0),.lit (.string ⟨#[]⟩),.lit (.int .i64 0),.lit (.slice none 0 0),.lit (.int .i64 0),.lit (.int .i64 0),.lit (.int .i64 0),.lit (.int .u64 0)])]⟩) (fun _=>st)
  (fun j=>j≤k∧subC t (l.take k) = subC t (l.take j)) k ⟨Nat.le_refl _,rfl⟩ (Sf.le_refl _) rfl ?_
 rintro j ⟨h1,h2⟩ K hK hKe hKr
 try dsimp only
 cases j with
 | zero =>
   simp (config:=KF) (disch:=omega) only [bZ,kD,↓reduceIte,Nat.reduceEqDiff,Int.reduceSub,Int.reduceNeg,reduceCtorEq]
   refine hKe _ _ _ ?_
   simp (config:=KF) (disch:=omega) only [bZ,retI,resI,nj,bstV,aw,aa,bg,bG,↓reduceIte,Nat.reduceEqDiff,Nat.reduceAdd,Nat.reduceLeDiff,ai]
   rw [h2] at hQ
   have:subC t (l.take 0) = none:=rfl
   rw [this] at hQ
   exact hQ _
 | succ j =>
   have hj:j < l.length:=by omega
   have hgd:=eH hj
   rw [fY] at hgd
   rw [subC_take t hj] at h2
   rw [show ((j + 1:Nat):Int) - 1 = (j:Int) by omega]
   have hgo:mg t l[j] = false→K .normal ⟨[(0,.sl false 30 (l.map evA)),(1,.lit (.int .i64 (k:Nat))),(4,.lptr 4 0),(6,.lit (.int .i64 ((j:Int) - 1)))],[(4,[.lit (.int .i64 0),.lit (.int .i64 0),.lit (.int .i64 0),.lit (.int .i64 0),.lit (.int .i64 0),.lit (.string ⟨#[]⟩),.lit (.int .i64 0),.lit (.slice none 0 0),.lit (.int .i64 0),.lit (.int .i64 0),.lit (.int .i64 0),.lit (.int .u64 0)])]⟩ st:=fun q=>by
    rw [if_neg (by rw [q]; simp)] at h2
    exact hK j _ ⟨by omega,h2⟩ (by omega) (Sf.le_refl _)
   have hyes:mg t l[j] = true→subC t (l.take k) = some l[j].call:=fun q=>by rw [h2,if_pos q]
   have hsb:mg t l[j] = decide (l[j].kind = 1∧l[j].task = t∧l[j].err = 0):=rfl
   clear hK h2
   generalize l[j] = e at hgd hgo hyes hsb
   by_cases c1:e.kind = 1
   ·by_cases c2:e.task = t
    ·by_cases c3:e.err = 0
     ·have hy:=hyes (hsb.trans (decide_eq_true ⟨c1,c2,c3⟩))
      rw [hy] at hQ
      simp (config:=KF) (disch:=omega) only [bZ,fg,dL,iC,bk,fh,dI,aZ,aD,AI.dst,b9,ixSV,aw,addA,aa,kD,↓reduceIte,Nat.reduceEqDiff,Nat.reduceAdd,Nat.reduceLeDiff,reduceCtorEq,iD,ai,hgd,hll,hgk,ak,al]
      refine hKr _ _ ?_
      simp (config:=KF) (disch:=omega) only [bZ,aD,retI,resI,aa,bG,↓reduceIte,Nat.reduceEqDiff,Nat.reduceAdd,Nat.reduceLeDiff,ak]
      exact hQ _
     ·simp (config:=KF) (disch:=omega) only [bZ,fg,dL,iC,bk,fh,dI,aZ,AI.dst,b9,ixSV,addA,aa,gC,kD,↓reduceIte,Nat.reduceEqDiff,reduceCtorEq,iD,hgd,hll,hgk]
      exact hgo (hsb.trans (decide_eq_false fun q=>c3 q.2.2))
    ·simp (config:=KF) (disch:=omega) only [bZ,fg,dL,iC,bk,fh,dI,ef,fD,aZ,aG,AI.dst,ixSV,addA,aa,gC,kD,↓reduceIte,Nat.reduceEqDiff,reduceCtorEq,iD,nw,hgd,hll,hgk]
     exact hgo (hsb.trans (decide_eq_false fun q=>c2 q.2.1))
   ·simp (config:=KF) (disch:=omega) only [bZ,fg,dL,iC,bk,fh,ef,fD,aZ,aG,AI.dst,ixSV,addA,aa,gC,kD,↓reduceIte,Nat.reduceEqDiff,reduceCtorEq,nw,hgd,hll]
    exact hgo (hsb.trans (decide_eq_false fun q=>c1 q.1))

def endC (pre:List Ev) (e:Ev):Cl:=if e.kind = 2∧e.done = true then (subC e.task pre).getD cl0 else cl0
def endB (pre:List Ev) (e:Ev):Bool:=decide (e.kind = 2∧e.done = true) && (match subC e.task pre with | some c=>decide (c.kind = e.en.kind) | none=>false)
def ju (pre:List Ev) (e:Ev):Bool:=endB pre e && decide (e.en.err = 0)
theorem rend_pure (st:St) {l:List Ev} {k:Nat} (hk:k < l.length) (hl:l.length≤10000) :
  aI Go.Proofs.Try.prog n_f29 [.sl false 30 (l.map evA),.lit (.int .i64 (k:Nat))] st (.tup [clA (endC (l.take k) l[k]),.lit (.bool (endB (l.take k) l[k]))]):=by
 have hll:(l.map evA).length = l.length:=List.length_map ..
 have hgk:=eH hk
 rw [fY] at hgk
 have hca:=rcall_pure st hk hl
 generalize l[k] = e at hgk hca ⊢
 have hz:clA cl0 = .agg [.lit (.int .i64 0),.lit (.int .i64 0),.lit (.int .i64 0),.lit (.int .i64 0),.lit (.int .i64 0),.lit (.string ⟨#[]⟩),.lit (.int .i64 0),.lit (.slice none 0 0),.lit (.int .i64 0),.lit (.int .i64 0),.lit (.int .i64 0),.lit (.int .u64 0)]:=rfl
 refine aP hmix k_f29 rfl rfl fun Q hQ=>?_
 unfold aFun c_f29
 have hbad:¬ (e.kind = 2∧e.done = true)→Q (.tup [.agg [.lit (.int .i64 0),.lit (.int .i64 0),.lit (.int .i64 0),.lit (.int .i64 0),.lit (.int .i64 0),.lit (.string ⟨#[]⟩),.lit (.int .i64 0),.lit (.slice none 0 0),.lit (.int .i64 0),.lit (.int .i64 0),.lit (.int .i64 0),.lit (.int .u64 0)],.lit (.bool false)]) st:=fun q=>by
  unfold endC endB at hQ
  rw [if_neg q,decide_eq_false q,Bool.false_and] at hQ
  exact hQ _
 by_cases c1:e.kind = 2
 ·cases hd:e.done with
  | false =>
    have hb:=hbad (by rw [hd]; simp)
    rw [hd] at hgk
    simp (config:=KF) (disch:=omega) only [bZ,retI,resI,AI.dst,o_un,b9,nj,bw,ixSV,bstV,aw,addA,aa,bg,unA,bG,↓reduceIte,Nat.reduceEqDiff,Nat.reduceAdd,Nat.reduceLeDiff,reduceCtorEq,aY,ai,hgk,hll]
    exact hb
  | true =>
    rw [hd] at hgk
    unfold endC endB at hQ
    rw [if_pos ⟨c1,hd⟩,decide_eq_true ⟨c1,hd⟩,Bool.true_and] at hQ
    simp (config:=KF) (disch:=omega) only [bZ,AI.dst,o_un,b9,bw,ixSV,addA,aa,unA,id,↓reduceIte,Nat.reduceEqDiff,reduceCtorEq,aY,hgk,hll]
    cases hs:subC e.task (l.take k) with
    | none =>
      rw [hs] at hca hQ
      simp only [Option.getD_none,hz,Option.isSome_none] at hca hQ
      refine aQ rfl e_f50 hca rfl ?_
      simp (config:=KF) (disch:=omega) only [bZ,Nat.reduceBEq,ksB,au,aT,br,aE,bH,bq,nstB,bt,fg,dL,dQ,eV,d5,ef,fD,eW,fV,retI,resI,AI.dst,cw,bw,aw,aa,bG,bD,ca,List.nil_append,↓reduceIte,Nat.reduceEqDiff,Nat.reduceAdd,Nat.reduceLeDiff,reduceCtorEq,or_false,ai]
      exact hQ _
    | some c =>
      rw [hs] at hca hQ
      simp only [Option.getD_some,Option.isSome_some] at hca hQ
      refine aQ rfl e_f50 hca rfl ?_
      unfold clA at hQ ⊢
      rw [df] at hQ ⊢
      simp (config:=KF) (disch:=omega) only [bZ,Nat.reduceBEq,ksB,au,aT,br,aE,bH,bq,nstB,bt,fg,dL,iC,bk,fh,dQ,eV,d5,dI,eW,fV,retI,resI,AI.dst,cw,bw,ixSV,aw,addA,aa,bG,bD,ca,List.nil_append,↓reduceIte,Nat.reduceEqDiff,Nat.reduceAdd,Nat.reduceLeDiff,reduceCtorEq,or_false,ai,hgk,hll,ak,al]
      exact hQ _
 ·have hb:=hbad (fun q=>c1 q.1)
  simp (config:=KF) (disch:=omega) only [bZ,retI,resI,aG,AI.dst,b9,nj,bw,ixSV,bstV,aw,addA,aa,bg,bG,↓reduceIte,Nat.reduceEqDiff,Nat.reduceAdd,Nat.reduceLeDiff,reduceCtorEq,aM,ai,hgk,hll]
  exact hb
theorem rgood_pure (st:St) {l:List Ev} {k:Nat} (hk:k < l.length) (hl:l.length≤10000) :
  aI Go.Proofs.Try.prog n_f25 [.sl false 30 (l.map evA),.lit (.int .i64 (k:Nat))] st (.tup [clA (endC (l.take k) l[k]),.lit (.bool (ju (l.take k) l[k]))]):=by
 have hll:(l.map evA).length = l.length:=List.length_map ..
 have hgk:=eH hk
 rw [fY] at hgk
 have hca:=rend_pure st hk hl
 unfold ju
 generalize l[k] = e at hgk hca ⊢
 generalize endC (l.take k) e = c at hca ⊢
 refine aP hmix k_f25 rfl rfl fun Q hQ=>?_
 unfold aFun c_f25
 simp (config:=KF) (disch:=omega) only [bZ,bw,id,↓reduceIte,Nat.reduceEqDiff,reduceCtorEq]
 refine aQ rfl e_f29 hca rfl ?_
 unfold clA at hQ ⊢
 rw [df] at hQ ⊢
 cases hb:endB (l.take k) e with
 | false =>
   rw [hb,Bool.false_and] at hQ
   simp (config:=KF) (disch:=omega) only [bZ,Nat.reduceBEq,ksB,au,aT,br,aE,bH,bq,nstB,bt,fg,dL,dQ,eV,d5,ef,fD,eW,fV,retI,resI,AI.dst,cw,bw,aw,aa,bG,bD,ca,List.nil_append,↓reduceIte,Nat.reduceEqDiff,Nat.reduceAdd,Nat.reduceLeDiff,reduceCtorEq,or_false,ai,ak,al]
   exact hQ _
 | true =>
   rw [hb,Bool.true_and] at hQ
   simp (config:=KF) (disch:=omega) only [bZ,Nat.reduceBEq,ksB,au,aT,br,aE,bH,bq,nstB,bt,fg,dL,iC,bk,fh,dQ,eV,d5,dI,eW,fV,retI,resI,AI.dst,cw,bw,ixSV,aw,addA,aa,bG,bD,ca,List.nil_append,↓reduceIte,Nat.reduceEqDiff,Nat.reduceAdd,Nat.reduceLeDiff,reduceCtorEq,or_false,ai,hgk,hll,ak,al]
   exact hQ _
end Go.Fx.YtgnockaonokmaaaFx

namespace Go.Fx.YtgnockaonokmaaaFx
open Go Go.Fx
attribute [local irreducible] aC runI az bj

set_option maxRecDepth 100000
set_option maxHeartbeats 4000000

def nD (q:Nat→Bool):Nat→Option Nat
 | 0=>none
 | k + 1=>if q k = true then some k else nD q k
def dlAt (l:List Ev) (fd:FD) (dir:Int) (i:Nat):Bool:=match l[i]? with | some e=>ju (l.take i) e && decide ((endC (l.take i) e).kind = 10∧((endC (l.take i) e).f1 = fd.1∧(endC (l.take i) e).f2 = fd.2)∧(endC (l.take i) e).dir = dir) | none=>false
def dlF (l:List Ev) (fd:FD) (dir:Int) (k:Nat):Nat:=match nD (dlAt l fd dir) k with | some i=>(match l[i]? with | some e=>(endC (l.take i) e).at_ | none=>0) | none=>18446744073709551615
theorem rdead_pure (st:St) {l:List Ev} {k:Nat} (hk:k≤l.length) (hl:l.length≤10000) (fd:FD) (dir:Int) :
  aI Go.Proofs.Try.prog n_f12 [.sl false 30 (l.map evA),.lit (.int .i64 (k:Nat)),fdA fd,.lit (.int .i64 dir)] st (.lit (.int .u64 ((dlF l fd dir k:Nat):Int))):=by
 obtain ⟨f1,f2⟩:=fd
 refine aP hmix k_f12 rfl rfl fun Q hQ=>?_
 unfold aFun c_f12
 unfold fdA
 simp only
 simp (config:=KF) (disch:=omega) only [bZ,gC,↓reduceIte,Nat.reduceEqDiff,Nat.reduceAdd,reduceCtorEq]
 rw [f12_7w]
 unfold dlF at hQ
 refine cJ (A:=Nat) (fun j=>j) (fun j=>⟨[(0,.sl false 30 (l.map evA)),(3,.lit (.int .i64 dir)),(6,.lptr 6 0),(9,.lit (.int .i64 ((j:Int) - 1)))],[(6,[.lit (.int .i64 f1),.lit (.int .i64 f2)])]⟩) (fun _=>st)
  (fun j=>j≤k∧nD (dlAt l (f1,f2) dir) k = nD (dlAt l (f1,f2) dir) j) k ⟨Nat.le_refl _,rfl⟩ (Sf.le_refl _) rfl ?_
 rintro j ⟨h1,h2⟩ K hK hKe hKr
 try dsimp only
 cases j with
 | zero =>
   simp (config:=KF) (disch:=omega) only [bZ,kD,↓reduceIte,Nat.reduceEqDiff,Int.reduceSub,Int.reduceNeg,reduceCtorEq]
   refine hKe _ _ _ ?_
   simp (config:=KF) (disch:=omega) only [bZ,retI,↓reduceIte]
   rw [h2] at hQ
   exact hQ _
 | succ j =>
   have hj:j < l.length:=by omega
   have hca:=rgood_pure st hj hl
   have hda:dlAt l (f1,f2) dir j = (ju (l.take j) l[j] && decide ((endC (l.take j) l[j]).kind = 10∧((endC (l.take j) l[j]).f1 = f1∧(endC (l.take j) l[j]).f2 = f2)∧(endC (l.take j) l[j]).dir = dir)):=by
    unfold dlAt; rw [List.getElem?_eq_getElem hj]
   have hge:l[j]? = some l[j]:=List.getElem?_eq_getElem hj
   rw [show ((j + 1:Nat):Int) - 1 = (j:Int) by omega]
   rw [nD] at h2
   have hyes:dlAt l (f1,f2) dir j = true→Q (.lit (.int .u64 (((endC (l.take j) l[j]).at_:Nat):Int))) st:=fun q=>by
    rw [q,if_pos rfl] at h2
    rw [h2] at hQ
    simp only [hge] at hQ
    exact hQ _
   have hno:dlAt l (f1,f2) dir j = false→K .normal ⟨[(0,.sl false 30 (l.map evA)),(3,.lit (.int .i64 dir)),(6,.lptr 6 0),(9,.lit (.int .i64 ((j:Int) - 1)))],[(6,[.lit (.int .i64 f1),.lit (.int .i64 f2)])]⟩ st:=fun q=>by
    rw [q,if_neg (by simp)] at h2
    exact hK j _ ⟨by omega,h2⟩ (by omega) (Sf.le_refl _)
   clear h2 hQ hK
   generalize endC (l.take j) l[j] = c at hca hda hyes
   generalize ju (l.take j) l[j] = g at hca hda
   generalize dlAt l (f1,f2) dir j = r at hda hyes hno
   have he:=om c.f1 c.f2 f1 f2
   simp (config:=KF) (disch:=omega) only [bZ,kD,id,↓reduceIte,Nat.reduceEqDiff,reduceCtorEq]
   refine aQ rfl e_f25 hca rfl ?_
   unfold clA
   rw [df]
   cases g with
   | false =>
     rw [Bool.false_and] at hda
     simp (config:=KF) (disch:=omega) only [bZ,aG,AI.dst,cw,bw,aw,gC,bD,ca,↓reduceIte,Nat.reduceEqDiff,Nat.reduceAdd,Nat.reduceLeDiff,reduceCtorEq,ai,ak,al]
     exact hno hda
   | true =>
     rw [Bool.true_and] at hda
     by_cases q1:c.kind = 10
     ·by_cases q2:c.f1 = f1∧c.f2 = f2
      ·rw [decide_eq_true q2] at he
       by_cases q3:c.dir = dir
       ·have:=hyes (hda.trans (decide_eq_true ⟨q1,q2,q3⟩))
        simp (config:=KF) (disch:=omega) only [bZ,aD,AI.dst,cw,bw,aw,addA,aa,bD,ca,↓reduceIte,Nat.reduceEqDiff,Nat.reduceAdd,Nat.reduceLeDiff,reduceCtorEq,aM,ai,ak,al,he]
        refine hKr _ _ ?_
        simp (config:=KF) (disch:=omega) only [bZ,aD,retI,↓reduceIte]
        exact this
       ·have:=hno (hda.trans (decide_eq_false fun q=>q3 q.2.2))
        simp (config:=KF) (disch:=omega) only [bZ,AI.dst,cw,bw,aw,addA,aa,gC,bD,ca,↓reduceIte,Nat.reduceEqDiff,Nat.reduceAdd,Nat.reduceLeDiff,reduceCtorEq,aM,ai,ak,al,he]
        exact this
      ·rw [decide_eq_false q2] at he
       have:=hno (hda.trans (decide_eq_false fun q=>q2 q.2.1))
       simp (config:=KF) (disch:=omega) only [bZ,aG,AI.dst,cw,bw,aw,addA,aa,gC,bD,ca,↓reduceIte,Nat.reduceEqDiff,Nat.reduceAdd,Nat.reduceLeDiff,reduceCtorEq,aM,ai,ak,al,he]
       exact this
     ·have:=hno (hda.trans (decide_eq_false fun q=>q1 q.1))
      simp (config:=KF) (disch:=omega) only [bZ,aG,AI.dst,cw,bw,aw,addA,aa,gC,bD,ca,↓reduceIte,Nat.reduceEqDiff,Nat.reduceAdd,Nat.reduceLeDiff,reduceCtorEq,aY,ai,ak,al]
      exact this
end Go.Fx.YtgnockaonokmaaaFx

namespace Go.Fx.YtgnockaonokmaaaFx
open Go Go.Fx
attribute [local irreducible] aC runI az bj

set_option maxRecDepth 100000
set_option maxHeartbeats 4000000

end Go.Fx.YtgnockaonokmaaaFx

namespace Go.Fx.YtgnockaonokmaaaFx
open Go Go.Fx
attribute [local irreducible] aC runI az bj

set_option maxRecDepth 100000
set_option maxHeartbeats 4000000

theorem snoc_ind {α:Type} {p:List α→Prop} (h0:p []) (h1:∀ l a,p l→p (l++[a])) (l:List α):p l:=by
 have:∀ n,p (l.take n):=fun n=>by
  induction n with
  | zero=>simpa using h0
  | succ n ih =>
    by_cases h:n < l.length
    ·rw [List.take_succ_eq_append_getElem h]; exact h1 _ _ ih
    ·rw [List.take_of_length_le (by omega)] at ih ⊢; exact ih
 have:=this l.length
 rwa [List.take_length] at this
theorem oq (P:PS) (e:Ev):(pAdd P e).calls = if e.kind = 1∧e.err = 0 then updP e.task e.call P.calls else P.calls:=by
 have hd:∀ (c:Cl) (x:En) (Q:PS),(cR c x Q).calls = Q.calls:=fun c x Q=>by
  unfold cR
  split
  ·rfl
  split
  ·rfl
  split
  ·split <;> rfl
  split
  ·rfl
  split <;> rfl
 unfold pAdd
 split
 ·rfl
 split
 ·split
  ·split
   ·rw [hd]
   ·rfl
  ·rfl
 ·rfl
theorem pAll_snoc (l:List Ev) (e:Ev):pAll (l++[e]) = pAdd (pAll l) e:=by
 unfold pAll; rw [List.foldl_append]; rfl
theorem calls_eq (t:Int) (l:List Ev):bF t (pAll l).calls = subC t l:=by
 induction l using snoc_ind with
 | h0=>rfl
 | h1 l e ih =>
   rw [pAll_snoc,oq,nC]
   unfold mg
   split
   ·rename_i h
    rw [look_upd]
    by_cases q:t = e.task
    ·rw [if_pos q,if_pos (decide_eq_true ⟨h.1,q.symm,h.2⟩)]
    ·rw [if_neg q,if_neg (by simp; intro _ a; exact absurd a.symm q),ih]
   ·rename_i h
    rw [if_neg (by simp; intro a _ b; exact h ⟨a,b⟩),ih]
theorem add_eq (l:List Ev) (e:Ev):(pAdd (pAll l) e).files = (if ju l e = true then (cR (endC l e) e.en (pAll l)).files else (pAll l).files)∧(pAdd (pAll l) e).dl = if ju l e = true then (cR (endC l e) e.en (pAll l)).dl else (pAll l).dl:=by
 have hp:∀ (c:Cl) (x:En) (P:PS) (q:List (Int×Bool)),(cR c x { P with pend:=q }).files = (cR c x P).files∧(cR c x { P with pend:=q }).dl = (cR c x P).dl:=fun c x P q=>by
  unfold cR
  split
  ·exact ⟨rfl,rfl⟩
  split
  ·exact ⟨rfl,rfl⟩
  split
  ·split <;> exact ⟨rfl,rfl⟩
  split
  ·exact ⟨rfl,rfl⟩
  split <;> exact ⟨rfl,rfl⟩
 unfold pAdd ju endB endC
 by_cases c1:e.kind = 1∧e.err = 0
 ·rw [if_pos c1]
  have:¬ (e.kind = 2∧e.done = true):=fun q=>by omega
  simp [this]
 ·rw [if_neg c1]
  by_cases c2:e.kind = 2∧e.done = true
  ·rw [if_pos c2,calls_eq,if_pos c2,decide_eq_true c2]
   cases subC e.task l with
   | none=>simp
   | some c =>
     simp only [Bool.true_and,Bool.and_eq_true,decide_eq_true_eq,Option.getD_some]
     split
     ·exact hp ..
     ·exact ⟨rfl,rfl⟩
  ·rw [if_neg c2]
   simp [c2]

theorem done_dl (c:Cl) (x:En) (P:PS):(cR c x P).dl = if c.kind = 10 then up3 (c.f1,c.f2,c.dir) c.at_ P.dl else P.dl:=by
 unfold cR
 split
 ·rename_i h; rw [if_neg (show ¬ c.kind = 10 by omega)]; rfl
 split
 ·rename_i h; rw [if_neg (show ¬ c.kind = 10 by omega)]; rfl
 split
 ·rename_i h; rw [if_neg (show ¬ c.kind = 10 by omega)]; split <;> rfl
 split
 ·rfl
 split <;> rfl
theorem dead_eq (l:List Ev) (fd:FD) (dir:Int):∀ k,k≤l.length→(lk3 (fd.1,fd.2,dir) (pAll (l.take k)).dl).getD 18446744073709551615 = dlF l fd dir k
 | 0,_=>rfl
 | k + 1, hk => by
   have hkl:k < l.length:=by omega
   have ih:=dead_eq l fd dir k (by omega)
   rw [j9 hkl,(add_eq _ _).2,done_dl]
   have hge:l[k]? = some l[k]:=List.getElem?_eq_getElem hkl
   have hda:dlAt l fd dir k = (ju (l.take k) l[k] && decide ((endC (l.take k) l[k]).kind = 10∧((endC (l.take k) l[k]).f1 = fd.1∧(endC (l.take k) l[k]).f2 = fd.2)∧(endC (l.take k) l[k]).dir = dir)):=by
    unfold dlAt; rw [hge]
   unfold dlF at ih ⊢
   rw [nD]
   by_cases c:dlAt l fd dir k = true
   ·rw [if_pos c]
    simp only [hge]
    rw [hda,Bool.and_eq_true,decide_eq_true_eq] at c
    obtain ⟨c1,c2,⟨c3,c4⟩,c5⟩:=c
    rw [if_pos c1,if_pos c2,lk_up,if_pos (by rw [c3,c4,c5])]
    rfl
   ·rw [if_neg c,← ih]
    split
    ·rename_i g
     split
     ·rename_i k10
      rw [lk_up,if_neg]
      intro q
      apply c
      rw [hda,g,Bool.true_and,decide_eq_true_eq]
      simp only [Prod.mk.injEq] at q
      exact ⟨k10,⟨q.1.symm,q.2.1.symm⟩,q.2.2.symm⟩
     ·rfl
    ·rfl

end Go.Fx.YtgnockaonokmaaaFx

