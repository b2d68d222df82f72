/- What the functions that the statement reaches compute: part 8. -/
import Derived.Test.YtgnockaonokmaaaFxW7
namespace Go.Fx.YtgnockaonokmaaaFx
open Go Go.Fx
attribute [local irreducible] aC runI az aU

set_option maxRecDepth 100000
set_option maxHeartbeats 4000000

def kj (pre:List Ev) (e:Ev) (fd:FD):Bool:=ir pre e && (if (endC pre e).kind = 1∨(endC pre e).kind = 2∨(endC pre e).kind = 3 then decide (e.en.f1 = fd.1∧e.en.f2 = fd.2) else if (endC pre e).kind = 4 then decide ((e.en.f1 = fd.1∧e.en.f2 = fd.2)∨(e.en.t1 = fd.1∧e.en.t2 = fd.2)) else false)
def mF (pre:List Ev) (e:Ev) (fd:FD) (a b:Int):Bool:=ir pre e && decide ((endC pre e).f1 = fd.1∧(endC pre e).f2 = fd.2) && decide ((endC pre e).kind = a∨(endC pre e).kind = b)
theorem mG (st:St) {l:List Ev} {k:Nat} (hk:k < l.length) (hl:l.length≤10000) (fd:FD) :
  aE Go.Proofs.Try.prog n_f21 [.sl false 30 (l.map evA),.lit (.int .i64 (k:Nat)),fdA fd] st (.lit (.bool (kj (l.take k) l[k] fd))):=by
 have hll:(l.map evA).length = l.length:=List.length_map ..
 have hgk:=dH hk
 rw [eO] at hgk
 have hca:=mE st hk hl
 unfold kj
 generalize l[k] = e at hgk hca ⊢
 generalize endC (l.take k) e = c at hca ⊢
 generalize ir (l.take k) e = g at hca ⊢
 obtain ⟨f1,f2⟩:=fd
 unfold fdA
 have h1:=kh e.en.f1 e.en.f2 f1 f2
 have h2:=kh e.en.t1 e.en.t2 f1 f2
 simp only at ⊢
 refine aD hmix k_f21 rfl rfl fun Q hQ=>?_
 unfold aFun c_f21
 simp (config:=KF) (disch:=omega) only [bZ,bt,id,↓reduceIte,Nat.reduceEqDiff,Nat.reduceAdd,reduceCtorEq]
 refine aH rfl e_f25 hca rfl ?_
 unfold clA
 rw [c8]
 cases g with
 | false =>
   rw [Bool.false_and] at hQ
   simp (config:=KF) (disch:=omega) only [bZ,retI,o_un,am,unA,aI,aX,↓reduceIte,Nat.reduceEqDiff,Nat.reduceAdd,Nat.reduceLeDiff,reduceCtorEq,ae,aj,ak]
   exact hQ _
 | true =>
   rw [Bool.true_and] at hQ
   by_cases k1:c.kind = 1∨c.kind = 2∨c.kind = 3
   ·rw [if_pos k1] at hQ
    rcases k1 with k1 | k1 | k1
    ·simp (config:=KF) (disch:=omega) only [bZ,cH,retI,o_un,ixSV,am,addA,aa,unA,aI,aX,↓reduceIte,Nat.reduceEqDiff,Nat.reduceAdd,Nat.reduceLeDiff,reduceCtorEq,ae,aj,ak,hgk,hll,h1]
     exact hQ _
    ·simp (config:=KF) (disch:=omega) only [bZ,cH,retI,o_un,ixSV,am,addA,aa,unA,aI,aX,↓reduceIte,Nat.reduceEqDiff,Nat.reduceAdd,Nat.reduceLeDiff,reduceCtorEq,ae,aj,ak,hgk,hll,h1]
     exact hQ _
    ·simp (config:=KF) (disch:=omega) only [bZ,cH,retI,o_un,ixSV,am,addA,aa,unA,aI,aX,↓reduceIte,Nat.reduceEqDiff,Nat.reduceAdd,Nat.reduceLeDiff,reduceCtorEq,ae,aj,ak,hgk,hll,h1]
     exact hQ _
   ·rw [if_neg k1] at hQ
    obtain ⟨n1,n2,n3⟩:¬ c.kind = 1∧¬ c.kind = 2∧¬ c.kind = 3:=⟨fun q=>k1 (.inl q),fun q=>k1 (.inr (.inl q)),fun q=>k1 (.inr (.inr q))⟩
    by_cases k4:c.kind = 4
    ·rw [if_pos k4] at hQ
     by_cases q1:e.en.f1 = f1∧e.en.f2 = f2
     ·rw [decide_eq_true q1] at h1
      rw [decide_eq_true (.inl q1)] at hQ
      simp (config:=KF) (disch:=omega) only [bZ,bu,cT,cH,aJ,cF,retI,AI.dst,o_un,ixSV,am,addA,aa,unA,aI,aX,↓reduceIte,Nat.reduceEqDiff,Nat.reduceAdd,Nat.reduceLeDiff,reduceCtorEq,ae,aj,ak,hgk,hll,h1]
      exact hQ _
     ·rw [decide_eq_false q1] at h1
      rw [show decide ((e.en.f1 = f1∧e.en.f2 = f2)∨(e.en.t1 = f1∧e.en.t2 = f2)) = decide (e.en.t1 = f1∧e.en.t2 = f2) by simp [q1]] at hQ
      simp (config:=KF) (disch:=omega) only [bZ,bu,cT,cH,bV,retI,AI.dst,o_un,ixSV,am,addA,aa,unA,aI,aX,↓reduceIte,Nat.reduceEqDiff,Nat.reduceAdd,Nat.reduceLeDiff,reduceCtorEq,ae,aj,ak,hgk,hll,h1,h2]
      exact hQ _
    ·rw [if_neg k4] at hQ
     simp (config:=KF) (disch:=omega) only [bZ,retI,o_un,am,addA,aa,unA,aI,aX,↓reduceIte,Nat.reduceEqDiff,Nat.reduceAdd,Nat.reduceLeDiff,reduceCtorEq,ae,aj,ak]
     exact hQ _

def dy (q:Nat→Bool):Nat→Option Nat
 | 0=>none
 | k + 1=>if q k = true then some k else dy q k
def anyI (q:Nat→Bool) (f:Nat):Nat→Bool
 | 0=>false
 | k + 1=>anyI q f k || (decide (f≤k) && q k)
theorem jB (q:Nat→Bool) (f:Nat):∀ k,anyI q f k = true↔∃ i,f≤i∧i < k∧q i = true
 | 0=>by simp [anyI]
 | k + 1 => by
   unfold anyI
   rw [Bool.or_eq_true,jB q f k,Bool.and_eq_true,decide_eq_true_eq]
   constructor
   ·rintro (⟨i,a,b,c⟩ | ⟨a,b⟩)
    ·exact ⟨i,a,by omega,c⟩
    ·exact ⟨k,a,by omega,b⟩
   ·rintro ⟨i,a,b,c⟩
    by_cases e:i = k
    ·subst e; exact .inr ⟨a,c⟩
    ·exact .inl ⟨i,a,by omega,c⟩
def opAt (l:List Ev) (fd:FD) (i:Nat):Bool:=match l[i]? with | some e=>kj (l.take i) e fd | none=>false
def clAt (l:List Ev) (fd:FD) (a b:Int) (i:Nat):Bool:=match l[i]? with | some e=>mF (l.take i) e fd a b | none=>false
theorem oW {l:List Ev} {fd:FD} {i:Nat} (h:i < l.length):opAt l fd i = kj (l.take i) l[i] fd:=by
 unfold opAt; rw [List.getElem?_eq_getElem h]
theorem clAt_eq {l:List Ev} {fd:FD} {a b:Int} {i:Nat} (h:i < l.length):clAt l fd a b i = mF (l.take i) l[i] fd a b:=by
 unfold clAt; rw [List.getElem?_eq_getElem h]
def ixO (o:Option Nat):Int:=match o with | some i=>(i:Int) | none=>-1
theorem kR (st:St) {l:List Ev} {k:Nat} (hk:k≤l.length) (hl:l.length≤10000) (fd:FD) :
  aE Go.Proofs.Try.prog n_f22 [.sl false 30 (l.map evA),.lit (.int .i64 (k:Nat)),fdA fd] st (.lit (.int .i64 (ixO (dy (opAt l fd) k)))):=by
 have hop:=fun {j:Nat} (hj:j < l.length)=>mG st hj hl fd
 obtain ⟨f1,f2⟩:=fd
 refine aD hmix k_f22 rfl rfl fun Q hQ=>?_
 unfold aFun c_f22
 unfold fdA at *
 simp only at *
 simp (config:=KF) (disch:=omega) only [bZ,bt,im,↓reduceIte,Nat.reduceEqDiff,Nat.reduceAdd,reduceCtorEq]
 rw [f22_7w]
 refine b5 (A:=Nat) (fun j=>j) (fun j=>⟨[(0,.sl false 30 (l.map evA)),(5,.lptr 5 0),(7,.lit (.int .i64 ((j:Int) - 1)))],[(5,[.lit (.int .i64 f1),.lit (.int .i64 f2)])]⟩) (fun _=>st)
  (fun j=>j≤k∧dy (opAt l (f1,f2)) k = dy (opAt l (f1,f2)) j) k ⟨Nat.le_refl _,rfl⟩ (Sf.le_refl _) rfl ?_
 rintro j ⟨h1,h2⟩ K hK hKe hKr
 try dsimp only
 cases j with
 | zero =>
   simp (config:=KF) (disch:=omega) only [bZ,gD,↓reduceIte,Nat.reduceEqDiff,Int.reduceSub,Int.reduceNeg,reduceCtorEq]
   refine hKe _ _ _ ?_
   simp (config:=KF) (disch:=omega) only [bZ,retI,↓reduceIte,Int.reduceNeg]
   rw [h2] at hQ
   exact hQ _
 | succ j =>
   have hj:j < l.length:=by omega
   have hop:=hop hj
   rw [← oW hj] at hop
   rw [show ((j + 1:Nat):Int) - 1 = (j:Int) by omega]
   rw [dy] at h2
   cases ho:opAt l (f1,f2) j with
   | true =>
     rw [ho,if_pos rfl] at h2
     rw [ho] at hop
     rw [h2] at hQ
     simp (config:=KF) (disch:=omega) only [bZ,aa,gD,id,↓reduceIte,Nat.reduceEqDiff,Nat.reduceAdd,Nat.reduceLeDiff,reduceCtorEq]
     refine aH rfl e_f21 hop rfl ?_
     simp (config:=KF) (disch:=omega) only [bZ,↓reduceIte,Nat.reduceEqDiff,reduceCtorEq]
     refine hKr _ _ ?_
     simp (config:=KF) (disch:=omega) only [bZ,retI,↓reduceIte]
     exact hQ _
   | false =>
     rw [ho,if_neg (by simp)] at h2
     rw [ho] at hop
     simp (config:=KF) (disch:=omega) only [bZ,aa,gD,id,↓reduceIte,Nat.reduceEqDiff,Nat.reduceAdd,Nat.reduceLeDiff,reduceCtorEq]
     refine aH rfl e_f21 hop rfl ?_
     simp (config:=KF) (disch:=omega) only [bZ,im,↓reduceIte,Nat.reduceEqDiff,reduceCtorEq]
     exact hK j _ ⟨by omega,h2⟩ (by omega) (Sf.le_refl _)
theorem shut_pure (st:St) {l:List Ev} {f k:Nat} (hk:k≤l.length) (hf:f≤k) (hl:l.length≤10000) (fd:FD) (a b:Int) :
  aE Go.Proofs.Try.prog n_f40 [.sl false 30 (l.map evA),.lit (.int .i64 (f:Nat)),.lit (.int .i64 (k:Nat)),fdA fd,.lit (.int .i64 a),.lit (.int .i64 b)] st (.lit (.bool (anyI (clAt l fd a b) f k))):=by
 obtain ⟨f1,f2⟩:=fd
 refine aD hmix k_f40 rfl rfl fun Q hQ=>?_
 unfold aFun c_f40
 unfold fdA
 simp only
 simp (config:=KF) (disch:=omega) only [bZ,bt,↓reduceIte,Nat.reduceEqDiff,Nat.reduceAdd,reduceCtorEq]
 rw [f40_7w]
 refine b5 (A:=Nat) (fun j=>k - j) (fun j=>⟨[(0,.sl false 30 (l.map evA)),(2,.lit (.int .i64 (k:Nat))),(4,.lit (.int .i64 a)),(5,.lit (.int .i64 b)),(9,.lptr 9 0),(13,.lit (.int .i64 (j:Nat)))],[(9,[.lit (.int .i64 f1),.lit (.int .i64 f2)])]⟩) (fun _=>st)
  (fun j=>f≤j∧j≤k∧∀ i,f≤i→i < j→clAt l (f1,f2) a b i = false) f ⟨Nat.le_refl _,hf,fun i h1 h2=>by omega⟩ (Sf.le_refl _) rfl ?_
 rintro j ⟨h1,h2,h3⟩ K hK hKe hKr
 try dsimp only
 by_cases hj:j < k
 ·have hjl:j < l.length:=by omega
  have hca:=mE st hjl hl
  have hcl:=clAt_eq (l:=l) (fd:=(f1,f2)) (a:=a) (b:=b) hjl
  have hyes:clAt l (f1,f2) a b j = true→anyI (clAt l (f1,f2) a b) f k = true:=fun q=>(jB _ _ _).2 ⟨j,h1,hj,q⟩
  have hno:clAt l (f1,f2) a b j = false→∀ i,f≤i→i < j + 1→clAt l (f1,f2) a b i = false:=fun q i q1 q2=>by
   by_cases e:i = j
   ·subst e; exact q
   ·exact h3 i q1 (by omega)
  have hK:=fun q=>hK (j + 1) ⟨[(0,.sl false 30 (l.map evA)),(2,.lit (.int .i64 (k:Nat))),(4,.lit (.int .i64 a)),(5,.lit (.int .i64 b)),(9,.lptr 9 0),(13,.lit (.int .i64 ((j + 1:Nat):Nat)))],[(9,[.lit (.int .i64 f1),.lit (.int .i64 f2)])]⟩ ⟨by omega,by omega,hno q⟩ (by omega) (Sf.le_refl _)
  clear hno h3
  unfold mF at hcl
  generalize l[j] = e at hca hcl
  generalize endC (l.take j) e = c at hca hcl
  generalize ir (l.take j) e = g at hca hcl
  generalize clAt l (f1,f2) a b j = r at hcl hyes hK
  have he:=kh c.f1 c.f2 f1 f2
  simp only at hcl
  simp (config:=KF) (disch:=omega) only [bZ,id,↓reduceIte,Nat.reduceEqDiff,reduceCtorEq]
  refine aH rfl e_f25 hca rfl ?_
  unfold clA
  rw [c8]
  cases g with
  | false =>
    rw [Bool.false_and,Bool.false_and] at hcl
    simp (config:=KF) (disch:=omega) only [bZ,ej,AI.dst,am,aI,aX,↓reduceIte,Nat.reduceEqDiff,Nat.reduceAdd,Nat.reduceLeDiff,reduceCtorEq,ae,aj,ak]
    exact hK hcl
  | true =>
    rw [Bool.true_and] at hcl
    by_cases q1:c.f1 = f1∧c.f2 = f2
    ·rw [decide_eq_true q1] at he hcl
     rw [Bool.true_and] at hcl
     by_cases q2:c.kind = a
     ·rw [decide_eq_true (.inl q2)] at hcl
      rw [hyes hcl] at hQ
      simp (config:=KF) (disch:=omega) only [bZ,AI.dst,am,addA,aa,aI,aX,↓reduceIte,Nat.reduceEqDiff,Nat.reduceAdd,Nat.reduceLeDiff,reduceCtorEq,aY,ae,aj,ak,he]
      refine hKr _ _ ?_
      simp (config:=KF) (disch:=omega) only [bZ,retI,↓reduceIte]
      exact hQ _
     ·by_cases q3:c.kind = b
      ·rw [decide_eq_true (.inr q3)] at hcl
       rw [hyes hcl] at hQ
       simp (config:=KF) (disch:=omega) only [bZ,AI.dst,am,addA,aa,aI,aX,↓reduceIte,Nat.reduceEqDiff,Nat.reduceAdd,Nat.reduceLeDiff,reduceCtorEq,aZ,ae,aj,ak,he]
       refine hKr _ _ ?_
       simp (config:=KF) (disch:=omega) only [bZ,retI,↓reduceIte]
       exact hQ _
      ·rw [decide_eq_false (fun q=>q.elim q2 q3)] at hcl
       simp (config:=KF) (disch:=omega) only [bZ,AI.dst,am,addA,aa,aI,aX,↓reduceIte,Nat.reduceEqDiff,Nat.reduceAdd,Nat.reduceLeDiff,reduceCtorEq,aZ,ae,aj,ak,he]
       exact hK hcl
    ·rw [decide_eq_false q1] at he hcl
     rw [Bool.false_and] at hcl
     simp (config:=KF) (disch:=omega) only [bZ,ej,AI.dst,am,addA,aa,aI,aX,↓reduceIte,Nat.reduceEqDiff,Nat.reduceAdd,Nat.reduceLeDiff,reduceCtorEq,ae,aj,ak,he]
     exact hK hcl
 ·have hjk:j = k:=by omega
  subst hjk
  simp (config:=KF) (disch:=omega) only [bZ,↓reduceIte,Nat.reduceEqDiff,reduceCtorEq]
  refine hKe _ _ _ ?_
  simp (config:=KF) (disch:=omega) only [bZ,retI,↓reduceIte]
  have:anyI (clAt l (f1,f2) a b) f j = false:=by
   cases h:anyI (clAt l (f1,f2) a b) f j with
   | false=>rfl
   | true =>
     obtain ⟨i,a1,a2,a3⟩:=(jB _ _ _).1 h
     rw [h3 i a1 a2] at a3; cases a3
  rw [this] at hQ
  exact hQ _
def openB (l:List Ev) (k:Nat) (fd:FD):Bool:=match dy (opAt l fd) k with | some i=>!anyI (clAt l fd 7 7) i k | none=>false
theorem lastI_lt {q:Nat→Bool}:∀ {k i:Nat},dy q k = some i→i < k∧q i = true
 | 0,i,h=>by cases h
 | k + 1, i, h => by
   unfold dy at h
   split at h
   ·cases h; exact ⟨by omega,by assumption⟩
   ·have:=lastI_lt h; exact ⟨by omega,this.2⟩
theorem ropen_pure (st:St) {l:List Ev} {k:Nat} (hk:k≤l.length) (hl:l.length≤10000) (fd:FD) :
  aE Go.Proofs.Try.prog n_f23 [.sl false 30 (l.map evA),.lit (.int .i64 (k:Nat)),fdA fd] st (.lit (.bool (openB l k fd))):=by
 have hop:=kR st hk hl fd
 have hsh:=fun {f:Nat} (hf:f≤k)=>shut_pure st hk hf hl fd 7 7
 unfold openB
 obtain ⟨f1,f2⟩:=fd
 refine aD hmix k_f23 rfl rfl fun Q hQ=>?_
 unfold aFun c_f23
 unfold fdA at *
 simp only at *
 simp (config:=KF) (disch:=omega) only [bZ,bt,aa,id,↓reduceIte,Nat.reduceEqDiff,Nat.reduceAdd,Nat.reduceLeDiff,reduceCtorEq]
 refine aH rfl e_f22 hop rfl ?_
 cases ho:dy (opAt l (f1,f2)) k with
 | none =>
   rw [ho] at hQ
   unfold ixO
   simp (config:=KF) (disch:=omega) only [bZ,retI,AI.dst,gD,↓reduceIte,Nat.reduceEqDiff,Int.reduceNeg,reduceCtorEq,aZ]
   exact hQ _
 | some i =>
   rw [ho] at hQ
   have hi:=(lastI_lt ho).1
   unfold ixO
   simp (config:=KF) (disch:=omega) only [bZ,AI.dst,aa,gD,id,↓reduceIte,Nat.reduceEqDiff,Nat.reduceAdd,Nat.reduceLeDiff,reduceCtorEq,aY]
   refine aH rfl e_f40 (hsh (show i≤k by omega)) rfl ?_
   simp (config:=KF) (disch:=omega) only [bZ,retI,AI.dst,o_un,unA,↓reduceIte,Nat.reduceEqDiff,reduceCtorEq]
   exact hQ _

end Go.Fx.YtgnockaonokmaaaFx

