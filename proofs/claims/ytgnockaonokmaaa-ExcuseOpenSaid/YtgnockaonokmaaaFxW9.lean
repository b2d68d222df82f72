/- What the functions that the statement reaches compute: part 9. -/
import Derived.Test.YtgnockaonokmaaaFxW8
namespace Go.Fx.YtgnockaonokmaaaFx
open Go Go.Fx
attribute [local irreducible] aC runI az aU

set_option maxRecDepth 100000
set_option maxHeartbeats 4000000

def okAt (l:List Ev) (k i:Nat) (fd:FD):Bool:=opAt l fd i && decide (dy (opAt l fd) k = some i) && openB l k fd
def addR (l:List Ev) (k i:Nat) (out:List FD) (fd:FD):List FD:=if okAt l k i fd = true∧out.getLast?≠some fd then out++[fd] else out
def e1 (e:Ev):FD:=(e.en.f1,e.en.f2)
def e2 (e:Ev):FD:=(e.en.t1,e.en.t2)
def inR (l:List Ev) (k:Nat) (out:List FD) (i:Nat):List FD:=match l[i]? with | some e=>addR l k i (addR l k i out (e1 e)) (e2 e) | none=>out
def dz (l:List Ev) (k j:Nat):List FD:=(List.range j).foldl (inR l k) []
theorem iJ (l:List Ev) (k j:Nat):dz l k (j + 1) = inR l k (dz l k j) j:=by
 unfold dz; rw [List.range_succ,List.foldl_append]; rfl
theorem mH (l:List Ev) (k i:Nat) (out:List FD) (fd:FD):(addR l k i out fd).length≤out.length + 1:=by
 unfold addR; split
 ·simp
 ·omega
theorem km (l:List Ev) (k:Nat):∀ j,(dz l k j).length≤2 * j
 | 0=>by simp [dz]
 | j + 1 => by
   have:=km l k j
   rw [iJ]
   unfold inR
   split
   ·rename_i e _
    have h1:=mH l k j (addR l k j (dz l k j) (e1 e)) (e2 e)
    have h2:=mH l k j (dz l k j) (e1 e)
    omega
   ·omega
theorem mI (st:St) {l:List Ev} {k i:Nat} (hk:k≤l.length) (hi:i < k) (hl:l.length≤10000) (fd:FD) {out:List FD} (ho:out.length≤30000) {es:List AV} {j:Nat} (hj:j < 2) {K:Exit→Sf→St→Prop}
  (hK:K .normal ⟨[(0,.sl false 30 (l.map evA)),(1,.lit (.int .i64 (k:Nat))),(5,rowG 2 ((addR l k i out fd).map fdA)),(6,.lit (.int .i64 (i:Nat))),(26,.sl true 2 es),(27,.lit (.int .i64 2)),(28,.lit (.int .i64 ((j + 1:Nat):Nat)))],[]⟩ st) :
  aC Go.Proofs.Try.prog id true f10_28 ⟨[(0,.sl false 30 (l.map evA)),(1,.lit (.int .i64 (k:Nat))),(5,rowG 2 (out.map fdA)),(6,.lit (.int .i64 (i:Nat))),(8,.lptr 8 0),(26,.sl true 2 es),(27,.lit (.int .i64 2)),(28,.lit (.int .i64 (j:Nat)))],[(8,[.lit (.int .i64 fd.1),.lit (.int .i64 fd.2)])]⟩ st (cf 3 (seqQ (aC Go.Proofs.Try.prog id true f10_32) K)):=by
 have h1:=mG st (show i < l.length by omega) hl fd
 rw [← oW] at h1
 have h2:=kR st hk hl fd
 have h3:=ropen_pure st hk hl fd
 obtain ⟨g1,g2,g3,g4⟩:=eN 2 (out.map fdA)
 have hml:(out.map fdA).length = out.length:=List.length_map ..
 have hdi:=fd_dis out
 unfold fdA at h1 h2 h3
 have hno:¬ (okAt l k i fd = true∧out.getLast?≠some fd)→addR l k i out fd = out:=fun q=>if_neg q
 have hyes:okAt l k i fd = true→out.getLast?≠some fd→addR l k i out fd = out++[fd]:=fun q r=>if_pos ⟨q,r⟩
 unfold okAt at hno hyes
 cases o1:opAt l fd i with
 | false =>
   rw [o1] at h1 hno
   rw [hno (by simp)] at hK
   simp (config:=KF) (disch:=omega) only [bZ,cb,aa,id,↓reduceIte,Nat.reduceEqDiff,Nat.reduceAdd,Nat.reduceLeDiff,reduceCtorEq,f10_28e]
   refine c7 rfl e_f21 h1 rfl ?_
   simp (config:=KF) (disch:=omega) only [bZ,bu,bE,bV,bC,cF,ej,iH,AI.dst,↓reduceIte,Nat.reduceEqDiff,reduceCtorEq,f10_32e,f10_32l]
   exact hK
 | true =>
   rw [o1] at h1 hno hyes
   by_cases o2:dy (opAt l fd) k = some i
   ·rw [o2] at h2
    rw [decide_eq_true o2] at hno hyes
    cases o3:openB l k fd with
    | false =>
      rw [o3] at h3 hno
      rw [hno (by simp)] at hK
      unfold ixO at h2
      simp (config:=KF) (disch:=omega) only [bZ,cb,aa,id,↓reduceIte,Nat.reduceEqDiff,Nat.reduceAdd,Nat.reduceLeDiff,reduceCtorEq,f10_28e]
      refine c7 rfl e_f21 h1 rfl ?_
      simp (config:=KF) (disch:=omega) only [bZ,bu,cb,aJ,bC,AI.dst,aa,id,↓reduceIte,Nat.reduceEqDiff,Nat.reduceAdd,Nat.reduceLeDiff,reduceCtorEq]
      refine c7 rfl e_f22 h2 rfl ?_
      simp (config:=KF) (disch:=omega) only [bZ,bu,bE,cT,cb,aJ,bC,AI.dst,aa,id,↓reduceIte,Nat.reduceEqDiff,Nat.reduceAdd,Nat.reduceLeDiff,reduceCtorEq]
      refine c7 rfl e_f23 h3 rfl ?_
      simp (config:=KF) (disch:=omega) only [bZ,bu,bE,bV,bC,cF,ej,iH,AI.dst,↓reduceIte,Nat.reduceEqDiff,reduceCtorEq,f10_32e,f10_32l]
      exact hK
    | true =>
      rw [o3] at h3 hno hyes
      unfold ixO at h2
      have hyes:=hyes rfl
      rcases List.eq_nil_or_concat out with rfl | ⟨o',x,rfl⟩
      ·rw [hyes (by simp)] at hK
       have hr2:rowG 2 (([]++[fd]:List FD).map fdA) = .sl true 2 [.agg [.lit (.int .i64 fd.1),.lit (.int .i64 fd.2)]]:=rfl
       rw [hr2] at hK
       rw [List.map_nil,rowG_nil]
       simp (config:=KF) (disch:=omega) only [bZ,cb,aa,id,↓reduceIte,Nat.reduceEqDiff,Nat.reduceAdd,Nat.reduceLeDiff,reduceCtorEq,f10_28e]
       refine c7 rfl e_f21 h1 rfl ?_
       simp (config:=KF) (disch:=omega) only [bZ,bu,cb,aJ,bC,AI.dst,aa,id,↓reduceIte,Nat.reduceEqDiff,Nat.reduceAdd,Nat.reduceLeDiff,reduceCtorEq]
       refine c7 rfl e_f22 h2 rfl ?_
       simp (config:=KF) (disch:=omega) only [bZ,bu,bE,cT,cb,aJ,bC,AI.dst,aa,id,↓reduceIte,Nat.reduceEqDiff,Nat.reduceAdd,Nat.reduceLeDiff,reduceCtorEq]
       refine c7 rfl e_f23 h3 rfl ?_
       simp (config:=KF) (disch:=omega) only [bZ,bu,bE,cT,oN,aJ,bC,cF,and_self,AI.dst,l7,oG,bslV,nK,List.isEmpty_cons,List.reduceReplicate,lenI,aa,ea,srcA,dj,dG,↓reduceIte,Nat.reduceEqDiff,Nat.reduceAdd,Nat.reduceLT,Nat.reduceLeDiff,reduceCtorEq,fW,f10_32e,f10_32l]
       exact hK
      ·rw [List.concat_eq_append] at *
       have hne:=oT x.1 x.2 fd.1 fd.2
       have hgd:((o'++[x]).map fdA).getD (o'.length + 1 - 1) .any = .agg [.lit (.int .i64 x.1),.lit (.int .i64 x.2)]:=by simp [fdA]
       have hll:(o'++[x]).length = o'.length + 1:=by simp
       rw [hll] at hml
       have hr1:rowG 2 ((o'++[x]).map fdA) = .sl true 2 ((o'++[x]).map fdA):=lc (by simp)
       rw [hr1]
       have hlast:(o'++[x]).getLast? = some x:=by simp
       rw [hlast] at hno hyes
       by_cases c:x.1 = fd.1∧x.2 = fd.2
       ·rw [hno (fun q=>q.2 (by rw [show x = fd from Prod.ext c.1 c.2]))] at hK
        rw [hr1] at hK
        rw [decide_eq_false (fun q=>q c)] at hne
        simp (config:=KF) (disch:=omega) only [bZ,cb,aa,id,↓reduceIte,Nat.reduceEqDiff,Nat.reduceAdd,Nat.reduceLeDiff,reduceCtorEq,f10_28e]
        refine c7 rfl e_f21 h1 rfl ?_
        simp (config:=KF) (disch:=omega) only [bZ,bu,cb,aJ,bC,AI.dst,aa,id,↓reduceIte,Nat.reduceEqDiff,Nat.reduceAdd,Nat.reduceLeDiff,reduceCtorEq]
        refine c7 rfl e_f22 h2 rfl ?_
        simp (config:=KF) (disch:=omega) only [bZ,bu,bE,cT,cb,aJ,bC,AI.dst,aa,id,↓reduceIte,Nat.reduceEqDiff,Nat.reduceAdd,Nat.reduceLeDiff,reduceCtorEq]
        refine c7 rfl e_f23 h3 rfl ?_
        simp (config:=KF) (disch:=omega) only [bZ,bu,bE,cT,cH,oN,aJ,bV,bC,AI.dst,ixSV,lenI,aa,im,↓reduceIte,Nat.reduceEqDiff,Nat.reduceAdd,Nat.reduceLeDiff,reduceCtorEq,gX,oM,f10_32e,f10_32l,hml,hgd,hne]
        trace_state
        exact hK
       ·rw [hyes (fun q=>c (by rw [Option.some.inj q]; exact ⟨rfl,rfl⟩))] at hK
        have hr2:rowG 2 ((o'++[x]++[fd]).map fdA) = .sl true 2 ((o'++[x]).map fdA++[.agg [.lit (.int .i64 fd.1),.lit (.int .i64 fd.2)]]):=by
         rw [List.map_append,lc (by simp)]; rfl
        rw [hr2] at hK
        rw [decide_eq_true c] at hne
        simp (config:=KF) (disch:=omega) only [bZ,cb,aa,id,↓reduceIte,Nat.reduceEqDiff,Nat.reduceAdd,Nat.reduceLeDiff,reduceCtorEq,f10_28e]
        refine c7 rfl e_f21 h1 rfl ?_
        simp (config:=KF) (disch:=omega) only [bZ,bu,cb,aJ,bC,AI.dst,aa,id,↓reduceIte,Nat.reduceEqDiff,Nat.reduceAdd,Nat.reduceLeDiff,reduceCtorEq]
        refine c7 rfl e_f22 h2 rfl ?_
        simp (config:=KF) (disch:=omega) only [bZ,bu,bE,cT,cb,aJ,bC,AI.dst,aa,id,↓reduceIte,Nat.reduceEqDiff,Nat.reduceAdd,Nat.reduceLeDiff,reduceCtorEq]
        refine c7 rfl e_f23 h3 rfl ?_
        simp (config:=KF) (disch:=omega) only [bZ,bu,bE,cT,cH,oN,aJ,bV,bC,and_self,AI.dst,l7,oG,ixSV,bslV,nK,List.reduceReplicate,lenI,aa,eT,srcA,dj,im,dG,↓reduceIte,Nat.reduceEqDiff,Nat.reduceAdd,Nat.reduceLT,Nat.reduceLeDiff,reduceCtorEq,fW,gX,oM,f10_32e,f10_32l,hml,hgd,hne]
        exact hK
   ·rw [decide_eq_false o2] at hno
    rw [hno (by simp)] at hK
    have hix:((ixO (dy (opAt l fd) k)) = (i:Int)) = False:=by
     apply eq_false
     intro q
     unfold ixO at q
     cases hh:dy (opAt l fd) k with
     | none=>rw [hh] at q; simp only at q; omega
     | some i' =>
       rw [hh] at q
       simp only at q
       have:i' = i:=by omega
       subst this
       exact o2 hh
    generalize ixO (dy (opAt l fd) k) = z at h2 hix
    simp (config:=KF) (disch:=omega) only [bZ,cb,aa,id,↓reduceIte,Nat.reduceEqDiff,Nat.reduceAdd,Nat.reduceLeDiff,reduceCtorEq,f10_28e]
    refine c7 rfl e_f21 h1 rfl ?_
    simp (config:=KF) (disch:=omega) only [bZ,bu,cb,aJ,bC,AI.dst,aa,id,↓reduceIte,Nat.reduceEqDiff,Nat.reduceAdd,Nat.reduceLeDiff,reduceCtorEq]
    refine c7 rfl e_f22 h2 rfl ?_
    simp (config:=KF) (disch:=omega) only [bZ,bu,bE,cT,aJ,bV,bC,cF,ej,iH,AI.dst,↓reduceIte,Nat.reduceEqDiff,reduceCtorEq,decide_false,f10_32e,f10_32l,hix]
    exact hK
theorem ropenL_pure (st:St) {l:List Ev} {k:Nat} (hk:k≤l.length) (hl:l.length≤10000) :
  aE Go.Proofs.Try.prog n_f10 [.sl false 30 (l.map evA),.lit (.int .i64 (k:Nat))] st (fdV (dz l k k)):=by
 have hll:(l.map evA).length = l.length:=List.length_map ..
 refine aD hmix k_f10 rfl rfl fun Q hQ=>?_
 unfold aFun c_f10
 simp (config:=KF) (disch:=omega) only [bZ,↓reduceIte,Nat.reduceEqDiff,reduceCtorEq]
 rw [f10_9w]
 refine b5 (A:=Nat) (fun i=>k - i) (fun i=>⟨[(0,.sl false 30 (l.map evA)),(1,.lit (.int .i64 (k:Nat))),(5,rowG 2 ((dz l k i).map fdA)),(6,.lit (.int .i64 (i:Nat)))],[]⟩) (fun _=>st)
  (fun i=>i≤k) 0 (Nat.zero_le _) (Sf.le_refl _) rfl ?_
 rintro i h1 K hK hKe hKr
 try dsimp only
 by_cases hi:i < k
 ·have hil:i < l.length:=by omega
  have hgd:=dH hil
  rw [eO] at hgd
  have hK:=hK (i + 1)
  have hlen:=km l k i
  rw [iJ,inR,List.getElem?_eq_getElem hil] at hK
  simp only at hK
  generalize dz l k i = out at hK hlen ⊢
  have hl1:=mH l k i out (e1 l[i])
  generalize l[i] = e at hgd hK hl1
  obtain ⟨g1,g2,g3,g4⟩:=eN 2 (out.map fdA)
  simp (config:=KF) (disch:=omega) only [bZ,cH,hh_bsl,oN,and_self,ixSV,bslV,List.reduceReplicate,lenI,addA,aa,dj,dG,↓reduceIte,Nat.reduceEqDiff,Nat.reduceAdd,Nat.reduceLT,Nat.reduceLeDiff,reduceCtorEq,hgd,hll]
  rw [f10_19w]
  refine b5 (A:=Nat×List FD) (fun a=>2 - a.1) (fun a=>⟨[(0,.sl false 30 (l.map evA)),(1,.lit (.int .i64 (k:Nat))),(5,rowG 2 (a.2.map fdA)),(6,.lit (.int .i64 (i:Nat))),(26,.sl true 2 [.agg [.lit (.int .i64 e.en.f1),.lit (.int .i64 e.en.f2)],.agg [.lit (.int .i64 e.en.t1),.lit (.int .i64 e.en.t2)]]),(27,.lit (.int .i64 2)),(28,.lit (.int .i64 (a.1:Nat)))],[]⟩) (fun _=>st)
   (fun a=>a = (0,out)∨a = (1,addR l k i out (e1 e))∨a = (2,addR l k i (addR l k i out (e1 e)) (e2 e))) (0,out) (.inl rfl) (Sf.le_refl _) rfl ?_
  rintro ⟨j,o⟩ h2 K2 hK2 hKe2 hKr2
  dsimp only
  obtain ⟨y1,y2,y3,y4⟩:=eN 2 (o.map fdA)
  rcases h2 with h2 | h2 | h2
  ·cases h2
   simp (config:=KF) (disch:=omega) only [bZ,and_self,ixSV,am,aa,dw,List.getD_cons_zero,Int.toNat_zero,↓reduceIte,Nat.reduceEqDiff,Nat.reduceAdd,Nat.reduceLeDiff,Int.reduceLT,Int.reduceLE,reduceCtorEq,ae,y1]
   refine mI (fd:=e1 e) (j:=0) st hk hi hl (by omega) (by omega) ?_
   exact hK2 (1,addR l k i out (e1 e)) _ (.inr (.inl rfl)) (by simp) (Sf.le_refl _)
  ·cases h2
   simp (config:=KF) (disch:=omega) only [bZ,and_self,ixSV,am,aa,dw,List.getD_cons_zero,List.getD_cons_succ,Int.toNat_one,↓reduceIte,Nat.reduceEqDiff,Nat.reduceAdd,Nat.reduceLeDiff,Int.reduceLT,Int.reduceLE,reduceCtorEq,ae,y1]
   refine mI (fd:=e2 e) (j:=1) st hk hi hl (by omega) (by omega) ?_
   exact hK2 (2,addR l k i (addR l k i out (e1 e)) (e2 e)) _ (.inr (.inr rfl)) (by simp) (Sf.le_refl _)
  ·cases h2
   simp (config:=KF) (disch:=omega) only [bZ,↓reduceIte,Nat.reduceEqDiff,Int.reduceLT,reduceCtorEq,decide_false]
   refine hKe2 _ _ _ ?_
   simp (config:=KF) (disch:=omega) only [bZ,↓reduceIte,Nat.reduceEqDiff,reduceCtorEq]
   exact hK _ (by omega) (by omega) (Sf.le_refl _)
 ·have hik:i = k:=by omega
  subst hik
  obtain ⟨g1,g2,g3,g4⟩:=eN 2 ((dz l i i).map fdA)
  obtain ⟨d1,d2⟩:=rowG_dd 2 ((dz l i i).map fdA)
  simp (config:=KF) (disch:=omega) only [bZ,↓reduceIte,Nat.reduceEqDiff,reduceCtorEq]
  refine hKe _ _ _ ?_
  simp (config:=KF) (disch:=omega) only [bZ,retI,↓reduceIte,Nat.reduceEqDiff,d1,d2]
  exact hQ _
end Go.Fx.YtgnockaonokmaaaFx

namespace Go.Fx.YtgnockaonokmaaaFx
open Go Go.Fx
attribute [local irreducible] aC runI az aU

set_option maxRecDepth 100000
set_option maxHeartbeats 4000000

theorem snoc_ind {α:Type} {p:List α→Prop} (h0:p []) (h1:∀ l a,p l→p (l++[a])) (l:List α):p l:=by
 have:∀ n,p (l.take n):=fun n=>by
  induction n with
  | zero=>simpa using h0
  | succ n ih =>
    by_cases h:n < l.length
    ·rw [List.take_succ_eq_append_getElem h]; exact h1 _ _ ih
    ·rw [List.take_of_length_le (by omega)] at ih ⊢; exact ih
 have:=this l.length
 rwa [List.take_length] at this
theorem kn {α:Type} (l:List α):l.filter (fun _=>true) = l:=List.filter_eq_self.2 fun _ _=>rfl
theorem ko {α:Type} (l:List α):l.filter (fun _=>false) = []:=List.filter_eq_nil_iff.2 fun _ _=>by simp
theorem oX (P:PS) (e:Ev):(pAdd P e).calls = if e.kind = 1∧e.err = 0 then updP e.task e.call P.calls else P.calls:=by
 have hd:∀ (c:Cl) (x:En) (Q:PS),(b9 c x Q).calls = Q.calls:=fun c x Q=>by
  unfold b9
  split
  ·rfl
  split
  ·rfl
  split
  ·split <;> rfl
  split
  ·rfl
  split <;> rfl
 unfold pAdd
 split
 ·rfl
 split
 ·split
  ·split
   ·rw [hd]
   ·rfl
  ·rfl
 ·rfl
theorem pAll_snoc (l:List Ev) (e:Ev):pAll (l++[e]) = pAdd (pAll l) e:=by
 unfold pAll; rw [List.foldl_append]; rfl
theorem calls_eq (t:Int) (l:List Ev):bG t (pAll l).calls = subC t l:=by
 induction l using snoc_ind with
 | h0=>rfl
 | h1 l e ih =>
   rw [pAll_snoc,oX,nZ]
   unfold mD
   split
   ·rename_i h
    rw [look_upd]
    by_cases q:t = e.task
    ·rw [if_pos q,if_pos (decide_eq_true ⟨h.1,q.symm,h.2⟩)]
    ·rw [if_neg q,if_neg (by simp; intro _ a; exact absurd a.symm q),ih]
   ·rename_i h
    rw [if_neg (by simp; intro a _ b; exact h ⟨a,b⟩),ih]
theorem add_eq (l:List Ev) (e:Ev):(pAdd (pAll l) e).files = (if ir l e = true then (b9 (endC l e) e.en (pAll l)).files else (pAll l).files)∧(pAdd (pAll l) e).dl = if ir l e = true then (b9 (endC l e) e.en (pAll l)).dl else (pAll l).dl:=by
 have hp:∀ (c:Cl) (x:En) (P:PS) (q:List (Int×Bool)),(b9 c x { P with pend:=q }).files = (b9 c x P).files∧(b9 c x { P with pend:=q }).dl = (b9 c x P).dl:=fun c x P q=>by
  unfold b9
  split
  ·exact ⟨rfl,rfl⟩
  split
  ·exact ⟨rfl,rfl⟩
  split
  ·split <;> exact ⟨rfl,rfl⟩
  split
  ·exact ⟨rfl,rfl⟩
  split <;> exact ⟨rfl,rfl⟩
 unfold pAdd ir endB endC
 by_cases c1:e.kind = 1∧e.err = 0
 ·rw [if_pos c1]
  have:¬ (e.kind = 2∧e.done = true):=fun q=>by omega
  simp [this]
 ·rw [if_neg c1]
  by_cases c2:e.kind = 2∧e.done = true
  ·rw [if_pos c2,calls_eq,if_pos c2,decide_eq_true c2]
   cases subC e.task l with
   | none=>simp
   | some c =>
     simp only [Bool.true_and,Bool.and_eq_true,decide_eq_true_eq,Option.getD_some]
     split
     ·exact hp ..
     ·exact ⟨rfl,rfl⟩
  ·rw [if_neg c2]
   simp [c2]

def mJ (e:Ev):List FD:=if e2 e = e1 e then [e1 e] else [e1 e,e2 e]
def fP (f:Fl):FD×Bool:=((f.f1,f.f2),f.on)
def filI (l:List Ev) (k i:Nat):List (FD×Bool):=match l[i]? with
 | some e=>((mJ e).filter fun fd=>opAt l fd i && decide (dy (opAt l fd) k = some i)).map fun fd=>(fd,!anyI (clAt l fd 7 7) i k)
 | none=>[]
def filR (l:List Ev) (k:Nat):List (FD×Bool):=(List.range k).flatMap (filI l k)
theorem anyI_same (q:Nat→Bool) (f:Nat):anyI q f f = false:=by
 cases h:anyI q f f with
 | false=>rfl
 | true =>
   obtain ⟨i,a,b,_⟩:=(jB _ _ _).1 h
   omega
theorem filI_succ {l:List Ev} {k i:Nat} (hi:i < k):filI l (k + 1) i = ((filI l k i).filter fun p=>!opAt l p.1 k).map fun p=>(p.1,p.2 && !clAt l p.1 7 7 k):=by
 unfold filI
 cases l[i]? with
 | none=>rfl
 | some e =>
   simp only
   rw [List.filter_map,List.map_map,List.filter_filter]
   congr 1
   ·funext fd
    simp only [Function.comp]
    congr 1
    rw [anyI]
    rw [show decide (i≤k) = true from decide_eq_true (by omega)]
    rw [Bool.true_and,Bool.not_or]
   ·apply List.filter_congr
    intro fd _
    simp only [Function.comp]
    rw [dy]
    cases h:opAt l fd k with
    | true =>
      rw [if_pos rfl]
      have:¬ (some k = some i):=fun q=>by have:=Option.some.inj q; omega
      simp [this]
    | false=>simp
theorem filR_succ {l:List Ev} {k:Nat} (hk:k < l.length):filR l (k + 1) = ((filR l k).filter fun p=>!opAt l p.1 k).map (fun p=>(p.1,p.2 && !clAt l p.1 7 7 k))++((mJ l[k]).filter fun fd=>opAt l fd k).map fun fd=>(fd,!clAt l fd 7 7 k):=by
 have h1:(List.range k).flatMap (filI l (k + 1)) = ((filR l k).filter fun p=>!opAt l p.1 k).map (fun p=>(p.1,p.2 && !clAt l p.1 7 7 k)):=by
  unfold filR
  have:∀ s:List Nat,(∀ i ∈ s,i < k)→s.flatMap (filI l (k + 1)) = ((s.flatMap (filI l k)).filter fun p=>!opAt l p.1 k).map (fun p=>(p.1,p.2 && !clAt l p.1 7 7 k)):=by
   intro s
   induction s with
   | nil=>intro _; rfl
   | cons i s ih =>
     intro h
     rw [List.flatMap_cons,List.flatMap_cons,List.filter_append,List.map_append,ih fun j hj=>h j (by simp [hj]),filI_succ (h i (by simp))]
  exact this _ fun i hi=>List.mem_range.1 hi
 unfold filR at h1 ⊢
 rw [List.range_succ,List.flatMap_append,h1]
 congr 1
 rw [List.flatMap_cons,List.flatMap_nil,List.append_nil]
 unfold filI
 rw [List.getElem?_eq_getElem hk]
 simp only
 congr 1
 ·funext fd
  unfold anyI
  rw [anyI_same]
  simp
 ·apply List.filter_congr
  intro fd _
  rw [dy]
  cases opAt l fd k <;> simp
theorem hasFd_eq (fd:FD) (f:Fl):bz fd.1 fd.2 f = decide ((fP f).1 = fd):=by
 unfold bz fP
 congr 1
 exact propext ⟨fun h=>Prod.ext h.1 h.2,fun h=>by rw [← h]; exact ⟨rfl,rfl⟩⟩
theorem files_eq (l:List Ev):∀ k,k≤l.length→(pAll (l.take k)).files.map fP = filR l k
 | 0,_=>rfl
 | k + 1, hk => by
   have hkl:k < l.length:=by omega
   have ih:=files_eq l k (by omega)
   rw [ki hkl,(add_eq _ _).1,filR_succ hkl,← ih]
   have ho:∀ fd,opAt l fd k = kj (l.take k) l[k] fd:=fun fd=>oW hkl
   have hc:∀ fd,clAt l fd 7 7 k = mF (l.take k) l[k] fd 7 7:=fun fd=>clAt_eq hkl
   simp only [ho,hc]
   unfold kj mF
   generalize pAll (l.take k) = P
   generalize l[k] = e
   generalize endC (l.take k) e = c
   cases ir (l.take k) e with
   | false =>
     simp only [Bool.false_and,Bool.not_false,Bool.and_true,kn,ko,List.map_nil,List.append_nil]
     simp
   | true =>
     simp only [Bool.true_and,if_true]
     have hopen:∀ (fd:FD) (Q:PS),(dx fd.1 fd.2 c.kind Q).files.map fP = (Q.files.map fP).filter (fun p=>!decide (p.1 = fd))++[(fd,true)]:=fun fd Q=>by
      unfold dx
      simp only [List.map_append,List.map_cons,List.map_nil]
      congr 1
      rw [List.filter_map]
      congr 1
      apply List.filter_congr
      intro f _
      rw [hasFd_eq]
      rfl
     by_cases k123:c.kind = 1∨c.kind = 2∨c.kind = 3
     ·have hd:∃ Q:PS,Q.files = P.files∧b9 c e.en P = dx e.en.f1 e.en.f2 c.kind Q:=by
       unfold b9
       by_cases k1:c.kind = 1
       ·rw [if_pos k1]; exact ⟨{ P with bound:=P.bound++[e.en],opened:=P.opened + 1 },rfl,rfl⟩
       ·rw [if_neg k1,if_pos (by omega)]; exact ⟨{ P with opened:=P.opened + 1 },rfl,rfl⟩
      obtain ⟨Q,q1,q2⟩:=hd
      have ho1:(dx e.en.f1 e.en.f2 c.kind Q).files.map fP = _:=hopen (e1 e) Q
      rw [q2,ho1,q1]
      have hk7:∀ fd:FD,(decide (c.f1 = fd.1∧c.f2 = fd.2) && decide (c.kind = 7∨c.kind = 7)) = false:=fun fd=>by
       rw [decide_eq_false (show ¬ (c.kind = 7∨c.kind = 7) by omega),Bool.and_false]
      simp only [if_pos k123,hk7,Bool.not_false,Bool.and_true]
      have hfd:∀ fd:FD,decide (e.en.f1 = fd.1∧e.en.f2 = fd.2) = decide (fd = e1 e):=fun fd=>by
       congr 1
       exact propext ⟨fun h=>(Prod.ext h.1 h.2:e1 e = fd).symm,fun h=>by subst h; exact ⟨rfl,rfl⟩⟩
      simp only [hfd]
      congr 1
      ·simp
      ·unfold mJ
       by_cases h12:e2 e = e1 e
       ·rw [if_pos h12]; simp
       ·rw [if_neg h12]
        simp [h12]
     ·have n123:¬ c.kind = 1∧¬ (c.kind = 2∨c.kind = 3):=by omega
      by_cases k4:c.kind = 4
      ·have hk7:∀ fd:FD,(decide (c.f1 = fd.1∧c.f2 = fd.2) && decide (c.kind = 7∨c.kind = 7)) = false:=fun fd=>by
        rw [decide_eq_false (show ¬ (c.kind = 7∨c.kind = 7) by omega),Bool.and_false]
       simp only [if_neg k123,if_pos k4,hk7,Bool.not_false,Bool.and_true]
       have hfd:∀ fd:FD,decide ((e.en.f1 = fd.1∧e.en.f2 = fd.2)∨(e.en.t1 = fd.1∧e.en.t2 = fd.2)) = decide (fd = e1 e∨fd = e2 e):=fun fd=>by
        congr 1
        refine propext ⟨fun h=>h.imp (fun h=>(Prod.ext h.1 h.2:e1 e = fd).symm) (fun h=>(Prod.ext h.1 h.2:e2 e = fd).symm),fun h=>h.imp (fun h=>?_) (fun h=>?_)⟩
        ·subst h; exact ⟨rfl,rfl⟩
        ·subst h; exact ⟨rfl,rfl⟩
       simp only [hfd]
       unfold b9
       rw [if_neg n123.1,if_neg n123.2,if_pos k4]
       unfold mJ
       by_cases h12:e2 e = e1 e
       ·have:e.en.t1 = e.en.f1∧e.en.t2 = e.en.f2:=⟨congrArg Prod.fst h12,congrArg Prod.snd h12⟩
        have ho1:(dx e.en.f1 e.en.f2 c.kind { P with opened:=P.opened + 2 }).files.map fP = _:=hopen (e1 e) _
        rw [if_pos this,ho1,if_pos h12,h12]
        simp
       ·have:¬ (e.en.t1 = e.en.f1∧e.en.t2 = e.en.f2):=fun q=>h12 (Prod.ext q.1 q.2)
        have h21:¬ e1 e = e2 e:=fun q=>h12 q.symm
        have ho1:(dx e.en.f1 e.en.f2 c.kind { P with opened:=P.opened + 2 }).files.map fP = _:=hopen (e1 e) _
        have ho2:(dx e.en.t1 e.en.t2 c.kind (dx e.en.f1 e.en.f2 c.kind { P with opened:=P.opened + 2 })).files.map fP = _:=hopen (e2 e) _
        rw [if_neg this,ho2,ho1,if_neg h12]
        rw [List.filter_append,List.filter_filter]
        simp [h12,h21]
        apply List.filter_congr
        intro p _
        by_cases a:p.1 = e1 e <;> by_cases b:p.1 = e2 e <;> simp [a,b]
      ·simp only [if_neg k123,if_neg k4,Bool.not_false]
       by_cases k7:c.kind = 7
       ·have hd:(b9 c e.en P).files = P.files.map (iq c.f1 c.f2):=by
         unfold b9
         rw [if_neg n123.1,if_neg n123.2,if_neg k4,if_neg (by omega),if_pos k7]
        rw [hd]
        simp only [k7,or_self,decide_true,Bool.and_true,kn,ko,List.map_nil,List.append_nil,List.map_map]
        refine List.map_congr_left fun f _=>?_
        simp only [Function.comp,iq,fP,Prod.mk.injEq,true_and]
        have hh:bz c.f1 c.f2 f = decide (c.f1 = f.f1∧c.f2 = f.f2):=by
         unfold bz
         exact decide_eq_decide.2 ⟨fun q=>⟨q.1.symm,q.2.symm⟩,fun q=>⟨q.1.symm,q.2.symm⟩⟩
        rw [hh]
        first | done | rfl | congr 2 | simp
       ·have hd:(b9 c e.en P).files = P.files:=by
         unfold b9
         rw [if_neg n123.1,if_neg n123.2,if_neg k4]
         split
         ·rfl
         ·first | rfl | rw [if_neg k7]
        rw [hd]
        simp only [k7,or_self,decide_false,Bool.and_false,Bool.not_false,Bool.and_true,kn,ko,List.map_nil,List.append_nil]
        simp

theorem opens_eq (l:List Ev) {k:Nat} (hk:k≤l.length):dQ (pAll (l.take k)).files = ((filR l k).filter fun p=>p.2).map Prod.fst:=by
 rw [← files_eq l k hk,List.filter_map,List.map_map]
 rfl
def okI (l:List Ev) (k i:Nat):List FD:=match l[i]? with | some e=>(mJ e).filter (okAt l k i) | none=>[]
theorem filI_ok (l:List Ev) (k i:Nat):((filI l k i).filter fun p=>p.2).map Prod.fst = okI l k i:=by
 unfold filI okI
 cases l[i]? with
 | none=>rfl
 | some e =>
   simp only
   rw [List.filter_map,List.map_map,List.filter_filter]
   have:(Prod.fst ∘ fun fd:FD=>(fd,!anyI (clAt l fd 7 7) i k)) = id:=rfl
   rw [this,List.map_id]
   apply List.filter_congr
   intro fd _
   unfold okAt openB
   simp only [Function.comp]
   by_cases h:dy (opAt l fd) k = some i
   ·rw [h]; simp [Bool.and_comm]
   ·simp [h]
theorem filR_ok (l:List Ev) (k:Nat):((filR l k).filter fun p=>p.2).map Prod.fst = (List.range k).flatMap (okI l k):=by
 unfold filR
 induction List.range k with
 | nil=>rfl
 | cons i s ih=>rw [List.flatMap_cons,List.flatMap_cons,List.filter_append,List.map_append,ih,filI_ok]
theorem ok_last {l:List Ev} {k i:Nat} {fd:FD} (h:okAt l k i fd = true):dy (opAt l fd) k = some i:=by
 unfold okAt at h
 simp only [Bool.and_eq_true,decide_eq_true_eq] at h
 exact h.1.2
theorem openR_eq (l:List Ev) (k:Nat):∀ j,dz l k j = (List.range j).flatMap (okI l k)∧∀ fd ∈ dz l k j,∃ i,i < j∧dy (opAt l fd) k = some i
 | 0=>⟨rfl,fun fd h=>by cases h⟩
 | j + 1 => by
   obtain ⟨h1,h2⟩:=openR_eq l k j
   rw [iJ,List.range_succ,List.flatMap_append,← h1,List.flatMap_cons,List.flatMap_nil,List.append_nil]
   generalize dz l k j = out at h2
   unfold inR okI
   cases l[j]? with
   | none =>
     refine ⟨by simp,fun fd h=>?_⟩
     obtain ⟨i,a,b⟩:=h2 fd h
     exact ⟨i,by omega,b⟩
   | some e =>
     simp only
     have hnot:∀ fd,okAt l k j fd = true→fd ∉ out:=fun fd h q=>by
      obtain ⟨i,a,b⟩:=h2 fd q
      rw [ok_last h] at b
      have:=Option.some.inj b
      omega
     have hadd:addR l k j out (e1 e) = out++[e1 e].filter (okAt l k j):=by
      unfold addR
      cases h:okAt l k j (e1 e) with
      | false=>simp [h]
      | true =>
        have:out.getLast?≠some (e1 e):=fun q=>hnot _ h (List.mem_of_getLast? q)
        simp [h,this]
     have hmain:addR l k j (addR l k j out (e1 e)) (e2 e) = out++(mJ e).filter (okAt l k j):=by
      rw [hadd]
      unfold mJ
      by_cases h12:e2 e = e1 e
      ·rw [if_pos h12,h12]
       unfold addR
       cases h:okAt l k j (e1 e) with
       | false=>simp
       | true=>simp [h]
      ·rw [if_neg h12]
       unfold addR
       cases h:okAt l k j (e2 e) with
       | false=>simp [h,List.filter_cons]
       | true =>
         have hl:(out++[e1 e].filter (okAt l k j)).getLast?≠some (e2 e):=fun q=>by
          have:=List.mem_of_getLast? q
          rcases List.mem_append.1 this with q | q
          ·exact hnot _ h q
          ·have:=(List.mem_filter.1 q).1
           simp at this
           exact h12 this
         rw [if_pos ⟨rfl,hl⟩]
         cases h':okAt l k j (e1 e) <;> simp [h,h']
     rw [hmain]
     refine ⟨rfl,fun fd h=>?_⟩
     rcases List.mem_append.1 h with h | h
     ·obtain ⟨i,a,b⟩:=h2 fd h
      exact ⟨i,by omega,b⟩
     ·exact ⟨j,by omega,ok_last (List.mem_filter.1 h).2⟩
theorem open_same (l:List Ev) {k:Nat} (hk:k≤l.length):dQ (pAll (l.take k)).files = dz l k k:=by
 rw [opens_eq l hk,filR_ok,(openR_eq l k k).1]
end Go.Fx.YtgnockaonokmaaaFx

