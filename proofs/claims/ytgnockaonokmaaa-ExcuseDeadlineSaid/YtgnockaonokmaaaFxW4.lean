/- What the functions that the statement reaches compute: part 4. -/
import Derived.Test.YtgnockaonokmaaaFxW3
namespace Go.Fx.YtgnockaonokmaaaFx
open Go Go.Fx
attribute [local irreducible] aC runI az bj

set_option maxRecDepth 100000
set_option maxHeartbeats 4000000

def lisF (f1 f2:Int) (P:PS):Bool:=match gH f1 f2 P.files with
 | some f=>if f.kind = 1 then true else P.lis
 | none=>P.lis
def kE (f1 f2:Int) (f:Fl):Fl:={ f with on:=f.on && !bJ f1 f2 f }
def cR (c:Cl) (x:En) (P:PS):PS :=
 if c.kind = 1 then f0 x.f1 x.f2 c.kind { P with bound:=P.bound++[x],opened:=P.opened + 1 }
 else if c.kind = 2∨c.kind = 3 then f0 x.f1 x.f2 c.kind { P with opened:=P.opened + 1 }
 else if c.kind = 4 then (if x.t1 = x.f1∧x.t2 = x.f2 then f0 x.f1 x.f2 c.kind { P with opened:=P.opened + 2 } else f0 x.t1 x.t2 c.kind (f0 x.f1 x.f2 c.kind { P with opened:=P.opened + 2 }))
 else if c.kind = 10 then { P with dl:=up3 (c.f1,c.f2,c.dir) c.at_ P.dl }
 else if c.kind = 7 then { P with lis:=lisF c.f1 c.f2 P,bound:=P.bound.filter (fun y=>!c9 c.f1 c.f2 y),files:=P.files.map (kE c.f1 c.f2) }
 else P
theorem mem_pIds {p m1 m2 m3 m4:Nat} {fv bv:AV} (b:Nat):b ∈ pIds p m1 m2 m3 m4 fv bv↔b = p∨b = m1∨b = m2∨b = m3∨b = m4∨b ∈ ae fv∨b ∈ ae bv:=by simp [pIds]
theorem set_on {l:List Fl} {k:Nat} (hk:k < l.length) (b:Bool) (r:List AV):aS (rcs flC l++r) (k * 4 + 3) [.lit (.bool b)] = rcs flC (l.set k { l[k] with on:=b })++r:=by
 have h1:l = l.take k++l[k]::l.drop (k + 1):=by
  conv=>lhs; rw [← List.take_append_drop k l,List.drop_eq_getElem_cons hk]
 have h2:(rcs flC (l.take k)).length = k * 4:=by rw [aV dR,List.length_take,Nat.min_eq_left (by omega)]
 have h4:rcs flC (l.set k { l[k] with on:=b }) = rcs flC (l.take k)++(flC { l[k] with on:=b }++rcs flC (l.drop (k + 1))):=by
  rw [List.set_eq_take_append_cons_drop,if_pos hk,e6]
  unfold rcs
  rw [List.flatMap_cons]
 have h3:rcs flC l = rcs flC (l.take k)++(flC l[k]++rcs flC (l.drop (k + 1))):=by
  conv=>lhs; rw [h1]
  rw [e6]
  unfold rcs
  rw [List.flatMap_cons]
 rw [h3,h4]
 generalize rcs flC (l.take k) = A at h2
 generalize rcs flC (l.drop (k + 1)) = C
 generalize l[k] = x
 have h5:A++(flC x++C)++r = (A++[.lit (.int .i64 x.f1),.lit (.int .i64 x.f2),.lit (.int .i64 x.kind)])++(.lit (.bool x.on)::(C++r)):=by simp [gG]
 rw [h5,gE (by simp [h2]) (by simp)]
 simp [gG]
theorem PastIs.inF {st st':St} {p m1 m2 m3 m4:Nat} {fv bv tr:AV} {P:PS} {l':List Fl} (h:PastIs st p m1 m2 m3 m4 fv bv tr P) (ho:Oth st st' (ae fv)) (hf:RB flC 4 fv st' l'):PastIs st' p m1 m2 m3 m4 fv bv tr { P with files:=l' }:=by
 obtain ⟨o,o0,o1,o2,o3,o4,o5,o6⟩:=h.sep
 obtain ⟨l,hl⟩:=h.sm
 have ha:∀ b,o b≠5→st'.boxes[b]? = st.boxes[b]?:=fun b q=>ho.2 b fun e=>q (o5 b e)
 exact ⟨(cb (ha p (by omega))).trans h.get,h.cm.at (ha _ (by omega)),h.pm.at (ha _ (by omega)),h.dm.at (ha _ (by omega)),⟨l,hl.at (ha _ (by omega))⟩,hf,h.bb.at (fun b q=>ha b (by have:=o6 b q; omega)),h.sep⟩
theorem shut_loop {st:St} {p m1 m2 m3 m4 tb:Nat} {fv bv tr:AV} {P:PS} (h:PastIs st p m1 m2 m3 m4 fv bv tr P) (hl:P.files.length < 99990) (c:Cl) (htb:st.get tb = some (clC c)) (htn:tb ∉ ae fv) {K:Exit→Sf→St→Prop}
  (hK:∀ s',PastIs s' p m1 m2 m3 m4 fv bv tr { P with files:=P.files.map (kE c.f1 c.f2) }→Oth st s' (ae fv)→K (.exit 7) ⟨[(0,.ptr p 0),(4,.ptr tb 0)],[]⟩ s') :
  aC Go.Proofs.Try.prog id false f56_76 ⟨[(0,.ptr p 0),(4,.ptr tb 0),(108,.lit (.int .i64 (P.files.length:Nat))),(109,.lit (.int .i64 0))],[]⟩ st K:=by
 have hpn:p ∉ ae fv:=by
  obtain ⟨o,o0,_,_,_,_,o5,_⟩:=h.sep
  exact fun q=>by have:=o5 p q; omega
 rw [df] at htb
 rw [f56_76w]
 refine cJ (A:=Nat×St) (fun a=>P.files.length - a.1) (fun a=>⟨[(0,.ptr p 0),(4,.ptr tb 0),(108,.lit (.int .i64 (P.files.length:Nat))),(109,.lit (.int .i64 (a.1:Nat)))],[]⟩) (fun a=>a.2)
  (fun a=>a.1≤P.files.length∧PastIs a.2 p m1 m2 m3 m4 fv bv tr { P with files:=(P.files.take a.1).map (kE c.f1 c.f2)++P.files.drop a.1 }∧Oth st a.2 (ae fv)) (0,st) ⟨Nat.zero_le _,h,Oth.refl _ _⟩ (Sf.le_refl _) rfl ?_
 rintro ⟨k,s⟩ ⟨h1,h2,h3⟩ K2 hK2 hKe hKr
 simp only at h1 h2 h3
 dsimp only
 by_cases hk:k < P.files.length
 ·have hg:=h2.get
  have htb1:=(h3.get htn).trans htb
  have hrb:=h2.fb
  simp only at hrb
  obtain ⟨L,hL⟩:∃ L,L = (P.files.take k).map (kE c.f1 c.f2)++P.files.drop k:=⟨_,rfl⟩
  rw [← hL] at h2 hrb
  have hlen:L.length = P.files.length:=by rw [hL,List.length_append,List.length_map,List.length_take,List.length_drop]; omega
  have hget:L[k]? = some P.files[k]:=by
   rw [hL,List.getElem?_append_right (by rw [List.length_map,List.length_take]; omega),List.length_map,List.length_take,Nat.min_eq_left (by omega),Nat.sub_self,List.getElem?_drop]
   simp [hk]
  have hnxt:L.set k (kE c.f1 c.f2 P.files[k]) = (P.files.take (k + 1)).map (kE c.f1 c.f2)++P.files.drop (k + 1):=by
   rw [hL,List.set_append_right _ _ (by rw [List.length_map,List.length_take]; omega),List.length_map,List.length_take,Nat.min_eq_left (by omega),Nat.sub_self,List.take_succ_eq_append_getElem hk,List.drop_eq_getElem_cons hk,List.set_cons_zero,List.map_append]
   simp
  have hkL:k < L.length:=by omega
  have hget:L[k] = P.files[k]:=by
   have:=List.getElem?_eq_getElem hkL
   rw [hget] at this
   exact (Option.some.inj this).symm
  rcases hrb with ⟨_,e⟩ | ⟨bi,cap,r,rfl,hgb,q3,q4⟩
  ·rw [e] at hkL; simp at hkL
  obtain ⟨t,hd⟩:=eF dR hkL r
  have hson:=fun b=>set_on hkL b r
  rw [hget] at hd
  rw [hget] at hson
  generalize P.files[k] = x at hd hson hnxt
  simp only [gG,List.cons_append,List.nil_append] at hd
  have hd3:(rcs flC L++r).drop (k * 4 + 3) = .lit (.bool x.on)::t:=by rw [← List.drop_drop,hd]; rfl
  have hcl:(rcs flC L++r).length = L.length * 4 + r.length:=by rw [List.length_append,aV dR]
  have hne:=fd_neq x.f1 x.f2 c.f1 c.f2
  simp only at hg
  have hfin:∀ (b:Bool),b = (x.on && !bJ c.f1 c.f2 x)→K2 .normal ⟨[(0,.ptr p 0),(4,.ptr tb 0),(108,.lit (.int .i64 (P.files.length:Nat))),(109,.lit (.int .i64 ((k + 1:Nat):Nat)))],[]⟩ (s.set bi (rcs flC (L.set k { x with on:=b })++r)):=fun b hb=>by
   subst hb
   have hoo:Oth s (s.set bi (rcs flC (L.set k { x with on:=x.on && !bJ c.f1 c.f2 x })++r)) (ae (.bs bi 4 0 L.length cap)):=Oth.set _ _ _ (by simp [ae])
   refine hK2 (k + 1,_) _ ⟨by simp only; omega,?_,h3.trans hoo⟩ (by simp only; omega) (Sf.le_refl _)
   rw [← hnxt]
   have h4:=h2.inF (l':=L.set k (kE c.f1 c.f2 x)) hoo (.inr ⟨bi,cap,r,by rw [List.length_set],cr (bP hgb),by rw [List.length_set]; exact q3,by
    rw [List.length_append,aV dR] at q4 ⊢; rw [List.length_set]; exact q4⟩)
   exact h4
  cases hon:x.on with
  | false =>
    rw [hon] at hd3 hfin
    have hson:=hson false
    rw [hon] at hd
    simp (config:=KF) (disch:=omega) only [bZ,fg,dL,bk,fh,bE,ef,fD,aZ,AI.dst,b9,ixSV,aJ,aw,addA,aa,cP,aL,↓reduceIte,Nat.reduceEqDiff,reduceCtorEq,aR,hg,hgb,hd3,hcl,hson]
    exact hfin false rfl
  | true =>
    rw [hon] at hd3 hfin
    rw [hon] at hd
    have hsb:(true && !bJ c.f1 c.f2 x) = decide (¬ (x.f1 = c.f1∧x.f2 = c.f2)):=by unfold bJ; simp
    have hson:=hson (decide (¬ (x.f1 = c.f1∧x.f2 = c.f2)))
    simp (config:=KF) (disch:=omega) only [bZ,fg,dL,iC,bk,fh,bE,dI,aZ,AI.dst,b9,ixSV,aJ,aw,addA,aa,cP,aL,↓reduceIte,Nat.reduceEqDiff,Nat.reduceAdd,Nat.reduceLeDiff,reduceCtorEq,aR,hg,htb1,hgb,hd,hd3,hcl,hson,hne]
    exact hfin _ hsb.symm
 ·have hkl:k = P.files.length:=by omega
  subst hkl
  rw [List.take_length,List.drop_length,List.append_nil] at h2
  simp (config:=KF) (disch:=omega) only [bZ,↓reduceIte,Nat.reduceEqDiff,reduceCtorEq]
  refine hKe _ _ _ ?_
  exact hK s h2 h3
theorem done_calls {B:Nat→Prop} {st:St} {p:Nat} {tr:AV} {P:PS} (hB:∀ b,st.boxes.length≤b→B b) (h:PastK B st p tr P) (hl:P.files.length < 99990) (hop:0≤P.opened∧P.opened≤100000) (hbl:P.bound.length < 99990) (c:Cl) (x:En) :
  aF Go.Proofs.Try.prog n_f56 [.ptr p 0,clA c,rcA enC x] st (fun _ st'=>PastK B st' p tr (cR c x P)∧Lo B st st'):=by
 obtain ⟨m1,m2,m3,m4,fv,bv,h1,hlo⟩:=h.ex
 refine a8 hmix k_f56 rfl rfl fun Q hQ=>?_
 unfold aFun c_f56 clA rcA
 obtain ⟨s0,hs0⟩:∃ s0,s0 = st.push (.cells (clC c)):=⟨_,rfl⟩
 have hp0:=h1.kp (st':=s0) ⟨by rw [hs0,am]; omega,fun b hb _=>by rw [hs0]; exact bp hb⟩
 have hl0:s0.boxes.length = st.boxes.length + 1:=by rw [hs0,am]
 have hlo0:Lo B st s0:=by rw [hs0]; exact Lo.push _ _
 have hlt:=h1.lts
 have hm:=@mem_pIds p m1 m2 m3 m4 fv bv
 have hpt:p≠st.boxes.length:=by have:=hlt p ((hm p).2 (by simp)); omega
 have hg:=hp0.get
 have htb:=cQ st (clC c)
 rw [← hs0] at htb
 rw [df] at hs0 htb ⊢
 rw [j8]
 obtain ⟨v1,v2,v3,v4,v5,v6,v7,v8⟩:=h1.fb.facts
 obtain ⟨w1,w2,w3,w4,w5,w6,w7,w8⟩:=h1.bb.facts
 have hpn:p ∉ ae fv∧p ∉ ae bv:=by
  obtain ⟨o,o0,_,_,_,_,o5,o6⟩:=h1.sep
  exact ⟨fun q=>by have:=o5 p q; omega,fun q=>by have:=o6 p q; omega⟩
 have htn:st.boxes.length ∉ ae fv∧st.boxes.length ∉ ae bv:=⟨fun q=>by have:=h1.fb.lt _ q; omega,fun q=>by have:=h1.bb.lt _ q; omega⟩
 have hfin:∀ {s':St} {fv' bv':AV} {P':PS},PastIs s' p m1 m2 m3 m4 fv' bv' tr P'→(∀ b ∈ ae fv',b ∈ ae fv∨st.boxes.length≤b)→(∀ b ∈ ae bv',b ∈ ae bv∨st.boxes.length≤b)→PastK B s' p tr P':=fun hi hf hb=>⟨⟨m1,m2,m3,m4,_,_,hi,fun b q=>by
  simp only [pIds,List.cons_append,List.nil_append,List.mem_cons,List.mem_append] at q
  rcases q with e | e | e | e | e | e | e
  ·exact hlo b ((hm b).2 (by simp [e]))
  ·exact hlo b ((hm b).2 (by simp [e]))
  ·exact hlo b ((hm b).2 (by simp [e]))
  ·exact hlo b ((hm b).2 (by simp [e]))
  ·exact hlo b ((hm b).2 (by simp [e]))
  ·rcases hf b e with q | q
   ·exact hlo b ((hm b).2 (by simp [q]))
   ·exact hB b q
  ·rcases hb b e with q | q
   ·exact hlo b ((hm b).2 (by simp [q]))
   ·exact hB b q⟩⟩
 have hpB:B p:=hlo p ((hm p).2 (by simp))
 have hfB:∀ b ∈ ae fv,B b:=fun b q=>hlo b ((hm b).2 (by simp [q]))
 have hbB:∀ b ∈ ae bv,B b:=fun b q=>hlo b ((hm b).2 (by simp [q]))
 have hpl:=bP hg
 have htbs:=fun cs=>(cb (cu (st:=s0) (cs:=cs) (Ne.symm hpt))).trans htb
 have hpfB:∀ b ∈ p::ae fv,B b:=fun b q=>(List.mem_cons.1 q).elim (fun e=>e ▸ hpB) (hfB b)
 by_cases k1:c.kind = 1
 ·unfold cR at hQ
  rw [if_pos k1] at hQ
  simp (config:=KF) (disch:=omega) only [bZ,dU,↓reduceIte,Nat.reduceEqDiff,Nat.reduceAdd,reduceCtorEq,f56_1e,ak,al]
  rw [← hs0]
  simp (config:=KF) (disch:=omega) only [bZ,bk,bE,hh_bsl,aZ,and_self,o_x,aJ,bslV,ar,List.reduceReplicate,addA,aa,srcA,dM,fB,↓reduceIte,Nat.reduceEqDiff,Nat.reduceAdd,Nat.reduceLT,Nat.reduceLeDiff,reduceCtorEq,f56_3e,ak,al,htb,hg,w1]
  refine RB.app fF hp0.bb (new:=[x]) (jl (by simp only [List.length_cons,List.length_nil]; omega)) fun bv' s1 g1 g2 g3=>?_
  obtain ⟨y1,y2,y3,y4,y5,y6,y7,y8⟩:=g1.facts
  have hg1:=(cb (g2.2 p (bP hg) hpn.2)).trans hg
  have htb1:=(cb (g2.2 st.boxes.length (by omega) htn.2)).trans htb
  have hl1:=g2.1
  have hpl:=bP hg
  have htb2:=fun cs=>(cb (cu (st:=s1) (cs:=cs) (Ne.symm hpt))).trans htb1
  have hb':∀ b ∈ ae bv',b ∈ ae bv∨st.boxes.length≤b:=fun b q=>(g3 b q).imp _root_.id fun q=>by omega
  have hp1:=(hp0.setB g2 g1 fun b q=>(g3 b q)).cells tr (P.opened + 1) P.lis
  rw [set_set] at hp1
  simp (config:=KF) (disch:=omega) only [bZ,gU,bN,aJ,aw,addA,aa,id,aL,↓reduceIte,Nat.reduceEqDiff,Nat.reduceAdd,Nat.reduceLeDiff,reduceCtorEq,cr,ai,set_set,f56_49e,hg1,htb2,y1,y4,y6]
  refine aK rfl e_f68 (fW hp1 (by simp only; omega) x.f1 x.f2 c.kind) rfl fun v s3 hr=>?_
  obtain ⟨fv2,i1,i2,i3⟩:=hr
  simp (config:=KF) (disch:=omega) only [bZ,aA,retI,↓reduceIte,Nat.reduceEqDiff,reduceCtorEq]
  exact hQ _ _ ⟨hfin i1 (fun b q=>(i3 b q).imp _root_.id fun q=>by rw [eU] at q; omega) hb',hlo0.trans ((Lo.kp g2 hbB).trans ((Lo.set _ _ hpB).trans (Lo.kp i2 hpfB)))⟩
 by_cases k2:c.kind = 2∨c.kind = 3
 ·unfold cR at hQ
  rw [if_neg k1,if_pos k2] at hQ
  have hp1:=hp0.cells tr (P.opened + 1) P.lis
  have go:aC Go.Proofs.Try.prog id false f56_49 ⟨[(0,.ptr p 0),(4,.ptr st.boxes.length 0),(5,.lptr 5 0)],[(5,enC x)]⟩ s0 (co 3 (seqQ (aC Go.Proofs.Try.prog id false f56_53) (co 4 (seqQ (aC Go.Proofs.Try.prog id false f56_62) (co 5 (seqQ (aC Go.Proofs.Try.prog id false f56_64) (co 6 (seqQ (aC Go.Proofs.Try.prog id false f56_87) (co 0 (retQ [] Q)))))))))):=by
   rw [j8]
   simp (config:=KF) (disch:=omega) only [bZ,bN,aJ,aw,addA,aa,id,aL,↓reduceIte,Nat.reduceEqDiff,Nat.reduceAdd,Nat.reduceLeDiff,reduceCtorEq,ai,f56_49e,htbs,hg]
   refine aK rfl e_f68 (fW hp1 (by simp only; omega) x.f1 x.f2 c.kind) rfl fun v s3 hr=>?_
   obtain ⟨fv2,i1,i2,i3⟩:=hr
   simp (config:=KF) (disch:=omega) only [bZ,aA,retI,↓reduceIte,Nat.reduceEqDiff,reduceCtorEq]
   exact hQ _ _ ⟨hfin i1 (fun b q=>(i3 b q).imp _root_.id fun q=>by rw [eU] at q; omega) (fun b q=>.inl q),hlo0.trans ((Lo.set _ _ hpB).trans (Lo.kp i2 hpfB))⟩
  rw [j8] at go
  rcases k2 with k2 | k2
  ·simp (config:=KF) (disch:=omega) only [bZ,dU,↓reduceIte,Nat.reduceEqDiff,Nat.reduceAdd,reduceCtorEq,f56_1e,ak,al]
   rw [← hs0]
   simp (config:=KF) (disch:=omega) only [bZ,addA,aa,↓reduceIte,Nat.reduceEqDiff,reduceCtorEq,f56_3e,htb]
   exact go
  ·simp (config:=KF) (disch:=omega) only [bZ,dU,↓reduceIte,Nat.reduceEqDiff,Nat.reduceAdd,reduceCtorEq,f56_1e,ak,al]
   rw [← hs0]
   simp (config:=KF) (disch:=omega) only [bZ,addA,aa,↓reduceIte,Nat.reduceEqDiff,reduceCtorEq,f56_3e,htb]
   exact go
 by_cases k4:c.kind = 4
 ·unfold cR at hQ
  rw [if_neg k1,if_neg k2,if_pos k4] at hQ
  have hp1:=hp0.cells tr (P.opened + 2) P.lis
  have hne:=fd_neq x.t1 x.t2 x.f1 x.f2
  simp (config:=KF) (disch:=omega) only [bZ,dU,↓reduceIte,Nat.reduceEqDiff,Nat.reduceAdd,reduceCtorEq,f56_1e,ak,al]
  rw [← hs0]
  simp (config:=KF) (disch:=omega) only [bZ,bN,aJ,aw,addA,aa,id,aL,↓reduceIte,Nat.reduceEqDiff,Nat.reduceAdd,Nat.reduceLeDiff,reduceCtorEq,ai,f56_3e,f56_53e,htb,htbs,hg]
  refine aK rfl e_f68 (fW hp1 (by simp only; omega) x.f1 x.f2 c.kind) rfl fun v s3 hr=>?_
  obtain ⟨fv2,i1,i2,i3⟩:=hr
  have htb3:=(cb (i2.2 st.boxes.length (by rw [eU]; omega) (fun q=>by
   rcases List.mem_cons.1 q with q | q
   ·exact hpt q.symm
   ·exact htn.1 q))).trans (htbs _)
  have hi3:∀ b ∈ ae fv2,b ∈ ae fv∨st.boxes.length≤b:=fun b q=>(i3 b q).imp _root_.id fun q=>by rw [eU] at q; omega
  have hlo3:Lo B st s3:=hlo0.trans ((Lo.set _ _ hpB).trans (Lo.kp i2 hpfB))
  simp (config:=KF) (disch:=omega) only [bZ,addA,aa,↓reduceIte,Nat.reduceEqDiff,Nat.reduceAdd,Nat.reduceLeDiff,reduceCtorEq,hne]
  refine lV (fun e=>?_) (fun e=>?_)
  ·rw [if_neg e] at hQ
   simp (config:=KF) (disch:=omega) only [bZ,addA,aa,id,↓reduceIte,Nat.reduceEqDiff,Nat.reduceAdd,Nat.reduceLeDiff,reduceCtorEq,htb3]
   have hfl:(P.files.filter fun y=>!bJ x.f1 x.f2 y).length≤P.files.length:=List.length_filter_le ..
   refine aK rfl e_f68 (fW i1 (by simp only [f0,List.length_append,List.length_cons,List.length_nil]; omega) x.t1 x.t2 c.kind) rfl fun v s4 hr=>?_
   obtain ⟨fv4,j1,j2,j3⟩:=hr
   simp (config:=KF) (disch:=omega) only [bZ,aA,retI,↓reduceIte,Nat.reduceEqDiff,reduceCtorEq]
   have hl3:=hlo3.1
   exact hQ _ _ ⟨hfin j1 (fun b q=>(j3 b q).elim (fun q=>hi3 b q) fun q=>.inr (by omega)) (fun b q=>.inl q),hlo3.trans (Lo.kp j2 fun b q=>(List.mem_cons.1 q).elim (fun e=>e ▸ hpB) fun q=>(hi3 b q).elim (hfB b) (hB b))⟩
  ·rw [if_pos (Classical.not_not.1 e)] at hQ
   simp (config:=KF) (disch:=omega) only [bZ,aA,retI,↓reduceIte,Nat.reduceEqDiff,reduceCtorEq]
   exact hQ _ _ ⟨hfin i1 hi3 (fun b q=>.inl q),hlo3⟩
 by_cases k10:c.kind = 10
 ·unfold cR at hQ
  rw [if_neg k1,if_neg k2,if_neg k4,if_pos k10] at hQ
  simp (config:=KF) (disch:=omega) only [bZ,dU,↓reduceIte,Nat.reduceEqDiff,Nat.reduceAdd,reduceCtorEq,f56_1e,ak,al]
  rw [← hs0]
  simp (config:=KF) (disch:=omega) only [bZ,bk,bE,j0,aZ,and_self,nn,aJ,bstV,addA,aa,bg,cq,aL,↓reduceIte,Nat.reduceEqDiff,Nat.reduceAdd,Nat.reduceLeDiff,reduceCtorEq,ai,f56_3e,f56_62e,htb,hg]
  refine upd_3 hp0.dm (q:=(c.f1,c.f2,c.dir)) (b:=c.at_) rfl rfl fun s' hm' ho'=>?_
  simp (config:=KF) (disch:=omega) only [bZ,aA,retI,↓reduceIte,reduceCtorEq]
  exact hQ _ _ ⟨hfin (hp0.setD ho' hm') (fun b q=>.inl q) (fun b q=>.inl q),hlo0.trans (Lo.oth ho' (by simpa using hlo m3 ((hm m3).2 (by simp))))⟩
 by_cases k89:c.kind = 8∨c.kind = 9
 ·have k7:¬ c.kind = 7:=by omega
  unfold cR at hQ
  rw [if_neg k1,if_neg k2,if_neg k4,if_neg k10,if_neg k7] at hQ
  obtain ⟨sl,hsl⟩:=hp0.sm
  rcases k89 with k8 | k8
  ·simp (config:=KF) (disch:=omega) only [bZ,dU,↓reduceIte,Nat.reduceEqDiff,Nat.reduceAdd,reduceCtorEq,f56_1e,ak,al]
   rw [← hs0]
   simp (config:=KF) (disch:=omega) only [bZ,bk,bE,j0,aZ,and_self,nn,aJ,bstV,addA,aa,bg,cq,aL,↓reduceIte,Nat.reduceEqDiff,Nat.reduceAdd,Nat.reduceLeDiff,reduceCtorEq,ai,f56_3e,f56_87e,htb,hg]
   refine upd_3 hsl (q:=(c.f1,c.f2,c.kind)) (b:=true) rfl rfl fun s' hm' ho'=>?_
   simp (config:=KF) (disch:=omega) only [bZ,aA,retI,↓reduceIte]
   exact hQ _ _ ⟨hfin (hp0.setS ho' hm') (fun b q=>.inl q) (fun b q=>.inl q),hlo0.trans (Lo.oth ho' (by simpa using hlo m4 ((hm m4).2 (by simp))))⟩
  ·simp (config:=KF) (disch:=omega) only [bZ,dU,↓reduceIte,Nat.reduceEqDiff,Nat.reduceAdd,reduceCtorEq,f56_1e,ak,al]
   rw [← hs0]
   simp (config:=KF) (disch:=omega) only [bZ,bk,bE,j0,aZ,and_self,nn,aJ,bstV,addA,aa,bg,cq,aL,↓reduceIte,Nat.reduceEqDiff,Nat.reduceAdd,Nat.reduceLeDiff,reduceCtorEq,ai,f56_3e,f56_87e,htb,hg]
   refine upd_3 hsl (q:=(c.f1,c.f2,c.kind)) (b:=true) rfl rfl fun s' hm' ho'=>?_
   simp (config:=KF) (disch:=omega) only [bZ,aA,retI,↓reduceIte]
   exact hQ _ _ ⟨hfin (hp0.setS ho' hm') (fun b q=>.inl q) (fun b q=>.inl q),hlo0.trans (Lo.oth ho' (by simpa using hlo m4 ((hm m4).2 (by simp))))⟩
 by_cases k7:c.kind = 7
 ·unfold cR at hQ
  rw [if_neg k1,if_neg k2,if_neg k4,if_neg k10,if_pos k7] at hQ
  simp (config:=KF) (disch:=omega) only [bZ,dU,↓reduceIte,Nat.reduceEqDiff,Nat.reduceAdd,reduceCtorEq,f56_1e,ak,al]
  rw [← hs0]
  simp (config:=KF) (disch:=omega) only [bZ,addA,aa,id,↓reduceIte,Nat.reduceEqDiff,Nat.reduceAdd,Nat.reduceLeDiff,reduceCtorEq,f56_3e,f56_64e,htb]
  have hfp:=nA hp0 (by omega) c.f1 c.f2
  obtain ⟨fk,fo,hfk,hli⟩:∃ (fk:Int) (fo:Bool),findR (gH c.f1 c.f2 P.files) = [.lit (.int .i64 fk),.lit (.bool fo)]∧lisF c.f1 c.f2 P = (if fk = 1 then true else P.lis):=by
   unfold lisF
   cases gH c.f1 c.f2 P.files with
   | none=>exact ⟨0,false,rfl,rfl⟩
   | some f=>exact ⟨f.kind,f.on,rfl,rfl⟩
  rw [hfk] at hfp
  refine aQ rfl e_f60 hfp rfl ?_
  have go:∀ (rg:List (Nat×AV)) (s1:St) (P1:PS),(rg = [(0,.ptr p 0),(4,.ptr st.boxes.length 0)]∨rg = [(0,.ptr p 0),(4,.ptr st.boxes.length 0),(91,.lit (.bool false))])→P1.files = P.files→P1.bound = P.bound→(∀ s',PastK B s' p tr { P1 with bound:=P.bound.filter (fun y=>!c9 c.f1 c.f2 y),files:=P.files.map (kE c.f1 c.f2) }∧Lo B st s'→Q (.tup []) s')→PastIs s1 p m1 m2 m3 m4 fv bv tr P1→Lo B st s1→s1.boxes.length = s0.boxes.length→s1.get st.boxes.length = some (clC c) →
    aC Go.Proofs.Try.prog id false f56_71 ⟨rg,[]⟩ s1 (co 6 (seqQ (aC Go.Proofs.Try.prog id false f56_87) (co 0 (retQ [] Q)))):=fun rg s1 P1 hrg e1 e2 hQ1 hs1 hlo1 hl1 htb1=>by
   rcases hrg with rfl | rfl
   all_goals
    have hg1:=hs1.get
    have hb1:=hs1.bb
    rw [e2] at hb1
    have htb1':=htb1
    rw [df] at htb1'
    simp (config:=KF) (disch:=omega) only [bZ,bN,o_mkfn,aJ,ni,addA,aa,id,fS,List.nil_append,↓reduceIte,Nat.reduceEqDiff,reduceCtorEq,f56_71e,hg1,w1]
    refine aK (vs:=[bv,.fn (.func n_f70) [] [.ptr st.boxes.length 0]]) (by simp [w1]; rfl) e_f69 (delFE_calls hb1 htb1' htn.2 (by omega)) (by simp [w5]; rfl) fun v s2 hr=>?_
    obtain ⟨d1,d2,d3⟩:=hr
    obtain ⟨y1,y2,y3,y4,y5,y6,y7,y8⟩:=d1.facts
    have hg2:=(d3.get hpn.2).trans hg1
    have htb2:=(d3.get htn.2).trans htb1
    have hs2:=hs1.setB (d3.kp fun _ q=>q) d1 fun b q=>.inl (by rw [← d2]; exact q)
    have htb3:=fun cs=>(cb (cu (st:=s2) (cs:=cs) (Ne.symm hpt))).trans htb2
    have hg3:=hs2.get
    have hp2:p < s2.boxes.length:=bP hg2
    obtain ⟨z1,z2,z3,z4,z5,z6,z7,z8⟩:=hs1.fb.facts
    rw [e1] at z8
    simp (config:=KF) (disch:=omega) only [bZ,bN,aJ,aw,addA,aa,↓reduceIte,Nat.reduceEqDiff,Nat.reduceAdd,Nat.reduceLeDiff,reduceCtorEq,cr,ai,hg2,v1,y1,y4,y6,z8]
    have hlo2:Lo B s1 s2:=Lo.oth d3 fun b q=>hbB b q
    have hsl:=shut_loop (P:={ P1 with bound:=P.bound.filter (fun y=>!c9 c.f1 c.f2 y) }) hs2 (by simp only [e1]; omega) c (htb3 _) htn.1 (K:=co 7 (co 6 (seqQ (aC Go.Proofs.Try.prog id false f56_87) (co 0 (retQ [] Q))))) fun s' h1' h2'=>?_
    ·simp only [e1] at hsl
     exact hsl
    ·have hg4:=h1'.get
     have htb4:=(h2'.get htn.1).trans (htb3 _)
     rw [df] at htb4
     obtain ⟨sl,hslm⟩:=h1'.sm
     simp (config:=KF) (disch:=omega) only [bZ,bk,bE,j0,aZ,and_self,nn,aJ,bstV,addA,aa,bg,cq,aL,↓reduceIte,Nat.reduceEqDiff,Nat.reduceAdd,Nat.reduceLeDiff,reduceCtorEq,ai,f56_87e,hg4,htb4]
     refine upd_3 hslm (q:=(c.f1,c.f2,c.kind)) (b:=true) rfl rfl fun s'' hm' ho'=>?_
     simp (config:=KF) (disch:=omega) only [bZ,aA,retI,↓reduceIte]
     have h5:=h1'.setS ho' hm'
     simp only [e1] at h5
     exact hQ1 _ ⟨hfin h5 (fun b q=>.inl q) (fun b q=>.inl (by rw [← d2]; exact q)),hlo1.trans (hlo2.trans ((Lo.set _ _ hpB).trans ((Lo.oth h2' hfB).trans (Lo.oth ho' (by simpa using hlo m4 ((hm m4).2 (by simp)))))))⟩
  by_cases hf1:fk = 1
  ·rw [if_pos hf1] at hli
   rw [hli] at hQ
   simp (config:=KF) (disch:=omega) only [bZ,cw,bN,aJ,aw,addA,evOwn_c,disOp_c,aL,↓reduceIte,Nat.reduceEqDiff,Nat.reduceAdd,Nat.reduceLeDiff,reduceCtorEq,ai,hg]
   exact go _ _ { P with lis:=true } (.inl rfl) rfl rfl (fun s' q=>hQ _ _ q) (hp0.cells tr P.opened true) (hlo0.trans (Lo.set _ _ hpB)) (by rw [eU]) (by rw [df]; exact htbs _)
  ·rw [if_neg hf1] at hli
   rw [hli] at hQ
   simp (config:=KF) (disch:=omega) only [bZ,cw,↓reduceIte,Nat.reduceEqDiff,reduceCtorEq]
   exact go _ _ P (.inr rfl) rfl rfl (fun s' q=>hQ _ _ q) hp0 hlo0 rfl (by rw [df]; exact htb)
 ·unfold cR at hQ
  rw [if_neg k1,if_neg k2,if_neg k4,if_neg k10,if_neg k7] at hQ
  simp (config:=KF) (disch:=omega) only [bZ,dU,↓reduceIte,Nat.reduceEqDiff,Nat.reduceAdd,reduceCtorEq,f56_1e,ak,al]
  rw [← hs0]
  simp (config:=KF) (disch:=omega) only [bZ,aA,retI,addA,aa,↓reduceIte,Nat.reduceEqDiff,reduceCtorEq,f56_3e,htb]
  exact hQ _ _ ⟨hfin hp0 (fun b q=>.inl q) (fun b q=>.inl q),hlo0⟩
end Go.Fx.YtgnockaonokmaaaFx

