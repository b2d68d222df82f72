/- What the functions that the statement reaches compute: part 18. -/
import Derived.Test.YtbdjfccgkdgbfaaFxW17
namespace Go.Fx.YtbdjfccgkdgbfaaFx
open Go Go.Fx
attribute [local irreducible] aC runI az ar

set_option maxRecDepth 100000
set_option maxHeartbeats 4000000

/-! The reference: its values. -/
def msgV (m:List UInt8):AV:=if m = [] then .lit (.slice none 0 0) else .sl false 1 (BB m)
/-- Bytes that are handed over. -/
def MV (v:AV) (p:List UInt8):Prop:=v = .sl false 1 (BB p)∨(v = .lit (.slice none 0 0)∧p = [])
def RowV (v:AV) (ms:List (List UInt8)):Prop:=v = .sl false 1 (ms.map msgV)∨(v = .lit (.slice none 0 0)∧ms = [])
def sbV (S:Sb) (rv:AV):AV:=.agg [.lit (.int .i64 (S.num:Nat)),.lit (.int .i64 S.topic),.lit (.int .i64 (S.room:Nat)),.lit (.int .i64 S.pol),rv,.lit (.int .i64 (S.lost:Nat))]
def SubE (e:AV) (S:Sb):Prop:=∃ rv,RowV rv S.msgs∧e = sbV S rv
theorem MV.facts {v:AV} {p:List UInt8} (h:MV v p):v.dis = v∧v.own1 = v∧v.own2 = v∧v.solid1 = true∧v.noL = true∧v.cells = [v]∧(∀ s,kill s v = v)∧∀ st',lenI .sl st' v = .ok (.lit (.int .i64 (p.length:Nat))):=by
 rcases h with rfl | ⟨rfl,rfl⟩
 ·exact ⟨rfl,rfl,rfl,rfl,rfl,rfl,fun _=>rfl,fun _=>by rw [iE,aO]⟩
 ·exact ⟨rfl,rfl,rfl,rfl,rfl,rfl,fun _=>rfl,fun _=>rfl⟩
theorem MV.msg (p:List UInt8):MV (msgV p) p:=by
 unfold msgV
 split
 ·rename_i h; exact .inr ⟨rfl,h⟩
 ·exact .inl rfl
theorem RowV.facts {v:AV} {ms:List (List UInt8)} (h:RowV v ms):v.dis = v∧v.own1 = v∧v.own2 = v∧v.solid1 = true∧v.noL = true∧v.cells = [v]∧(∀ s,kill s v = v)∧∀ st',lenI .sl st' v = .ok (.lit (.int .i64 (ms.length:Nat))):=by
 rcases h with rfl | ⟨rfl,rfl⟩
 ·exact ⟨rfl,rfl,rfl,rfl,rfl,rfl,fun _=>rfl,fun _=>by rw [iE,List.length_map]⟩
 ·exact ⟨rfl,rfl,rfl,rfl,rfl,rfl,fun _=>rfl,fun _=>rfl⟩
theorem mD (ms:List (List UInt8)):(ms.map msgV).map AV.dis = ms.map msgV:=by
 rw [List.map_map]
 refine List.map_congr_left fun m _=>?_
 exact (MV.msg m).facts.1
theorem msg_getD {ms:List (List UInt8)} {i:Nat} (h:i < ms.length):(ms.map msgV).getD i .any = msgV ms[i]:=by
 rw [List.getD_eq_getElem?_getD,List.getElem?_map,List.getElem?_eq_getElem h]; rfl

theorem used_take {ms:List (List UInt8)} {i:Nat} (h:i < ms.length):used (ms.take (i + 1)) = used (ms.take i) + ms[i].length + 2:=by
 rw [List.take_succ_eq_append_getElem h,iM]
 simp only [used]; omega
theorem qC (ms:List (List UInt8)) (i:Nat):used (ms.take i)≤used ms:=by
 conv=>rhs; rw [← List.take_append_drop i ms,iM]
 omega
theorem lA {S:Sb} {rv:AV} (hr:RowV rv S.msgs) (hu:used S.msgs≤1000000) (st:St):aB Go.Proofs.Try.prog n_f79 [sbV S rv] st (.lit (.int .i64 (used S.msgs:Nat))):=by
 obtain ⟨v1,v2,v3,v4,v5,v6,v7,v8⟩:=hr.facts
 have hnu:=gV S.msgs
 refine aF hmix k_f79 rfl rfl fun Q hQ=>?_
 unfold aFun c_f79
 unfold sbV
 simp (config:=KF) (disch:=omega) only [bZ,↓reduceIte,Nat.reduceEqDiff,Nat.reduceAdd,reduceCtorEq,v2,v4]
 rw [f79_9w]
 refine a8 (A:=Nat) (fun i=>S.msgs.length - i) (fun i=>⟨[(1,.lptr 1 0),(3,.lit (.int .i64 (used (S.msgs.take i):Nat))),(4,.lit (.int .i64 (i:Nat)))],[(1,[.lit (.int .i64 (S.num:Nat)),.lit (.int .i64 S.topic),.lit (.int .i64 (S.room:Nat)),.lit (.int .i64 S.pol),rv,.lit (.int .i64 (S.lost:Nat))])]⟩) (fun _=>st)
  (fun i=>i≤S.msgs.length) 0 (Nat.zero_le _) (Sf.le_refl _) rfl ?_
 intro i hi K hK hKe hKr
 by_cases h3:i < S.msgs.length
 ·have hrv:rv = .sl false 1 (S.msgs.map msgV):=by
   rcases hr with h | ⟨_,h⟩
   ·exact h
   ·rw [h] at h3; simp at h3
  have hg:=msg_getD h3
  have hst:=used_take h3
  have hle:=qC S.msgs (i + 1)
  obtain ⟨m1,m2,m3,m4,m5,m6,m7,m8⟩:=(MV.msg S.msgs[i]).facts
  have hK2:=hK (i + 1)
  simp only [hst] at hK2 hle
  generalize S.msgs[i] = m at hg m1 m2 m3 m4 m5 m6 m7 m8 hK2 hle
  generalize msgV m = mv at hg m1 m2 m3 m4 m5 m6 m7 m8
  generalize used (S.msgs.take i) = u at hK2 hle
  rw [hrv] at hK2 ⊢
  simp (config:=KF) (disch:=omega) only [bZ,iE,ixSV,addA,ae,↓reduceIte,Nat.reduceEqDiff,ey,hg,m1,m6,m8]
  exact hK2 _ (by omega) (by omega) (Sf.le_refl _)
 ·obtain rfl:i = S.msgs.length:=by omega
  simp (config:=KF) (disch:=omega) only [bZ,addA,ae,↓reduceIte,Nat.reduceEqDiff,List.take_length,v1,v8]
  refine hKe _ _ _ ?_
  simp (config:=KF) (disch:=omega) only [bZ,retI,↓reduceIte,Nat.reduceEqDiff]
  exact hQ _

theorem pB {room need:Nat} {ms:List (List UInt8)} {k:Nat} (h:used ms + need≤room):bB room need ms k = (ms,k):=by
 cases ms with
 | nil=>rfl
 | cons m r=>unfold bB; rw [if_pos h]
/-- What a subscriber is given, as the reference says it. -/
theorem give_ref (p:List UInt8) (S:Sb):cf p S = if S.room < p.length + 2∨(S.pol≠1∧S.room < used S.msgs + (p.length + 2)) then { S with lost:=S.lost + 1 } else { S with msgs:=(bB S.room (p.length + 2) S.msgs S.lost).1++[p],lost:=(bB S.room (p.length + 2) S.msgs S.lost).2 }:=by
 unfold cf
 by_cases h1:used S.msgs + (p.length + 2)≤S.room
 ·rw [if_pos h1,if_neg (by omega),pB h1]
 ·rw [if_neg h1]
  by_cases h2:p.length + 2≤S.room∧S.pol = 1
  ·rw [if_pos h2,if_neg (by omega)]
  ·rw [if_neg h2,if_pos (by omega)]

def n9 (p:List UInt8) (S:Sb) (rv:AV):AV:=if S.room < p.length + 2∨(S.pol≠1∧S.room < used S.msgs + (p.length + 2)) then rv else .sl false 1 ((cf p S).msgs.map msgV)
theorem give_pure {S:Sb} {rv dv:AV} {p:List UInt8} (hr:RowV rv S.msgs) (hd:MV dv p) (hp:p.length≤100000) (hu:used S.msgs≤S.room) (hro:S.room≤4096) (hlo:S.lost + S.msgs.length < 1000000000) (st:St) :
  aB Go.Proofs.Try.prog n_f80 [sbV S rv,dv] st (sbV (cf p S) (n9 p S rv)):=by
 obtain ⟨v1,v2,v3,v4,v5,v6,v7,v8⟩:=hr.facts
 obtain ⟨d1,d2,d3,d4,d5,d6,d7,d8⟩:=hd.facts
 have hnu:=gV S.msgs
 have hgr:=give_ref p S
 refine aF hmix k_f80 rfl rfl fun Q hQ=>?_
 unfold aFun c_f80
 unfold n9 at hQ
 have hup:=lA (S:=S) hr (by omega) st
 have hQl:(S.room < p.length + 2∨(S.pol≠1∧S.room < used S.msgs + (p.length + 2)))→∀ st',Q (.agg [.lit (.int .i64 (S.num:Nat)),.lit (.int .i64 S.topic),.lit (.int .i64 (S.room:Nat)),.lit (.int .i64 S.pol),rv,.lit (.int .i64 ((S.lost + 1:Nat)))]) st':=fun hc st'=>by
  have:=hQ st'
  rw [if_pos hc,hgr,if_pos hc] at this
  exact this
 have hQg:¬ (S.room < p.length + 2∨(S.pol≠1∧S.room < used S.msgs + (p.length + 2)))→∀ st',Q (.agg [.lit (.int .i64 (S.num:Nat)),.lit (.int .i64 S.topic),.lit (.int .i64 (S.room:Nat)),.lit (.int .i64 S.pol),.sl false 1 (((bB S.room (p.length + 2) S.msgs S.lost).1.map msgV)++[msgV p]),.lit (.int .i64 ((bB S.room (p.length + 2) S.msgs S.lost).2:Nat))]) st':=fun hc st'=>by
  have:=hQ st'
  rw [if_neg hc,hgr,if_neg hc] at this
  simp only [List.map_append,List.map_cons,List.map_nil] at this
  exact this
 clear hQ
 have hgo:(¬ (S.room < p.length + 2∨(S.pol≠1∧S.room < used S.msgs + (p.length + 2)))→∀ st',Q (.agg [.lit (.int .i64 (S.num:Nat)),.lit (.int .i64 S.topic),.lit (.int .i64 (S.room:Nat)),.lit (.int .i64 S.pol),.sl false 1 (((bB S.room (p.length + 2) S.msgs S.lost).1.map msgV)++[msgV p]),.lit (.int .i64 ((bB S.room (p.length + 2) S.msgs S.lost).2:Nat))]) st')→¬ (S.room < p.length + 2∨(S.pol≠1∧S.room < used S.msgs + (p.length + 2)))→∀ sf:Sf,
   Sf.le (sf.mask [1,2,4,5] [2,4]) ⟨[(1,dv),(2,.lptr 2 0),(4,.lptr 4 0),(5,.lit (.int .i64 ((p.length + 2:Nat))))],[(2,[.lit (.int .i64 (S.num:Nat)),.lit (.int .i64 S.topic),.lit (.int .i64 (S.room:Nat)),.lit (.int .i64 S.pol),rv,.lit (.int .i64 (S.lost:Nat))]),(4,[.lit (.int .i64 0),.lit (.int .i64 0),.lit (.int .i64 0),.lit (.int .i64 0),.lit (.slice none 0 0),.lit (.int .i64 0)])]⟩ →
   ar (aC Go.Proofs.Try.prog id true f80_16) [1,2,4,5] [2,4] sf st (ga 0 (seqQ (aC Go.Proofs.Try.prog id true f80_24) (retQ [RI.cell 4 (some 6)] Q))):=by
  intro hq hc sf hsf
  have hneed:p.length + 2≤S.room:=by omega
  refine a8 (A:=List (List UInt8)×Nat×AV) (fun a=>a.1.length) (fun a=>⟨[(1,dv),(2,.lptr 2 0),(4,.lptr 4 0),(5,.lit (.int .i64 ((p.length + 2:Nat))))],[(2,[.lit (.int .i64 (S.num:Nat)),.lit (.int .i64 S.topic),.lit (.int .i64 (S.room:Nat)),.lit (.int .i64 S.pol),a.2.2,.lit (.int .i64 (a.2.1:Nat))]),(4,[.lit (.int .i64 0),.lit (.int .i64 0),.lit (.int .i64 0),.lit (.int .i64 0),.lit (.slice none 0 0),.lit (.int .i64 0)])]⟩) (fun _=>st)
   (fun a=>RowV a.2.2 a.1∧bB S.room (p.length + 2) a.1 a.2.1 = bB S.room (p.length + 2) S.msgs S.lost∧used a.1≤used S.msgs∧a.2.1 + a.1.length = S.lost + S.msgs.length) (S.msgs,S.lost,rv) ⟨hr,rfl,Nat.le_refl _,rfl⟩ hsf rfl ?_
  rintro ⟨ms,k,rw'⟩ ⟨i1,i2,i3,i4⟩ K hK hKe hKr
  simp only at i1 i2 i3 i4
  dsimp only
  obtain ⟨r1,r2,r3,r4,r5,r6,r7,r8⟩:=i1.facts
  have hup2:=lA (S:={ S with msgs:=ms,lost:=k }) i1 (by simp only; omega) st
  unfold sbV at hup2
  simp only at hup2
  have hml:=gV ms
  simp (config:=KF) (disch:=omega) only [bZ,dH,ae,id,↓reduceIte,Nat.reduceEqDiff,Nat.reduceAdd,Nat.reduceLeDiff,f80_16e,r2]
  refine eN (by simp [r2,aH,bY]) e_f79 hup2 (by simp [r5,aI,aD]) ?_
  by_cases c5:S.room < used ms + (p.length + 2)
  ·cases ms with
   | nil=>simp only [used] at c5; omega
   | cons m r =>
     have hrv:rw' = .sl false 1 (msgV m::r.map msgV):=by
      rcases i1 with h | ⟨_,h⟩
      ·exact h
      ·cases h
     have hlr:k + (r.length + 1) < 1000000000:=by rw [List.length_cons] at i4; omega
     subst hrv
     simp (config:=KF) (disch:=omega) only [bZ,cx,iX,fF,dp,gp,fd,ah,ixTo,addA,ae,↓reduceIte,Nat.reduceEqDiff,Nat.reduceAdd,Nat.reduceLeDiff,Int.reduceLE,dG,ey,af,aa]
     refine hK (r,k + 1,.sl false 1 (r.map msgV)) _ ⟨.inl rfl,?_,by simp only [used] at i3 ⊢; omega,by simp only [List.length_cons] at i4 ⊢; omega⟩ (by simp) (Sf.le_refl _)
     rw [← i2]
     conv=>rhs; unfold bB
     rw [if_neg (by omega)]
  ·have hdn:=pB (room:=S.room) (need:=p.length + 2) (ms:=ms) (k:=k) (by omega)
   have hq2:=hq hc
   rw [← i2,hdn] at hq2
   simp only at hq2
   simp (config:=KF) (disch:=omega) only [bZ,cx,addA,ae,↓reduceIte,Nat.reduceEqDiff,ey]
   refine hKe _ _ _ ?_
   have hmd:=mD ms
   have hms:∀ (ms:List (List UInt8)),RowV rw' ms→(rw' = .sl false 1 []∧ms = [])∨(rw' = .lit (.slice none 0 0)∧ms = [])∨∃ m r,ms = m::r∧rw' = .sl false 1 (msgV m::r.map msgV):=fun ms h=>by
    rcases h with rfl | ⟨rfl,rfl⟩
    ·cases ms with
     | nil=>exact .inl ⟨rfl,rfl⟩
     | cons m r=>exact .inr (.inr ⟨m,r,rfl,rfl⟩)
    ·exact .inr (.inl ⟨rfl,rfl⟩)
   have hds:(dv = .sl false 1 []∧p = [])∨(dv = .lit (.slice none 0 0)∧p = [])∨∃ x q,p = x::q∧dv = .sl false 1 (.lit (.int .u8 x.toNat)::BB q):=by
    rcases hd with rfl | ⟨rfl,rfl⟩
    ·cases p with
     | nil=>exact .inl ⟨rfl,rfl⟩
     | cons x q=>exact .inr (.inr ⟨x,q,rfl,rfl⟩)
    ·exact .inr (.inl ⟨rfl,rfl⟩)
   have hq3:=hq2 st
   have hm0:msgV [] = .lit (.slice none 0 0):=rfl
   have hmc:∀ (x:UInt8) q,msgV (x::q) = .sl false 1 (.lit (.int .u8 x.toNat)::BB q):=fun _ _=>rfl
   rcases hms ms i1 with ⟨e1,e2⟩ | ⟨e1,e2⟩ | ⟨m,r,e2,e1⟩
   ·subst e1; subst e2
    rcases hds with ⟨e3,e4⟩ | ⟨e3,e4⟩ | ⟨x,q,e4,e3⟩
    ·subst e3; subst e4
     rw [hm0] at hq3
     simp (config:=KF) (disch:=omega) only [bZ,retI,e9,bF,ah,List.reduceReplicate,addA,ae,aQ,srcA,cr,↓reduceIte,Nat.reduceEqDiff,Nat.reduceAdd,Nat.reduceLT,Nat.reduceLeDiff,af,aa,f80_24e]
     exact hq3
    ·subst e3; subst e4
     rw [hm0] at hq3
     simp (config:=KF) (disch:=omega) only [bZ,retI,e9,bF,ah,List.reduceReplicate,addA,ae,aQ,srcA,cr,↓reduceIte,Nat.reduceEqDiff,Nat.reduceAdd,Nat.reduceLT,Nat.reduceLeDiff,af,aa,f80_24e]
     exact hq3
    ·subst e3; subst e4
     have hlq:q.length≤100000:=by rw [List.length_cons] at hp; omega
     rw [hmc] at hq3
     simp (config:=KF) (disch:=omega) only [bZ,retI,e9,bF,ah,List.reduceReplicate,addA,ae,aQ,srcA,qf,↓reduceIte,Nat.reduceEqDiff,Nat.reduceAdd,Nat.reduceLT,Nat.reduceLeDiff,aO,jO,af,aa,f80_24e]
     exact hq3
   ·subst e1; subst e2
    rcases hds with ⟨e3,e4⟩ | ⟨e3,e4⟩ | ⟨x,q,e4,e3⟩
    ·subst e3; subst e4
     rw [hm0] at hq3
     simp (config:=KF) (disch:=omega) only [bZ,retI,e9,bF,ah,List.reduceReplicate,addA,ae,aQ,srcA,cr,↓reduceIte,Nat.reduceEqDiff,Nat.reduceAdd,Nat.reduceLT,Nat.reduceLeDiff,af,aa,f80_24e]
     exact hq3
    ·subst e3; subst e4
     rw [hm0] at hq3
     simp (config:=KF) (disch:=omega) only [bZ,retI,e9,bF,ah,List.reduceReplicate,addA,ae,aQ,srcA,cr,↓reduceIte,Nat.reduceEqDiff,Nat.reduceAdd,Nat.reduceLT,Nat.reduceLeDiff,af,aa,f80_24e]
     exact hq3
    ·subst e3; subst e4
     have hlq:q.length≤100000:=by rw [List.length_cons] at hp; omega
     rw [hmc] at hq3
     simp (config:=KF) (disch:=omega) only [bZ,retI,e9,bF,ah,List.reduceReplicate,addA,ae,aQ,srcA,qf,↓reduceIte,Nat.reduceEqDiff,Nat.reduceAdd,Nat.reduceLT,Nat.reduceLeDiff,aO,jO,af,aa,f80_24e]
     exact hq3
   ·subst e1; subst e2
    rcases hds with ⟨e3,e4⟩ | ⟨e3,e4⟩ | ⟨x,q,e4,e3⟩
    ·subst e3; subst e4
     obtain ⟨m1,m2,m3,m4,m5,m6,m7,m8⟩:=(MV.msg m).facts
     have hrd:=mD r
     have hlr:r.length≤100000:=by rw [List.length_cons] at hml; omega
     rw [hm0] at hq3
     simp (config:=KF) (disch:=omega) only [bZ,retI,e9,bF,ah,List.reduceReplicate,addA,ae,aQ,br,srcA,cr,List.cons_append,↓reduceIte,Nat.reduceEqDiff,Nat.reduceAdd,Nat.reduceLT,Nat.reduceLeDiff,bC,af,aa,f80_24e,m1,hrd]
     exact hq3
    ·subst e3; subst e4
     obtain ⟨m1,m2,m3,m4,m5,m6,m7,m8⟩:=(MV.msg m).facts
     have hrd:=mD r
     have hlr:r.length≤100000:=by rw [List.length_cons] at hml; omega
     rw [hm0] at hq3
     simp (config:=KF) (disch:=omega) only [bZ,retI,e9,bF,ah,List.reduceReplicate,addA,ae,aQ,br,srcA,cr,List.cons_append,↓reduceIte,Nat.reduceEqDiff,Nat.reduceAdd,Nat.reduceLT,Nat.reduceLeDiff,bC,af,aa,f80_24e,m1,hrd]
     exact hq3
    ·subst e3; subst e4
     obtain ⟨m1,m2,m3,m4,m5,m6,m7,m8⟩:=(MV.msg m).facts
     have hrd:=mD r
     have hlr:r.length≤100000:=by rw [List.length_cons] at hml; omega
     have hlq:q.length≤100000:=by rw [List.length_cons] at hp; omega
     rw [hmc] at hq3
     simp (config:=KF) (disch:=omega) only [bZ,retI,e9,bF,ah,List.reduceReplicate,addA,ae,aQ,br,srcA,qf,List.cons_append,↓reduceIte,Nat.reduceEqDiff,Nat.reduceAdd,Nat.reduceLT,Nat.reduceLeDiff,aO,jO,bC,af,aa,f80_24e,m1,hrd]
     exact hq3
 by_cases c1:S.room < p.length + 2
 ·have hq:=hQl (.inl c1)
  unfold sbV at hup ⊢
  simp (config:=KF) (disch:=omega) only [bZ,dz,co,fp,guard_tup,guardH_tup,retI,AI.dst,ah,addA,ae,↓reduceIte,Nat.reduceEqDiff,Nat.reduceAdd,Nat.reduceLeDiff,reduceCtorEq,dA,af,aa,v2,v4,d1,d7,d8]
  exact hq _
 by_cases c2:¬ S.pol = 1
 ·by_cases c3:S.room < used S.msgs + (p.length + 2)
  ·have hq:=hQl (.inr ⟨c2,c3⟩)
   unfold sbV at hup ⊢
   simp (config:=KF) (disch:=omega) only [bZ,dz,dH,co,dc,AI.dst,addA,ae,id,↓reduceIte,Nat.reduceEqDiff,Nat.reduceAdd,Nat.reduceLeDiff,reduceCtorEq,dA,eO,v2,v4,d1,d7,d8]
   refine eN (by simp [v2,aH,bY]) e_f79 hup (by simp [v5,aI,aD]) ?_
   simp (config:=KF) (disch:=omega) only [bZ,dz,co,cx,retI,AI.dst,ah,addA,ae,↓reduceIte,Nat.reduceEqDiff,Nat.reduceAdd,Nat.reduceLeDiff,ey,af,aa,v2,v4]
   exact hq _
  ·unfold sbV at hup ⊢
   simp (config:=KF) (disch:=omega) only [bZ,dz,dH,co,dc,AI.dst,addA,ae,id,↓reduceIte,Nat.reduceEqDiff,Nat.reduceAdd,Nat.reduceLeDiff,reduceCtorEq,dA,eO,v2,v4,d1,d7,d8]
   refine eN (by simp [v2,aH,bY]) e_f79 hup (by simp [v5,aI,aD]) ?_
   simp (config:=KF) (disch:=omega) only [bZ,dz,co,cx,AI.dst,addA,ae,↓reduceIte,Nat.reduceEqDiff,ey]
   rw [f80_15w]
   exact hgo hQg (by omega) _ (Sf.le_refl _)
 ·unfold sbV
  simp (config:=KF) (disch:=omega) only [bZ,dz,dc,fp,AI.dst,addA,ae,↓reduceIte,Nat.reduceEqDiff,Nat.reduceAdd,reduceCtorEq,eO,v2,v4,d1,d7,d8]
  rw [f80_15w]
  exact hgo hQg (by omega) _ (Sf.le_refl _)
end Go.Fx.YtbdjfccgkdgbfaaFx

