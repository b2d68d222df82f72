/- What the functions that the statement reaches compute: part 26. -/
import Derived.Test.YtgmeefljgbaanaaFxW25
namespace Go.Fx.YtgmeefljgbaanaaFx
open Go Go.Fx
attribute [local irreducible] aC runI aF a9

set_option maxRecDepth 100000
set_option maxHeartbeats 4000000

/-! The law Holds: the calls. -/
structure HL where
  i:Nat
  R:NR
  sent:List (List UInt8)
  got:List Rc
  es:List AV
  F:List Nat
  s:St
structure HI (len pks n sid wid:Nat) (a:HL):Prop where
  le:a.i≤len
  net:NetR a.s n sid wid (a.i + 1) a.R a.F
  lt:∀ x ∈ a.F,x < a.s.boxes.length
  g:HG a.R pks a.sent a.got
  v:RcsV (fun b=>b ∉ a.F) a.s a.es a.got
  sl:a.sent.length≤a.i
theorem HG.le {R:NR} {pks:Nat} {sent:List (List UInt8)} {got:List Rc} (h:HG R pks sent got):got.length≤sent.length:=by
  obtain ⟨S,_,_,_,_,_,_,_,_,h9,_⟩:=h.ex
  omega
theorem HG.mt {R:NR} {pks:Nat} {sent:List (List UInt8)} {got:List Rc} (h:HG R pks sent got):Mt sent (got.map gB):=by
  obtain ⟨S,_,_,_,_,_,_,_,_,_,h10,_⟩:=h.ex
  exact h10.sub (List.sublist_append_left _ _)
theorem hold_main (pks:Nat) (hp:pks≤256) (l:List Act) (hl:l.length≤60) (hf:fewB l = true) (hok:∀ a ∈ l,a.life < 18446744073709551616∧a.at_ < 18446744073709551616) {n sid wid:Nat} {R:NR} {F:List Nat} {st:St} (hh:NetR st n sid wid 1 R F) (hF:∀ x ∈ F,x < st.boxes.length) (hg:HG R pks [] []) {Q:AV→St→Prop} (hQ:∀ s,Q (.lit (.bool true)) s) :
    aC Go.Proofs.Try.prog id false f4_32 ⟨[(0,.lit (.int .i64 (pks:Nat))),(4,.sl false 10 (l.map actV)),(11,.ptr n 0),(13,.lptr 13 0),(15,.lit (.slice none 0 0)),(16,.lit (.slice none 0 0))],[(13,[.lit (.string me),.lit (.int .i64 5)])]⟩ st (seqQ (aC Go.Proofs.Try.prog id false f4_77) (retQ [RI.tmp 10] Q)):=by
  simp (config:=KF) (disch:=omega) only [bZ,↓reduceIte,Nat.reduceEqDiff,reduceCtorEq,f4_32e]
  rw [f4_35w]
  refine dN (A:=HL) (fun a=>l.length - a.i) (fun a=>⟨[(0,.lit (.int .i64 (pks:Nat))),(4,.sl false 10 (l.map actV)),(11,.ptr n 0),(13,.lptr 13 0),(15,rowG 1 (a.sent.map dV)),(16,rowG 7 (a.es)),(17,.lit (.int .i64 (a.i:Nat)))],[(13,[.lit (.string me),.lit (.int .i64 5)])]⟩) (fun a=>a.s) (fun a=>HI l.length pks n sid wid a)
    ⟨0,R,[],[],[],F,st⟩ ⟨Nat.zero_le _,hh,hF,hg,trivial,Nat.zero_le _⟩ (Sf.le_refl _) rfl ?_
  rintro ⟨i,R1,sent,got,es,F1,s1⟩ hI K hK hKe hKr
  obtain ⟨i1,i2,i3,i4,i5,i6⟩:=hI
  simp only at i1 i2 i3 i4 i5 i6
  dsimp only
  obtain ⟨k1,k2,k3,k4⟩:=dS 1 (sent.map dV)
  obtain ⟨j1,j2,j3,j4⟩:=dS 7 es
  by_cases hi:i < l.length
  · have hga:=act_getD hi
    have hfew:l[i].d.length≤2060∧l[i].nm.size≤50:=by
      unfold fewB at hf
      exact of_decide_eq_true (List.all_eq_true.1 hf l[i] (List.getElem_mem hi))
    have hlim:=hok l[i] (List.getElem_mem hi)
    generalize l[i] = x at hga hfew hlim
    obtain ⟨w,t,n0,m,nm,port,pol,life,d,at'⟩:=x
    simp only at hga hfew hlim
    by_cases hskip:w = 0∨w = 5∨w < 0
    · have hkeep:∀ sf',Sf.le (sf'.mask [0,4,11,13,15,16,17] [13]) ⟨[(0,.lit (.int .i64 (pks:Nat))),(4,.sl false 10 (l.map actV)),(11,.ptr n 0),(13,.lptr 13 0),(15,rowG 1 (sent.map dV)),(16,rowG 7 (es)),(17,.lit (.int .i64 (i + 1:Nat)))],[(13,[.lit (.string me),.lit (.int .i64 5)])]⟩→K .normal sf' s1:=fun sf' hs =>
        hK ⟨i + 1,R1,sent,got,es,F1,s1⟩ sf' ⟨hi,i2.mono (Nat.le_succ (i + 1)) fun _ q=>q,i3,i4,i5,by simp only; omega⟩ (by simp only; omega) hs
      (repeat' (first | omega | (simp (config:=KF) (disch:=omega) only [bZ,bh,aK,cf,AI.dst,ji,bU,ixSV,al,ixA,lenI,addA,aa,di,dh,aS,iN,eT,↓reduceIte,Nat.reduceEqDiff,Nat.reduceAdd,Nat.reduceLeDiff,reduceCtorEq,bV,cU,bY,bW,f4_76e,f4_76l,hga,k1,j1]) | refine ap (fun h=>?_) (fun h=>?_) | refine aZ (fun h=>?_) (fun h=>?_) | refine cq (fun h=>?_) (fun h=>?_) | exact hkeep _ (Sf.le_refl _)))
    have hw15:1≤w∧w≠5:=by omega
    have h71:∀ (sent2:List (List UInt8)) (got2:List Rc) (es2:List AV) (R2:NR) (F2:List Nat) (s2:St),NetR s2 n sid wid (i + 1 + 1) R2 F2→(∀ x ∈ F2,x < s2.boxes.length)→HG R2 pks sent2 got2→RcsV (fun b=>b ∉ F2) s2 es2 got2→sent2.length≤i + 1 →
        aC Go.Proofs.Try.prog id false f4_71 ⟨[(0,.lit (.int .i64 (pks:Nat))),(4,.sl false 10 (l.map actV)),(11,.ptr n 0),(13,.lptr 13 0),(15,rowG 1 (sent2.map dV)),(16,rowG 7 (es2)),(17,.lit (.int .i64 (i:Nat)))],[(13,[.lit (.string me),.lit (.int .i64 5)])]⟩ s2 (eu 1 (seqQ (aC Go.Proofs.Try.prog id false f4_76) K)):=by
      intro sent2 got2 es2 R2 F2 s2 x1 x2 x3 x4 x5
      obtain ⟨k1,k2,k3,k4⟩:=dS 1 (sent2.map dV)
      obtain ⟨j1,j2,j3,j4⟩:=dS 7 es2
      have hfin:=fun sf hs=>hK ⟨i + 1,R2,sent2,got2,es2,F2,s2⟩ sf ⟨hi,x1,x2,x3,x4,x5⟩ (by simp only; omega) hs
      obtain ⟨M,Wm,W,y1,y2,y3,y4,y5⟩:=x1.ex
      obtain ⟨S,g1,g2,g3,g4,g5,g6,g7,g8,g9,g10,g11⟩:=x3.ex
      have e1:atS 0 R2.socks = some S:=by simp [g1,atS,g2]
      have hlen:=pq y1 y2 0
      have hdr:=ndr_pure y1 y2 0
      have hold:=pr y1 y2 0
      have hwt:=nwait_pure y1 y3 0
      rw [e1] at hlen hdr hold
      rw [y4] at hwt
      simp only [lenO,drO,oldO] at hlen hdr hold
      have hql:=x4.len
      have hsl:(sent2.map dV).length = sent2.length:=List.length_map ..
      have hL1:=k4 s2
      have hL2:=j4 s2
      rw [hsl] at hL1
      rw [hql] at hL2
      have hdro:S.dr + S.old + S.q.length≤i + 1:=by omega
      simp (config:=KF) (disch:=omega) only [bZ,id,↓reduceIte,Nat.reduceEqDiff,reduceCtorEq,f4_71e]
      refine am rfl e_f15 hlen rfl ?_
      simp (config:=KF) (disch:=omega) only [bZ,AI.dst,cM,id,↓reduceIte,Nat.reduceEqDiff,reduceCtorEq,bG]
      have c1:¬ ((S.q.length:Int) > (pks:Int)):=by omega
      simp (config:=KF) (disch:=omega) only [bZ,c1]
      refine am rfl e_f15 hlen rfl ?_
      simp (config:=KF) (disch:=omega) only [bZ,AI.dst,cM,↓reduceIte,Nat.reduceEqDiff,reduceCtorEq]
      by_cases hq0:S.q = []
      · have hz:(S.q.length:Int) = 0:=by rw [hq0]; rfl
        rw [hz] at hlen
        rw [hz]
        simp (config:=KF) (disch:=omega) only [bZ,AI.dst,id,↓reduceIte,Nat.reduceEqDiff,reduceCtorEq,bG,hL1,hL2]
        refine am rfl e_f15 hlen rfl ?_
        simp (config:=KF) (disch:=omega) only [bZ,AI.dst,di,id,↓reduceIte,Nat.reduceEqDiff,reduceCtorEq,Int.add_zero]
        refine am rfl e_f17 hdr rfl ?_
        simp (config:=KF) (disch:=omega) only [bZ,AI.dst,di,id,↓reduceIte,Nat.reduceEqDiff,reduceCtorEq,jA]
        refine am rfl e_f18 hold rfl ?_
        have c3:((sent2.length:Nat):Int) = (got2.length:Nat) + 0 + (S.dr:Nat) + (S.old:Nat):=by omega
        simp (config:=KF) (disch:=omega) only [bZ,AI.dst,di,↓reduceIte,Nat.reduceEqDiff,reduceCtorEq,ci,jA,bY,f4_76e,f4_76l]
        exact hfin _ (Sf.le_refl _)
      · have c2:(S.q.length:Int) > 0:=by
          have:=List.length_pos_iff.2 hq0; omega
        rw [g8 hq0,show waitN 0 [] = 0 from rfl] at hwt
        simp (config:=KF) (disch:=omega) only [bZ,AI.dst,id,↓reduceIte,Nat.reduceEqDiff,reduceCtorEq,c2]
        refine am rfl e_f16 hwt rfl ?_
        simp (config:=KF) (disch:=omega) only [bZ,AI.dst,cM,id,↓reduceIte,Nat.reduceEqDiff,reduceCtorEq,bG,hL1,hL2]
        refine am rfl e_f15 hlen rfl ?_
        simp (config:=KF) (disch:=omega) only [bZ,AI.dst,di,id,↓reduceIte,Nat.reduceEqDiff,reduceCtorEq,jA]
        refine am rfl e_f17 hdr rfl ?_
        simp (config:=KF) (disch:=omega) only [bZ,AI.dst,di,id,↓reduceIte,Nat.reduceEqDiff,reduceCtorEq,jA]
        refine am rfl e_f18 hold rfl ?_
        have c3:((sent2.length:Nat):Int) = (got2.length:Nat) + (S.q.length:Nat) + (S.dr:Nat) + (S.old:Nat):=by omega
        simp (config:=KF) (disch:=omega) only [bZ,AI.dst,di,↓reduceIte,Nat.reduceEqDiff,reduceCtorEq,ci,jA,bY,f4_76e,f4_76l]
        exact hfin _ (Sf.le_refl _)
    have h67:∀ (b:Bool) (sent2:List (List UInt8)) (xn:Int) (done:Bool) (one:Rc) (all:List Rc) (dv av:AV) (R2:NR) (F2:List Nat) (s2:St),NetR s2 n sid wid (i + 1 + 1) R2 F2→(∀ x ∈ F2,x < s2.boxes.length)→HG R2 pks sent2 ((if b = true then got++[one] else got)++all)→RcsV (fun b=>b ∉ F2) s2 es got→DV dv s2 one.data→(∀ b ∈ ae dv,b ∉ F2)→AllV (fun b=>b ∉ F2) false av s2 all→sent2.length≤i + 1 →
        aC Go.Proofs.Try.prog id false f4_67 ⟨[(0,.lit (.int .i64 (pks:Nat))),(4,.sl false 10 (l.map actV)),(11,.ptr n 0),(13,.lptr 13 0),(15,rowG 1 (sent2.map dV)),(16,rowG 7 (es)),(17,.lit (.int .i64 (i:Nat))),(19,.lptr 19 0),(137,.lit (.bool b))],[(13,[.lit (.string me),.lit (.int .i64 5)]),(19,[.lit (.int .i64 xn),.lit (.bool done),.lit (.int .i64 one.task),.lit (.string one.nm),.lit (.int .i64 one.port),dv,.lit (.int .u64 (one.at_:Nat)),.lit (.bool one.cut),.lit (.int .i64 one.err),av,.lit (.int .i64 0)])]⟩ s2 (seqQ (aC Go.Proofs.Try.prog id false f4_69) (eu 1 (seqQ (aC Go.Proofs.Try.prog id false f4_76) K))):=by
      intro b sent2 xn done one all dv av R2 F2 s2 x1 x2 x3 x4 x5 x6 x7 x8
      obtain ⟨a1,a2,a3,a4,a5,a6,a7,a8⟩:=x5.facts
      obtain ⟨b1,b2,b3,b4,b5,b6,b7,b8⟩:=x7.facts
      obtain ⟨k1,k2,k3,k4⟩:=dS 1 (sent2.map dV)
      have hone:RcsV (fun b=>b ∉ F2) s2 [rcAV one.task one.nm one.port dv one.at_ one.cut one.err] [one]:=⟨⟨dv,rfl,x5,x6⟩,trivial⟩
      have hed:=x4.dis
      have hel:=x4.len
      have hgl:=x3.le
      rw [List.length_append] at hgl
      have hall:∀ fs,AllV (fun b=>b ∉ F2) false (.sl false 7 fs) s2 all→RcsV (fun b=>b ∉ F2) s2 fs all:=fun fs h=>by
        rcases h with ⟨e,_⟩ | ⟨_,e,h⟩
        · cases e
        · cases e; exact h
      have hrd:AV.dis (.agg [.lit (.int .i64 one.task),.lit (.string one.nm),.lit (.int .i64 one.port),dv,.lit (.int .u64 (one.at_:Nat)),.lit (.bool one.cut),.lit (.int .i64 one.err)]) = .agg [.lit (.int .i64 one.task),.lit (.string one.nm),.lit (.int .i64 one.port),dv,.lit (.int .u64 (one.at_:Nat)),.lit (.bool one.cut),.lit (.int .i64 one.err)]:=by
        rw [fH]; simp [eg,a2]
      cases b with
      | false =>
        simp only [Bool.false_eq_true,if_false] at x3 hgl
        rcases x7 with ⟨rfl,rfl⟩ | ⟨fs,rfl,hfs⟩
        · rw [List.append_nil] at x3
          by_cases he:es = []
          · have hr:rowG 7 es = .lit (.slice none 0 0):=by rw [he]; rfl
            have hfin:=h71 sent2 got es R2 F2 s2 x1 x2 x3 x4 x8
            rw [hr] at hfin ⊢
            simp (config:=KF) (disch:=omega) only [bZ,cQ,dJ,List.isEmpty_nil,addA,aa,cB,srcA,↓reduceIte,Nat.reduceEqDiff,reduceCtorEq,f4_67e,f4_69e,b1]
            exact hfin
          · have hr:rowG 7 es = .sl true 7 es:=dj he
            have hfin:=h71 sent2 got es R2 F2 s2 x1 x2 x3 x4 x8
            rw [hr] at hfin ⊢
            simp (config:=KF) (disch:=omega) only [bZ,cQ,dJ,addA,aa,ce,srcA,↓reduceIte,Nat.reduceEqDiff,reduceCtorEq,bX,f4_67e,f4_69e,b1]
            exact hfin
        · have hfd:=hfs.dis
          have hfl:=hfs.len
          have hfin:=h71 sent2 (got++all) (es++fs) R2 F2 s2 x1 x2 x3 (x4.app hfs) x8
          by_cases hf0:fs = []
          · subst hf0
            obtain rfl:all = []:=List.eq_nil_of_length_eq_zero hfl.symm
            rw [List.append_nil] at hfin
            by_cases he:es = []
            · have hr:rowG 7 es = .lit (.slice none 0 0):=by rw [he]; rfl
              rw [hr] at hfin ⊢
              simp (config:=KF) (disch:=omega) only [bZ,cQ,dJ,List.isEmpty_nil,addA,aa,cB,srcA,↓reduceIte,Nat.reduceEqDiff,reduceCtorEq,f4_67e,f4_69e,b1]
              exact hfin
            · have hr:rowG 7 es = .sl true 7 es:=dj he
              rw [hr] at hfin ⊢
              simp (config:=KF) (disch:=omega) only [bZ,cQ,dJ,addA,aa,ce,srcA,↓reduceIte,Nat.reduceEqDiff,reduceCtorEq,bX,f4_67e,f4_69e,b1]
              exact hfin
          have hfe:fs.isEmpty = false:=by cases fs <;> first | rfl | exact absurd rfl hf0
          by_cases he:es = []
          · have hr:rowG 7 es = .lit (.slice none 0 0):=by rw [he]; rfl
            have hr2:rowG 7 (es++fs) = .sl true 7 fs:=by rw [he]; exact dj hf0
            rw [hr2] at hfin
            rw [hr]
            simp (config:=KF) (disch:=omega) only [bZ,cQ,dJ,addA,aa,cB,srcA,↓reduceIte,Nat.reduceEqDiff,reduceCtorEq,bX,f4_67e,f4_69e,b1,hfd,hfe]
            exact hfin
          · have hr:rowG 7 es = .sl true 7 es:=dj he
            have hr2:rowG 7 (es++fs) = .sl true 7 (es++fs):=dj (by simp [he])
            rw [hr2] at hfin
            rw [hr]
            simp (config:=KF) (disch:=omega) only [bZ,cQ,dJ,addA,aa,ce,srcA,↓reduceIte,Nat.reduceEqDiff,reduceCtorEq,bX,f4_67e,f4_69e,b1,hfd]
            exact hfin
      | true =>
        simp only [if_true] at x3 hgl
        rw [List.length_append,List.length_cons,List.length_nil] at hgl
        have hap:=x4.app hone
        unfold rcAV at hap
        rcases x7 with ⟨rfl,rfl⟩ | ⟨fs,rfl,hfs⟩
        · rw [List.append_nil] at x3
          have hfin:=h71 sent2 (got++[one]) (es++[(AV.agg [.lit (.int .i64 one.task),.lit (.string one.nm),.lit (.int .i64 one.port),dv,.lit (.int .u64 (one.at_:Nat)),.lit (.bool one.cut),.lit (.int .i64 one.err)])]) R2 F2 s2 x1 x2 x3 hap x8
          rw [dj (k:=7) (by simp)] at hfin
          by_cases he:es = []
          · have hr:rowG 7 es = .lit (.slice none 0 0):=by rw [he]; rfl
            rw [hr]
            rw [he,List.nil_append] at hfin
            simp (config:=KF) (disch:=omega) only [bZ,eI,cQ,bslV,dJ,List.isEmpty_cons,List.reduceReplicate,addA,aa,cB,ce,srcA,cD,dn,List.nil_append,List.cons_append,↓reduceIte,Nat.reduceEqDiff,Nat.reduceAdd,Nat.reduceLT,Nat.reduceLeDiff,reduceCtorEq,bX,f4_67e,f4_69e,a2,a4,b1,hrd]
            exact hfin
          · have hr:rowG 7 es = .sl true 7 es:=dj he
            rw [hr]
            simp (config:=KF) (disch:=omega) only [bZ,eI,cQ,bslV,dJ,List.isEmpty_nil,List.reduceReplicate,addA,aa,cB,ce,srcA,cD,dn,↓reduceIte,Nat.reduceEqDiff,Nat.reduceAdd,Nat.reduceLT,Nat.reduceLeDiff,reduceCtorEq,bX,List.length_append,f4_67e,f4_69e,a2,a4,b1,hrd]
            exact hfin
        · have hfd:=hfs.dis
          have hfl:=hfs.len
          have hfin:=h71 sent2 (got++[one]++all) (es++[(AV.agg [.lit (.int .i64 one.task),.lit (.string one.nm),.lit (.int .i64 one.port),dv,.lit (.int .u64 (one.at_:Nat)),.lit (.bool one.cut),.lit (.int .i64 one.err)])]++fs) R2 F2 s2 x1 x2 x3 (hap.app hfs) x8
          rw [dj (k:=7) (by simp)] at hfin
          by_cases he:es = []
          · have hr:rowG 7 es = .lit (.slice none 0 0):=by rw [he]; rfl
            rw [hr]
            rw [he,List.nil_append] at hfin
            simp (config:=KF) (disch:=omega) only [bZ,eI,cQ,bslV,dJ,List.isEmpty_cons,List.reduceReplicate,addA,aa,cB,ce,srcA,cD,dn,List.nil_append,List.cons_append,↓reduceIte,Nat.reduceEqDiff,Nat.reduceAdd,Nat.reduceLT,Nat.reduceLeDiff,reduceCtorEq,bX,f4_67e,f4_69e,a2,a4,b1,hfd,hrd]
            exact hfin
          · have hr:rowG 7 es = .sl true 7 es:=dj he
            rw [hr]
            simp (config:=KF) (disch:=omega) only [bZ,eI,cQ,bslV,dJ,List.reduceReplicate,addA,aa,cB,ce,srcA,cD,dn,↓reduceIte,Nat.reduceEqDiff,Nat.reduceAdd,Nat.reduceLT,Nat.reduceLeDiff,reduceCtorEq,bX,List.length_append,f4_67e,f4_69e,a2,a4,b1,hfd,hrd]
            exact hfin
    have h55:∀ (n':Int) (nm':ByteArray) (port':Int),(w≤3→n' = 0∧nm' = me∧port' = 5)→∀ (xn:Int) (done:Bool) (one:Rc) (all:List Rc) (err:Int) (dv av:AV) (R2:NR) (F2:List Nat) (s2:St),rDo w t n' m nm' port' pol life d (at':Nat) R1 = (R2,⟨xn,done,one,all,err⟩)→NetR s2 n sid wid (i + 1 + 1) R2 F2→(∀ x ∈ F2,x < s2.boxes.length)→RcsV (fun b=>b ∉ F2) s2 es got→DV dv s2 one.data→(∀ b ∈ ae dv,b ∉ F2)→AllV (fun b=>b ∉ F2) false av s2 all →
        aC Go.Proofs.Try.prog id false f4_55 ⟨[(0,.lit (.int .i64 (pks:Nat))),(4,.sl false 10 (l.map actV)),(11,.ptr n 0),(13,.lptr 13 0),(15,rowG 1 (sent.map dV)),(16,rowG 7 (es)),(17,.lit (.int .i64 (i:Nat))),(18,.lptr 18 0),(19,.lptr 19 0)],[(13,[.lit (.string me),.lit (.int .i64 5)]),(18,[.lit (.int .i64 w),.lit (.int .i64 t),.lit (.int .i64 n'),.lit (.int .i64 m),.lit (.string nm'),.lit (.int .i64 port'),.lit (.int .i64 pol),.lit (.int .u64 (life:Nat)),.sl false 1 (BB d),.lit (.int .u64 (at':Nat))]),(19,[.lit (.int .i64 xn),.lit (.bool done),.lit (.int .i64 one.task),.lit (.string one.nm),.lit (.int .i64 one.port),dv,.lit (.int .u64 (one.at_:Nat)),.lit (.bool one.cut),.lit (.int .i64 one.err),av,.lit (.int .i64 err)])]⟩ s2 (eu 1 (seqQ (aC Go.Proofs.Try.prog id false f4_76) K)):=by
      intro n' nm' port' hn xn done one all err dv av R2 F2 s2 hO x1 x2 x4 x5 x6 x7
      obtain ⟨a1,a2,a3,a4,a5,a6,a7,a8⟩:=x5.facts
      obtain ⟨b1,b2,b3,b4,b5,b6,b7,b8⟩:=x7.facts
      obtain ⟨st1,st2⟩:=i4.step w t n' m nm' port' pol life d (at':Nat) hw15 hn
      rw [hO] at st1 st2
      simp only at st1 st2
      by_cases he:err = 0
      · subst he
        have x3:=st2 rfl
        unfold gotD at x3
        simp only at x3
        by_cases w1:w = 1
        · subst w1
          rw [if_pos rfl,if_neg (by omega)] at x3
          have hfin:=h67 false (sent++[d]) xn done one all dv av R2 F2 s2 x1 x2 (by rw [if_neg (by decide)]; exact x3) x4 x5 x6 x7 (by rw [List.length_append,List.length_cons,List.length_nil]; omega)
          have hsd:=dv_dis sent
          by_cases hs0:sent = []
          · have hr:rowG 1 (sent.map dV) = .lit (.slice none 0 0):=by rw [hs0]; rfl
            have hr2:rowG 1 ((sent++[d]).map dV) = .sl true 1 [.sl false 1 (BB d)]:=by rw [hs0]; rfl
            rw [hr2] at hfin
            rw [hr]
            simp (config:=KF) (disch:=omega) only [bZ,AI.dst,eI,cQ,bslV,dJ,List.isEmpty_cons,List.reduceReplicate,addA,aa,cB,srcA,cD,mkSl_sl,eh,↓reduceIte,Nat.reduceEqDiff,Nat.reduceLT,Int.reduceEq,reduceCtorEq,not_true_eq_false,bX,f4_55e]
            exact hfin
          · have hr:rowG 1 (sent.map dV) = .sl true 1 (sent.map dV):=dj (by simpa using hs0)
            have hr2:rowG 1 ((sent++[d]).map dV) = .sl true 1 (sent.map dV++[.sl false 1 (BB d)]):=by
              rw [List.map_append]; exact dj (by simp)
            have hsl:(sent.map dV).length = sent.length:=List.length_map ..
            rw [hr2] at hfin
            rw [hr]
            simp (config:=KF) (disch:=omega) only [bZ,AI.dst,eI,cQ,bslV,dJ,List.reduceReplicate,addA,aa,ce,srcA,cD,mkSl_sl,eh,↓reduceIte,Nat.reduceEqDiff,Nat.reduceLT,Int.reduceEq,reduceCtorEq,not_true_eq_false,bX,f4_55e,hsl]
            exact hfin
        rw [if_neg w1] at x3
        by_cases w2:w = 2
        · subst w2
          cases done with
          | true =>
            rw [if_pos (.inl ⟨rfl,rfl⟩)] at x3
            have hfin:=h67 true sent xn true one all dv av R2 F2 s2 x1 x2 (by rw [if_pos rfl]; exact x3) x4 x5 x6 x7 (by omega)
            simp (config:=KF) (disch:=omega) only [bZ,AI.dst,addA,aa,↓reduceIte,Nat.reduceEqDiff,Int.reduceEq,reduceCtorEq,not_true_eq_false,f4_55e]
            exact hfin
          | false =>
            rw [if_neg (by simp)] at x3
            have hfin:=h67 false sent xn false one all dv av R2 F2 s2 x1 x2 (by rw [if_neg (by decide)]; exact x3) x4 x5 x6 x7 (by omega)
            simp (config:=KF) (disch:=omega) only [bZ,AI.dst,addA,aa,↓reduceIte,Nat.reduceEqDiff,Int.reduceEq,reduceCtorEq,not_true_eq_false,f4_55e]
            exact hfin
        by_cases w3:w = 3
        · subst w3
          rw [if_pos (.inr rfl)] at x3
          have hfin:=h67 true sent xn done one all dv av R2 F2 s2 x1 x2 (by rw [if_pos rfl]; exact x3) x4 x5 x6 x7 (by omega)
          simp (config:=KF) (disch:=omega) only [bZ,AI.dst,addA,aa,↓reduceIte,Nat.reduceEqDiff,Int.reduceEq,reduceCtorEq,not_true_eq_false,f4_55e]
          exact hfin
        · rw [if_neg (by omega)] at x3
          have hfin:=h67 false sent xn done one all dv av R2 F2 s2 x1 x2 (by rw [if_neg (by decide)]; exact x3) x4 x5 x6 x7 (by omega)
          simp (config:=KF) (disch:=omega) only [bZ,AI.dst,addA,aa,↓reduceIte,Nat.reduceEqDiff,reduceCtorEq,not_true_eq_false,ci,bG,f4_55e]
          rw [decide_eq_false w3]
          exact hfin
      · have hRR:=st1 he
        subst hRR
        simp (config:=KF) (disch:=omega) only [bZ,bh,aK,cf,addA,aa,di,↓reduceIte,Nat.reduceEqDiff,reduceCtorEq,cU,bY,f4_55e,f4_76e,f4_76l]
        exact hK ⟨i + 1,R2,sent,got,es,F2,s2⟩ _ ⟨hi,x1,x2,i4,x4,by simp only; omega⟩ (by simp only; omega) (Sf.le_refl _)
    have hcall:∀ (n':Int) (nm':ByteArray) (port':Int),nm'.size≤50→∀ v s2,DoK s1 s2 n sid wid (i + 1) F1 (rDo w t n' m nm' port' pol life d (at':Nat) R1) v→∃ (xn:Int) (done:Bool) (one:Rc) (all:List Rc) (err:Int) (dv av:AV) (R2:NR) (F2:List Nat),v = resV ⟨xn,done,one,all,err⟩ dv av∧rDo w t n' m nm' port' pol life d (at':Nat) R1 = (R2,⟨xn,done,one,all,err⟩)∧NetR s2 n sid wid (i + 1 + 1) R2 F2∧(∀ x ∈ F2,x < s2.boxes.length)∧RcsV (fun b=>b ∉ F2) s2 es got∧DV dv s2 one.data∧(∀ b ∈ ae dv,b ∉ F2)∧AllV (fun b=>b ∉ F2) false av s2 all:=by
      intro n' nm' port' hsz v s2 hr
      generalize rDo w t n' m nm' port' pol life d (at':Nat) R1 = O at hr
      obtain ⟨R2,⟨xn,done,one,all,err⟩⟩:=O
      obtain ⟨dv,av,F2,rfl,hmb,hdb,hav,hnp⟩:=hr
      exact ⟨xn,done,one,all,err,dv,av,R2,F2,rfl,rfl,hnp.1,fun x hx=>(hnp.2.2 x hx).2,i5.kp hnp.2.1 (fun b hb=>(hnp.2.2 b hb).1),DV.of_mb hmb,fun b hb=>(hdb b hb).2,hav.imp fun b hb=>hb.2⟩
    have hdo:∀ (n':Int) (nm':ByteArray) (port':Int),nm'.size≤50→ao Go.Proofs.Try.prog n_f14 [.ptr n 0,actA w t n' m nm' port' pol (life:Nat) (.sl false 1 (BB d)) (at':Nat)] s1 (fun x st'=>DoK s1 st' n sid wid (i + 1) F1 (rDo w t n' m nm' port' pol life d (at':Nat) R1) x):=fun n' nm' port' hsz =>
      do_calls i2 i3 w t n' m nm' port' pol life (at':Nat) (DV.sl s1 d) (by omega) (by omega) hlim.1 (by omega) (by omega) (by omega)
    by_cases h3:w≤3
    · simp (config:=KF) (disch:=omega) only [bZ,Nat.reduceBEq,ksB,aO,bF,bS,bg,cz,bP,nstB,bT,bf,bd,hh_store,qk,n6,iP,cons_store,AI.dst,ji,bU,ixSV,al,ixA,lenI,addA,aa,oZ,id,dh,aS,iN,eT,List.nil_append,↓reduceIte,Nat.reduceEqDiff,Nat.reduceAdd,Nat.reduceLeDiff,reduceCtorEq,or_false,bV,cU,ci,bG,bW,hga,k1,j1]
      refine aq (vs:=[.ptr n 0,actA w t 0 m me 5 pol (life:Nat) (.sl false 1 (BB d)) (at':Nat)]) rfl e_f14 (hdo 0 me 5 (by decide)) rfl fun v s2 hr=>?_
      obtain ⟨xn,done,one,all,err,dv,av,R2,F2,rfl,hO,y1,y2,y3,y4,y5,y6⟩:=hcall 0 me 5 (by decide) v s2 hr
      obtain ⟨a1,a2,a3,a4,a5,a6,a7,a8⟩:=y4.facts
      obtain ⟨b1,b2,b3,b4,b5,b6,b7,b8⟩:=y6.facts
      unfold resV resA
      simp (config:=KF) (disch:=omega) only [bZ,bU,al,aS,eT,↓reduceIte,Nat.reduceEqDiff,Nat.reduceAdd,Nat.reduceLeDiff,reduceCtorEq,a2,a4,b2,b4,k1,j1]
      exact h55 0 me 5 (fun _=>⟨rfl,rfl,rfl⟩) xn done one all err dv av R2 F2 s2 hO y1 y2 y3 y4 y5 y6
    · simp (config:=KF) (disch:=omega) only [bZ,AI.dst,ji,bU,ixSV,al,ixA,lenI,addA,aa,oZ,id,dh,aS,iN,eT,↓reduceIte,Nat.reduceEqDiff,Nat.reduceAdd,Nat.reduceLeDiff,reduceCtorEq,bV,cU,ci,bG,bW,hga,k1,j1]
      refine aq (vs:=[.ptr n 0,actA w t n0 m nm port pol (life:Nat) (.sl false 1 (BB d)) (at':Nat)]) rfl e_f14 (hdo n0 nm port hfew.2) rfl fun v s2 hr=>?_
      obtain ⟨xn,done,one,all,err,dv,av,R2,F2,rfl,hO,y1,y2,y3,y4,y5,y6⟩:=hcall n0 nm port hfew.2 v s2 hr
      obtain ⟨a1,a2,a3,a4,a5,a6,a7,a8⟩:=y4.facts
      obtain ⟨b1,b2,b3,b4,b5,b6,b7,b8⟩:=y6.facts
      unfold resV resA
      simp (config:=KF) (disch:=omega) only [bZ,bU,al,aS,eT,↓reduceIte,Nat.reduceEqDiff,Nat.reduceAdd,Nat.reduceLeDiff,reduceCtorEq,a2,a4,b2,b4,k1,j1]
      exact h55 n0 nm port (fun q=>absurd q h3) xn done one all err dv av R2 F2 s2 hO y1 y2 y3 y4 y5 y6
  · obtain rfl:i = l.length:=by omega
    simp (config:=KF) (disch:=omega) only [bZ,bh,cf,lenI,↓reduceIte,Nat.reduceEqDiff,reduceCtorEq,ci]
    refine hKe _ _ _ ?_
    simp (config:=KF) (disch:=omega) only [bZ,aK,↓reduceIte]
    have:=i4.le
    exact hold_end i5 i4.mt i4.got (by omega) (by omega) hQ
end Go.Fx.YtgmeefljgbaanaaFx

