/- What the functions that the statement reaches compute: part 2. -/
import Derived.Test.YtbomoaajkinfpaaFxW1
namespace Go.Fx.YtbomoaajkinfpaaFx
open Go Go.Fx
attribute [local irreducible] aC runI ap aO

set_option maxRecDepth 100000
set_option maxHeartbeats 4000000

theorem kL {q mid g:Nat} {L:Qu} {v:Int} {st:St} (h:QIs st q mid L g) (hlen:L.length < 4096) (hgb:g < 1000000) :
    aA Go.Proofs.Try.prog n_f60 [.ptr q 0,.lit (.int .i64 v)] st (fun r st'=>r = .tup [.lit (.int .u64 ((g + 1:Nat))),.lit (.int .i64 0)]∧QIs st' q mid (L++[(g + 1,v)]) (g + 1)∧Oth st st' [q,mid]):=by
  refine aw hmix k_f60 rfl rfl fun Q hQ=>?_
  unfold aFun c_f60
  obtain ⟨m,hm,hl,hml⟩:=h.mp
  have hg:=h.get
  have hne:=h.ne
  have hlt:=h.ltq
  have hfr:=h.fresh
  have hnq:mid ∉ [q]:=by simp [hne]
  have hqm:q ∉ [mid]:=by simp; exact fun e=>hne e.symm
  simp (config:=KF) (disch:=omega) only [bZ,id,↓reduceIte,Nat.reduceEqDiff,reduceCtorEq,f60_1e,f60_2l,f60_3e,f60_4e,f60_5e,f60_6l]
  refine ao rfl e_f62 (fc hg) rfl ?_
  by_cases hL:L = []
  · subst hL
    simp (config:=KF) (disch:=omega) only [bZ,bf,hh_bst,jh,ak,az,addA,aa,kD,↓reduceIte,Nat.reduceEqDiff,Nat.reduceAdd,Nat.reduceLeDiff,reduceCtorEq,bY,IntWalk.u64_in,bg,f60_7e,f60_10e,f60_11l,f60_12e,f60_15e,f60_16l,f60_17e,f60_18e,f60_18h,f60_18l,hg,mq,hml,aK,aI]
    refine dU (b:=(v,0,0)) (hm.set hne) rfl rfl fun st2 hm2 ho2=>?_
    have hg2:st2.get q = some [.lit (.int .u64 0),.lit (.int .u64 0),.lit (.int .u64 ((g:Int) + 1)),.map mid]:=(ho2.get hqm).trans (bg hlt)
    have hlt2:q < st2.boxes.length:=bA hg2
    simp (config:=KF) (disch:=omega) only [bZ,retI,ak,az,addA,aa,↓reduceIte,Nat.reduceEqDiff,Nat.reduceAdd,Nat.reduceLeDiff,reduceCtorEq,bg,k9,f60_19e,f60_20e,f60_21l,f60_22e,f60_23e,f60_23l,f60_29e,f60_30l,f60_31e,f60_32l,hg2]
    have ho:Oth st (st2.set q [.lit (.int .u64 ((g:Int) + 1)),.lit (.int .u64 ((g:Int) + 1)),.lit (.int .u64 ((g:Int) + 1)),.map mid]) [q,mid]:=((Oth.set st q _ (by simp)).trans (ho2.mono (by simp))).trans (Oth.set _ _ _ (by simp))
    refine hQ _ _ ⟨rfl,h.push (v:=v) (m':=updP (g + 1:Nat) (v,0,0) m) (bg hlt2) (hm2.set hne) (fun t=>?_) ?_,ho⟩
    · rw [cJ,hl t]
      simp only [List.nil_append,a9,aK]
      by_cases e:t = g + 1
      · subst e; simp
      · have:¬ (t:Int) = ((g + 1:Nat):Int):=by omega
        rw [if_neg this,if_neg e]
    · rw [eC,hl,cH hfr]
      simp [hml]
  · have hlm:=ej (p:=0) hL
    have hlp:=h.pos _ hlm
    obtain ⟨x,hx⟩:=fa (p:=0) hlm
    have hnil:=h.nil_iff
    have hL0:((aI 0 L:Int) = 0) = False:=by simp; omega
    have hlg:aI 0 L≠g + 1:=fun e=>hfr (e ▸ hlm)
    simp (config:=KF) (disch:=omega) only [bZ,bf,hh_bst,jh,ak,az,addA,aa,kD,↓reduceIte,Nat.reduceEqDiff,Nat.reduceAdd,Nat.reduceLeDiff,reduceCtorEq,bY,IntWalk.u64_in,bg,f60_7e,f60_10e,f60_11l,f60_12e,f60_15e,f60_16l,f60_17e,f60_18e,f60_18h,f60_18l,hg,mq,hml]
    refine dU (b:=(v,aI 0 L,0)) (hm.set hne) rfl rfl fun st2 hm2 ho2=>?_
    have hg2:st2.get q = some [.lit (.int .u64 (aK L 0:Nat)),.lit (.int .u64 (aI 0 L:Nat)),.lit (.int .u64 ((g:Int) + 1)),.map mid]:=(ho2.get hqm).trans (bg hlt)
    have hlt2:q < st2.boxes.length:=bA hg2
    have hk:∀ z,bF (.int .u64) z false st2 (.map mid) (.lit (.int .u64 (aI 0 L:Nat))) = .ok (ndAV x):=fun z=>by
      rw [bH hm2,cJ,if_neg (by omega),hl,hx]; rfl
    simp (config:=KF) (disch:=omega) only [bZ,List.contains_cons,Nat.reduceBEq,Bool.or_false,ksB,aV,bM,cb,bB,cy,bU,nstB,cc,bW,Option.getD_none,bf,d9,lc,ld,jq,jh,ak,az,addA,aa,jn,aR,aS,dS,aP,List.nil_append,↓reduceIte,Nat.reduceEqDiff,Nat.reduceAdd,Nat.reduceLeDiff,reduceCtorEq,or_false,f60_19e,f60_20e,f60_21l,f60_22e,f60_24e,f60_25e,f60_25h,f60_25l,f60_26e,f60_27l,f60_28e,f60_28h,f60_28l,hg2,hL0,hk,ndAV]
    refine dU (b:=(x.1,x.2.1,g + 1)) hm2 rfl rfl fun st3 hm3 ho3=>?_
    have hg3:st3.get q = some [.lit (.int .u64 (aK L 0:Nat)),.lit (.int .u64 (aI 0 L:Nat)),.lit (.int .u64 ((g:Int) + 1)),.map mid]:=(ho3.get hqm).trans hg2
    have hlt3:q < st3.boxes.length:=bA hg3
    simp (config:=KF) (disch:=omega) only [bZ,retI,ak,az,addA,aa,↓reduceIte,Nat.reduceEqDiff,Nat.reduceAdd,Nat.reduceLeDiff,reduceCtorEq,bg,f60_29e,f60_30l,f60_31e,f60_32l,hg3]
    have ho:Oth st (st3.set q [.lit (.int .u64 (aK L 0:Nat)),.lit (.int .u64 ((g:Int) + 1)),.lit (.int .u64 ((g:Int) + 1)),.map mid]) [q,mid]:=(((Oth.set st q _ (by simp)).trans (ho2.mono (by simp))).trans (ho3.mono (by simp))).trans (Oth.set _ _ _ (by simp))
    have hnx:aK (L++[(g + 1,v)]) 0 = aK L 0:=by cases L with
      | nil=>exact absurd rfl hL
      | cons _ _=>rfl
    refine hQ _ _ ⟨rfl,h.push (v:=v) (by rw [hnx]; exact bg hlt3) (hm3.set hne) (fun t=>?_) ?_,ho⟩
    · rw [cJ,cJ,hl t,nodeA_push h.nd hfr hL]
      by_cases e:t = aI 0 L
      · subst e; simp [hx]
      · have e1:¬ (t:Int) = (aI 0 L:Nat):=by omega
        rw [if_neg e1,if_neg e]
        by_cases e2:t = g + 1
        · subst e2; simp
        · have e3:¬ (t:Int) = ((g + 1:Nat):Int):=by omega
          rw [if_neg e3,if_neg e2]
    · have h1:am ((g + 1:Nat):Int) m = none:=by rw [hl,cH hfr]
      have h2:am ((aI 0 L:Nat):Int) (updP ((g + 1:Nat):Int) (v,aI 0 L,0) m) = some x:=by rw [cJ,if_neg (by omega),hl,hx]
      rw [eC,h2,eC,h1]
      simp [hml]

theorem fv {q mid g t:Nat} {v:Int} {A B:Qu} {st:St} (h:QIs st q mid (A++(t,v)::B) g) (hgb:g < 1000000) :
    aA Go.Proofs.Try.prog n_f43 [.ptr q 0,.lit (.int .u64 (t:Nat))] st (fun r st'=>r = .tup [.lit (.int .i64 v),.lit (.int .i64 0)]∧QIs st' q mid (A++B) g∧Oth st st' [q,mid]):=by
  refine aw hmix k_f43 rfl rfl fun Q hQ=>?_
  unfold aFun c_f43
  obtain ⟨m,hm,hl,hml⟩:=h.mp
  have hg:=h.get
  have hne:=h.ne
  have hlt:=h.ltq
  have hnd:=h.nd
  have hqm:q ∉ [mid]:=by simp; exact fun e=>hne e.symm
  have h1:t ∉ aM A∧t ∉ aM B:=by
    rw [cS] at hnd
    obtain ⟨_,h2,h3⟩:=List.nodup_append.1 hnd
    exact ⟨fun e=>h3 t e t (by simp [aM]) rfl,(List.nodup_cons.1 h2).1⟩
  have hat:=nodeA_at (v:=v) (B:=B) h1.1
  have hk:∀ z,bF (.int .u64) z true st (.map mid) (.lit (.int .u64 (t:Nat))) = .ok (.tup [ndAV (v,aI 0 A,aK B 0),.lit (.bool true)]):=fun z=>by
    rw [bH hm,hl,hat]; rfl
  have hposA:A≠[]→0 < aI 0 A:=fun e=>(h.pos _ (by rw [cS]; exact List.mem_append_left _ (ej e))).1
  have hposB:B≠[]→0 < aK B 0∧aK B 0 ∈ aM B:=fun e=>by
    cases B with
    | nil=>exact absurd rfl e
    | cons x r=>exact ⟨(h.pos _ (by rw [cS]; simp [aM,aK])).1,by simp [aM,aK]⟩
  have hlx:∀ t':Nat,am (t':Int) (delP (t:Int) m) = if t' = t then none else a9 0 (A++(t,v)::B) 0 t':=fun t'=>by
    rw [e9 _ _ hm.nd,hl]
    by_cases e:t' = t
    · subst e; simp
    · have:¬ (t':Int) = (t:Int):=by omega
      rw [if_neg this,if_neg e]
  have hdel:(delP (t:Int) m).length = (A++B).length:=by
    rw [o6,hl,hat]; simp [hml]
  simp (config:=KF) (disch:=omega) only [bZ,id,↓reduceIte,Nat.reduceEqDiff,reduceCtorEq,f43_1e,f43_2l,f43_3e,f43_4e,f43_5l]
  refine ao rfl e_f62 (fc hg) rfl ?_
  simp (config:=KF) (disch:=omega) only [bZ,o_un,cZ,bT,nM,ak,az,addA,aa,unA,fJ,aR,aS,dS,aP,gH,↓reduceIte,Nat.reduceEqDiff,Nat.reduceAdd,Nat.reduceLeDiff,reduceCtorEq,f43_6e,f43_9e,f43_10l,f43_11e,f43_12e,f43_13l,f43_14e,f43_17e,f43_18l,hg,hk,ndAV]
  refine fO hm fun st2 hm2 ho2=>?_
  have hg2:st2.get q = _:=(ho2.get hqm).trans hg
  have hlt2:q < st2.boxes.length:=bA hg2
  have hfin:∀ t':Nat,a9 0 (A++B) 0 t' = _:=fun t'=>nodeA_del (t:=t') hnd
  have hAB:∀ x ∈ aM A,x ∉ aM B:=by
    rw [cS] at hnd
    obtain ⟨_,h2,h3⟩:=List.nodup_append.1 hnd
    exact fun x hx hb=>h3 x hx x (by simp only [aM,List.map_cons,List.mem_cons]; exact .inr hb) rfl
  by_cases hA:A = []
  · subst hA
    have e0:aI 0 ([]:Qu) = 0:=rfl
    by_cases hB:B = []
    · subst hB
      simp (config:=KF) (disch:=omega) only [bZ,retI,ak,az,addA,aa,List.nil_append,↓reduceIte,Nat.reduceEqDiff,Nat.reduceAdd,Nat.reduceLeDiff,reduceCtorEq,bg,k9,f43_19e,f43_20e,f43_21l,f43_22e,f43_23e,f43_23l,f43_29e,f43_30e,f43_31l,f43_32e,f43_33e,f43_33l,f43_39e,f43_40l,hg2,e0,aK]
      refine hQ _ _ ⟨rfl,h.del (A:=[]) (B:=[]) (m':=delP (t:Int) m) (bg hlt2) (hm2.set hne) (fun t'=>?_) hdel,(ho2.mono (by simp)).trans (Oth.set _ _ _ (by simp))⟩
      rw [hlx,hfin]
      by_cases e:t' = t
      · simp [e]
      · simp [e]
    · obtain ⟨hp,hw⟩:=hposB hB
      have hn0:((aK B 0:Int) = 0) = False:=by simp; omega
      have hnl:aK (([]:Qu)++(t,v)::B) 0 = t:=rfl
      have hll:aI 0 (([]:Qu)++(t,v)::B) = aI 0 B:=by rw [fQ]; exact last_ne hB
      have hwt:aK B 0≠t:=fun e=>h1.2 (e ▸ hw)
      obtain ⟨y,hy⟩:=fa (L:=[]++(t,v)::B) (p:=0) (t:=aK B 0) (by rw [cS]; simp only [aM,List.map_cons,List.mem_append,List.mem_cons]; exact .inr (.inr hw))
      have hk2:∀ z,bF (.int .u64) z false (st2.set q [.lit (.int .u64 (aK B 0:Nat)),.lit (.int .u64 (aI 0 ((t,v)::B):Nat)),.lit (.int .u64 (g:Nat)),.map mid]) (.map mid) (.lit (.int .u64 (aK B 0:Nat))) = .ok (ndAV y):=fun z=>by
        rw [bH (hm2.set hne),hlx,if_neg hwt,hy]; rfl
      simp only [e0]
      simp (config:=KF) (disch:=omega) only [bZ,List.contains_cons,Nat.reduceBEq,Bool.or_false,ksB,aV,bM,cb,bB,cy,bU,nstB,cc,bW,Option.getD_none,bf,d9,lc,ld,jq,jh,ak,az,addA,aa,jn,aR,aS,cd,dS,aP,List.nil_append,↓reduceIte,Nat.reduceEqDiff,Nat.reduceAdd,Nat.reduceLeDiff,reduceCtorEq,or_false,bg,f43_19e,f43_20e,f43_21l,f43_22e,f43_23e,f43_23l,f43_29e,f43_30e,f43_31l,f43_32e,f43_34e,f43_35e,f43_35h,f43_35l,f43_36e,f43_37l,f43_38e,f43_38h,f43_38l,hg2,hn0,hk2,ndAV]
      refine dU (b:=(y.1,0,y.2.2)) (hm2.set hne) rfl rfl fun st3 hm3 ho3=>?_
      simp (config:=KF) (disch:=omega) only [bZ,retI,addA,aa,↓reduceIte,Nat.reduceEqDiff,reduceCtorEq,f43_39e,f43_40l]
      have hg3:st3.get q = some [.lit (.int .u64 (aK B 0:Nat)),.lit (.int .u64 (aI 0 ((t,v)::B):Nat)),.lit (.int .u64 (g:Nat)),.map mid]:=(ho3.get hqm).trans (bg hlt2)
      refine hQ _ _ ⟨rfl,h.del (A:=[]) (B:=B) (by rw [hg3,show aI 0 ((t,v)::B) = aI 0 B from hll]; rfl) hm3 (fun t'=>?_) ?_,((ho2.mono (by simp)).trans (Oth.set _ _ _ (by simp))).trans (ho3.mono (by simp))⟩
      · rw [cJ,hlx,hfin]
        by_cases e:t' = t
        · subst e
          have:¬ (t':Int) = (aK B 0:Nat):=by omega
          rw [if_neg this,if_pos rfl,if_pos rfl]
        · by_cases e2:t' = aK B 0
          · subst e2
            rw [if_pos rfl,if_neg hwt,if_neg (fun q=>q.1 rfl),if_pos ⟨hB,rfl⟩,hy]; rfl
          · have:¬ (t':Int) = (aK B 0:Nat):=by omega
            rw [if_neg this,if_neg e,if_neg e,if_neg (fun q=>q.1 rfl),if_neg (fun q=>e2 q.2)]
      · rw [eC,hlx,if_neg hwt,hy]; simpa using hdel
  · have hp:=hposA hA
    have hb0:((aI 0 A:Int) = 0) = False:=by simp; omega
    have hbm:=ej (p:=0) hA
    have hbt:aI 0 A≠t:=fun e=>h1.1 (e ▸ hbm)
    have hnl:aK (A++(t,v)::B) 0 = aK A 0:=by cases A with
      | nil=>exact absurd rfl hA
      | cons _ _=>rfl
    have hnl2:aK (A++B) 0 = aK A 0:=by cases A with
      | nil=>exact absurd rfl hA
      | cons _ _=>rfl
    obtain ⟨y,hy⟩:=fa (L:=A++(t,v)::B) (p:=0) (t:=aI 0 A) (by rw [cS]; exact List.mem_append_left _ hbm)
    have hk2:∀ z,bF (.int .u64) z false st2 (.map mid) (.lit (.int .u64 (aI 0 A:Nat))) = .ok (ndAV y):=fun z=>by
      rw [bH hm2,hlx,if_neg hbt,hy]; rfl
    simp (config:=KF) (disch:=omega) only [bZ,List.contains_cons,Nat.reduceBEq,Bool.or_false,ksB,aV,bM,cb,bB,cy,bU,nstB,cc,bW,Option.getD_none,bf,d9,lc,ld,jq,jh,ak,az,addA,aa,jn,aR,aS,cd,dS,aP,List.nil_append,↓reduceIte,Nat.reduceEqDiff,Nat.reduceAdd,Nat.reduceLeDiff,reduceCtorEq,or_false,f43_19e,f43_20e,f43_21l,f43_22e,f43_24e,f43_25e,f43_25h,f43_25l,f43_26e,f43_27l,f43_28e,f43_28h,f43_28l,hg2,hb0,hk2,ndAV]
    refine dU (b:=(y.1,y.2.1,aK B 0)) hm2 rfl rfl fun st3 hm3 ho3=>?_
    have hg3:st3.get q = _:=(ho3.get hqm).trans hg2
    have hlt3:q < st3.boxes.length:=bA hg3
    have hl3:∀ t':Nat,am (t':Int) (updP ((aI 0 A:Nat):Int) (y.1,y.2.1,aK B 0) (delP (t:Int) m)) = if t' = aI 0 A then some (y.1,y.2.1,aK B 0) else if t' = t then none else a9 0 (A++(t,v)::B) 0 t':=fun t'=>by
      rw [cJ,hlx]
      by_cases e:t' = aI 0 A
      · subst e; simp
      · have:¬ (t':Int) = (aI 0 A:Nat):=by omega
        rw [if_neg this,if_neg e]
    have hn3:(updP ((aI 0 A:Nat):Int) (y.1,y.2.1,aK B 0) (delP (t:Int) m)).length = (A++B).length:=by
      rw [eC,hlx,if_neg hbt,hy]; simpa using hdel
    by_cases hB:B = []
    · subst hB
      simp (config:=KF) (disch:=omega) only [bZ,retI,ak,az,addA,aa,↓reduceIte,Nat.reduceEqDiff,Nat.reduceAdd,Nat.reduceLeDiff,reduceCtorEq,f43_29e,f43_30e,f43_31l,f43_32e,f43_33e,f43_33l,f43_39e,f43_40l,hg3,aK]
      refine hQ _ _ ⟨rfl,h.del (A:=A) (B:=[]) (by rw [hnl2,← hnl,fQ]; exact bg hlt3) (hm3.set hne) (fun t'=>?_) hn3,((ho2.mono (by simp)).trans (ho3.mono (by simp))).trans (Oth.set _ _ _ (by simp))⟩
      rw [hl3,hfin]
      by_cases e:t' = aI 0 A
      · subst e; simp [hbt,hA,hy,aK]
      · simp [e]
    · obtain ⟨hpb,hw⟩:=hposB hB
      have hn0:((aK B 0:Int) = 0) = False:=by simp; omega
      have hll:aI 0 (A++(t,v)::B) = aI 0 (A++B):=by rw [fQ,fQ]; exact last_ne hB
      have hwt:aK B 0≠t:=fun e=>h1.2 (e ▸ hw)
      have hwb:aK B 0≠aI 0 A:=fun e=>hAB _ hbm (e ▸ hw)
      obtain ⟨x,hx⟩:=fa (L:=A++(t,v)::B) (p:=0) (t:=aK B 0) (by rw [cS]; simp only [aM,List.map_cons,List.mem_append,List.mem_cons]; exact .inr (.inr hw))
      have hk3:∀ z,bF (.int .u64) z false st3 (.map mid) (.lit (.int .u64 (aK B 0:Nat))) = .ok (ndAV x):=fun z=>by
        rw [bH hm3,hl3,if_neg hwb,if_neg hwt,hx]; rfl
      simp (config:=KF) (disch:=omega) only [bZ,List.contains_cons,Nat.reduceBEq,Bool.or_false,ksB,aV,bM,cb,bB,cy,bU,nstB,cc,bW,Option.getD_none,bf,d9,lc,ld,jq,jh,ak,az,addA,aa,jn,aR,aS,cd,dS,aP,List.nil_append,↓reduceIte,Nat.reduceEqDiff,Nat.reduceAdd,Nat.reduceLeDiff,reduceCtorEq,or_false,f43_29e,f43_30e,f43_31l,f43_32e,f43_34e,f43_35e,f43_35h,f43_35l,f43_36e,f43_37l,f43_38e,f43_38h,f43_38l,hg3,hn0,hk3,ndAV]
      refine dU (b:=(x.1,aI 0 A,x.2.2)) hm3 rfl rfl fun st4 hm4 ho4=>?_
      simp (config:=KF) (disch:=omega) only [bZ,retI,addA,aa,↓reduceIte,Nat.reduceEqDiff,reduceCtorEq,f43_39e,f43_40l]
      have hg4:st4.get q = _:=(ho4.get hqm).trans hg3
      refine hQ _ _ ⟨rfl,h.del (A:=A) (B:=B) (by rw [hnl2,← hnl,← hll]; exact hg4) hm4 (fun t'=>?_) ?_,((ho2.mono (by simp)).trans (ho3.mono (by simp))).trans (ho4.mono (by simp))⟩
      · rw [cJ,hl3,hfin]
        by_cases e2:t' = aK B 0
        · subst e2; simp [hwt,hwb,hB,hx]
        · have:¬ (t':Int) = (aK B 0:Nat):=by omega
          rw [if_neg this]
          by_cases e:t' = aI 0 A
          · subst e; simp [hbt,hA,hy]
          · simp [e,e2]
      · rw [eC,hl3,if_neg hwb,if_neg hwt,hx]; simpa using hn3

theorem qpop_nil {q mid g:Nat} {st:St} (h:QIs st q mid [] g) :
    aA Go.Proofs.Try.prog n_f63 [.ptr q 0] st (fun r st'=>r = .tup [.lit (.int .i64 0),.lit (.int .u64 0),.lit (.int .i64 9)]∧st' = st):=by
  refine aw hmix k_f63 rfl rfl fun Q hQ=>?_
  unfold aFun c_f63
  simp (config:=KF) (disch:=omega) only [bZ,id,↓reduceIte,Nat.reduceEqDiff,reduceCtorEq,f63_1e,f63_2l,f63_3e,f63_4l]
  refine ao rfl e_f75 (kF h) rfl ?_
  simp (config:=KF) (disch:=omega) only [bZ,retI,↓reduceIte,Nat.reduceEqDiff,Int.reduceEq,reduceCtorEq,f63_5e,f63_6e,f63_7l,f63_8e,f63_10e,f63_11l]
  exact hQ _ _ ⟨rfl,rfl⟩

theorem mC {q mid g t:Nat} {v:Int} {B:Qu} {st:St} (h:QIs st q mid ((t,v)::B) g) (hgb:g < 1000000) :
    aA Go.Proofs.Try.prog n_f63 [.ptr q 0] st (fun r st'=>r = .tup [.lit (.int .i64 v),.lit (.int .u64 (t:Nat)),.lit (.int .i64 0)]∧QIs st' q mid B g∧Oth st st' [q,mid]):=by
  refine aw hmix k_f63 rfl rfl fun Q hQ=>?_
  unfold aFun c_f63
  simp (config:=KF) (disch:=omega) only [bZ,id,↓reduceIte,Nat.reduceEqDiff,reduceCtorEq,f63_1e,f63_2l,f63_3e,f63_4l]
  refine ao rfl e_f75 (kF h) rfl ?_
  simp (config:=KF) (disch:=omega) only [bZ,id,↓reduceIte,Nat.reduceEqDiff,reduceCtorEq,f63_5e,f63_6e,f63_7l,f63_8e,f63_9e,f63_9l]
  refine aB rfl e_f43 (fv (A:=[]) h hgb) rfl fun r st' hr=>?_
  obtain ⟨rfl,h1,h2⟩:=hr
  simp (config:=KF) (disch:=omega) only [bZ,retI,↓reduceIte,Nat.reduceEqDiff,reduceCtorEq,f63_10e,f63_11l]
  exact hQ _ _ ⟨rfl,h1,h2⟩
end Go.Fx.YtbomoaajkinfpaaFx

