/- What the functions that the statement reaches compute: part 2. -/
import Derived.Test.YtgmeefljgbaanaaFxW1
namespace Go.Fx.YtgmeefljgbaanaaFx
open Go Go.Fx
attribute [local irreducible] aC runI aF a9

set_option maxRecDepth 100000
set_option maxHeartbeats 4000000

theorem qpush_calls {q mid g:Nat} {L:Qu} {v:Int} {st:St} (h:QIs st q mid L g) (hlen:L.length < 4096) (hgb:g < 1000000) :
    ao Go.Proofs.Try.prog n_f51 [.ptr q 0,.lit (.int .i64 v)] st (fun r st'=>r = .tup [.lit (.int .u64 ((g + 1:Nat))),.lit (.int .i64 0)]∧QIs st' q mid (L++[(g + 1,v)]) (g + 1)∧Oth st st' [q,mid]):=by
  refine aA hmix k_f51 rfl rfl fun Q hQ=>?_
  unfold aFun c_f51
  obtain ⟨m,hm,hl,hml⟩:=h.mp
  have hg:=h.get
  have hne:=h.ne
  have hlt:=h.ltq
  have hfr:=h.fresh
  have hnq:mid ∉ [q]:=by simp [hne]
  have hqm:q ∉ [mid]:=by simp; exact fun e=>hne e.symm
  simp (config:=KF) (disch:=omega) only [bZ,id,↓reduceIte,Nat.reduceEqDiff,reduceCtorEq]
  refine am rfl e_f58 (eB hg) rfl ?_
  by_cases hL:L = []
  · subst hL
    simp (config:=KF) (disch:=omega) only [bZ,bf,bd,bj,hh_bst,aM,lS,aj,bstV,al,addA,aa,aP,di,gI,↓reduceIte,Nat.reduceEqDiff,Nat.reduceAdd,Nat.reduceLeDiff,reduceCtorEq,ci,IntWalk.u64_in,bY,aR,hg,km,hml,aw,ar]
    refine eK (b:=(v,0,0)) (hm.set hne) rfl rfl fun st2 hm2 ho2=>?_
    have hg2:st2.get q = some [.lit (.int .u64 0),.lit (.int .u64 0),.lit (.int .u64 ((g:Int) + 1)),.map mid]:=(ho2.get hqm).trans (aR hlt)
    have hlt2:q < st2.boxes.length:=bM hg2
    simp (config:=KF) (disch:=omega) only [bZ,retI,aj,al,addA,aa,↓reduceIte,Nat.reduceEqDiff,Nat.reduceAdd,Nat.reduceLeDiff,reduceCtorEq,bY,aR,fI,hg2]
    have ho:Oth st (st2.set q [.lit (.int .u64 ((g:Int) + 1)),.lit (.int .u64 ((g:Int) + 1)),.lit (.int .u64 ((g:Int) + 1)),.map mid]) [q,mid]:=((Oth.set st q _ (by simp)).trans (ho2.mono (by simp))).trans (Oth.set _ _ _ (by simp))
    refine hQ _ _ ⟨rfl,h.push (v:=v) (m':=updP (g + 1:Nat) (v,0,0) m) (aR hlt2) (hm2.set hne) (fun t=>?_) ?_,ho⟩
    · rw [aW,hl t]
      simp only [List.nil_append,aX,aw]
      by_cases e:t = g + 1
      · subst e; simp
      · have:¬ (t:Int) = ((g + 1:Nat):Int):=by omega
        rw [if_neg this,if_neg e]
    · rw [ej,hl,cR hfr]
      simp [hml]
  · have hlm:=eL (p:=0) hL
    have hlp:=h.pos _ hlm
    obtain ⟨x,hx⟩:=fw (p:=0) hlm
    have hnil:=h.nil_iff
    have hL0:((ar 0 L:Int) = 0) = False:=by simp; omega
    have hlg:ar 0 L≠g + 1:=fun e=>hfr (e ▸ hlm)
    simp (config:=KF) (disch:=omega) only [bZ,bf,bd,bj,hh_bst,aM,lS,aj,bstV,al,addA,aa,aP,di,gI,↓reduceIte,Nat.reduceEqDiff,Nat.reduceAdd,Nat.reduceLeDiff,reduceCtorEq,ci,IntWalk.u64_in,bY,aR,hg,km,hml]
    refine eK (b:=(v,ar 0 L,0)) (hm.set hne) rfl rfl fun st2 hm2 ho2=>?_
    have hg2:st2.get q = some [.lit (.int .u64 (aw L 0:Nat)),.lit (.int .u64 (ar 0 L:Nat)),.lit (.int .u64 ((g:Int) + 1)),.map mid]:=(ho2.get hqm).trans (aR hlt)
    have hlt2:q < st2.boxes.length:=bM hg2
    have hk:∀ z,cd (.int .u64) z false st2 (.map mid) (.lit (.int .u64 (ar 0 L:Nat))) = .ok (ndAV x):=fun z=>by
      rw [cH hm2,aW,if_neg (by omega),hl,hx]; rfl
    simp (config:=KF) (disch:=omega) only [bZ,Nat.reduceBEq,ksB,aO,bF,bS,bg,cz,bP,nstB,bT,b9,Option.getD_none,bf,bd,bj,ez,ki,aM,iP,iA,lS,aj,al,addA,aa,iu,cT,List.nil_append,↓reduceIte,Nat.reduceEqDiff,Nat.reduceAdd,Nat.reduceLeDiff,reduceCtorEq,or_false,bY,hg2,hL0,hk,ndAV]
    refine eK (b:=(x.1,x.2.1,g + 1)) hm2 rfl rfl fun st3 hm3 ho3=>?_
    have hg3:st3.get q = some [.lit (.int .u64 (aw L 0:Nat)),.lit (.int .u64 (ar 0 L:Nat)),.lit (.int .u64 ((g:Int) + 1)),.map mid]:=(ho3.get hqm).trans hg2
    have hlt3:q < st3.boxes.length:=bM hg3
    simp (config:=KF) (disch:=omega) only [bZ,retI,aj,al,addA,aa,↓reduceIte,Nat.reduceEqDiff,Nat.reduceAdd,Nat.reduceLeDiff,reduceCtorEq,bY,aR,hg3]
    have ho:Oth st (st3.set q [.lit (.int .u64 (aw L 0:Nat)),.lit (.int .u64 ((g:Int) + 1)),.lit (.int .u64 ((g:Int) + 1)),.map mid]) [q,mid]:=(((Oth.set st q _ (by simp)).trans (ho2.mono (by simp))).trans (ho3.mono (by simp))).trans (Oth.set _ _ _ (by simp))
    have hnx:aw (L++[(g + 1,v)]) 0 = aw L 0:=by cases L with
      | nil=>exact absurd rfl hL
      | cons _ _=>rfl
    refine hQ _ _ ⟨rfl,h.push (v:=v) (by rw [hnx]; exact aR hlt3) (hm3.set hne) (fun t=>?_) ?_,ho⟩
    · rw [aW,aW,hl t,nodeA_push h.nd hfr hL]
      by_cases e:t = ar 0 L
      · subst e; simp [hx]
      · have e1:¬ (t:Int) = (ar 0 L:Nat):=by omega
        rw [if_neg e1,if_neg e]
        by_cases e2:t = g + 1
        · subst e2; simp
        · have e3:¬ (t:Int) = ((g + 1:Nat):Int):=by omega
          rw [if_neg e3,if_neg e2]
    · have h1:ai ((g + 1:Nat):Int) m = none:=by rw [hl,cR hfr]
      have h2:ai ((ar 0 L:Nat):Int) (updP ((g + 1:Nat):Int) (v,ar 0 L,0) m) = some x:=by rw [aW,if_neg (by omega),hl,hx]
      rw [ej,h2,ej,h1]
      simp [hml]

theorem jm {q mid g t:Nat} {v:Int} {A B:Qu} {st:St} (h:QIs st q mid (A++(t,v)::B) g) (hgb:g < 1000000) :
    ao Go.Proofs.Try.prog n_f56 [.ptr q 0,.lit (.int .u64 (t:Nat))] st (fun r st'=>r = .tup [.lit (.int .i64 v),.lit (.int .i64 0)]∧QIs st' q mid (A++B) g∧Oth st st' [q,mid]):=by
  refine aA hmix k_f56 rfl rfl fun Q hQ=>?_
  unfold aFun c_f56
  obtain ⟨m,hm,hl,hml⟩:=h.mp
  have hg:=h.get
  have hne:=h.ne
  have hlt:=h.ltq
  have hnd:=h.nd
  have hqm:q ∉ [mid]:=by simp; exact fun e=>hne e.symm
  have h1:t ∉ aG A∧t ∉ aG B:=by
    rw [cI] at hnd
    obtain ⟨_,h2,h3⟩:=List.nodup_append.1 hnd
    exact ⟨fun e=>h3 t e t (by simp [aG]) rfl,(List.nodup_cons.1 h2).1⟩
  have hat:=nodeA_at (v:=v) (B:=B) h1.1
  have hk:∀ z,cd (.int .u64) z true st (.map mid) (.lit (.int .u64 (t:Nat))) = .ok (.tup [ndAV (v,ar 0 A,aw B 0),.lit (.bool true)]):=fun z=>by
    rw [cH hm,hl,hat]; rfl
  have hposA:A≠[]→0 < ar 0 A:=fun e=>(h.pos _ (by rw [cI]; exact List.mem_append_left _ (eL e))).1
  have hposB:B≠[]→0 < aw B 0∧aw B 0 ∈ aG B:=fun e=>by
    cases B with
    | nil=>exact absurd rfl e
    | cons x r=>exact ⟨(h.pos _ (by rw [cI]; simp [aG,aw])).1,by simp [aG,aw]⟩
  have hlx:∀ t':Nat,ai (t':Int) (delP (t:Int) m) = if t' = t then none else aX 0 (A++(t,v)::B) 0 t':=fun t'=>by
    rw [ei _ _ hm.nd,hl]
    by_cases e:t' = t
    · subst e; simp
    · have:¬ (t':Int) = (t:Int):=by omega
      rw [if_neg this,if_neg e]
  have hdel:(delP (t:Int) m).length = (A++B).length:=by
    rw [mg,hl,hat]; simp [hml]
  simp (config:=KF) (disch:=omega) only [bZ,id,↓reduceIte,Nat.reduceEqDiff,reduceCtorEq]
  refine am rfl e_f58 (eB hg) rfl ?_
  simp (config:=KF) (disch:=omega) only [bZ,aV,bU,oU,aj,al,addA,aa,unA,ba,dp,cT,eJ,↓reduceIte,Nat.reduceEqDiff,Nat.reduceAdd,Nat.reduceLeDiff,reduceCtorEq,hg,hk,ndAV]
  refine iB hm fun st2 hm2 ho2=>?_
  have hg2:st2.get q = _:=(ho2.get hqm).trans hg
  have hlt2:q < st2.boxes.length:=bM hg2
  have hfin:∀ t':Nat,aX 0 (A++B) 0 t' = _:=fun t'=>nodeA_del (t:=t') hnd
  have hAB:∀ x ∈ aG A,x ∉ aG B:=by
    rw [cI] at hnd
    obtain ⟨_,h2,h3⟩:=List.nodup_append.1 hnd
    exact fun x hx hb=>h3 x hx x (by simp only [aG,List.map_cons,List.mem_cons]; exact .inr hb) rfl
  by_cases hA:A = []
  · subst hA
    have e0:ar 0 ([]:Qu) = 0:=rfl
    by_cases hB:B = []
    · subst hB
      simp (config:=KF) (disch:=omega) only [bZ,retI,aj,al,addA,aa,List.nil_append,↓reduceIte,Nat.reduceEqDiff,Nat.reduceAdd,Nat.reduceLeDiff,reduceCtorEq,aR,fI,hg2,e0,aw]
      refine hQ _ _ ⟨rfl,h.del (A:=[]) (B:=[]) (m':=delP (t:Int) m) (aR hlt2) (hm2.set hne) (fun t'=>?_) hdel,(ho2.mono (by simp)).trans (Oth.set _ _ _ (by simp))⟩
      rw [hlx,hfin]
      by_cases e:t' = t
      · simp [e]
      · simp [e]
    · obtain ⟨hp,hw⟩:=hposB hB
      have hn0:((aw B 0:Int) = 0) = False:=by simp; omega
      have hnl:aw (([]:Qu)++(t,v)::B) 0 = t:=rfl
      have hll:ar 0 (([]:Qu)++(t,v)::B) = ar 0 B:=by rw [gc]; exact last_ne hB
      have hwt:aw B 0≠t:=fun e=>h1.2 (e ▸ hw)
      obtain ⟨y,hy⟩:=fw (L:=[]++(t,v)::B) (p:=0) (t:=aw B 0) (by rw [cI]; simp only [aG,List.map_cons,List.mem_append,List.mem_cons]; exact .inr (.inr hw))
      have hk2:∀ z,cd (.int .u64) z false (st2.set q [.lit (.int .u64 (aw B 0:Nat)),.lit (.int .u64 (ar 0 ((t,v)::B):Nat)),.lit (.int .u64 (g:Nat)),.map mid]) (.map mid) (.lit (.int .u64 (aw B 0:Nat))) = .ok (ndAV y):=fun z=>by
        rw [cH (hm2.set hne),hlx,if_neg hwt,hy]; rfl
      simp only [e0]
      simp (config:=KF) (disch:=omega) only [bZ,Nat.reduceBEq,ksB,aO,bF,bS,bg,cz,bP,nstB,bT,b9,Option.getD_none,bf,bd,bj,ez,ki,aM,iP,iA,lS,aj,al,addA,aa,iu,aS,cT,List.nil_append,↓reduceIte,Nat.reduceEqDiff,Nat.reduceAdd,Nat.reduceLeDiff,reduceCtorEq,or_false,aR,hg2,hn0,hk2,ndAV]
      refine eK (b:=(y.1,0,y.2.2)) (hm2.set hne) rfl rfl fun st3 hm3 ho3=>?_
      simp (config:=KF) (disch:=omega) only [bZ,retI,addA,aa,↓reduceIte,Nat.reduceEqDiff,reduceCtorEq]
      have hg3:st3.get q = some [.lit (.int .u64 (aw B 0:Nat)),.lit (.int .u64 (ar 0 ((t,v)::B):Nat)),.lit (.int .u64 (g:Nat)),.map mid]:=(ho3.get hqm).trans (aR hlt2)
      refine hQ _ _ ⟨rfl,h.del (A:=[]) (B:=B) (by rw [hg3,show ar 0 ((t,v)::B) = ar 0 B from hll]; rfl) hm3 (fun t'=>?_) ?_,((ho2.mono (by simp)).trans (Oth.set _ _ _ (by simp))).trans (ho3.mono (by simp))⟩
      · rw [aW,hlx,hfin]
        by_cases e:t' = t
        · subst e
          have:¬ (t':Int) = (aw B 0:Nat):=by omega
          rw [if_neg this,if_pos rfl,if_pos rfl]
        · by_cases e2:t' = aw B 0
          · subst e2
            rw [if_pos rfl,if_neg hwt,if_neg (fun q=>q.1 rfl),if_pos ⟨hB,rfl⟩,hy]; rfl
          · have:¬ (t':Int) = (aw B 0:Nat):=by omega
            rw [if_neg this,if_neg e,if_neg e,if_neg (fun q=>q.1 rfl),if_neg (fun q=>e2 q.2)]
      · rw [ej,hlx,if_neg hwt,hy]; simpa using hdel
  · have hp:=hposA hA
    have hb0:((ar 0 A:Int) = 0) = False:=by simp; omega
    have hbm:=eL (p:=0) hA
    have hbt:ar 0 A≠t:=fun e=>h1.1 (e ▸ hbm)
    have hnl:aw (A++(t,v)::B) 0 = aw A 0:=by cases A with
      | nil=>exact absurd rfl hA
      | cons _ _=>rfl
    have hnl2:aw (A++B) 0 = aw A 0:=by cases A with
      | nil=>exact absurd rfl hA
      | cons _ _=>rfl
    obtain ⟨y,hy⟩:=fw (L:=A++(t,v)::B) (p:=0) (t:=ar 0 A) (by rw [cI]; exact List.mem_append_left _ hbm)
    have hk2:∀ z,cd (.int .u64) z false st2 (.map mid) (.lit (.int .u64 (ar 0 A:Nat))) = .ok (ndAV y):=fun z=>by
      rw [cH hm2,hlx,if_neg hbt,hy]; rfl
    simp (config:=KF) (disch:=omega) only [bZ,Nat.reduceBEq,ksB,aO,bF,bS,bg,cz,bP,nstB,bT,b9,Option.getD_none,bf,bd,bj,ez,ki,aM,iP,iA,lS,aj,al,addA,aa,iu,aS,cT,List.nil_append,↓reduceIte,Nat.reduceEqDiff,Nat.reduceAdd,Nat.reduceLeDiff,reduceCtorEq,or_false,hg2,hb0,hk2,ndAV]
    refine eK (b:=(y.1,y.2.1,aw B 0)) hm2 rfl rfl fun st3 hm3 ho3=>?_
    have hg3:st3.get q = _:=(ho3.get hqm).trans hg2
    have hlt3:q < st3.boxes.length:=bM hg3
    have hl3:∀ t':Nat,ai (t':Int) (updP ((ar 0 A:Nat):Int) (y.1,y.2.1,aw B 0) (delP (t:Int) m)) = if t' = ar 0 A then some (y.1,y.2.1,aw B 0) else if t' = t then none else aX 0 (A++(t,v)::B) 0 t':=fun t'=>by
      rw [aW,hlx]
      by_cases e:t' = ar 0 A
      · subst e; simp
      · have:¬ (t':Int) = (ar 0 A:Nat):=by omega
        rw [if_neg this,if_neg e]
    have hn3:(updP ((ar 0 A:Nat):Int) (y.1,y.2.1,aw B 0) (delP (t:Int) m)).length = (A++B).length:=by
      rw [ej,hlx,if_neg hbt,hy]; simpa using hdel
    by_cases hB:B = []
    · subst hB
      simp (config:=KF) (disch:=omega) only [bZ,retI,aj,al,addA,aa,↓reduceIte,Nat.reduceEqDiff,Nat.reduceAdd,Nat.reduceLeDiff,reduceCtorEq,hg3,aw]
      refine hQ _ _ ⟨rfl,h.del (A:=A) (B:=[]) (by rw [hnl2,← hnl,gc]; exact aR hlt3) (hm3.set hne) (fun t'=>?_) hn3,((ho2.mono (by simp)).trans (ho3.mono (by simp))).trans (Oth.set _ _ _ (by simp))⟩
      rw [hl3,hfin]
      by_cases e:t' = ar 0 A
      · subst e; simp [hbt,hA,hy,aw]
      · simp [e]
    · obtain ⟨hpb,hw⟩:=hposB hB
      have hn0:((aw B 0:Int) = 0) = False:=by simp; omega
      have hll:ar 0 (A++(t,v)::B) = ar 0 (A++B):=by rw [gc,gc]; exact last_ne hB
      have hwt:aw B 0≠t:=fun e=>h1.2 (e ▸ hw)
      have hwb:aw B 0≠ar 0 A:=fun e=>hAB _ hbm (e ▸ hw)
      obtain ⟨x,hx⟩:=fw (L:=A++(t,v)::B) (p:=0) (t:=aw B 0) (by rw [cI]; simp only [aG,List.map_cons,List.mem_append,List.mem_cons]; exact .inr (.inr hw))
      have hk3:∀ z,cd (.int .u64) z false st3 (.map mid) (.lit (.int .u64 (aw B 0:Nat))) = .ok (ndAV x):=fun z=>by
        rw [cH hm3,hl3,if_neg hwb,if_neg hwt,hx]; rfl
      simp (config:=KF) (disch:=omega) only [bZ,Nat.reduceBEq,ksB,aO,bF,bS,bg,cz,bP,nstB,bT,b9,Option.getD_none,bf,bd,bj,ez,ki,aM,iP,iA,lS,aj,al,addA,aa,iu,aS,cT,List.nil_append,↓reduceIte,Nat.reduceEqDiff,Nat.reduceAdd,Nat.reduceLeDiff,reduceCtorEq,or_false,hg3,hn0,hk3,ndAV]
      refine eK (b:=(x.1,ar 0 A,x.2.2)) hm3 rfl rfl fun st4 hm4 ho4=>?_
      simp (config:=KF) (disch:=omega) only [bZ,retI,addA,aa,↓reduceIte,Nat.reduceEqDiff,reduceCtorEq]
      have hg4:st4.get q = _:=(ho4.get hqm).trans hg3
      refine hQ _ _ ⟨rfl,h.del (A:=A) (B:=B) (by rw [hnl2,← hnl,← hll]; exact hg4) hm4 (fun t'=>?_) ?_,((ho2.mono (by simp)).trans (ho3.mono (by simp))).trans (ho4.mono (by simp))⟩
      · rw [aW,hl3,hfin]
        by_cases e2:t' = aw B 0
        · subst e2; simp [hwt,hwb,hB,hx]
        · have:¬ (t':Int) = (aw B 0:Nat):=by omega
          rw [if_neg this]
          by_cases e:t' = ar 0 A
          · subst e; simp [hbt,hA,hy]
          · simp [e,e2]
      · rw [ej,hl3,if_neg hwb,if_neg hwt,hx]; simpa using hn3

theorem qpop_nil {q mid g:Nat} {st:St} (h:QIs st q mid [] g) :
    ao Go.Proofs.Try.prog n_f54 [.ptr q 0] st (fun r st'=>r = .tup [.lit (.int .i64 0),.lit (.int .u64 0),.lit (.int .i64 9)]∧st' = st):=by
  refine aA hmix k_f54 rfl rfl fun Q hQ=>?_
  unfold aFun c_f54
  simp (config:=KF) (disch:=omega) only [bZ,id,↓reduceIte,Nat.reduceEqDiff,reduceCtorEq]
  refine am rfl e_f72 (lW h) rfl ?_
  simp (config:=KF) (disch:=omega) only [bZ,retI,ba,↓reduceIte,Nat.reduceEqDiff,Int.reduceEq,reduceCtorEq]
  exact hQ _ _ ⟨rfl,rfl⟩

theorem qpop_calls {q mid g t:Nat} {v:Int} {B:Qu} {st:St} (h:QIs st q mid ((t,v)::B) g) (hgb:g < 1000000) :
    ao Go.Proofs.Try.prog n_f54 [.ptr q 0] st (fun r st'=>r = .tup [.lit (.int .i64 v),.lit (.int .u64 (t:Nat)),.lit (.int .i64 0)]∧QIs st' q mid B g∧Oth st st' [q,mid]):=by
  refine aA hmix k_f54 rfl rfl fun Q hQ=>?_
  unfold aFun c_f54
  simp (config:=KF) (disch:=omega) only [bZ,id,↓reduceIte,Nat.reduceEqDiff,reduceCtorEq]
  refine am rfl e_f72 (lW h) rfl ?_
  simp (config:=KF) (disch:=omega) only [bZ,id,ba,↓reduceIte,Nat.reduceEqDiff,reduceCtorEq]
  refine aq rfl e_f56 (jm (A:=[]) h hgb) rfl fun r st' hr=>?_
  obtain ⟨rfl,h1,h2⟩:=hr
  simp (config:=KF) (disch:=omega) only [bZ,retI,↓reduceIte,Nat.reduceEqDiff,reduceCtorEq]
  exact hQ _ _ ⟨rfl,h1,h2⟩
end Go.Fx.YtgmeefljgbaanaaFx

