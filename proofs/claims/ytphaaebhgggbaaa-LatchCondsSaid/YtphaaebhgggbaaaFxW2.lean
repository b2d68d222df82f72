/- What the functions that the statement reaches compute: part 2. -/
import Derived.Test.YtphaaebhgggbaaaFxW1
namespace Go.Fx.YtphaaebhgggbaaaFx
open Go Go.Fx
attribute [local irreducible] aC runI bD cO

set_option maxRecDepth 100000
set_option maxHeartbeats 4000000

theorem qpush_calls {q mid g:Nat} {L:Qu} {v:Int} {st:St} (h:QIs st q mid L g) (hlen:L.length < 4096) (hgb:g < 1000000) :
    aZ Go.Proofs.Try.prog n_f82 [.ptr q 0,.lit (.int .i64 v)] st (fun r st'=>r = .tup [.lit (.int .u64 ((g + 1:Nat))),.lit (.int .i64 0)]∧QIs st' q mid (L++[(g + 1,v)]) (g + 1)∧Oth st st' [q,mid]):=by
  refine aX hmix k_f82 rfl rfl fun Q hQ=>?_
  unfold aFun c_f82
  obtain ⟨m,hm,hl,hml⟩:=h.mp
  have hg:=h.get
  have hne:=h.ne
  have hlt:=h.ltq
  have hfr:=h.fresh
  have hnq:mid ∉ [q]:=by simp [hne]
  have hqm:q ∉ [mid]:=by simp; exact fun e=>hne e.symm
  simp (config:=KF) (disch:=omega) only [bZ,ao,ev_f,putS,Sf.set,Sf.reg,getR,setR,aa,aO,id,↓reduceIte,Nat.reduceEqDiff,reduceCtorEq,Nat.zero_add,f82_1e,f82_2e,f82_2l,f82_3e,f82_4e,f82_5e,f82_6e,f82_6l]
  refine aF rfl e_f79 (eV hg) rfl ?_
  by_cases hL:L = []
  · subst hL
    simp (config:=KF) (disch:=omega) only [bZ,dy,cp,dc,bV,bY,c8,oJ,bC,cf,and_self,aD,aw,aq,aM,cw,az,aG,lm,ar,aS,bstV,boxX,aR,addA,ag,bf,d4,ep,au,aE,putS,Sf.set,Sf.reg,getR,setR,aa,Sf.disAt,br,cr,aA,ai,ae,af,List.length_cons,List.length_nil,List.getElem?_cons_zero,List.getElem?_cons_succ,List.all_cons,List.all_nil,List.drop_zero,List.drop_succ_cons,List.set_cons_zero,List.set_cons_succ,Int.cast_ofNat_Int,↓reduceIte,Nat.reduceEqDiff,Nat.reduceAdd,Nat.reduceLeDiff,Bool.true_and,Bool.and_true,and_true,true_and,reduceCtorEq,Nat.zero_add,Nat.add_zero,bH,IntWalk.u64_in,cu,cD,am,aj,f82_7e,f82_10e,f82_11e,f82_11l,f82_12e,f82_15e,f82_16e,f82_16l,f82_17e,f82_18e,f82_18h,f82_18l,hg,mO,hml,bF,bB]
    refine fc (b:=(v,0,0)) (hm.set hne) rfl rfl fun st2 hm2 ho2=>?_
    have hg2:st2.get q = some [.lit (.int .u64 0),.lit (.int .u64 0),.lit (.int .u64 ((g:Int) + 1)),.map mid]:=(ho2.get hqm).trans (cD hlt)
    have hlt2:q < st2.boxes.length:=c9 hg2
    simp (config:=KF) (disch:=omega) only [bZ,retI,resI,resL,aw,aq,aM,az,aG,ar,aS,boxX,aR,addA,ag,bW,au,aE,putS,Sf.set,Sf.reg,getR,setR,aa,Sf.disAt,aA,ae,af,aT,List.length_cons,List.length_nil,List.all_cons,List.all_nil,List.drop_zero,List.drop_succ_cons,List.set_cons_zero,List.set_cons_succ,↓reduceIte,Nat.reduceEqDiff,Nat.reduceAdd,Nat.reduceLeDiff,Bool.true_and,Bool.and_true,and_true,true_and,reduceCtorEq,Nat.zero_add,Nat.add_zero,decide_true,cu,cD,am,aj,set_set,f82_19e,f82_20e,f82_21e,f82_21l,f82_22e,f82_23e,f82_23l,f82_29e,f82_30e,f82_30l,f82_31e,f82_32e,f82_32l,hg2]
    have ho:Oth st (st2.set q [.lit (.int .u64 ((g:Int) + 1)),.lit (.int .u64 ((g:Int) + 1)),.lit (.int .u64 ((g:Int) + 1)),.map mid]) [q,mid]:=((Oth.set st q _ (by simp)).trans (ho2.mono (by simp))).trans (Oth.set _ _ _ (by simp))
    refine hQ _ _ ⟨rfl,h.push (v:=v) (m':=updP (g + 1:Nat) (v,0,0) m) (cD hlt2) (hm2.set hne) (fun t=>?_) ?_,ho⟩
    · rw [dA,hl t]
      simp only [List.nil_append,cd,bF]
      by_cases e:t = g + 1
      · subst e; simp
      · have:¬ (t:Int) = ((g + 1:Nat):Int):=by omega
        rw [if_neg this,if_neg e]
    · rw [fD,hl,dw hfr]
      simp [hml]
  · have hlm:=fd (p:=0) hL
    have hlp:=h.pos _ hlm
    obtain ⟨x,hx⟩:=gk (p:=0) hlm
    have hnil:=h.nil_iff
    have hL0:((bB 0 L:Int) = 0) = False:=by simp; omega
    have hlg:bB 0 L≠g + 1:=fun e=>hfr (e ▸ hlm)
    simp (config:=KF) (disch:=omega) only [bZ,dy,cp,dc,bV,bY,c8,oJ,bC,cf,and_self,aD,aw,aq,aM,cw,az,aG,lm,ar,aS,bstV,boxX,aR,addA,ag,bf,d4,ep,au,aE,putS,Sf.set,Sf.reg,getR,setR,aa,Sf.disAt,br,cr,aA,ai,ae,af,List.length_cons,List.length_nil,List.getElem?_cons_zero,List.getElem?_cons_succ,List.all_cons,List.all_nil,List.drop_zero,List.drop_succ_cons,List.set_cons_zero,List.set_cons_succ,↓reduceIte,Nat.reduceEqDiff,Nat.reduceAdd,Nat.reduceLeDiff,Bool.true_and,Bool.and_true,and_true,true_and,reduceCtorEq,Nat.zero_add,Nat.add_zero,bH,IntWalk.u64_in,cu,cD,am,aj,f82_7e,f82_10e,f82_11e,f82_11l,f82_12e,f82_15e,f82_16e,f82_16l,f82_17e,f82_18e,f82_18h,f82_18l,hg,mO,hml]
    refine fc (b:=(v,bB 0 L,0)) (hm.set hne) rfl rfl fun st2 hm2 ho2=>?_
    have hg2:st2.get q = some [.lit (.int .u64 (bF L 0:Nat)),.lit (.int .u64 (bB 0 L:Nat)),.lit (.int .u64 ((g:Int) + 1)),.map mid]:=(ho2.get hqm).trans (cD hlt)
    have hlt2:q < st2.boxes.length:=c9 hg2
    have hk:∀ z,de (.int .u64) z false st2 (.map mid) (.lit (.int .u64 (bB 0 L:Nat))) = .ok (ndAV x):=fun z=>by
      rw [d1 hm2,dA,if_neg (by omega),hl,hx]; rfl
    simp (config:=KF) (disch:=omega) only [bZ,List.contains_nil,List.contains_cons,Nat.reduceBEq,Bool.or_false,ksB,a9,bG,bO,bd,cG,co,nstB,bP,cU,Option.getD_none,dy,cp,dc,bV,bY,c8,fK,lL,bC,cf,iV,j8,aw,aq,aM,aG,lm,ar,aS,boxX,aR,addA,ag,ak,bW,ap,aH,au,aE,putS,Sf.set,Sf.reg,getR,setR,aa,Sf.disAt,Sf.newLoc,Sf.setLoc,look,bK,aU,br,cr,al,ah,aA,ai,ae,af,j5,bR,bM,iI,aY,List.length_cons,List.length_nil,List.all_cons,List.all_nil,List.nil_append,List.drop_zero,List.drop_succ_cons,List.take_succ_cons,List.take_zero,List.set_cons_zero,List.set_cons_succ,↓reduceIte,Nat.reduceEqDiff,Nat.reduceAdd,Nat.reduceLeDiff,Bool.true_and,Bool.and_true,and_true,true_and,reduceCtorEq,Nat.zero_add,Nat.add_zero,or_false,decide_true,decide_false,Bool.not_false,Bool.false_eq_true,cu,am,aj,f82_19e,f82_20e,f82_21e,f82_21l,f82_22e,f82_24e,f82_25e,f82_25h,f82_25l,f82_26e,f82_27e,f82_27l,f82_28e,f82_28h,f82_28l,hg2,hL0,hk,ndAV]
    refine fc (b:=(x.1,x.2.1,g + 1)) hm2 rfl rfl fun st3 hm3 ho3=>?_
    have hg3:st3.get q = some [.lit (.int .u64 (bF L 0:Nat)),.lit (.int .u64 (bB 0 L:Nat)),.lit (.int .u64 ((g:Int) + 1)),.map mid]:=(ho3.get hqm).trans hg2
    have hlt3:q < st3.boxes.length:=c9 hg3
    simp (config:=KF) (disch:=omega) only [bZ,retI,resI,resL,aw,aq,aM,az,aG,ar,aS,boxX,aR,addA,ag,au,aE,putS,Sf.set,Sf.reg,getR,setR,aa,Sf.disAt,aA,ae,af,aT,List.length_cons,List.length_nil,List.all_cons,List.all_nil,List.drop_zero,List.drop_succ_cons,List.set_cons_zero,List.set_cons_succ,↓reduceIte,Nat.reduceEqDiff,Nat.reduceAdd,Nat.reduceLeDiff,Bool.true_and,Bool.and_true,and_true,true_and,reduceCtorEq,Nat.zero_add,Nat.add_zero,cu,cD,am,aj,f82_29e,f82_30e,f82_30l,f82_31e,f82_32e,f82_32l,hg3]
    have ho:Oth st (st3.set q [.lit (.int .u64 (bF L 0:Nat)),.lit (.int .u64 ((g:Int) + 1)),.lit (.int .u64 ((g:Int) + 1)),.map mid]) [q,mid]:=(((Oth.set st q _ (by simp)).trans (ho2.mono (by simp))).trans (ho3.mono (by simp))).trans (Oth.set _ _ _ (by simp))
    have hnx:bF (L++[(g + 1,v)]) 0 = bF L 0:=by cases L with
      | nil=>exact absurd rfl hL
      | cons _ _=>rfl
    refine hQ _ _ ⟨rfl,h.push (v:=v) (by rw [hnx]; exact cD hlt3) (hm3.set hne) (fun t=>?_) ?_,ho⟩
    · rw [dA,dA,hl t,nodeA_push h.nd hfr hL]
      by_cases e:t = bB 0 L
      · subst e; simp [hx]
      · have e1:¬ (t:Int) = (bB 0 L:Nat):=by omega
        rw [if_neg e1,if_neg e]
        by_cases e2:t = g + 1
        · subst e2; simp
        · have e3:¬ (t:Int) = ((g + 1:Nat):Int):=by omega
          rw [if_neg e3,if_neg e2]
    · have h1:bt ((g + 1:Nat):Int) m = none:=by rw [hl,dw hfr]
      have h2:bt ((bB 0 L:Nat):Int) (updP ((g + 1:Nat):Int) (v,bB 0 L,0) m) = some x:=by rw [dA,if_neg (by omega),hl,hx]
      rw [fD,h2,fD,h1]
      simp [hml]

theorem jm {q mid g t:Nat} {v:Int} {A B:Qu} {st:St} (h:QIs st q mid (A++(t,v)::B) g) (hgb:g < 1000000) :
    aZ Go.Proofs.Try.prog n_f84 [.ptr q 0,.lit (.int .u64 (t:Nat))] st (fun r st'=>r = .tup [.lit (.int .i64 v),.lit (.int .i64 0)]∧QIs st' q mid (A++B) g∧Oth st st' [q,mid]):=by
  refine aX hmix k_f84 rfl rfl fun Q hQ=>?_
  unfold aFun c_f84
  obtain ⟨m,hm,hl,hml⟩:=h.mp
  have hg:=h.get
  have hne:=h.ne
  have hlt:=h.ltq
  have hnd:=h.nd
  have hqm:q ∉ [mid]:=by simp; exact fun e=>hne e.symm
  have h1:t ∉ bQ A∧t ∉ bQ B:=by
    rw [dI] at hnd
    obtain ⟨_,h2,h3⟩:=List.nodup_append.1 hnd
    exact ⟨fun e=>h3 t e t (by simp [bQ]) rfl,(List.nodup_cons.1 h2).1⟩
  have hat:=nodeA_at (v:=v) (B:=B) h1.1
  have hk:∀ z,de (.int .u64) z true st (.map mid) (.lit (.int .u64 (t:Nat))) = .ok (.tup [ndAV (v,bB 0 A,bF B 0),.lit (.bool true)]):=fun z=>by
    rw [d1 hm,hl,hat]; rfl
  have hposA:A≠[]→0 < bB 0 A:=fun e=>(h.pos _ (by rw [dI]; exact List.mem_append_left _ (fd e))).1
  have hposB:B≠[]→0 < bF B 0∧bF B 0 ∈ bQ B:=fun e=>by
    cases B with
    | nil=>exact absurd rfl e
    | cons x r=>exact ⟨(h.pos _ (by rw [dI]; simp [bQ,bF])).1,by simp [bQ,bF]⟩
  have hlx:∀ t':Nat,bt (t':Int) (delP (t:Int) m) = if t' = t then none else cd 0 (A++(t,v)::B) 0 t':=fun t'=>by
    rw [ka _ _ hm.nd,hl]
    by_cases e:t' = t
    · subst e; simp
    · have:¬ (t':Int) = (t:Int):=by omega
      rw [if_neg this,if_neg e]
  have hdel:(delP (t:Int) m).length = (A++B).length:=by
    rw [oK,hl,hat]; simp [hml]
  simp (config:=KF) (disch:=omega) only [bZ,ao,ev_f,putS,Sf.set,Sf.reg,getR,setR,aa,aO,id,↓reduceIte,Nat.reduceEqDiff,reduceCtorEq,Nat.zero_add,f84_1e,f84_2e,f84_2l,f84_3e,f84_4e,f84_5e,f84_5l]
  refine aF rfl e_f79 (eV hg) rfl ?_
  simp (config:=KF) (disch:=omega) only [bZ,o_un,bJ,aw,aq,aM,mF,az,bT,aG,o_del,extV,ar,aS,boxX,aR,addA,ag,unA,au,aE,putS,Sf.set,Sf.reg,getR,setR,aa,Sf.disAt,Sf.newLoc,Sf.setLoc,look,bK,aU,cr,al,bp,ah,bk,fZ,ai,ae,af,bR,bM,iI,aY,kill_tup,List.length_cons,List.length_nil,List.getElem?_cons_zero,List.getElem?_cons_succ,List.all_cons,List.all_nil,List.drop_zero,List.drop_succ_cons,List.set_cons_zero,List.set_cons_succ,↓reduceIte,Nat.reduceEqDiff,Nat.reduceAdd,Nat.reduceLeDiff,Bool.true_and,Bool.and_true,and_true,true_and,reduceCtorEq,Nat.zero_add,Bool.not_true,am,aj,f84_6e,f84_9e,f84_10e,f84_10l,f84_11e,f84_12e,f84_13e,f84_13l,f84_14e,f84_17e,f84_18e,f84_18l,hg,hk,ndAV]
  refine kc hm fun st2 hm2 ho2=>?_
  have hg2:st2.get q = _:=(ho2.get hqm).trans hg
  have hlt2:q < st2.boxes.length:=c9 hg2
  have hfin:∀ t':Nat,cd 0 (A++B) 0 t' = _:=fun t'=>nodeA_del (t:=t') hnd
  have hAB:∀ x ∈ bQ A,x ∉ bQ B:=by
    rw [dI] at hnd
    obtain ⟨_,h2,h3⟩:=List.nodup_append.1 hnd
    exact fun x hx hb=>h3 x hx x (by simp only [bQ,List.map_cons,List.mem_cons]; exact .inr hb) rfl
  by_cases hA:A = []
  · subst hA
    have e0:bB 0 ([]:Qu) = 0:=rfl
    by_cases hB:B = []
    · subst hB
      simp (config:=KF) (disch:=omega) only [bZ,retI,resI,resL,aw,aq,aM,az,aG,ar,aS,boxX,aR,addA,ag,bW,au,aE,putS,Sf.set,Sf.reg,getR,setR,aa,Sf.disAt,look,aA,ae,af,aT,List.length_cons,List.length_nil,List.all_cons,List.all_nil,List.nil_append,List.drop_zero,List.drop_succ_cons,List.set_cons_zero,List.set_cons_succ,Int.cast_ofNat_Int,↓reduceIte,Nat.reduceEqDiff,Nat.reduceAdd,Nat.reduceLeDiff,Bool.true_and,Bool.and_true,and_true,true_and,reduceCtorEq,Nat.zero_add,Nat.add_zero,decide_true,cD,am,aj,set_set,f84_19e,f84_20e,f84_21e,f84_21l,f84_22e,f84_23e,f84_23l,f84_29e,f84_30e,f84_31e,f84_31l,f84_32e,f84_33e,f84_33l,f84_39e,f84_40e,f84_40l,hg2,e0,bF]
      refine hQ _ _ ⟨rfl,h.del (A:=[]) (B:=[]) (m':=delP (t:Int) m) (cD hlt2) (hm2.set hne) (fun t'=>?_) hdel,(ho2.mono (by simp)).trans (Oth.set _ _ _ (by simp))⟩
      rw [hlx,hfin]
      by_cases e:t' = t
      · simp [e]
      · simp [e]
    · obtain ⟨hp,hw⟩:=hposB hB
      have hn0:((bF B 0:Int) = 0) = False:=by simp; omega
      have hnl:bF (([]:Qu)++(t,v)::B) 0 = t:=rfl
      have hll:bB 0 (([]:Qu)++(t,v)::B) = bB 0 B:=by rw [gS]; exact last_ne hB
      have hwt:bF B 0≠t:=fun e=>h1.2 (e ▸ hw)
      obtain ⟨y,hy⟩:=gk (L:=[]++(t,v)::B) (p:=0) (t:=bF B 0) (by rw [dI]; simp only [bQ,List.map_cons,List.mem_append,List.mem_cons]; exact .inr (.inr hw))
      have hk2:∀ z,de (.int .u64) z false (st2.set q [.lit (.int .u64 (bF B 0:Nat)),.lit (.int .u64 (bB 0 ((t,v)::B):Nat)),.lit (.int .u64 (g:Nat)),.map mid]) (.map mid) (.lit (.int .u64 (bF B 0:Nat))) = .ok (ndAV y):=fun z=>by
        rw [d1 (hm2.set hne),hlx,if_neg hwt,hy]; rfl
      simp only [e0]
      simp (config:=KF) (disch:=omega) only [bZ,List.contains_nil,List.contains_cons,Nat.reduceBEq,Bool.or_false,ksB,a9,bG,bO,bd,cG,co,nstB,bP,cU,Option.getD_none,dy,cp,dc,bV,bY,c8,fK,lL,bC,cf,iV,j8,aw,aq,aM,aG,lm,ar,aS,boxX,aR,addA,ag,ak,bW,ap,aH,au,aE,putS,Sf.set,Sf.reg,getR,setR,aa,Sf.disAt,Sf.newLoc,Sf.setLoc,look,bK,aU,br,cr,al,ah,aA,ai,ae,af,j5,bR,bM,aW,iI,aY,List.length_cons,List.length_nil,List.all_cons,List.all_nil,List.nil_append,List.drop_zero,List.drop_succ_cons,List.take_succ_cons,List.take_zero,List.set_cons_zero,List.set_cons_succ,Int.cast_ofNat_Int,↓reduceIte,Nat.reduceEqDiff,Nat.reduceAdd,Nat.reduceLeDiff,Bool.true_and,Bool.and_true,and_true,true_and,reduceCtorEq,Nat.zero_add,Nat.add_zero,or_false,decide_true,decide_false,Bool.not_false,Bool.false_eq_true,cD,am,aj,f84_19e,f84_20e,f84_21e,f84_21l,f84_22e,f84_23e,f84_23l,f84_29e,f84_30e,f84_31e,f84_31l,f84_32e,f84_34e,f84_35e,f84_35h,f84_35l,f84_36e,f84_37e,f84_37l,f84_38e,f84_38h,f84_38l,hg2,hn0,hk2,ndAV]
      refine fc (b:=(y.1,0,y.2.2)) (hm2.set hne) rfl rfl fun st3 hm3 ho3=>?_
      simp (config:=KF) (disch:=omega) only [bZ,retI,resI,resL,aw,aq,az,ar,addA,ag,putS,Sf.set,Sf.reg,getR,setR,aa,Sf.disAt,look,aT,List.all_cons,List.all_nil,List.drop_zero,↓reduceIte,Nat.reduceEqDiff,Bool.true_and,Bool.and_true,and_true,true_and,reduceCtorEq,Nat.add_zero,f84_39e,f84_40e,f84_40l]
      have hg3:st3.get q = some [.lit (.int .u64 (bF B 0:Nat)),.lit (.int .u64 (bB 0 ((t,v)::B):Nat)),.lit (.int .u64 (g:Nat)),.map mid]:=(ho3.get hqm).trans (cD hlt2)
      refine hQ _ _ ⟨rfl,h.del (A:=[]) (B:=B) (by rw [hg3,show bB 0 ((t,v)::B) = bB 0 B from hll]; rfl) hm3 (fun t'=>?_) ?_,((ho2.mono (by simp)).trans (Oth.set _ _ _ (by simp))).trans (ho3.mono (by simp))⟩
      · rw [dA,hlx,hfin]
        by_cases e:t' = t
        · subst e
          have:¬ (t':Int) = (bF B 0:Nat):=by omega
          rw [if_neg this,if_pos rfl,if_pos rfl]
        · by_cases e2:t' = bF B 0
          · subst e2
            rw [if_pos rfl,if_neg hwt,if_neg (fun q=>q.1 rfl),if_pos ⟨hB,rfl⟩,hy]; rfl
          · have:¬ (t':Int) = (bF B 0:Nat):=by omega
            rw [if_neg this,if_neg e,if_neg e,if_neg (fun q=>q.1 rfl),if_neg (fun q=>e2 q.2)]
      · rw [fD,hlx,if_neg hwt,hy]; simpa using hdel
  · have hp:=hposA hA
    have hb0:((bB 0 A:Int) = 0) = False:=by simp; omega
    have hbm:=fd (p:=0) hA
    have hbt:bB 0 A≠t:=fun e=>h1.1 (e ▸ hbm)
    have hnl:bF (A++(t,v)::B) 0 = bF A 0:=by cases A with
      | nil=>exact absurd rfl hA
      | cons _ _=>rfl
    have hnl2:bF (A++B) 0 = bF A 0:=by cases A with
      | nil=>exact absurd rfl hA
      | cons _ _=>rfl
    obtain ⟨y,hy⟩:=gk (L:=A++(t,v)::B) (p:=0) (t:=bB 0 A) (by rw [dI]; exact List.mem_append_left _ hbm)
    have hk2:∀ z,de (.int .u64) z false st2 (.map mid) (.lit (.int .u64 (bB 0 A:Nat))) = .ok (ndAV y):=fun z=>by
      rw [d1 hm2,hlx,if_neg hbt,hy]; rfl
    simp (config:=KF) (disch:=omega) only [bZ,List.contains_nil,List.contains_cons,Nat.reduceBEq,Bool.or_false,ksB,a9,bG,bO,bd,cG,co,nstB,bP,cU,Option.getD_none,dy,cp,dc,bV,bY,c8,fK,lL,bC,cf,iV,j8,aw,aq,aG,lm,ar,aS,boxX,aR,addA,ag,ak,bW,ap,aH,au,aE,putS,Sf.set,Sf.reg,getR,setR,aa,Sf.disAt,Sf.newLoc,Sf.setLoc,look,bK,aU,br,cr,al,ah,aA,ai,ae,af,j5,bR,bM,aW,iI,aY,List.length_cons,List.length_nil,List.all_cons,List.all_nil,List.nil_append,List.drop_zero,List.drop_succ_cons,List.take_succ_cons,List.take_zero,List.set_cons_zero,List.set_cons_succ,↓reduceIte,Nat.reduceEqDiff,Nat.reduceAdd,Nat.reduceLeDiff,Bool.true_and,Bool.and_true,and_true,true_and,reduceCtorEq,Nat.zero_add,or_false,decide_true,decide_false,Bool.not_false,Bool.false_eq_true,am,aj,f84_19e,f84_20e,f84_21e,f84_21l,f84_22e,f84_24e,f84_25e,f84_25h,f84_25l,f84_26e,f84_27e,f84_27l,f84_28e,f84_28h,f84_28l,hg2,hb0,hk2,ndAV]
    refine fc (b:=(y.1,y.2.1,bF B 0)) hm2 rfl rfl fun st3 hm3 ho3=>?_
    have hg3:st3.get q = _:=(ho3.get hqm).trans hg2
    have hlt3:q < st3.boxes.length:=c9 hg3
    have hl3:∀ t':Nat,bt (t':Int) (updP ((bB 0 A:Nat):Int) (y.1,y.2.1,bF B 0) (delP (t:Int) m)) = if t' = bB 0 A then some (y.1,y.2.1,bF B 0) else if t' = t then none else cd 0 (A++(t,v)::B) 0 t':=fun t'=>by
      rw [dA,hlx]
      by_cases e:t' = bB 0 A
      · subst e; simp
      · have:¬ (t':Int) = (bB 0 A:Nat):=by omega
        rw [if_neg this,if_neg e]
    have hn3:(updP ((bB 0 A:Nat):Int) (y.1,y.2.1,bF B 0) (delP (t:Int) m)).length = (A++B).length:=by
      rw [fD,hlx,if_neg hbt,hy]; simpa using hdel
    by_cases hB:B = []
    · subst hB
      simp (config:=KF) (disch:=omega) only [bZ,retI,resI,resL,aw,aq,aM,az,aG,ar,aS,boxX,aR,addA,ag,bW,au,aE,putS,Sf.set,Sf.reg,getR,setR,aa,Sf.disAt,look,aA,ae,af,aT,List.length_cons,List.length_nil,List.all_cons,List.all_nil,List.drop_zero,List.drop_succ_cons,List.set_cons_zero,List.set_cons_succ,Int.cast_ofNat_Int,↓reduceIte,Nat.reduceEqDiff,Nat.reduceAdd,Nat.reduceLeDiff,Bool.true_and,Bool.and_true,and_true,true_and,reduceCtorEq,Nat.zero_add,Nat.add_zero,decide_true,am,aj,f84_29e,f84_30e,f84_31e,f84_31l,f84_32e,f84_33e,f84_33l,f84_39e,f84_40e,f84_40l,hg3,bF]
      refine hQ _ _ ⟨rfl,h.del (A:=A) (B:=[]) (by rw [hnl2,← hnl,gS]; exact cD hlt3) (hm3.set hne) (fun t'=>?_) hn3,((ho2.mono (by simp)).trans (ho3.mono (by simp))).trans (Oth.set _ _ _ (by simp))⟩
      rw [hl3,hfin]
      by_cases e:t' = bB 0 A
      · subst e; simp [hbt,hA,hy,bF]
      · simp [e]
    · obtain ⟨hpb,hw⟩:=hposB hB
      have hn0:((bF B 0:Int) = 0) = False:=by simp; omega
      have hll:bB 0 (A++(t,v)::B) = bB 0 (A++B):=by rw [gS,gS]; exact last_ne hB
      have hwt:bF B 0≠t:=fun e=>h1.2 (e ▸ hw)
      have hwb:bF B 0≠bB 0 A:=fun e=>hAB _ hbm (e ▸ hw)
      obtain ⟨x,hx⟩:=gk (L:=A++(t,v)::B) (p:=0) (t:=bF B 0) (by rw [dI]; simp only [bQ,List.map_cons,List.mem_append,List.mem_cons]; exact .inr (.inr hw))
      have hk3:∀ z,de (.int .u64) z false st3 (.map mid) (.lit (.int .u64 (bF B 0:Nat))) = .ok (ndAV x):=fun z=>by
        rw [d1 hm3,hl3,if_neg hwb,if_neg hwt,hx]; rfl
      simp (config:=KF) (disch:=omega) only [bZ,List.contains_nil,List.contains_cons,Nat.reduceBEq,Bool.or_false,ksB,a9,bG,bO,bd,cG,co,nstB,bP,cU,Option.getD_none,dy,cp,dc,bV,bY,c8,fK,lL,bC,cf,iV,j8,aw,aq,aG,lm,ar,aS,boxX,aR,addA,ag,ak,bW,ap,aH,au,aE,putS,Sf.set,Sf.reg,getR,setR,aa,Sf.disAt,Sf.newLoc,Sf.setLoc,look,bK,aU,br,cr,al,ah,aA,ai,ae,af,j5,bR,bM,aW,iI,aY,List.length_cons,List.length_nil,List.all_cons,List.all_nil,List.nil_append,List.drop_zero,List.drop_succ_cons,List.take_succ_cons,List.take_zero,List.set_cons_zero,List.set_cons_succ,↓reduceIte,Nat.reduceEqDiff,Nat.reduceAdd,Nat.reduceLeDiff,Bool.true_and,Bool.and_true,and_true,true_and,reduceCtorEq,Nat.zero_add,or_false,decide_true,decide_false,Bool.not_false,Bool.false_eq_true,am,aj,f84_29e,f84_30e,f84_31e,f84_31l,f84_32e,f84_34e,f84_35e,f84_35h,f84_35l,f84_36e,f84_37e,f84_37l,f84_38e,f84_38h,f84_38l,hg3,hn0,hk3,ndAV]
      refine fc (b:=(x.1,bB 0 A,x.2.2)) hm3 rfl rfl fun st4 hm4 ho4=>?_
      simp (config:=KF) (disch:=omega) only [bZ,retI,resI,resL,aw,aq,az,ar,addA,ag,putS,Sf.set,Sf.reg,getR,setR,aa,Sf.disAt,look,aT,List.all_cons,List.all_nil,List.drop_zero,↓reduceIte,Nat.reduceEqDiff,Bool.true_and,Bool.and_true,and_true,true_and,reduceCtorEq,Nat.add_zero,f84_39e,f84_40e,f84_40l]
      have hg4:st4.get q = _:=(ho4.get hqm).trans hg3
      refine hQ _ _ ⟨rfl,h.del (A:=A) (B:=B) (by rw [hnl2,← hnl,← hll]; exact hg4) hm4 (fun t'=>?_) ?_,((ho2.mono (by simp)).trans (ho3.mono (by simp))).trans (ho4.mono (by simp))⟩
      · rw [dA,hl3,hfin]
        by_cases e2:t' = bF B 0
        · subst e2; simp [hwt,hwb,hB,hx]
        · have:¬ (t':Int) = (bF B 0:Nat):=by omega
          rw [if_neg this]
          by_cases e:t' = bB 0 A
          · subst e; simp [hbt,hA,hy]
          · simp [e,e2]
      · rw [fD,hl3,if_neg hwb,if_neg hwt,hx]; simpa using hn3

theorem qpop_nil {q mid g:Nat} {st:St} (h:QIs st q mid [] g) :
    aZ Go.Proofs.Try.prog n_f86 [.ptr q 0] st (fun r st'=>r = .tup [.lit (.int .i64 0),.lit (.int .u64 0),.lit (.int .i64 9)]∧st' = st):=by
  refine aX hmix k_f86 rfl rfl fun Q hQ=>?_
  unfold aFun c_f86
  simp (config:=KF) (disch:=omega) only [bZ,ao,ev_f,putS,Sf.set,Sf.reg,getR,setR,aa,aO,id,↓reduceIte,Nat.reduceEqDiff,reduceCtorEq,f86_1e,f86_2e,f86_2l,f86_3e,f86_4e,f86_4l]
  refine aF rfl e_f88 (lw h) rfl ?_
  simp (config:=KF) (disch:=omega) only [bZ,retI,resI,resL,bJ,az,extV,bW,putS,Sf.set,Sf.reg,getR,setR,aa,Sf.disAt,bp,bk,aT,List.getElem?_cons_zero,List.getElem?_cons_succ,List.all_cons,List.all_nil,↓reduceIte,Nat.reduceEqDiff,Int.reduceEq,Bool.true_and,Bool.and_true,and_true,true_and,reduceCtorEq,decide_false,f86_5e,f86_6e,f86_7e,f86_7l,f86_8e,f86_10e,f86_11e,f86_11l]
  exact hQ _ _ ⟨rfl,rfl⟩

theorem qpop_calls {q mid g t:Nat} {v:Int} {B:Qu} {st:St} (h:QIs st q mid ((t,v)::B) g) (hgb:g < 1000000) :
    aZ Go.Proofs.Try.prog n_f86 [.ptr q 0] st (fun r st'=>r = .tup [.lit (.int .i64 v),.lit (.int .u64 (t:Nat)),.lit (.int .i64 0)]∧QIs st' q mid B g∧Oth st st' [q,mid]):=by
  refine aX hmix k_f86 rfl rfl fun Q hQ=>?_
  unfold aFun c_f86
  simp (config:=KF) (disch:=omega) only [bZ,ao,ev_f,putS,Sf.set,Sf.reg,getR,setR,aa,aO,id,↓reduceIte,Nat.reduceEqDiff,reduceCtorEq,f86_1e,f86_2e,f86_2l,f86_3e,f86_4e,f86_4l]
  refine aF rfl e_f88 (lw h) rfl ?_
  simp (config:=KF) (disch:=omega) only [bZ,bJ,az,ao,extV,bW,ev_f,putS,Sf.set,Sf.reg,getR,setR,aa,Sf.disAt,id,bp,bk,List.getElem?_cons_zero,List.getElem?_cons_succ,↓reduceIte,Nat.reduceEqDiff,reduceCtorEq,decide_true,f86_5e,f86_6e,f86_7e,f86_7l,f86_8e,f86_9e,f86_9l]
  refine ba rfl e_f84 (jm (A:=[]) h hgb) rfl fun r st' hr=>?_
  obtain ⟨rfl,h1,h2⟩:=hr
  simp (config:=KF) (disch:=omega) only [bZ,retI,resI,resL,az,putS,Sf.set,Sf.reg,getR,setR,aa,Sf.disAt,aT,List.all_cons,List.all_nil,↓reduceIte,Nat.reduceEqDiff,Bool.true_and,Bool.and_true,and_true,true_and,reduceCtorEq,f86_10e,f86_11e,f86_11l]
  exact hQ _ _ ⟨rfl,h1,h2⟩
end Go.Fx.YtphaaebhgggbaaaFx

