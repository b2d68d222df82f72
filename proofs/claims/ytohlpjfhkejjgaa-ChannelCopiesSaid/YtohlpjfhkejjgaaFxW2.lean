/- What the functions that the statement reaches compute: part 2. -/
import Derived.Test.YtohlpjfhkejjgaaFxW1
namespace Go.Fx.YtohlpjfhkejjgaaFx
open Go Go.Fx
attribute [local irreducible] aC runI aY cF

set_option maxRecDepth 100000
set_option maxHeartbeats 4000000

theorem ld {q mid g:Nat} {L:Qu} {v:Int} {st:St} (h:QIs st q mid L g) (hlen:L.length < 4096) (hgb:g < 1000000) :
    bj Go.Proofs.Try.prog n_f48 [.ptr q 0,.lit (.int .i64 v)] st (fun r st'=>r = .tup [.lit (.int .u64 ((g + 1:Nat))),.lit (.int .i64 0)]∧QIs st' q mid (L++[(g + 1,v)]) (g + 1)∧Oth st st' [q,mid]):=by
  refine bf hmix k_f48 rfl rfl fun Q hQ=>?_
  unfold aFun c_f48
  obtain ⟨m,hm,hl,hml⟩:=h.mp
  have hg:=h.get
  have hne:=h.ne
  have hlt:=h.ltq
  have hfr:=h.fresh
  have hnq:mid ∉ [q]:=by simp [hne]
  have hqm:q ∉ [mid]:=by simp; exact fun e=>hne e.symm
  simp (config:=KF) (disch:=omega) only [bZ,az,ev_f,putS,Sf.set,Sf.reg,getR,setR,ae,bt,id,↓reduceIte,Nat.reduceEqDiff,reduceCtorEq,Nat.zero_add,f48_1e,f48_2e,f48_2l,f48_3e,f48_4e,f48_5e,f48_6e,f48_6l]
  refine bA rfl e_f41 (eU hg) rfl ?_
  by_cases hL:L = []
  · subst hL
    simp (config:=KF) (disch:=omega) only [bZ,da,cd,cX,cJ,cc,dz,mr,bp,tail_nil,and_self,aV,aD,aq,a8,cM,aA,aF,jL,au,aZ,bstV,boxX,aM,addA,ak,aQ,eI,ik,ap,aE,putS,Sf.set,Sf.reg,getR,setR,ae,Sf.disAt,bk,cb,ar,ag,aa,ai,List.length_cons,List.length_nil,List.getElem?_cons_zero,List.getElem?_cons_succ,List.all_cons,List.all_nil,List.drop_zero,List.drop_succ_cons,List.set_cons_zero,List.set_cons_succ,Int.cast_ofNat_Int,↓reduceIte,Nat.reduceEqDiff,Nat.reduceAdd,Nat.reduceLeDiff,Bool.true_and,Bool.and_true,and_true,true_and,reduceCtorEq,Nat.zero_add,Nat.add_zero,cB,IntWalk.u64_in,dV,cp,ah,af,f48_7e,f48_10e,f48_11e,f48_11l,f48_12e,f48_15e,f48_16e,f48_16l,f48_17e,f48_18e,f48_18h,f48_18l,hg,my,hml,bH,bC]
    refine eE (b:=(v,0,0)) (hm.set hne) rfl rfl fun st2 hm2 ho2=>?_
    have hg2:st2.get q = some [.lit (.int .u64 0),.lit (.int .u64 0),.lit (.int .u64 ((g:Int) + 1)),.map mid]:=(ho2.get hqm).trans (cp hlt)
    have hlt2:q < st2.boxes.length:=db hg2
    simp (config:=KF) (disch:=omega) only [bZ,retI,resI,resL,aD,aq,a8,aA,aF,au,aZ,boxX,aM,addA,ak,bR,ap,aE,putS,Sf.set,Sf.reg,getR,setR,ae,Sf.disAt,ar,aa,ai,aJ,List.length_cons,List.length_nil,List.all_cons,List.all_nil,List.drop_zero,List.drop_succ_cons,List.set_cons_zero,List.set_cons_succ,↓reduceIte,Nat.reduceEqDiff,Nat.reduceAdd,Nat.reduceLeDiff,Bool.true_and,Bool.and_true,and_true,true_and,reduceCtorEq,Nat.zero_add,Nat.add_zero,decide_true,dV,cp,ah,af,ly,f48_19e,f48_20e,f48_21e,f48_21l,f48_22e,f48_23e,f48_23l,f48_29e,f48_30e,f48_30l,f48_31e,f48_32e,f48_32l,hg2]
    have ho:Oth st (st2.set q [.lit (.int .u64 ((g:Int) + 1)),.lit (.int .u64 ((g:Int) + 1)),.lit (.int .u64 ((g:Int) + 1)),.map mid]) [q,mid]:=((Oth.set st q _ (by simp)).trans (ho2.mono (by simp))).trans (Oth.set _ _ _ (by simp))
    refine hQ _ _ ⟨rfl,h.push (v:=v) (m':=updP (g + 1:Nat) (v,0,0) m) (cp hlt2) (hm2.set hne) (fun t=>?_) ?_,ho⟩
    · rw [dk,hl t]
      simp only [List.nil_append,ca,bH]
      by_cases e:t = g + 1
      · subst e; simp
      · have:¬ (t:Int) = ((g + 1:Nat):Int):=by omega
        rw [if_neg this,if_neg e]
    · rw [fj,hl,dv hfr]
      simp [hml]
  · have hlm:=e7 (p:=0) hL
    have hlp:=h.pos _ hlm
    obtain ⟨x,hx⟩:=fP (p:=0) hlm
    have hnil:=h.nil_iff
    have hL0:((bC 0 L:Int) = 0) = False:=by simp; omega
    have hlg:bC 0 L≠g + 1:=fun e=>hfr (e ▸ hlm)
    simp (config:=KF) (disch:=omega) only [bZ,da,cd,cX,cJ,cc,dz,mr,bp,tail_nil,and_self,aV,aD,aq,a8,cM,aA,aF,jL,au,aZ,bstV,boxX,aM,addA,ak,aQ,eI,ik,ap,aE,putS,Sf.set,Sf.reg,getR,setR,ae,Sf.disAt,bk,cb,ar,ag,aa,ai,List.length_cons,List.length_nil,List.getElem?_cons_zero,List.getElem?_cons_succ,List.all_cons,List.all_nil,List.drop_zero,List.drop_succ_cons,List.set_cons_zero,List.set_cons_succ,↓reduceIte,Nat.reduceEqDiff,Nat.reduceAdd,Nat.reduceLeDiff,Bool.true_and,Bool.and_true,and_true,true_and,reduceCtorEq,Nat.zero_add,Nat.add_zero,cB,IntWalk.u64_in,dV,cp,ah,af,f48_7e,f48_10e,f48_11e,f48_11l,f48_12e,f48_15e,f48_16e,f48_16l,f48_17e,f48_18e,f48_18h,f48_18l,hg,my,hml]
    refine eE (b:=(v,bC 0 L,0)) (hm.set hne) rfl rfl fun st2 hm2 ho2=>?_
    have hg2:st2.get q = some [.lit (.int .u64 (bH L 0:Nat)),.lit (.int .u64 (bC 0 L:Nat)),.lit (.int .u64 ((g:Int) + 1)),.map mid]:=(ho2.get hqm).trans (cp hlt)
    have hlt2:q < st2.boxes.length:=db hg2
    have hk:∀ z,cW (.int .u64) z false st2 (.map mid) (.lit (.int .u64 (bC 0 L:Nat))) = .ok (ndAV x):=fun z=>by
      rw [dl hm2,dk,if_neg (by omega),hl,hx]; rfl
    simp (config:=KF) (disch:=omega) only [bZ,List.contains_nil,List.contains_cons,Nat.reduceBEq,Bool.or_false,ksB,bz,bY,ci,bG,cO,cu,nstB,ck,cS,Option.getD_none,da,cd,cX,cJ,cc,dz,gy,jR,bp,tail_nil,eX,io,aD,aq,a8,aF,jL,au,aZ,boxX,aM,addA,ak,al,bR,am,aG,ap,aE,putS,Sf.set,Sf.reg,getR,setR,ae,Sf.disAt,Sf.newLoc,Sf.setLoc,look,bW,aR,bk,cb,ao,aj,ar,ag,aa,ai,ij,bD,cn,ey,aX,List.length_cons,List.length_nil,List.all_cons,List.all_nil,List.nil_append,List.drop_zero,List.drop_succ_cons,List.take_succ_cons,List.take_zero,List.set_cons_zero,List.set_cons_succ,↓reduceIte,Nat.reduceEqDiff,Nat.reduceAdd,Nat.reduceLeDiff,Bool.true_and,Bool.and_true,and_true,true_and,reduceCtorEq,Nat.zero_add,Nat.add_zero,or_false,decide_true,decide_false,Bool.not_false,Bool.false_eq_true,dV,ah,af,f48_19e,f48_20e,f48_21e,f48_21l,f48_22e,f48_24e,f48_25e,f48_25h,f48_25l,f48_26e,f48_27e,f48_27l,f48_28e,f48_28h,f48_28l,hg2,hL0,hk,ndAV]
    refine eE (b:=(x.1,x.2.1,g + 1)) hm2 rfl rfl fun st3 hm3 ho3=>?_
    have hg3:st3.get q = some [.lit (.int .u64 (bH L 0:Nat)),.lit (.int .u64 (bC 0 L:Nat)),.lit (.int .u64 ((g:Int) + 1)),.map mid]:=(ho3.get hqm).trans hg2
    have hlt3:q < st3.boxes.length:=db hg3
    simp (config:=KF) (disch:=omega) only [bZ,retI,resI,resL,aD,aq,a8,aA,aF,au,aZ,boxX,aM,addA,ak,ap,aE,putS,Sf.set,Sf.reg,getR,setR,ae,Sf.disAt,ar,aa,ai,aJ,List.length_cons,List.length_nil,List.all_cons,List.all_nil,List.drop_zero,List.drop_succ_cons,List.set_cons_zero,List.set_cons_succ,↓reduceIte,Nat.reduceEqDiff,Nat.reduceAdd,Nat.reduceLeDiff,Bool.true_and,Bool.and_true,and_true,true_and,reduceCtorEq,Nat.zero_add,Nat.add_zero,dV,cp,ah,af,f48_29e,f48_30e,f48_30l,f48_31e,f48_32e,f48_32l,hg3]
    have ho:Oth st (st3.set q [.lit (.int .u64 (bH L 0:Nat)),.lit (.int .u64 ((g:Int) + 1)),.lit (.int .u64 ((g:Int) + 1)),.map mid]) [q,mid]:=(((Oth.set st q _ (by simp)).trans (ho2.mono (by simp))).trans (ho3.mono (by simp))).trans (Oth.set _ _ _ (by simp))
    have hnx:bH (L++[(g + 1,v)]) 0 = bH L 0:=by cases L with
      | nil=>exact absurd rfl hL
      | cons _ _=>rfl
    refine hQ _ _ ⟨rfl,h.push (v:=v) (by rw [hnx]; exact cp hlt3) (hm3.set hne) (fun t=>?_) ?_,ho⟩
    · rw [dk,dk,hl t,nodeA_push h.nd hfr hL]
      by_cases e:t = bC 0 L
      · subst e; simp [hx]
      · have e1:¬ (t:Int) = (bC 0 L:Nat):=by omega
        rw [if_neg e1,if_neg e]
        by_cases e2:t = g + 1
        · subst e2; simp
        · have e3:¬ (t:Int) = ((g + 1:Nat):Int):=by omega
          rw [if_neg e3,if_neg e2]
    · have h1:bB ((g + 1:Nat):Int) m = none:=by rw [hl,dv hfr]
      have h2:bB ((bC 0 L:Nat):Int) (updP ((g + 1:Nat):Int) (v,bC 0 L,0) m) = some x:=by rw [dk,if_neg (by omega),hl,hx]
      rw [fj,h2,fj,h1]
      simp [hml]

theorem gf {q mid g t:Nat} {v:Int} {A B:Qu} {st:St} (h:QIs st q mid (A++(t,v)::B) g) (hgb:g < 1000000) :
    bj Go.Proofs.Try.prog n_f40 [.ptr q 0,.lit (.int .u64 (t:Nat))] st (fun r st'=>r = .tup [.lit (.int .i64 v),.lit (.int .i64 0)]∧QIs st' q mid (A++B) g∧Oth st st' [q,mid]):=by
  refine bf hmix k_f40 rfl rfl fun Q hQ=>?_
  unfold aFun c_f40
  obtain ⟨m,hm,hl,hml⟩:=h.mp
  have hg:=h.get
  have hne:=h.ne
  have hlt:=h.ltq
  have hnd:=h.nd
  have hqm:q ∉ [mid]:=by simp; exact fun e=>hne e.symm
  have h1:t ∉ bL A∧t ∉ bL B:=by
    rw [dH] at hnd
    obtain ⟨_,h2,h3⟩:=List.nodup_append.1 hnd
    exact ⟨fun e=>h3 t e t (by simp [bL]) rfl,(List.nodup_cons.1 h2).1⟩
  have hat:=nodeA_at (v:=v) (B:=B) h1.1
  have hk:∀ z,cW (.int .u64) z true st (.map mid) (.lit (.int .u64 (t:Nat))) = .ok (.tup [ndAV (v,bC 0 A,bH B 0),.lit (.bool true)]):=fun z=>by
    rw [dl hm,hl,hat]; rfl
  have hposA:A≠[]→0 < bC 0 A:=fun e=>(h.pos _ (by rw [dH]; exact List.mem_append_left _ (e7 e))).1
  have hposB:B≠[]→0 < bH B 0∧bH B 0 ∈ bL B:=fun e=>by
    cases B with
    | nil=>exact absurd rfl e
    | cons x r=>exact ⟨(h.pos _ (by rw [dH]; simp [bL,bH])).1,by simp [bL,bH]⟩
  have hlx:∀ t':Nat,bB (t':Int) (delP (t:Int) m) = if t' = t then none else ca 0 (A++(t,v)::B) 0 t':=fun t'=>by
    rw [gA _ _ hm.nd,hl]
    by_cases e:t' = t
    · subst e; simp
    · have:¬ (t':Int) = (t:Int):=by omega
      rw [if_neg this,if_neg e]
  have hdel:(delP (t:Int) m).length = (A++B).length:=by
    rw [oN,hl,hat]; simp [hml]
  simp (config:=KF) (disch:=omega) only [bZ,az,ev_f,putS,Sf.set,Sf.reg,getR,setR,ae,bt,id,↓reduceIte,Nat.reduceEqDiff,reduceCtorEq,Nat.zero_add,f40_1e,f40_2e,f40_2l,f40_3e,f40_4e,f40_5e,f40_5l]
  refine bA rfl e_f41 (eU hg) rfl ?_
  simp (config:=KF) (disch:=omega) only [bZ,o_un,bP,aD,aq,a8,fG,aA,cm,aF,o_del,extV,au,aZ,boxX,aM,addA,ak,unA,ap,aE,putS,Sf.set,Sf.reg,getR,setR,ae,Sf.disAt,Sf.newLoc,Sf.setLoc,look,bW,aR,cb,ao,bg,aj,aU,c6,ag,aa,ai,bD,cn,ey,aX,c7,List.length_cons,List.length_nil,List.getElem?_cons_zero,List.getElem?_cons_succ,List.all_cons,List.all_nil,List.drop_zero,List.drop_succ_cons,List.set_cons_zero,List.set_cons_succ,↓reduceIte,Nat.reduceEqDiff,Nat.reduceAdd,Nat.reduceLeDiff,Bool.true_and,Bool.and_true,and_true,true_and,reduceCtorEq,Nat.zero_add,Bool.not_true,ah,af,f40_6e,f40_9e,f40_10e,f40_10l,f40_11e,f40_12e,f40_13e,f40_13l,f40_14e,f40_17e,f40_18e,f40_18l,hg,hk,ndAV]
  refine iq hm fun st2 hm2 ho2=>?_
  have hg2:st2.get q = _:=(ho2.get hqm).trans hg
  have hlt2:q < st2.boxes.length:=db hg2
  have hfin:∀ t':Nat,ca 0 (A++B) 0 t' = _:=fun t'=>nodeA_del (t:=t') hnd
  have hAB:∀ x ∈ bL A,x ∉ bL B:=by
    rw [dH] at hnd
    obtain ⟨_,h2,h3⟩:=List.nodup_append.1 hnd
    exact fun x hx hb=>h3 x hx x (by simp only [bL,List.map_cons,List.mem_cons]; exact .inr hb) rfl
  by_cases hA:A = []
  · subst hA
    have e0:bC 0 ([]:Qu) = 0:=rfl
    by_cases hB:B = []
    · subst hB
      simp (config:=KF) (disch:=omega) only [bZ,retI,resI,resL,aD,aq,a8,aA,aF,au,aZ,boxX,aM,addA,ak,bR,ap,aE,putS,Sf.set,Sf.reg,getR,setR,ae,Sf.disAt,look,ar,aa,ai,aJ,List.length_cons,List.length_nil,List.all_cons,List.all_nil,List.nil_append,List.drop_zero,List.drop_succ_cons,List.set_cons_zero,List.set_cons_succ,Int.cast_ofNat_Int,↓reduceIte,Nat.reduceEqDiff,Nat.reduceAdd,Nat.reduceLeDiff,Bool.true_and,Bool.and_true,and_true,true_and,reduceCtorEq,Nat.zero_add,Nat.add_zero,decide_true,cp,ah,af,ly,f40_19e,f40_20e,f40_21e,f40_21l,f40_22e,f40_23e,f40_23l,f40_29e,f40_30e,f40_31e,f40_31l,f40_32e,f40_33e,f40_33l,f40_39e,f40_40e,f40_40l,hg2,e0,bH]
      refine hQ _ _ ⟨rfl,h.del (A:=[]) (B:=[]) (m':=delP (t:Int) m) (cp hlt2) (hm2.set hne) (fun t'=>?_) hdel,(ho2.mono (by simp)).trans (Oth.set _ _ _ (by simp))⟩
      rw [hlx,hfin]
      by_cases e:t' = t
      · simp [e]
      · simp [e]
    · obtain ⟨hp,hw⟩:=hposB hB
      have hn0:((bH B 0:Int) = 0) = False:=by simp; omega
      have hnl:bH (([]:Qu)++(t,v)::B) 0 = t:=rfl
      have hll:bC 0 (([]:Qu)++(t,v)::B) = bC 0 B:=by rw [gC]; exact last_ne hB
      have hwt:bH B 0≠t:=fun e=>h1.2 (e ▸ hw)
      obtain ⟨y,hy⟩:=fP (L:=[]++(t,v)::B) (p:=0) (t:=bH B 0) (by rw [dH]; simp only [bL,List.map_cons,List.mem_append,List.mem_cons]; exact .inr (.inr hw))
      have hk2:∀ z,cW (.int .u64) z false (st2.set q [.lit (.int .u64 (bH B 0:Nat)),.lit (.int .u64 (bC 0 ((t,v)::B):Nat)),.lit (.int .u64 (g:Nat)),.map mid]) (.map mid) (.lit (.int .u64 (bH B 0:Nat))) = .ok (ndAV y):=fun z=>by
        rw [dl (hm2.set hne),hlx,if_neg hwt,hy]; rfl
      simp only [e0]
      simp (config:=KF) (disch:=omega) only [bZ,List.contains_nil,List.contains_cons,Nat.reduceBEq,Bool.or_false,ksB,bz,bY,ci,bG,cO,cu,nstB,ck,cS,Option.getD_none,da,cd,cX,cJ,cc,dz,gy,jR,bp,tail_nil,eX,io,aD,aq,a8,aF,jL,au,aZ,boxX,aM,addA,ak,al,bR,am,aG,ap,aE,putS,Sf.set,Sf.reg,getR,setR,ae,Sf.disAt,Sf.newLoc,Sf.setLoc,look,bW,aR,bk,cb,ao,aj,ar,ag,aa,ai,ij,bD,cn,bO,ey,aX,List.length_cons,List.length_nil,List.all_cons,List.all_nil,List.nil_append,List.drop_zero,List.drop_succ_cons,List.take_succ_cons,List.take_zero,List.set_cons_zero,List.set_cons_succ,Int.cast_ofNat_Int,↓reduceIte,Nat.reduceEqDiff,Nat.reduceAdd,Nat.reduceLeDiff,Bool.true_and,Bool.and_true,and_true,true_and,reduceCtorEq,Nat.zero_add,Nat.add_zero,or_false,decide_true,decide_false,Bool.not_false,Bool.false_eq_true,cp,ah,af,f40_19e,f40_20e,f40_21e,f40_21l,f40_22e,f40_23e,f40_23l,f40_29e,f40_30e,f40_31e,f40_31l,f40_32e,f40_34e,f40_35e,f40_35h,f40_35l,f40_36e,f40_37e,f40_37l,f40_38e,f40_38h,f40_38l,hg2,hn0,hk2,ndAV]
      refine eE (b:=(y.1,0,y.2.2)) (hm2.set hne) rfl rfl fun st3 hm3 ho3=>?_
      simp (config:=KF) (disch:=omega) only [bZ,retI,resI,resL,aD,aq,aA,au,addA,ak,putS,Sf.set,Sf.reg,getR,setR,ae,Sf.disAt,look,aJ,List.all_cons,List.all_nil,List.drop_zero,↓reduceIte,Nat.reduceEqDiff,Bool.true_and,Bool.and_true,and_true,true_and,reduceCtorEq,Nat.add_zero,f40_39e,f40_40e,f40_40l]
      have hg3:st3.get q = some [.lit (.int .u64 (bH B 0:Nat)),.lit (.int .u64 (bC 0 ((t,v)::B):Nat)),.lit (.int .u64 (g:Nat)),.map mid]:=(ho3.get hqm).trans (cp hlt2)
      refine hQ _ _ ⟨rfl,h.del (A:=[]) (B:=B) (by rw [hg3,show bC 0 ((t,v)::B) = bC 0 B from hll]; rfl) hm3 (fun t'=>?_) ?_,((ho2.mono (by simp)).trans (Oth.set _ _ _ (by simp))).trans (ho3.mono (by simp))⟩
      · rw [dk,hlx,hfin]
        by_cases e:t' = t
        · subst e
          have:¬ (t':Int) = (bH B 0:Nat):=by omega
          rw [if_neg this,if_pos rfl,if_pos rfl]
        · by_cases e2:t' = bH B 0
          · subst e2
            rw [if_pos rfl,if_neg hwt,if_neg (fun q=>q.1 rfl),if_pos ⟨hB,rfl⟩,hy]; rfl
          · have:¬ (t':Int) = (bH B 0:Nat):=by omega
            rw [if_neg this,if_neg e,if_neg e,if_neg (fun q=>q.1 rfl),if_neg (fun q=>e2 q.2)]
      · rw [fj,hlx,if_neg hwt,hy]; simpa using hdel
  · have hp:=hposA hA
    have hb0:((bC 0 A:Int) = 0) = False:=by simp; omega
    have hbm:=e7 (p:=0) hA
    have hbt:bC 0 A≠t:=fun e=>h1.1 (e ▸ hbm)
    have hnl:bH (A++(t,v)::B) 0 = bH A 0:=by cases A with
      | nil=>exact absurd rfl hA
      | cons _ _=>rfl
    have hnl2:bH (A++B) 0 = bH A 0:=by cases A with
      | nil=>exact absurd rfl hA
      | cons _ _=>rfl
    obtain ⟨y,hy⟩:=fP (L:=A++(t,v)::B) (p:=0) (t:=bC 0 A) (by rw [dH]; exact List.mem_append_left _ hbm)
    have hk2:∀ z,cW (.int .u64) z false st2 (.map mid) (.lit (.int .u64 (bC 0 A:Nat))) = .ok (ndAV y):=fun z=>by
      rw [dl hm2,hlx,if_neg hbt,hy]; rfl
    simp (config:=KF) (disch:=omega) only [bZ,List.contains_nil,List.contains_cons,Nat.reduceBEq,Bool.or_false,ksB,bz,bY,ci,bG,cO,cu,nstB,ck,cS,Option.getD_none,da,cd,cX,cJ,cc,dz,gy,jR,bp,tail_nil,eX,io,aD,aq,aF,jL,au,aZ,boxX,aM,addA,ak,al,bR,am,aG,ap,aE,putS,Sf.set,Sf.reg,getR,setR,ae,Sf.disAt,Sf.newLoc,Sf.setLoc,look,bW,aR,bk,cb,ao,aj,ar,ag,aa,ai,ij,bD,cn,bO,ey,aX,List.length_cons,List.length_nil,List.all_cons,List.all_nil,List.nil_append,List.drop_zero,List.drop_succ_cons,List.take_succ_cons,List.take_zero,List.set_cons_zero,List.set_cons_succ,↓reduceIte,Nat.reduceEqDiff,Nat.reduceAdd,Nat.reduceLeDiff,Bool.true_and,Bool.and_true,and_true,true_and,reduceCtorEq,Nat.zero_add,or_false,decide_true,decide_false,Bool.not_false,Bool.false_eq_true,ah,af,f40_19e,f40_20e,f40_21e,f40_21l,f40_22e,f40_24e,f40_25e,f40_25h,f40_25l,f40_26e,f40_27e,f40_27l,f40_28e,f40_28h,f40_28l,hg2,hb0,hk2,ndAV]
    refine eE (b:=(y.1,y.2.1,bH B 0)) hm2 rfl rfl fun st3 hm3 ho3=>?_
    have hg3:st3.get q = _:=(ho3.get hqm).trans hg2
    have hlt3:q < st3.boxes.length:=db hg3
    have hl3:∀ t':Nat,bB (t':Int) (updP ((bC 0 A:Nat):Int) (y.1,y.2.1,bH B 0) (delP (t:Int) m)) = if t' = bC 0 A then some (y.1,y.2.1,bH B 0) else if t' = t then none else ca 0 (A++(t,v)::B) 0 t':=fun t'=>by
      rw [dk,hlx]
      by_cases e:t' = bC 0 A
      · subst e; simp
      · have:¬ (t':Int) = (bC 0 A:Nat):=by omega
        rw [if_neg this,if_neg e]
    have hn3:(updP ((bC 0 A:Nat):Int) (y.1,y.2.1,bH B 0) (delP (t:Int) m)).length = (A++B).length:=by
      rw [fj,hlx,if_neg hbt,hy]; simpa using hdel
    by_cases hB:B = []
    · subst hB
      simp (config:=KF) (disch:=omega) only [bZ,retI,resI,resL,aD,aq,a8,aA,aF,au,aZ,boxX,aM,addA,ak,bR,ap,aE,putS,Sf.set,Sf.reg,getR,setR,ae,Sf.disAt,look,ar,aa,ai,aJ,List.length_cons,List.length_nil,List.all_cons,List.all_nil,List.drop_zero,List.drop_succ_cons,List.set_cons_zero,List.set_cons_succ,Int.cast_ofNat_Int,↓reduceIte,Nat.reduceEqDiff,Nat.reduceAdd,Nat.reduceLeDiff,Bool.true_and,Bool.and_true,and_true,true_and,reduceCtorEq,Nat.zero_add,Nat.add_zero,decide_true,ah,af,f40_29e,f40_30e,f40_31e,f40_31l,f40_32e,f40_33e,f40_33l,f40_39e,f40_40e,f40_40l,hg3,bH]
      refine hQ _ _ ⟨rfl,h.del (A:=A) (B:=[]) (by rw [hnl2,← hnl,gC]; exact cp hlt3) (hm3.set hne) (fun t'=>?_) hn3,((ho2.mono (by simp)).trans (ho3.mono (by simp))).trans (Oth.set _ _ _ (by simp))⟩
      rw [hl3,hfin]
      by_cases e:t' = bC 0 A
      · subst e; simp [hbt,hA,hy,bH]
      · simp [e]
    · obtain ⟨hpb,hw⟩:=hposB hB
      have hn0:((bH B 0:Int) = 0) = False:=by simp; omega
      have hll:bC 0 (A++(t,v)::B) = bC 0 (A++B):=by rw [gC,gC]; exact last_ne hB
      have hwt:bH B 0≠t:=fun e=>h1.2 (e ▸ hw)
      have hwb:bH B 0≠bC 0 A:=fun e=>hAB _ hbm (e ▸ hw)
      obtain ⟨x,hx⟩:=fP (L:=A++(t,v)::B) (p:=0) (t:=bH B 0) (by rw [dH]; simp only [bL,List.map_cons,List.mem_append,List.mem_cons]; exact .inr (.inr hw))
      have hk3:∀ z,cW (.int .u64) z false st3 (.map mid) (.lit (.int .u64 (bH B 0:Nat))) = .ok (ndAV x):=fun z=>by
        rw [dl hm3,hl3,if_neg hwb,if_neg hwt,hx]; rfl
      simp (config:=KF) (disch:=omega) only [bZ,List.contains_nil,List.contains_cons,Nat.reduceBEq,Bool.or_false,ksB,bz,bY,ci,bG,cO,cu,nstB,ck,cS,Option.getD_none,da,cd,cX,cJ,cc,dz,gy,jR,bp,tail_nil,eX,io,aD,aq,aF,jL,au,aZ,boxX,aM,addA,ak,al,bR,am,aG,ap,aE,putS,Sf.set,Sf.reg,getR,setR,ae,Sf.disAt,Sf.newLoc,Sf.setLoc,look,bW,aR,bk,cb,ao,aj,ar,ag,aa,ai,ij,bD,cn,bO,ey,aX,List.length_cons,List.length_nil,List.all_cons,List.all_nil,List.nil_append,List.drop_zero,List.drop_succ_cons,List.take_succ_cons,List.take_zero,List.set_cons_zero,List.set_cons_succ,↓reduceIte,Nat.reduceEqDiff,Nat.reduceAdd,Nat.reduceLeDiff,Bool.true_and,Bool.and_true,and_true,true_and,reduceCtorEq,Nat.zero_add,or_false,decide_true,decide_false,Bool.not_false,Bool.false_eq_true,ah,af,f40_29e,f40_30e,f40_31e,f40_31l,f40_32e,f40_34e,f40_35e,f40_35h,f40_35l,f40_36e,f40_37e,f40_37l,f40_38e,f40_38h,f40_38l,hg3,hn0,hk3,ndAV]
      refine eE (b:=(x.1,bC 0 A,x.2.2)) hm3 rfl rfl fun st4 hm4 ho4=>?_
      simp (config:=KF) (disch:=omega) only [bZ,retI,resI,resL,aD,aq,aA,au,addA,ak,putS,Sf.set,Sf.reg,getR,setR,ae,Sf.disAt,look,aJ,List.all_cons,List.all_nil,List.drop_zero,↓reduceIte,Nat.reduceEqDiff,Bool.true_and,Bool.and_true,and_true,true_and,reduceCtorEq,Nat.add_zero,f40_39e,f40_40e,f40_40l]
      have hg4:st4.get q = _:=(ho4.get hqm).trans hg3
      refine hQ _ _ ⟨rfl,h.del (A:=A) (B:=B) (by rw [hnl2,← hnl,← hll]; exact hg4) hm4 (fun t'=>?_) ?_,((ho2.mono (by simp)).trans (ho3.mono (by simp))).trans (ho4.mono (by simp))⟩
      · rw [dk,hl3,hfin]
        by_cases e2:t' = bH B 0
        · subst e2; simp [hwt,hwb,hB,hx]
        · have:¬ (t':Int) = (bH B 0:Nat):=by omega
          rw [if_neg this]
          by_cases e:t' = bC 0 A
          · subst e; simp [hbt,hA,hy]
          · simp [e,e2]
      · rw [fj,hl3,if_neg hwb,if_neg hwt,hx]; simpa using hn3

theorem qpop_nil {q mid g:Nat} {st:St} (h:QIs st q mid [] g) :
    bj Go.Proofs.Try.prog n_f46 [.ptr q 0] st (fun r st'=>r = .tup [.lit (.int .i64 0),.lit (.int .u64 0),.lit (.int .i64 9)]∧st' = st):=by
  refine bf hmix k_f46 rfl rfl fun Q hQ=>?_
  unfold aFun c_f46
  simp (config:=KF) (disch:=omega) only [bZ,az,ev_f,putS,Sf.set,Sf.reg,getR,setR,ae,bt,id,↓reduceIte,Nat.reduceEqDiff,reduceCtorEq,f46_1e,f46_2e,f46_2l,f46_3e,f46_4e,f46_4l]
  refine bA rfl e_f52 (k9 h) rfl ?_
  simp (config:=KF) (disch:=omega) only [bZ,retI,resI,resL,bP,aA,extV,bR,putS,Sf.set,Sf.reg,getR,setR,ae,Sf.disAt,bg,aU,aJ,List.getElem?_cons_zero,List.getElem?_cons_succ,List.all_cons,List.all_nil,↓reduceIte,Nat.reduceEqDiff,Int.reduceEq,Bool.true_and,Bool.and_true,and_true,true_and,reduceCtorEq,decide_false,f46_5e,f46_6e,f46_7e,f46_7l,f46_8e,f46_10e,f46_11e,f46_11l]
  exact hQ _ _ ⟨rfl,rfl⟩

theorem mG {q mid g t:Nat} {v:Int} {B:Qu} {st:St} (h:QIs st q mid ((t,v)::B) g) (hgb:g < 1000000) :
    bj Go.Proofs.Try.prog n_f46 [.ptr q 0] st (fun r st'=>r = .tup [.lit (.int .i64 v),.lit (.int .u64 (t:Nat)),.lit (.int .i64 0)]∧QIs st' q mid B g∧Oth st st' [q,mid]):=by
  refine bf hmix k_f46 rfl rfl fun Q hQ=>?_
  unfold aFun c_f46
  simp (config:=KF) (disch:=omega) only [bZ,az,ev_f,putS,Sf.set,Sf.reg,getR,setR,ae,bt,id,↓reduceIte,Nat.reduceEqDiff,reduceCtorEq,f46_1e,f46_2e,f46_2l,f46_3e,f46_4e,f46_4l]
  refine bA rfl e_f52 (k9 h) rfl ?_
  simp (config:=KF) (disch:=omega) only [bZ,bP,aA,az,extV,bR,ev_f,putS,Sf.set,Sf.reg,getR,setR,ae,Sf.disAt,id,bg,aU,List.getElem?_cons_zero,List.getElem?_cons_succ,↓reduceIte,Nat.reduceEqDiff,reduceCtorEq,decide_true,f46_5e,f46_6e,f46_7e,f46_7l,f46_8e,f46_9e,f46_9l]
  refine ba rfl e_f40 (gf (A:=[]) h hgb) rfl fun r st' hr=>?_
  obtain ⟨rfl,h1,h2⟩:=hr
  simp (config:=KF) (disch:=omega) only [bZ,retI,resI,resL,aA,putS,Sf.set,Sf.reg,getR,setR,ae,Sf.disAt,aJ,List.all_cons,List.all_nil,↓reduceIte,Nat.reduceEqDiff,Bool.true_and,Bool.and_true,and_true,true_and,reduceCtorEq,f46_10e,f46_11e,f46_11l]
  exact hQ _ _ ⟨rfl,h1,h2⟩
end Go.Fx.YtohlpjfhkejjgaaFx

