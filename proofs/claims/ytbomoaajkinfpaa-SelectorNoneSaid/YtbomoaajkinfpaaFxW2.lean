/- What the functions that the statement reaches compute: part 2. -/
import Derived.Test.YtbomoaajkinfpaaFxW1
namespace Go.Fx.YtbomoaajkinfpaaFx
open Go Go.Fx
attribute [local irreducible] aC runI aT bM

set_option maxRecDepth 100000
set_option maxHeartbeats 4000000

theorem lA {q mid g:Nat} {L:Qu} {v:Int} {st:St} (h:QIs st q mid L g) (hlen:L.length < 4096) (hgb:g < 1000000) :
    bf Go.Proofs.Try.prog n_f60 [.ptr q 0,.lit (.int .i64 v)] st (fun r st'=>r = .tup [.lit (.int .u64 ((g + 1:Nat))),.lit (.int .i64 0)]∧QIs st' q mid (L++[(g + 1,v)]) (g + 1)∧Oth st st' [q,mid]):=by
  refine aZ hmix k_f60 rfl rfl fun Q hQ=>?_
  unfold aFun c_f60
  obtain ⟨m,hm,hl,hml⟩:=h.mp
  have hg:=h.get
  have hne:=h.ne
  have hlt:=h.ltq
  have hfr:=h.fresh
  have hnq:mid ∉ [q]:=by simp [hne]
  have hqm:q ∉ [mid]:=by simp; exact fun e=>hne e.symm
  simp (config:=KF) (disch:=omega) only [bZ,ak,ev_f,putS,Sf.set,Sf.reg,getR,setR,aa,aY,id,↓reduceIte,Nat.reduceEqDiff,reduceCtorEq,Nat.zero_add,f60_1e,f60_2e,f60_2l,f60_3e,f60_4e,f60_5e,f60_6e,f60_6l]
  refine aG rfl e_f62 (fX hg) rfl ?_
  by_cases hL:L = []
  · subst hL
    simp (config:=KF) (disch:=omega) only [bZ,cX,ci,cR,cg,bQ,b8,hh_bst,bB,tail_nil,and_self,au,az,aw,aQ,cF,ao,aW,jQ,aA,aM,bstV,boxX,bj,addA,ag,bt,du,mM,aO,aS,putS,Sf.set,Sf.reg,getR,setR,aa,Sf.disAt,bp,bJ,aB,al,ae,ah,List.length_cons,List.length_nil,List.getElem?_cons_zero,List.getElem?_cons_succ,List.all_cons,List.all_nil,List.drop_zero,List.drop_succ_cons,List.set_cons_zero,List.set_cons_succ,Int.cast_ofNat_Int,↓reduceIte,Nat.reduceEqDiff,Nat.reduceAdd,Nat.reduceLeDiff,Bool.true_and,Bool.and_true,and_true,true_and,reduceCtorEq,Nat.zero_add,Nat.add_zero,d7,IntWalk.u64_in,bW,ca,am,af,f60_7e,f60_10e,f60_11e,f60_11l,f60_12e,f60_15e,f60_16e,f60_16l,f60_17e,f60_18e,f60_18h,f60_18l,hg,mS,hml,bG,bC]
    refine eO (b:=(v,0,0)) (hm.set hne) rfl rfl fun st2 hm2 ho2=>?_
    have hg2:st2.get q = some [.lit (.int .u64 0),.lit (.int .u64 0),.lit (.int .u64 ((g:Int) + 1)),.map mid]:=(ho2.get hqm).trans (ca hlt)
    have hlt2:q < st2.boxes.length:=cw hg2
    simp (config:=KF) (disch:=omega) only [bZ,retI,resI,resL,az,aw,aQ,ao,aW,aA,aM,boxX,bj,addA,ag,ce,aO,aS,putS,Sf.set,Sf.reg,getR,setR,aa,Sf.disAt,aB,ae,ah,aU,List.length_cons,List.length_nil,List.all_cons,List.all_nil,List.drop_zero,List.drop_succ_cons,List.set_cons_zero,List.set_cons_succ,↓reduceIte,Nat.reduceEqDiff,Nat.reduceAdd,Nat.reduceLeDiff,Bool.true_and,Bool.and_true,and_true,true_and,reduceCtorEq,Nat.zero_add,Nat.add_zero,decide_true,bW,ca,am,af,lN,f60_19e,f60_20e,f60_21e,f60_21l,f60_22e,f60_23e,f60_23l,f60_29e,f60_30e,f60_30l,f60_31e,f60_32e,f60_32l,hg2]
    have ho:Oth st (st2.set q [.lit (.int .u64 ((g:Int) + 1)),.lit (.int .u64 ((g:Int) + 1)),.lit (.int .u64 ((g:Int) + 1)),.map mid]) [q,mid]:=((Oth.set st q _ (by simp)).trans (ho2.mono (by simp))).trans (Oth.set _ _ _ (by simp))
    refine hQ _ _ ⟨rfl,h.push (v:=v) (m':=updP (g + 1:Nat) (v,0,0) m) (ca hlt2) (hm2.set hne) (fun t=>?_) ?_,ho⟩
    · rw [dC,hl t]
      simp only [List.nil_append,bV,bG]
      by_cases e:t = g + 1
      · subst e; simp
      · have:¬ (t:Int) = ((g + 1:Nat):Int):=by omega
        rw [if_neg this,if_neg e]
    · rw [ft,hl,dB hfr]
      simp [hml]
  · have hlm:=fc (p:=0) hL
    have hlp:=h.pos _ hlm
    obtain ⟨x,hx⟩:=fW (p:=0) hlm
    have hnil:=h.nil_iff
    have hL0:((bC 0 L:Int) = 0) = False:=by simp; omega
    have hlg:bC 0 L≠g + 1:=fun e=>hfr (e ▸ hlm)
    simp (config:=KF) (disch:=omega) only [bZ,cX,ci,cR,cg,bQ,b8,hh_bst,bB,tail_nil,and_self,au,az,aw,aQ,cF,ao,aW,jQ,aA,aM,bstV,boxX,bj,addA,ag,bt,du,mM,aO,aS,putS,Sf.set,Sf.reg,getR,setR,aa,Sf.disAt,bp,bJ,aB,al,ae,ah,List.length_cons,List.length_nil,List.getElem?_cons_zero,List.getElem?_cons_succ,List.all_cons,List.all_nil,List.drop_zero,List.drop_succ_cons,List.set_cons_zero,List.set_cons_succ,↓reduceIte,Nat.reduceEqDiff,Nat.reduceAdd,Nat.reduceLeDiff,Bool.true_and,Bool.and_true,and_true,true_and,reduceCtorEq,Nat.zero_add,Nat.add_zero,d7,IntWalk.u64_in,bW,ca,am,af,f60_7e,f60_10e,f60_11e,f60_11l,f60_12e,f60_15e,f60_16e,f60_16l,f60_17e,f60_18e,f60_18h,f60_18l,hg,mS,hml]
    refine eO (b:=(v,bC 0 L,0)) (hm.set hne) rfl rfl fun st2 hm2 ho2=>?_
    have hg2:st2.get q = some [.lit (.int .u64 (bG L 0:Nat)),.lit (.int .u64 (bC 0 L:Nat)),.lit (.int .u64 ((g:Int) + 1)),.map mid]:=(ho2.get hqm).trans (ca hlt)
    have hlt2:q < st2.boxes.length:=cw hg2
    have hk:∀ z,cz (.int .u64) z false st2 (.map mid) (.lit (.int .u64 (bC 0 L:Nat))) = .ok (ndAV x):=fun z=>by
      rw [cC hm2,dC,if_neg (by omega),hl,hx]; rfl
    simp (config:=KF) (disch:=omega) only [bZ,List.contains_nil,List.contains_cons,Nat.reduceBEq,Bool.or_false,ksB,bT,cJ,cZ,cx,dw,cO,nstB,c8,cU,Option.getD_none,cX,ci,cR,cg,bQ,b8,eW,lO,bB,tail_nil,lP,jX,az,aw,aQ,aW,jQ,aA,aM,boxX,bj,addA,ag,aK,ce,aq,bg,aO,aS,putS,Sf.set,Sf.reg,getR,setR,aa,Sf.disAt,Sf.newLoc,Sf.setLoc,look,cD,bF,bp,bJ,aE,ar,aB,al,ae,ah,jT,bU,bN,eN,bO,List.length_cons,List.length_nil,List.all_cons,List.all_nil,List.nil_append,List.drop_zero,List.drop_succ_cons,List.take_succ_cons,List.take_zero,List.set_cons_zero,List.set_cons_succ,↓reduceIte,Nat.reduceEqDiff,Nat.reduceAdd,Nat.reduceLeDiff,Bool.true_and,Bool.and_true,and_true,true_and,reduceCtorEq,Nat.zero_add,Nat.add_zero,or_false,decide_true,decide_false,Bool.not_false,Bool.false_eq_true,bW,am,af,f60_19e,f60_20e,f60_21e,f60_21l,f60_22e,f60_24e,f60_25e,f60_25h,f60_25l,f60_26e,f60_27e,f60_27l,f60_28e,f60_28h,f60_28l,hg2,hL0,hk,ndAV]
    refine eO (b:=(x.1,x.2.1,g + 1)) hm2 rfl rfl fun st3 hm3 ho3=>?_
    have hg3:st3.get q = some [.lit (.int .u64 (bG L 0:Nat)),.lit (.int .u64 (bC 0 L:Nat)),.lit (.int .u64 ((g:Int) + 1)),.map mid]:=(ho3.get hqm).trans hg2
    have hlt3:q < st3.boxes.length:=cw hg3
    simp (config:=KF) (disch:=omega) only [bZ,retI,resI,resL,az,aw,aQ,ao,aW,aA,aM,boxX,bj,addA,ag,aO,aS,putS,Sf.set,Sf.reg,getR,setR,aa,Sf.disAt,aB,ae,ah,aU,List.length_cons,List.length_nil,List.all_cons,List.all_nil,List.drop_zero,List.drop_succ_cons,List.set_cons_zero,List.set_cons_succ,↓reduceIte,Nat.reduceEqDiff,Nat.reduceAdd,Nat.reduceLeDiff,Bool.true_and,Bool.and_true,and_true,true_and,reduceCtorEq,Nat.zero_add,Nat.add_zero,bW,ca,am,af,f60_29e,f60_30e,f60_30l,f60_31e,f60_32e,f60_32l,hg3]
    have ho:Oth st (st3.set q [.lit (.int .u64 (bG L 0:Nat)),.lit (.int .u64 ((g:Int) + 1)),.lit (.int .u64 ((g:Int) + 1)),.map mid]) [q,mid]:=(((Oth.set st q _ (by simp)).trans (ho2.mono (by simp))).trans (ho3.mono (by simp))).trans (Oth.set _ _ _ (by simp))
    have hnx:bG (L++[(g + 1,v)]) 0 = bG L 0:=by cases L with
      | nil=>exact absurd rfl hL
      | cons _ _=>rfl
    refine hQ _ _ ⟨rfl,h.push (v:=v) (by rw [hnx]; exact ca hlt3) (hm3.set hne) (fun t=>?_) ?_,ho⟩
    · rw [dC,dC,hl t,nodeA_push h.nd hfr hL]
      by_cases e:t = bC 0 L
      · subst e; simp [hx]
      · have e1:¬ (t:Int) = (bC 0 L:Nat):=by omega
        rw [if_neg e1,if_neg e]
        by_cases e2:t = g + 1
        · subst e2; simp
        · have e3:¬ (t:Int) = ((g + 1:Nat):Int):=by omega
          rw [if_neg e3,if_neg e2]
    · have h1:aP ((g + 1:Nat):Int) m = none:=by rw [hl,dB hfr]
      have h2:aP ((bC 0 L:Nat):Int) (updP ((g + 1:Nat):Int) (v,bC 0 L,0) m) = some x:=by rw [dC,if_neg (by omega),hl,hx]
      rw [ft,h2,ft,h1]
      simp [hml]

theorem gn {q mid g t:Nat} {v:Int} {A B:Qu} {st:St} (h:QIs st q mid (A++(t,v)::B) g) (hgb:g < 1000000) :
    bf Go.Proofs.Try.prog n_f43 [.ptr q 0,.lit (.int .u64 (t:Nat))] st (fun r st'=>r = .tup [.lit (.int .i64 v),.lit (.int .i64 0)]∧QIs st' q mid (A++B) g∧Oth st st' [q,mid]):=by
  refine aZ hmix k_f43 rfl rfl fun Q hQ=>?_
  unfold aFun c_f43
  obtain ⟨m,hm,hl,hml⟩:=h.mp
  have hg:=h.get
  have hne:=h.ne
  have hlt:=h.ltq
  have hnd:=h.nd
  have hqm:q ∉ [mid]:=by simp; exact fun e=>hne e.symm
  have h1:t ∉ bI A∧t ∉ bI B:=by
    rw [dK] at hnd
    obtain ⟨_,h2,h3⟩:=List.nodup_append.1 hnd
    exact ⟨fun e=>h3 t e t (by simp [bI]) rfl,(List.nodup_cons.1 h2).1⟩
  have hat:=nodeA_at (v:=v) (B:=B) h1.1
  have hk:∀ z,cz (.int .u64) z true st (.map mid) (.lit (.int .u64 (t:Nat))) = .ok (.tup [ndAV (v,bC 0 A,bG B 0),.lit (.bool true)]):=fun z=>by
    rw [cC hm,hl,hat]; rfl
  have hposA:A≠[]→0 < bC 0 A:=fun e=>(h.pos _ (by rw [dK]; exact List.mem_append_left _ (fc e))).1
  have hposB:B≠[]→0 < bG B 0∧bG B 0 ∈ bI B:=fun e=>by
    cases B with
    | nil=>exact absurd rfl e
    | cons x r=>exact ⟨(h.pos _ (by rw [dK]; simp [bI,bG])).1,by simp [bI,bG]⟩
  have hlx:∀ t':Nat,aP (t':Int) (delP (t:Int) m) = if t' = t then none else bV 0 (A++(t,v)::B) 0 t':=fun t'=>by
    rw [fV _ _ hm.nd,hl]
    by_cases e:t' = t
    · subst e; simp
    · have:¬ (t':Int) = (t:Int):=by omega
      rw [if_neg this,if_neg e]
  have hdel:(delP (t:Int) m).length = (A++B).length:=by
    rw [po,hl,hat]; simp [hml]
  simp (config:=KF) (disch:=omega) only [bZ,ak,ev_f,putS,Sf.set,Sf.reg,getR,setR,aa,aY,id,↓reduceIte,Nat.reduceEqDiff,reduceCtorEq,Nat.zero_add,f43_1e,f43_2e,f43_2l,f43_3e,f43_4e,f43_5e,f43_5l]
  refine aG rfl e_f62 (fX hg) rfl ?_
  simp (config:=KF) (disch:=omega) only [bZ,o_un,cd,az,aw,aQ,dS,ao,c9,aW,oh,extV,aA,aM,boxX,bj,addA,ag,unA,aO,aS,putS,Sf.set,Sf.reg,getR,setR,aa,Sf.disAt,Sf.newLoc,Sf.setLoc,look,cD,bF,bJ,aE,bq,ar,aX,ir,al,ae,ah,bU,bN,eN,bO,mL,List.length_cons,List.length_nil,List.getElem?_cons_zero,List.getElem?_cons_succ,List.all_cons,List.all_nil,List.drop_zero,List.drop_succ_cons,List.set_cons_zero,List.set_cons_succ,↓reduceIte,Nat.reduceEqDiff,Nat.reduceAdd,Nat.reduceLeDiff,Bool.true_and,Bool.and_true,and_true,true_and,reduceCtorEq,Nat.zero_add,Bool.not_true,am,af,f43_6e,f43_9e,f43_10e,f43_10l,f43_11e,f43_12e,f43_13e,f43_13l,f43_14e,f43_17e,f43_18e,f43_18l,hg,hk,ndAV]
  refine gD hm fun st2 hm2 ho2=>?_
  have hg2:st2.get q = _:=(ho2.get hqm).trans hg
  have hlt2:q < st2.boxes.length:=cw hg2
  have hfin:∀ t':Nat,bV 0 (A++B) 0 t' = _:=fun t'=>nodeA_del (t:=t') hnd
  have hAB:∀ x ∈ bI A,x ∉ bI B:=by
    rw [dK] at hnd
    obtain ⟨_,h2,h3⟩:=List.nodup_append.1 hnd
    exact fun x hx hb=>h3 x hx x (by simp only [bI,List.map_cons,List.mem_cons]; exact .inr hb) rfl
  by_cases hA:A = []
  · subst hA
    have e0:bC 0 ([]:Qu) = 0:=rfl
    by_cases hB:B = []
    · subst hB
      simp (config:=KF) (disch:=omega) only [bZ,retI,resI,resL,az,aw,aQ,ao,aW,aA,aM,boxX,bj,addA,ag,ce,aO,aS,putS,Sf.set,Sf.reg,getR,setR,aa,Sf.disAt,look,aB,ae,ah,aU,List.length_cons,List.length_nil,List.all_cons,List.all_nil,List.nil_append,List.drop_zero,List.drop_succ_cons,List.set_cons_zero,List.set_cons_succ,Int.cast_ofNat_Int,↓reduceIte,Nat.reduceEqDiff,Nat.reduceAdd,Nat.reduceLeDiff,Bool.true_and,Bool.and_true,and_true,true_and,reduceCtorEq,Nat.zero_add,Nat.add_zero,decide_true,ca,am,af,lN,f43_19e,f43_20e,f43_21e,f43_21l,f43_22e,f43_23e,f43_23l,f43_29e,f43_30e,f43_31e,f43_31l,f43_32e,f43_33e,f43_33l,f43_39e,f43_40e,f43_40l,hg2,e0,bG]
      refine hQ _ _ ⟨rfl,h.del (A:=[]) (B:=[]) (m':=delP (t:Int) m) (ca hlt2) (hm2.set hne) (fun t'=>?_) hdel,(ho2.mono (by simp)).trans (Oth.set _ _ _ (by simp))⟩
      rw [hlx,hfin]
      by_cases e:t' = t
      · simp [e]
      · simp [e]
    · obtain ⟨hp,hw⟩:=hposB hB
      have hn0:((bG B 0:Int) = 0) = False:=by simp; omega
      have hnl:bG (([]:Qu)++(t,v)::B) 0 = t:=rfl
      have hll:bC 0 (([]:Qu)++(t,v)::B) = bC 0 B:=by rw [gF]; exact last_ne hB
      have hwt:bG B 0≠t:=fun e=>h1.2 (e ▸ hw)
      obtain ⟨y,hy⟩:=fW (L:=[]++(t,v)::B) (p:=0) (t:=bG B 0) (by rw [dK]; simp only [bI,List.map_cons,List.mem_append,List.mem_cons]; exact .inr (.inr hw))
      have hk2:∀ z,cz (.int .u64) z false (st2.set q [.lit (.int .u64 (bG B 0:Nat)),.lit (.int .u64 (bC 0 ((t,v)::B):Nat)),.lit (.int .u64 (g:Nat)),.map mid]) (.map mid) (.lit (.int .u64 (bG B 0:Nat))) = .ok (ndAV y):=fun z=>by
        rw [cC (hm2.set hne),hlx,if_neg hwt,hy]; rfl
      simp only [e0]
      simp (config:=KF) (disch:=omega) only [bZ,List.contains_nil,List.contains_cons,Nat.reduceBEq,Bool.or_false,ksB,bT,cJ,cZ,cx,dw,cO,nstB,c8,cU,Option.getD_none,cX,ci,cR,cg,bQ,b8,eW,lO,bB,tail_nil,lP,jX,az,aw,aQ,aW,jQ,aA,aM,boxX,bj,addA,ag,aK,ce,aq,bg,aO,aS,putS,Sf.set,Sf.reg,getR,setR,aa,Sf.disAt,Sf.newLoc,Sf.setLoc,look,cD,bF,bp,bJ,aE,ar,aB,al,ae,ah,jT,bU,bN,da,eN,bO,List.length_cons,List.length_nil,List.all_cons,List.all_nil,List.nil_append,List.drop_zero,List.drop_succ_cons,List.take_succ_cons,List.take_zero,List.set_cons_zero,List.set_cons_succ,Int.cast_ofNat_Int,↓reduceIte,Nat.reduceEqDiff,Nat.reduceAdd,Nat.reduceLeDiff,Bool.true_and,Bool.and_true,and_true,true_and,reduceCtorEq,Nat.zero_add,Nat.add_zero,or_false,decide_true,decide_false,Bool.not_false,Bool.false_eq_true,ca,am,af,f43_19e,f43_20e,f43_21e,f43_21l,f43_22e,f43_23e,f43_23l,f43_29e,f43_30e,f43_31e,f43_31l,f43_32e,f43_34e,f43_35e,f43_35h,f43_35l,f43_36e,f43_37e,f43_37l,f43_38e,f43_38h,f43_38l,hg2,hn0,hk2,ndAV]
      refine eO (b:=(y.1,0,y.2.2)) (hm2.set hne) rfl rfl fun st3 hm3 ho3=>?_
      simp (config:=KF) (disch:=omega) only [bZ,retI,resI,resL,az,aw,ao,aA,addA,ag,putS,Sf.set,Sf.reg,getR,setR,aa,Sf.disAt,look,aU,List.all_cons,List.all_nil,List.drop_zero,↓reduceIte,Nat.reduceEqDiff,Bool.true_and,Bool.and_true,and_true,true_and,reduceCtorEq,Nat.add_zero,f43_39e,f43_40e,f43_40l]
      have hg3:st3.get q = some [.lit (.int .u64 (bG B 0:Nat)),.lit (.int .u64 (bC 0 ((t,v)::B):Nat)),.lit (.int .u64 (g:Nat)),.map mid]:=(ho3.get hqm).trans (ca hlt2)
      refine hQ _ _ ⟨rfl,h.del (A:=[]) (B:=B) (by rw [hg3,show bC 0 ((t,v)::B) = bC 0 B from hll]; rfl) hm3 (fun t'=>?_) ?_,((ho2.mono (by simp)).trans (Oth.set _ _ _ (by simp))).trans (ho3.mono (by simp))⟩
      · rw [dC,hlx,hfin]
        by_cases e:t' = t
        · subst e
          have:¬ (t':Int) = (bG B 0:Nat):=by omega
          rw [if_neg this,if_pos rfl,if_pos rfl]
        · by_cases e2:t' = bG B 0
          · subst e2
            rw [if_pos rfl,if_neg hwt,if_neg (fun q=>q.1 rfl),if_pos ⟨hB,rfl⟩,hy]; rfl
          · have:¬ (t':Int) = (bG B 0:Nat):=by omega
            rw [if_neg this,if_neg e,if_neg e,if_neg (fun q=>q.1 rfl),if_neg (fun q=>e2 q.2)]
      · rw [ft,hlx,if_neg hwt,hy]; simpa using hdel
  · have hp:=hposA hA
    have hb0:((bC 0 A:Int) = 0) = False:=by simp; omega
    have hbm:=fc (p:=0) hA
    have hbt:bC 0 A≠t:=fun e=>h1.1 (e ▸ hbm)
    have hnl:bG (A++(t,v)::B) 0 = bG A 0:=by cases A with
      | nil=>exact absurd rfl hA
      | cons _ _=>rfl
    have hnl2:bG (A++B) 0 = bG A 0:=by cases A with
      | nil=>exact absurd rfl hA
      | cons _ _=>rfl
    obtain ⟨y,hy⟩:=fW (L:=A++(t,v)::B) (p:=0) (t:=bC 0 A) (by rw [dK]; exact List.mem_append_left _ hbm)
    have hk2:∀ z,cz (.int .u64) z false st2 (.map mid) (.lit (.int .u64 (bC 0 A:Nat))) = .ok (ndAV y):=fun z=>by
      rw [cC hm2,hlx,if_neg hbt,hy]; rfl
    simp (config:=KF) (disch:=omega) only [bZ,List.contains_nil,List.contains_cons,Nat.reduceBEq,Bool.or_false,ksB,bT,cJ,cZ,cx,dw,cO,nstB,c8,cU,Option.getD_none,cX,ci,cR,cg,bQ,b8,eW,lO,bB,tail_nil,lP,jX,az,aw,aW,jQ,aA,aM,boxX,bj,addA,ag,aK,ce,aq,bg,aO,aS,putS,Sf.set,Sf.reg,getR,setR,aa,Sf.disAt,Sf.newLoc,Sf.setLoc,look,cD,bF,bp,bJ,aE,ar,aB,al,ae,ah,jT,bU,bN,da,eN,bO,List.length_cons,List.length_nil,List.all_cons,List.all_nil,List.nil_append,List.drop_zero,List.drop_succ_cons,List.take_succ_cons,List.take_zero,List.set_cons_zero,List.set_cons_succ,↓reduceIte,Nat.reduceEqDiff,Nat.reduceAdd,Nat.reduceLeDiff,Bool.true_and,Bool.and_true,and_true,true_and,reduceCtorEq,Nat.zero_add,or_false,decide_true,decide_false,Bool.not_false,Bool.false_eq_true,am,af,f43_19e,f43_20e,f43_21e,f43_21l,f43_22e,f43_24e,f43_25e,f43_25h,f43_25l,f43_26e,f43_27e,f43_27l,f43_28e,f43_28h,f43_28l,hg2,hb0,hk2,ndAV]
    refine eO (b:=(y.1,y.2.1,bG B 0)) hm2 rfl rfl fun st3 hm3 ho3=>?_
    have hg3:st3.get q = _:=(ho3.get hqm).trans hg2
    have hlt3:q < st3.boxes.length:=cw hg3
    have hl3:∀ t':Nat,aP (t':Int) (updP ((bC 0 A:Nat):Int) (y.1,y.2.1,bG B 0) (delP (t:Int) m)) = if t' = bC 0 A then some (y.1,y.2.1,bG B 0) else if t' = t then none else bV 0 (A++(t,v)::B) 0 t':=fun t'=>by
      rw [dC,hlx]
      by_cases e:t' = bC 0 A
      · subst e; simp
      · have:¬ (t':Int) = (bC 0 A:Nat):=by omega
        rw [if_neg this,if_neg e]
    have hn3:(updP ((bC 0 A:Nat):Int) (y.1,y.2.1,bG B 0) (delP (t:Int) m)).length = (A++B).length:=by
      rw [ft,hlx,if_neg hbt,hy]; simpa using hdel
    by_cases hB:B = []
    · subst hB
      simp (config:=KF) (disch:=omega) only [bZ,retI,resI,resL,az,aw,aQ,ao,aW,aA,aM,boxX,bj,addA,ag,ce,aO,aS,putS,Sf.set,Sf.reg,getR,setR,aa,Sf.disAt,look,aB,ae,ah,aU,List.length_cons,List.length_nil,List.all_cons,List.all_nil,List.drop_zero,List.drop_succ_cons,List.set_cons_zero,List.set_cons_succ,Int.cast_ofNat_Int,↓reduceIte,Nat.reduceEqDiff,Nat.reduceAdd,Nat.reduceLeDiff,Bool.true_and,Bool.and_true,and_true,true_and,reduceCtorEq,Nat.zero_add,Nat.add_zero,decide_true,am,af,f43_29e,f43_30e,f43_31e,f43_31l,f43_32e,f43_33e,f43_33l,f43_39e,f43_40e,f43_40l,hg3,bG]
      refine hQ _ _ ⟨rfl,h.del (A:=A) (B:=[]) (by rw [hnl2,← hnl,gF]; exact ca hlt3) (hm3.set hne) (fun t'=>?_) hn3,((ho2.mono (by simp)).trans (ho3.mono (by simp))).trans (Oth.set _ _ _ (by simp))⟩
      rw [hl3,hfin]
      by_cases e:t' = bC 0 A
      · subst e; simp [hbt,hA,hy,bG]
      · simp [e]
    · obtain ⟨hpb,hw⟩:=hposB hB
      have hn0:((bG B 0:Int) = 0) = False:=by simp; omega
      have hll:bC 0 (A++(t,v)::B) = bC 0 (A++B):=by rw [gF,gF]; exact last_ne hB
      have hwt:bG B 0≠t:=fun e=>h1.2 (e ▸ hw)
      have hwb:bG B 0≠bC 0 A:=fun e=>hAB _ hbm (e ▸ hw)
      obtain ⟨x,hx⟩:=fW (L:=A++(t,v)::B) (p:=0) (t:=bG B 0) (by rw [dK]; simp only [bI,List.map_cons,List.mem_append,List.mem_cons]; exact .inr (.inr hw))
      have hk3:∀ z,cz (.int .u64) z false st3 (.map mid) (.lit (.int .u64 (bG B 0:Nat))) = .ok (ndAV x):=fun z=>by
        rw [cC hm3,hl3,if_neg hwb,if_neg hwt,hx]; rfl
      simp (config:=KF) (disch:=omega) only [bZ,List.contains_nil,List.contains_cons,Nat.reduceBEq,Bool.or_false,ksB,bT,cJ,cZ,cx,dw,cO,nstB,c8,cU,Option.getD_none,cX,ci,cR,cg,bQ,b8,eW,lO,bB,tail_nil,lP,jX,az,aw,aW,jQ,aA,aM,boxX,bj,addA,ag,aK,ce,aq,bg,aO,aS,putS,Sf.set,Sf.reg,getR,setR,aa,Sf.disAt,Sf.newLoc,Sf.setLoc,look,cD,bF,bp,bJ,aE,ar,aB,al,ae,ah,jT,bU,bN,da,eN,bO,List.length_cons,List.length_nil,List.all_cons,List.all_nil,List.nil_append,List.drop_zero,List.drop_succ_cons,List.take_succ_cons,List.take_zero,List.set_cons_zero,List.set_cons_succ,↓reduceIte,Nat.reduceEqDiff,Nat.reduceAdd,Nat.reduceLeDiff,Bool.true_and,Bool.and_true,and_true,true_and,reduceCtorEq,Nat.zero_add,or_false,decide_true,decide_false,Bool.not_false,Bool.false_eq_true,am,af,f43_29e,f43_30e,f43_31e,f43_31l,f43_32e,f43_34e,f43_35e,f43_35h,f43_35l,f43_36e,f43_37e,f43_37l,f43_38e,f43_38h,f43_38l,hg3,hn0,hk3,ndAV]
      refine eO (b:=(x.1,bC 0 A,x.2.2)) hm3 rfl rfl fun st4 hm4 ho4=>?_
      simp (config:=KF) (disch:=omega) only [bZ,retI,resI,resL,az,aw,ao,aA,addA,ag,putS,Sf.set,Sf.reg,getR,setR,aa,Sf.disAt,look,aU,List.all_cons,List.all_nil,List.drop_zero,↓reduceIte,Nat.reduceEqDiff,Bool.true_and,Bool.and_true,and_true,true_and,reduceCtorEq,Nat.add_zero,f43_39e,f43_40e,f43_40l]
      have hg4:st4.get q = _:=(ho4.get hqm).trans hg3
      refine hQ _ _ ⟨rfl,h.del (A:=A) (B:=B) (by rw [hnl2,← hnl,← hll]; exact hg4) hm4 (fun t'=>?_) ?_,((ho2.mono (by simp)).trans (ho3.mono (by simp))).trans (ho4.mono (by simp))⟩
      · rw [dC,hl3,hfin]
        by_cases e2:t' = bG B 0
        · subst e2; simp [hwt,hwb,hB,hx]
        · have:¬ (t':Int) = (bG B 0:Nat):=by omega
          rw [if_neg this]
          by_cases e:t' = bC 0 A
          · subst e; simp [hbt,hA,hy]
          · simp [e,e2]
      · rw [ft,hl3,if_neg hwb,if_neg hwt,hx]; simpa using hn3

theorem qpop_nil {q mid g:Nat} {st:St} (h:QIs st q mid [] g) :
    bf Go.Proofs.Try.prog n_f63 [.ptr q 0] st (fun r st'=>r = .tup [.lit (.int .i64 0),.lit (.int .u64 0),.lit (.int .i64 9)]∧st' = st):=by
  refine aZ hmix k_f63 rfl rfl fun Q hQ=>?_
  unfold aFun c_f63
  simp (config:=KF) (disch:=omega) only [bZ,ak,ev_f,putS,Sf.set,Sf.reg,getR,setR,aa,aY,id,↓reduceIte,Nat.reduceEqDiff,reduceCtorEq,f63_1e,f63_2e,f63_2l,f63_3e,f63_4e,f63_4l]
  refine aG rfl e_f75 (lq h) rfl ?_
  simp (config:=KF) (disch:=omega) only [bZ,retI,resI,resL,cd,ao,extV,ce,putS,Sf.set,Sf.reg,getR,setR,aa,Sf.disAt,bq,aX,aU,List.getElem?_cons_zero,List.getElem?_cons_succ,List.all_cons,List.all_nil,↓reduceIte,Nat.reduceEqDiff,Int.reduceEq,Bool.true_and,Bool.and_true,and_true,true_and,reduceCtorEq,decide_false,f63_5e,f63_6e,f63_7e,f63_7l,f63_8e,f63_10e,f63_11e,f63_11l]
  exact hQ _ _ ⟨rfl,rfl⟩

theorem mZ {q mid g t:Nat} {v:Int} {B:Qu} {st:St} (h:QIs st q mid ((t,v)::B) g) (hgb:g < 1000000) :
    bf Go.Proofs.Try.prog n_f63 [.ptr q 0] st (fun r st'=>r = .tup [.lit (.int .i64 v),.lit (.int .u64 (t:Nat)),.lit (.int .i64 0)]∧QIs st' q mid B g∧Oth st st' [q,mid]):=by
  refine aZ hmix k_f63 rfl rfl fun Q hQ=>?_
  unfold aFun c_f63
  simp (config:=KF) (disch:=omega) only [bZ,ak,ev_f,putS,Sf.set,Sf.reg,getR,setR,aa,aY,id,↓reduceIte,Nat.reduceEqDiff,reduceCtorEq,f63_1e,f63_2e,f63_2l,f63_3e,f63_4e,f63_4l]
  refine aG rfl e_f75 (lq h) rfl ?_
  simp (config:=KF) (disch:=omega) only [bZ,cd,ao,ak,extV,ce,ev_f,putS,Sf.set,Sf.reg,getR,setR,aa,Sf.disAt,id,bq,aX,List.getElem?_cons_zero,List.getElem?_cons_succ,↓reduceIte,Nat.reduceEqDiff,reduceCtorEq,decide_true,f63_5e,f63_6e,f63_7e,f63_7l,f63_8e,f63_9e,f63_9l]
  refine bw rfl e_f43 (gn (A:=[]) h hgb) rfl fun r st' hr=>?_
  obtain ⟨rfl,h1,h2⟩:=hr
  simp (config:=KF) (disch:=omega) only [bZ,retI,resI,resL,ao,putS,Sf.set,Sf.reg,getR,setR,aa,Sf.disAt,aU,List.all_cons,List.all_nil,↓reduceIte,Nat.reduceEqDiff,Bool.true_and,Bool.and_true,and_true,true_and,reduceCtorEq,f63_10e,f63_11e,f63_11l]
  exact hQ _ _ ⟨rfl,h1,h2⟩
end Go.Fx.YtbomoaajkinfpaaFx

