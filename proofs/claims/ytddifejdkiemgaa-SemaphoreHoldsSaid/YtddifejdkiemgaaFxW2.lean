/- What the functions that the statement reaches compute: part 2. -/
import Derived.Test.YtddifejdkiemgaaFxW1
namespace Go.Fx.YtddifejdkiemgaaFx
open Go Go.Fx
attribute [local irreducible] aC runI dg ep

set_option maxRecDepth 100000
set_option maxHeartbeats 4000000

theorem qpush_calls {q mid g:Nat} {L:Qu} {v:Int} {st:St} (h:QIs st q mid L g) (hlen:L.length < 4096) (hgb:g < 1000000) :
    dt Go.Proofs.Try.prog n_f48 [.ptr q 0,.lit (.int .i64 v)] st (fun r st'=>r = .tup [.lit (.int .u64 ((g + 1:Nat))),.lit (.int .i64 0)]∧QIs st' q mid (L++[(g + 1,v)]) (g + 1)∧Oth st st' [q,mid]):=by
  refine dN hmix k_f48 rfl rfl fun Q hQ=>?_
  unfold aFun c_f48
  obtain ⟨m,hm,hl,hml⟩:=h.mp
  have hg:=h.get
  have hne:=h.ne
  have hlt:=h.ltq
  have hfr:=h.fresh
  have hnq:mid ∉ [q]:=by simp [hne]
  have hqm:q ∉ [mid]:=by simp; exact fun e=>hne e.symm
  simp (config:=KF) (disch:=omega) only [bZ,aI,ev_f,putS,Sf.set,Sf.reg,getR,setR,aD,da,id,↓reduceIte,Nat.reduceEqDiff,reduceCtorEq,Nat.zero_add,f48_1e,f48_2e,f48_2l,f48_3e,f48_4e,f48_5e,f48_6e,f48_6l]
  refine cF rfl e_f68 (iD hg) rfl ?_
  by_cases hL:L = []
  · subst hL
    simp (config:=KF) (disch:=omega) only [bZ,fp,ek,fq,e7,dU,eJ,hh_bst,dz,dA,and_self,bG,cf,ca,ce,er,bH,dT,oG,bK,cB,bstV,boxX,d9,addA,a8,eF,gC,j1,dG,dH,putS,Sf.set,Sf.reg,getR,setR,aD,Sf.disAt,dn,dK,cN,cP,bU,cR,List.length_cons,List.length_nil,List.getElem?_cons_zero,List.getElem?_cons_succ,List.all_cons,List.all_nil,List.drop_zero,List.drop_succ_cons,List.set_cons_zero,List.set_cons_succ,Int.cast_ofNat_Int,↓reduceIte,Nat.reduceEqDiff,Nat.reduceAdd,Nat.reduceLeDiff,Bool.true_and,Bool.and_true,and_true,true_and,reduceCtorEq,Nat.zero_add,Nat.add_zero,dL,IntWalk.u64_in,fk,el,cD,b4,f48_7e,f48_10e,f48_11e,f48_11l,f48_12e,f48_15e,f48_16e,f48_16l,f48_17e,f48_18e,f48_18h,f48_18l,hg,qe,hml,dh,db]
    refine jy (b:=(v,0,0)) (hm.set hne) rfl rfl fun st2 hm2 ho2=>?_
    have hg2:st2.get q = some [.lit (.int .u64 0),.lit (.int .u64 0),.lit (.int .u64 ((g:Int) + 1)),.map mid]:=(ho2.get hqm).trans (el hlt)
    have hlt2:q < st2.boxes.length:=fA hg2
    simp (config:=KF) (disch:=omega) only [bZ,retI,resI,resL,cf,ca,ce,bH,dT,bK,cB,boxX,d9,addA,a8,fa,dG,dH,putS,Sf.set,Sf.reg,getR,setR,aD,Sf.disAt,cN,bU,cR,dE,List.length_cons,List.length_nil,List.all_cons,List.all_nil,List.drop_zero,List.drop_succ_cons,List.set_cons_zero,List.set_cons_succ,↓reduceIte,Nat.reduceEqDiff,Nat.reduceAdd,Nat.reduceLeDiff,Bool.true_and,Bool.and_true,and_true,true_and,reduceCtorEq,Nat.zero_add,Nat.add_zero,decide_true,fk,el,cD,b4,np,f48_19e,f48_20e,f48_21e,f48_21l,f48_22e,f48_23e,f48_23l,f48_29e,f48_30e,f48_30l,f48_31e,f48_32e,f48_32l,hg2]
    have ho:Oth st (st2.set q [.lit (.int .u64 ((g:Int) + 1)),.lit (.int .u64 ((g:Int) + 1)),.lit (.int .u64 ((g:Int) + 1)),.map mid]) [q,mid]:=((Oth.set st q _ (by simp)).trans (ho2.mono (by simp))).trans (Oth.set _ _ _ (by simp))
    refine hQ _ _ ⟨rfl,h.push (v:=v) (m':=updP (g + 1:Nat) (v,0,0) m) (el hlt2) (hm2.set hne) (fun t=>?_) ?_,ho⟩
    · rw [gI,hl t]
      simp only [List.nil_append,dS,dh]
      by_cases e:t = g + 1
      · subst e; simp
      · have:¬ (t:Int) = ((g + 1:Nat):Int):=by omega
        rw [if_neg this,if_neg e]
    · rw [iX,hl,fQ hfr]
      simp [hml]
  · have hlm:=iF (p:=0) hL
    have hlp:=h.pos _ hlm
    obtain ⟨x,hx⟩:=jz (p:=0) hlm
    have hnil:=h.nil_iff
    have hL0:((db 0 L:Int) = 0) = False:=by simp; omega
    have hlg:db 0 L≠g + 1:=fun e=>hfr (e ▸ hlm)
    simp (config:=KF) (disch:=omega) only [bZ,fp,ek,fq,e7,dU,eJ,hh_bst,dz,dA,and_self,bG,cf,ca,ce,er,bH,dT,oG,bK,cB,bstV,boxX,d9,addA,a8,eF,gC,j1,dG,dH,putS,Sf.set,Sf.reg,getR,setR,aD,Sf.disAt,dn,dK,cN,cP,bU,cR,List.length_cons,List.length_nil,List.getElem?_cons_zero,List.getElem?_cons_succ,List.all_cons,List.all_nil,List.drop_zero,List.drop_succ_cons,List.set_cons_zero,List.set_cons_succ,↓reduceIte,Nat.reduceEqDiff,Nat.reduceAdd,Nat.reduceLeDiff,Bool.true_and,Bool.and_true,and_true,true_and,reduceCtorEq,Nat.zero_add,Nat.add_zero,dL,IntWalk.u64_in,fk,el,cD,b4,f48_7e,f48_10e,f48_11e,f48_11l,f48_12e,f48_15e,f48_16e,f48_16l,f48_17e,f48_18e,f48_18h,f48_18l,hg,qe,hml]
    refine jy (b:=(v,db 0 L,0)) (hm.set hne) rfl rfl fun st2 hm2 ho2=>?_
    have hg2:st2.get q = some [.lit (.int .u64 (dh L 0:Nat)),.lit (.int .u64 (db 0 L:Nat)),.lit (.int .u64 ((g:Int) + 1)),.map mid]:=(ho2.get hqm).trans (el hlt)
    have hlt2:q < st2.boxes.length:=fA hg2
    have hk:∀ z,e6 (.int .u64) z false st2 (.map mid) (.lit (.int .u64 (db 0 L:Nat))) = .ok (ndAV x):=fun z=>by
      rw [fC hm2,gI,if_neg (by omega),hl,hx]; rfl
    simp (config:=KF) (disch:=omega) only [bZ,List.contains_nil,List.contains_cons,Nat.reduceBEq,Bool.or_false,ksB,d7,eW,fJ,eR,gj,fj,nstB,fK,eS,Option.getD_none,fp,ek,fq,e7,dU,eJ,i7,o3,dz,dA,o4,nt,cf,ca,ce,dT,oG,bK,cB,boxX,d9,addA,a8,dR,fa,cE,eY,dG,dH,putS,Sf.set,Sf.reg,getR,setR,aD,Sf.disAt,Sf.newLoc,Sf.setLoc,look,gh,fo,dn,dK,dD,dk,cN,cP,bU,cR,nh,ey,eI,gn,eA,List.length_cons,List.length_nil,List.all_cons,List.all_nil,List.nil_append,List.drop_zero,List.drop_succ_cons,List.take_succ_cons,List.take_zero,List.set_cons_zero,List.set_cons_succ,↓reduceIte,Nat.reduceEqDiff,Nat.reduceAdd,Nat.reduceLeDiff,Bool.true_and,Bool.and_true,and_true,true_and,reduceCtorEq,Nat.zero_add,Nat.add_zero,or_false,decide_true,decide_false,Bool.not_false,Bool.false_eq_true,fk,cD,b4,f48_19e,f48_20e,f48_21e,f48_21l,f48_22e,f48_24e,f48_25e,f48_25h,f48_25l,f48_26e,f48_27e,f48_27l,f48_28e,f48_28h,f48_28l,hg2,hL0,hk,ndAV]
    refine jy (b:=(x.1,x.2.1,g + 1)) hm2 rfl rfl fun st3 hm3 ho3=>?_
    have hg3:st3.get q = some [.lit (.int .u64 (dh L 0:Nat)),.lit (.int .u64 (db 0 L:Nat)),.lit (.int .u64 ((g:Int) + 1)),.map mid]:=(ho3.get hqm).trans hg2
    have hlt3:q < st3.boxes.length:=fA hg3
    simp (config:=KF) (disch:=omega) only [bZ,retI,resI,resL,cf,ca,ce,bH,dT,bK,cB,boxX,d9,addA,a8,dG,dH,putS,Sf.set,Sf.reg,getR,setR,aD,Sf.disAt,cN,bU,cR,dE,List.length_cons,List.length_nil,List.all_cons,List.all_nil,List.drop_zero,List.drop_succ_cons,List.set_cons_zero,List.set_cons_succ,↓reduceIte,Nat.reduceEqDiff,Nat.reduceAdd,Nat.reduceLeDiff,Bool.true_and,Bool.and_true,and_true,true_and,reduceCtorEq,Nat.zero_add,Nat.add_zero,fk,el,cD,b4,f48_29e,f48_30e,f48_30l,f48_31e,f48_32e,f48_32l,hg3]
    have ho:Oth st (st3.set q [.lit (.int .u64 (dh L 0:Nat)),.lit (.int .u64 ((g:Int) + 1)),.lit (.int .u64 ((g:Int) + 1)),.map mid]) [q,mid]:=(((Oth.set st q _ (by simp)).trans (ho2.mono (by simp))).trans (ho3.mono (by simp))).trans (Oth.set _ _ _ (by simp))
    have hnx:dh (L++[(g + 1,v)]) 0 = dh L 0:=by cases L with
      | nil=>exact absurd rfl hL
      | cons _ _=>rfl
    refine hQ _ _ ⟨rfl,h.push (v:=v) (by rw [hnx]; exact el hlt3) (hm3.set hne) (fun t=>?_) ?_,ho⟩
    · rw [gI,gI,hl t,nodeA_push h.nd hfr hL]
      by_cases e:t = db 0 L
      · subst e; simp [hx]
      · have e1:¬ (t:Int) = (db 0 L:Nat):=by omega
        rw [if_neg e1,if_neg e]
        by_cases e2:t = g + 1
        · subst e2; simp
        · have e3:¬ (t:Int) = ((g + 1:Nat):Int):=by omega
          rw [if_neg e3,if_neg e2]
    · have h1:dB ((g + 1:Nat):Int) m = none:=by rw [hl,fQ hfr]
      have h2:dB ((db 0 L:Nat):Int) (updP ((g + 1:Nat):Int) (v,db 0 L,0) m) = some x:=by rw [gI,if_neg (by omega),hl,hx]
      rw [iX,h2,iX,h1]
      simp [hml]

theorem qI {q mid g t:Nat} {v:Int} {A B:Qu} {st:St} (h:QIs st q mid (A++(t,v)::B) g) (hgb:g < 1000000) :
    dt Go.Proofs.Try.prog n_f51 [.ptr q 0,.lit (.int .u64 (t:Nat))] st (fun r st'=>r = .tup [.lit (.int .i64 v),.lit (.int .i64 0)]∧QIs st' q mid (A++B) g∧Oth st st' [q,mid]):=by
  refine dN hmix k_f51 rfl rfl fun Q hQ=>?_
  unfold aFun c_f51
  obtain ⟨m,hm,hl,hml⟩:=h.mp
  have hg:=h.get
  have hne:=h.ne
  have hlt:=h.ltq
  have hnd:=h.nd
  have hqm:q ∉ [mid]:=by simp; exact fun e=>hne e.symm
  have h1:t ∉ dw A∧t ∉ dw B:=by
    rw [fE] at hnd
    obtain ⟨_,h2,h3⟩:=List.nodup_append.1 hnd
    exact ⟨fun e=>h3 t e t (by simp [dw]) rfl,(List.nodup_cons.1 h2).1⟩
  have hat:=nodeA_at (v:=v) (B:=B) h1.1
  have hk:∀ z,e6 (.int .u64) z true st (.map mid) (.lit (.int .u64 (t:Nat))) = .ok (.tup [ndAV (v,db 0 A,dh B 0),.lit (.bool true)]):=fun z=>by
    rw [fC hm,hl,hat]; rfl
  have hposA:A≠[]→0 < db 0 A:=fun e=>(h.pos _ (by rw [fE]; exact List.mem_append_left _ (iF e))).1
  have hposB:B≠[]→0 < dh B 0∧dh B 0 ∈ dw B:=fun e=>by
    cases B with
    | nil=>exact absurd rfl e
    | cons x r=>exact ⟨(h.pos _ (by rw [fE]; simp [dw,dh])).1,by simp [dw,dh]⟩
  have hlx:∀ t':Nat,dB (t':Int) (delP (t:Int) m) = if t' = t then none else dS 0 (A++(t,v)::B) 0 t':=fun t'=>by
    rw [qd _ _ hm.nd,hl]
    by_cases e:t' = t
    · subst e; simp
    · have:¬ (t':Int) = (t:Int):=by omega
      rw [if_neg this,if_neg e]
  have hdel:(delP (t:Int) m).length = (A++B).length:=by
    rw [sm,hl,hat]; simp [hml]
  simp (config:=KF) (disch:=omega) only [bZ,aI,ev_f,putS,Sf.set,Sf.reg,getR,setR,aD,da,id,↓reduceIte,Nat.reduceEqDiff,reduceCtorEq,Nat.zero_add,f51_1e,f51_2e,f51_2l,f51_3e,f51_4e,f51_5e,f51_5l]
  refine cF rfl e_f68 (iD hg) rfl ?_
  simp (config:=KF) (disch:=omega) only [bZ,o_un,fH,cf,ca,ce,gm,bH,iz,dT,o_del,extV,bK,cB,boxX,d9,addA,a8,unA,dG,dH,putS,Sf.set,Sf.reg,getR,setR,aD,Sf.disAt,Sf.newLoc,Sf.setLoc,look,gh,fo,dK,dD,ei,dk,dW,kY,cP,bU,cR,ey,eI,gn,eA,j0,List.length_cons,List.length_nil,List.getElem?_cons_zero,List.getElem?_cons_succ,List.all_cons,List.all_nil,List.drop_zero,List.drop_succ_cons,List.set_cons_zero,List.set_cons_succ,↓reduceIte,Nat.reduceEqDiff,Nat.reduceAdd,Nat.reduceLeDiff,Bool.true_and,Bool.and_true,and_true,true_and,reduceCtorEq,Nat.zero_add,Bool.not_true,cD,b4,f51_6e,f51_9e,f51_10e,f51_10l,f51_11e,f51_12e,f51_13e,f51_13l,f51_14e,f51_17e,f51_18e,f51_18l,hg,hk,ndAV]
  refine del_step hm fun st2 hm2 ho2=>?_
  have hg2:st2.get q = _:=(ho2.get hqm).trans hg
  have hlt2:q < st2.boxes.length:=fA hg2
  have hfin:∀ t':Nat,dS 0 (A++B) 0 t' = _:=fun t'=>nodeA_del (t:=t') hnd
  have hAB:∀ x ∈ dw A,x ∉ dw B:=by
    rw [fE] at hnd
    obtain ⟨_,h2,h3⟩:=List.nodup_append.1 hnd
    exact fun x hx hb=>h3 x hx x (by simp only [dw,List.map_cons,List.mem_cons]; exact .inr hb) rfl
  by_cases hA:A = []
  · subst hA
    have e0:db 0 ([]:Qu) = 0:=rfl
    by_cases hB:B = []
    · subst hB
      simp (config:=KF) (disch:=omega) only [bZ,retI,resI,resL,cf,ca,ce,bH,dT,bK,cB,boxX,d9,addA,a8,fa,dG,dH,putS,Sf.set,Sf.reg,getR,setR,aD,Sf.disAt,look,cN,bU,cR,dE,List.length_cons,List.length_nil,List.all_cons,List.all_nil,List.nil_append,List.drop_zero,List.drop_succ_cons,List.set_cons_zero,List.set_cons_succ,Int.cast_ofNat_Int,↓reduceIte,Nat.reduceEqDiff,Nat.reduceAdd,Nat.reduceLeDiff,Bool.true_and,Bool.and_true,and_true,true_and,reduceCtorEq,Nat.zero_add,Nat.add_zero,decide_true,el,cD,b4,np,f51_19e,f51_20e,f51_21e,f51_21l,f51_22e,f51_23e,f51_23l,f51_29e,f51_30e,f51_31e,f51_31l,f51_32e,f51_33e,f51_33l,f51_39e,f51_40e,f51_40l,hg2,e0,dh]
      refine hQ _ _ ⟨rfl,h.del (A:=[]) (B:=[]) (m':=delP (t:Int) m) (el hlt2) (hm2.set hne) (fun t'=>?_) hdel,(ho2.mono (by simp)).trans (Oth.set _ _ _ (by simp))⟩
      rw [hlx,hfin]
      by_cases e:t' = t
      · simp [e]
      · simp [e]
    · obtain ⟨hp,hw⟩:=hposB hB
      have hn0:((dh B 0:Int) = 0) = False:=by simp; omega
      have hnl:dh (([]:Qu)++(t,v)::B) 0 = t:=rfl
      have hll:db 0 (([]:Qu)++(t,v)::B) = db 0 B:=by rw [ka]; exact last_ne hB
      have hwt:dh B 0≠t:=fun e=>h1.2 (e ▸ hw)
      obtain ⟨y,hy⟩:=jz (L:=[]++(t,v)::B) (p:=0) (t:=dh B 0) (by rw [fE]; simp only [dw,List.map_cons,List.mem_append,List.mem_cons]; exact .inr (.inr hw))
      have hk2:∀ z,e6 (.int .u64) z false (st2.set q [.lit (.int .u64 (dh B 0:Nat)),.lit (.int .u64 (db 0 ((t,v)::B):Nat)),.lit (.int .u64 (g:Nat)),.map mid]) (.map mid) (.lit (.int .u64 (dh B 0:Nat))) = .ok (ndAV y):=fun z=>by
        rw [fC (hm2.set hne),hlx,if_neg hwt,hy]; rfl
      simp only [e0]
      simp (config:=KF) (disch:=omega) only [bZ,List.contains_nil,List.contains_cons,Nat.reduceBEq,Bool.or_false,ksB,d7,eW,fJ,eR,gj,fj,nstB,fK,eS,Option.getD_none,fp,ek,fq,e7,dU,eJ,i7,o3,dz,dA,o4,nt,cf,ca,ce,dT,oG,bK,cB,boxX,d9,addA,a8,dR,fa,cE,eY,dG,dH,putS,Sf.set,Sf.reg,getR,setR,aD,Sf.disAt,Sf.newLoc,Sf.setLoc,look,gh,fo,dn,dK,dD,dk,cN,cP,bU,cR,nh,ey,eI,n5,gn,eA,List.length_cons,List.length_nil,List.all_cons,List.all_nil,List.nil_append,List.drop_zero,List.drop_succ_cons,List.take_succ_cons,List.take_zero,List.set_cons_zero,List.set_cons_succ,Int.cast_ofNat_Int,↓reduceIte,Nat.reduceEqDiff,Nat.reduceAdd,Nat.reduceLeDiff,Bool.true_and,Bool.and_true,and_true,true_and,reduceCtorEq,Nat.zero_add,Nat.add_zero,or_false,decide_true,decide_false,Bool.not_false,Bool.false_eq_true,el,cD,b4,f51_19e,f51_20e,f51_21e,f51_21l,f51_22e,f51_23e,f51_23l,f51_29e,f51_30e,f51_31e,f51_31l,f51_32e,f51_34e,f51_35e,f51_35h,f51_35l,f51_36e,f51_37e,f51_37l,f51_38e,f51_38h,f51_38l,hg2,hn0,hk2,ndAV]
      refine jy (b:=(y.1,0,y.2.2)) (hm2.set hne) rfl rfl fun st3 hm3 ho3=>?_
      simp (config:=KF) (disch:=omega) only [bZ,retI,resI,resL,cf,ca,bH,bK,addA,a8,putS,Sf.set,Sf.reg,getR,setR,aD,Sf.disAt,look,dE,List.all_cons,List.all_nil,List.drop_zero,↓reduceIte,Nat.reduceEqDiff,Bool.true_and,Bool.and_true,and_true,true_and,reduceCtorEq,Nat.add_zero,f51_39e,f51_40e,f51_40l]
      have hg3:st3.get q = some [.lit (.int .u64 (dh B 0:Nat)),.lit (.int .u64 (db 0 ((t,v)::B):Nat)),.lit (.int .u64 (g:Nat)),.map mid]:=(ho3.get hqm).trans (el hlt2)
      refine hQ _ _ ⟨rfl,h.del (A:=[]) (B:=B) (by rw [hg3,show db 0 ((t,v)::B) = db 0 B from hll]; rfl) hm3 (fun t'=>?_) ?_,((ho2.mono (by simp)).trans (Oth.set _ _ _ (by simp))).trans (ho3.mono (by simp))⟩
      · rw [gI,hlx,hfin]
        by_cases e:t' = t
        · subst e
          have:¬ (t':Int) = (dh B 0:Nat):=by omega
          rw [if_neg this,if_pos rfl,if_pos rfl]
        · by_cases e2:t' = dh B 0
          · subst e2
            rw [if_pos rfl,if_neg hwt,if_neg (fun q=>q.1 rfl),if_pos ⟨hB,rfl⟩,hy]; rfl
          · have:¬ (t':Int) = (dh B 0:Nat):=by omega
            rw [if_neg this,if_neg e,if_neg e,if_neg (fun q=>q.1 rfl),if_neg (fun q=>e2 q.2)]
      · rw [iX,hlx,if_neg hwt,hy]; simpa using hdel
  · have hp:=hposA hA
    have hb0:((db 0 A:Int) = 0) = False:=by simp; omega
    have hbm:=iF (p:=0) hA
    have hbt:db 0 A≠t:=fun e=>h1.1 (e ▸ hbm)
    have hnl:dh (A++(t,v)::B) 0 = dh A 0:=by cases A with
      | nil=>exact absurd rfl hA
      | cons _ _=>rfl
    have hnl2:dh (A++B) 0 = dh A 0:=by cases A with
      | nil=>exact absurd rfl hA
      | cons _ _=>rfl
    obtain ⟨y,hy⟩:=jz (L:=A++(t,v)::B) (p:=0) (t:=db 0 A) (by rw [fE]; exact List.mem_append_left _ hbm)
    have hk2:∀ z,e6 (.int .u64) z false st2 (.map mid) (.lit (.int .u64 (db 0 A:Nat))) = .ok (ndAV y):=fun z=>by
      rw [fC hm2,hlx,if_neg hbt,hy]; rfl
    simp (config:=KF) (disch:=omega) only [bZ,List.contains_nil,List.contains_cons,Nat.reduceBEq,Bool.or_false,ksB,d7,eW,fJ,eR,gj,fj,nstB,fK,eS,Option.getD_none,fp,ek,fq,e7,dU,eJ,i7,o3,dz,dA,o4,nt,cf,ca,dT,oG,bK,cB,boxX,d9,addA,a8,dR,fa,cE,eY,dG,dH,putS,Sf.set,Sf.reg,getR,setR,aD,Sf.disAt,Sf.newLoc,Sf.setLoc,look,gh,fo,dn,dK,dD,dk,cN,cP,bU,cR,nh,ey,eI,n5,gn,eA,List.length_cons,List.length_nil,List.all_cons,List.all_nil,List.nil_append,List.drop_zero,List.drop_succ_cons,List.take_succ_cons,List.take_zero,List.set_cons_zero,List.set_cons_succ,↓reduceIte,Nat.reduceEqDiff,Nat.reduceAdd,Nat.reduceLeDiff,Bool.true_and,Bool.and_true,and_true,true_and,reduceCtorEq,Nat.zero_add,or_false,decide_true,decide_false,Bool.not_false,Bool.false_eq_true,cD,b4,f51_19e,f51_20e,f51_21e,f51_21l,f51_22e,f51_24e,f51_25e,f51_25h,f51_25l,f51_26e,f51_27e,f51_27l,f51_28e,f51_28h,f51_28l,hg2,hb0,hk2,ndAV]
    refine jy (b:=(y.1,y.2.1,dh B 0)) hm2 rfl rfl fun st3 hm3 ho3=>?_
    have hg3:st3.get q = _:=(ho3.get hqm).trans hg2
    have hlt3:q < st3.boxes.length:=fA hg3
    have hl3:∀ t':Nat,dB (t':Int) (updP ((db 0 A:Nat):Int) (y.1,y.2.1,dh B 0) (delP (t:Int) m)) = if t' = db 0 A then some (y.1,y.2.1,dh B 0) else if t' = t then none else dS 0 (A++(t,v)::B) 0 t':=fun t'=>by
      rw [gI,hlx]
      by_cases e:t' = db 0 A
      · subst e; simp
      · have:¬ (t':Int) = (db 0 A:Nat):=by omega
        rw [if_neg this,if_neg e]
    have hn3:(updP ((db 0 A:Nat):Int) (y.1,y.2.1,dh B 0) (delP (t:Int) m)).length = (A++B).length:=by
      rw [iX,hlx,if_neg hbt,hy]; simpa using hdel
    by_cases hB:B = []
    · subst hB
      simp (config:=KF) (disch:=omega) only [bZ,retI,resI,resL,cf,ca,ce,bH,dT,bK,cB,boxX,d9,addA,a8,fa,dG,dH,putS,Sf.set,Sf.reg,getR,setR,aD,Sf.disAt,look,cN,bU,cR,dE,List.length_cons,List.length_nil,List.all_cons,List.all_nil,List.drop_zero,List.drop_succ_cons,List.set_cons_zero,List.set_cons_succ,Int.cast_ofNat_Int,↓reduceIte,Nat.reduceEqDiff,Nat.reduceAdd,Nat.reduceLeDiff,Bool.true_and,Bool.and_true,and_true,true_and,reduceCtorEq,Nat.zero_add,Nat.add_zero,decide_true,cD,b4,f51_29e,f51_30e,f51_31e,f51_31l,f51_32e,f51_33e,f51_33l,f51_39e,f51_40e,f51_40l,hg3,dh]
      refine hQ _ _ ⟨rfl,h.del (A:=A) (B:=[]) (by rw [hnl2,← hnl,ka]; exact el hlt3) (hm3.set hne) (fun t'=>?_) hn3,((ho2.mono (by simp)).trans (ho3.mono (by simp))).trans (Oth.set _ _ _ (by simp))⟩
      rw [hl3,hfin]
      by_cases e:t' = db 0 A
      · subst e; simp [hbt,hA,hy,dh]
      · simp [e]
    · obtain ⟨hpb,hw⟩:=hposB hB
      have hn0:((dh B 0:Int) = 0) = False:=by simp; omega
      have hll:db 0 (A++(t,v)::B) = db 0 (A++B):=by rw [ka,ka]; exact last_ne hB
      have hwt:dh B 0≠t:=fun e=>h1.2 (e ▸ hw)
      have hwb:dh B 0≠db 0 A:=fun e=>hAB _ hbm (e ▸ hw)
      obtain ⟨x,hx⟩:=jz (L:=A++(t,v)::B) (p:=0) (t:=dh B 0) (by rw [fE]; simp only [dw,List.map_cons,List.mem_append,List.mem_cons]; exact .inr (.inr hw))
      have hk3:∀ z,e6 (.int .u64) z false st3 (.map mid) (.lit (.int .u64 (dh B 0:Nat))) = .ok (ndAV x):=fun z=>by
        rw [fC hm3,hl3,if_neg hwb,if_neg hwt,hx]; rfl
      simp (config:=KF) (disch:=omega) only [bZ,List.contains_nil,List.contains_cons,Nat.reduceBEq,Bool.or_false,ksB,d7,eW,fJ,eR,gj,fj,nstB,fK,eS,Option.getD_none,fp,ek,fq,e7,dU,eJ,i7,o3,dz,dA,o4,nt,cf,ca,dT,oG,bK,cB,boxX,d9,addA,a8,dR,fa,cE,eY,dG,dH,putS,Sf.set,Sf.reg,getR,setR,aD,Sf.disAt,Sf.newLoc,Sf.setLoc,look,gh,fo,dn,dK,dD,dk,cN,cP,bU,cR,nh,ey,eI,n5,gn,eA,List.length_cons,List.length_nil,List.all_cons,List.all_nil,List.nil_append,List.drop_zero,List.drop_succ_cons,List.take_succ_cons,List.take_zero,List.set_cons_zero,List.set_cons_succ,↓reduceIte,Nat.reduceEqDiff,Nat.reduceAdd,Nat.reduceLeDiff,Bool.true_and,Bool.and_true,and_true,true_and,reduceCtorEq,Nat.zero_add,or_false,decide_true,decide_false,Bool.not_false,Bool.false_eq_true,cD,b4,f51_29e,f51_30e,f51_31e,f51_31l,f51_32e,f51_34e,f51_35e,f51_35h,f51_35l,f51_36e,f51_37e,f51_37l,f51_38e,f51_38h,f51_38l,hg3,hn0,hk3,ndAV]
      refine jy (b:=(x.1,db 0 A,x.2.2)) hm3 rfl rfl fun st4 hm4 ho4=>?_
      simp (config:=KF) (disch:=omega) only [bZ,retI,resI,resL,cf,ca,bH,bK,addA,a8,putS,Sf.set,Sf.reg,getR,setR,aD,Sf.disAt,look,dE,List.all_cons,List.all_nil,List.drop_zero,↓reduceIte,Nat.reduceEqDiff,Bool.true_and,Bool.and_true,and_true,true_and,reduceCtorEq,Nat.add_zero,f51_39e,f51_40e,f51_40l]
      have hg4:st4.get q = _:=(ho4.get hqm).trans hg3
      refine hQ _ _ ⟨rfl,h.del (A:=A) (B:=B) (by rw [hnl2,← hnl,← hll]; exact hg4) hm4 (fun t'=>?_) ?_,((ho2.mono (by simp)).trans (ho3.mono (by simp))).trans (ho4.mono (by simp))⟩
      · rw [gI,hl3,hfin]
        by_cases e2:t' = dh B 0
        · subst e2; simp [hwt,hwb,hB,hx]
        · have:¬ (t':Int) = (dh B 0:Nat):=by omega
          rw [if_neg this]
          by_cases e:t' = db 0 A
          · subst e; simp [hbt,hA,hy]
          · simp [e,e2]
      · rw [iX,hl3,if_neg hwb,if_neg hwt,hx]; simpa using hn3

end Go.Fx.YtddifejdkiemgaaFx

