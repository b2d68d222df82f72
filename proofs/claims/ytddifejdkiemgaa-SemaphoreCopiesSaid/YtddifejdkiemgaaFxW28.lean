/- What the functions that the statement reaches compute: part 28. -/
import Derived.Test.YtddifejdkiemgaaFxW27
namespace Go.Fx.YtddifejdkiemgaaFx
open Go Go.Fx
attribute [local irreducible] aC runI a9 cd

set_option maxRecDepth 100000
set_option maxHeartbeats 8000000

/-- What a call of both comes to. -/
def DoP (st:St) (b q mid wid:Nat) (sz:Int) (g:Nat) (r:AV) (st':St):Prop :=
  ∃ nw H V g',r = .tup [rfAV sz nw H V,.lit (.bool true)]∧SmIs st' b q mid wid sz nw H V g'∧g'≤g + 1∧GFr st st' [b,q,mid,wid]

section
variable {st:St} {b q mid wid g:Nat} {sz nw:Int} {H:List Int} {V:List Vt}

/-- Two lists of grants, one behind the other. -/
theorem two_gr {st st1 st2:St} {v w:AV} {x:Rt} {nw1:Int} (hv:GB v st1 x.2.2.1) (h:SmIs st1 b q mid wid sz nw1 x.1 x.2.1 g) (hf:GFr st st1 [b,q,mid,wid]) (hw:GB w st2 x.2.2.1) (hg:GFr st1 st2 []) (hl:x.2.2.1.length≤1000) :
    bF Go.Proofs.Try.prog n_f54 [v,w] st2 (.lit (.bool true))∧SmIs st2 b q mid wid sz nw1 x.1 x.2.1 g∧GFr st st2 [b,q,mid,wid]:=by
  have hlt:=h.lts
  have hvl:=hv.lt
  refine ⟨?_,h.at fun i hi=>hg.2 i (hlt i hi) (by simp),hf.trans hg (by simp)⟩
  have:=sameg_bb (hv.at fun i hi=>hg.2 i (hvl i hi) (by simp)) hw (by omega) (by omega)
  simpa using this

theorem do_acq (h:SmIs st b q mid wid sz nw H V g) (hg0:g < 900000) (t n d:Int) (hd:d≤nev):bz Go.Proofs.Try.prog n_f58 [.ptr b 0,rfAV sz nw H V,.agg [.lit (.int .i64 0),.lit (.int .i64 t),.lit (.int .i64 n),.lit (.int .u64 d)]] st (DoP st b q mid wid sz g):=by
  refine bB hmix k_f58 rfl rfl fun Q hQ=>?_
  unfold aFun c_f58
  have f1:=fun H V=>cz (H:=H) (V:=V)
  have f2:=fun H V=>co (H:=H) (V:=V)
  have f3:=fun V=>bL (V:=V) h.hl
  have f6:=fun V=>bW (V:=V) h.hl
  simp (config:=KF) (disch:=omega) only [bZ,az,ap,aw,bA,bR,au,aq,boxX,addA,aj,ci,ev_f,ar,putS,Sf.set,Sf.reg,getR,setR,ae,Sf.disAt,Sf.newLoc,look,bt,aM,aO,id,ah,aa,ag,af,al,cb,aV,aB,List.length_cons,List.length_nil,List.all_cons,List.all_nil,List.drop_zero,List.drop_succ_cons,↓reduceIte,Nat.reduceEqDiff,Nat.reduceAdd,Bool.true_and,Bool.and_true,and_true,true_and,reduceCtorEq,Nat.zero_add,Nat.add_zero,decide_true,f58_1e,f58_2e,f58_2l,f58_3e,f58_4e,f58_5e,f58_5l,f58_6e,f58_7e,f58_8e,f58_8l,f58_9e,f58_10e,f58_11e,f58_11l,f1,f2,f3]
  refine bE rfl e_f35 (na h hg0 hd) rfl fun r st2 hr=>?_
  obtain ⟨rfl,a1,a2⟩:=hr
  have hra:=racq_pure h.rf g t n d st2
  obtain ⟨F1,F2⟩:=sAcq_facts sz nw H V g t n d
  have hr:=hQ _ st2 ⟨_,_,_,_,rfl,a1,by omega,.oth a2 fun x hx=>hx⟩
  obtain ⟨H',hH⟩:∃ H',H' = (sAcq sz nw H V g t n d).1.1:=⟨_,rfl⟩
  obtain ⟨V',hV⟩:∃ V',V' = (sAcq sz nw H V g t n d).1.2.1:=⟨_,rfl⟩
  obtain ⟨W,hW⟩:∃ W,W = (sAcq sz nw H V g t n d).2.1:=⟨_,rfl⟩
  obtain ⟨E,hE⟩:∃ E,E = (sAcq sz nw H V g t n d).2.2:=⟨_,rfl⟩
  rw [← hH,← hV] at hr a1
  rw [← hH,← hV,← hW,← hE] at hra
  rw [← hW,← hE]
  have g3:=fun V=>bL (V:=V) a1.hl
  have g6:=fun V=>bW (V:=V) a1.hl
  have g7:=fun V=>dF (V:=V) a1.hl
  simp (config:=KF) (disch:=omega) only [bZ,cy,az,ap,aw,au,extV,aq,addA,aj,ai,ak,aA,ev_f,putS,Sf.set,Sf.reg,getR,setR,ae,Sf.disAt,look,id,ah,bS,aa,bC,List.length_cons,List.getElem?_cons_zero,List.getElem?_cons_succ,List.drop_zero,List.drop_succ_cons,List.take_succ_cons,↓reduceIte,Nat.reduceEqDiff,Nat.reduceAdd,Nat.reduceLeDiff,reduceCtorEq,Nat.zero_add,decide_true,f58_12e,f58_13e,f58_13l,f1,f3,f6]
  refine aL (vs:=[rfAV sz nw H V,.lit (.int .i64 t),.lit (.int .i64 n),.lit (.int .u64 d)]) (by simp only [List.map_cons,List.map_nil,List.nil_append,List.append_nil,ah,aa,bH,f1]) e_f71 hra rfl ?_
  simp (config:=KF) (disch:=omega) only [bZ,ca,retI,resI,resL,ao,AI.dst,bj,aI,cy,ap,aw,bA,aH,ba,extV,aq,boxX,aU,b_eql,aj,ai,ci,ak,aA,ar,aG,putS,Sf.set,Sf.reg,getR,setR,ae,Sf.disAt,Sf.newLoc,Sf.setLoc,look,bt,aM,ah,bS,aa,bC,cq,ag,af,al,bO,aR,aF,aV,aB,cC,List.length_cons,List.length_nil,List.getElem?_cons_zero,List.getElem?_cons_succ,List.all_cons,List.all_nil,List.drop_zero,List.take_succ_cons,List.set_cons_zero,List.set_cons_succ,↓reduceIte,Nat.reduceEqDiff,Nat.reduceAdd,Nat.reduceLeDiff,Bool.true_and,Bool.and_true,and_true,true_and,Nat.zero_add,decide_true,bh,am,f58_14e,f58_15e,f58_15l,f1,f2,g3,g6,g7,beq_self_eq_true]
  exact hr

theorem do_try (h:SmIs st b q mid wid sz nw H V g) (t n d:Int):bz Go.Proofs.Try.prog n_f58 [.ptr b 0,rfAV sz nw H V,.agg [.lit (.int .i64 1),.lit (.int .i64 t),.lit (.int .i64 n),.lit (.int .u64 d)]] st (DoP st b q mid wid sz g):=by
  refine bB hmix k_f58 rfl rfl fun Q hQ=>?_
  unfold aFun c_f58
  have f1:=fun H V=>cz (H:=H) (V:=V)
  have f2:=fun H V=>co (H:=H) (V:=V)
  have f3:=fun V=>bL (V:=V) h.hl
  have f6:=fun V=>bW (V:=V) h.hl
  have hra:=rtry_pure h.rf t n st
  have hst:=nc h t n
  obtain ⟨H',hH⟩:∃ H',H' = (sTry sz H V t n).1:=⟨_,rfl⟩
  obtain ⟨E,hE⟩:∃ E,E = (sTry sz H V t n).2:=⟨_,rfl⟩
  have hl':H'.length = 64:=by
    rw [hH]; unfold sTry
    simp only
    have:=h.hl
    split
    · exact this
    split
    · exact this
    split
    · exact this
    · simp only [eC]; exact this
  rw [← hH,← hE] at hra hst
  have g3:=fun V=>bL (V:=V) hl'
  have g6:=fun V=>bW (V:=V) hl'
  have g7:=fun V=>dF (V:=V) hl'
  simp (config:=KF) (disch:=omega) only [bZ,az,ap,aw,bA,bR,au,aq,boxX,addA,aj,ai,ci,ak,aA,ev_f,ar,putS,Sf.set,Sf.reg,getR,setR,ae,Sf.disAt,Sf.newLoc,look,bt,aM,aO,id,ah,aa,ag,af,al,cb,aV,aB,List.length_cons,List.length_nil,List.all_cons,List.all_nil,List.drop_zero,List.drop_succ_cons,List.take_succ_cons,↓reduceIte,Nat.reduceEqDiff,Nat.reduceAdd,Nat.reduceLeDiff,Int.reduceEq,Bool.true_and,Bool.and_true,and_true,true_and,reduceCtorEq,Nat.zero_add,Nat.add_zero,decide_true,decide_false,f58_1e,f58_2e,f58_2l,f58_3e,f58_4e,f58_5e,f58_5l,f58_6e,f58_7e,f58_8e,f58_8l,f58_9e,f58_16e,f58_17e,f58_17l,f58_18e,f58_19e,f58_20e,f58_20l,f1,f2,f3,f6]
  refine aL (vs:=[rfAV sz nw H V,.lit (.int .i64 t),.lit (.int .i64 n)]) (by simp only [List.map_cons,List.map_nil,List.nil_append,List.append_nil,ah,aa,bH,f1]) e_f72 hra rfl ?_
  simp (config:=KF) (disch:=omega) only [bZ,cy,aw,bA,aH,extV,boxX,aU,ar,aG,putS,Sf.set,Sf.reg,getR,setR,ae,Sf.disAt,Sf.newLoc,Sf.setLoc,look,bt,aM,ah,bS,aa,bC,cq,ag,af,al,aF,cb,aV,aB,cC,List.length_cons,List.length_nil,List.getElem?_cons_zero,List.getElem?_cons_succ,List.all_cons,List.set_cons_zero,List.set_cons_succ,↓reduceIte,Nat.reduceEqDiff,Nat.reduceAdd,Nat.reduceLeDiff,Bool.true_and,Bool.and_true,and_true,true_and,reduceCtorEq,Nat.zero_add,am,f58_21e,f58_22e,f58_22h,f58_22p,f58_22l,f1,f2,g3,g7]
  refine draw_m ⟨[]⟩ (St.sub_nil _) ?_
  simp (config:=KF) (disch:=omega) only [bZ,List.contains_nil,List.contains_cons,Nat.reduceBEq,Bool.or_false,oq,mM,m_val,im,oZ,ia,atM_eq,jj,dropP,dropQ,mo,aq,addA,aj,ai,ak,aA,ev_f,putS,Sf.set,Sf.reg,getR,setR,look,bu,id,ah,aa,List.length_cons,List.append_nil,List.nil_append,List.cons_append,List.drop_zero,List.drop_succ_cons,List.take_succ_cons,↓reduceIte,Nat.reduceEqDiff,Nat.reduceAdd,Nat.reduceLeDiff,reduceCtorEq,Nat.zero_add,or_false,decide_true,Bool.false_eq_true,f1,g3,g6]
  refine call_m rfl e_f36 hst rfl ?_
  simp (config:=KF) (disch:=omega) only [bZ,List.contains_nil,List.contains_cons,Bool.or_false,ksB,b6,cF,cU,cp,nstB,cV,im,hm_nil,hm_hole,hm_none,hm_val,mP,AI.dst,putS,putN,Sf.set,Sf.reg,getR,setR,List.all_nil,List.nil_append,List.cons_append,↓reduceIte,Nat.reduceEqDiff,Bool.true_and,Bool.and_true,and_true,true_and,reduceCtorEq,or_false,Bool.not_false]
  rintro r st2 ⟨rfl,a1,a2⟩
  refine ⟨St.sub_nil _,?_⟩
  have hr:=hQ _ st2 ⟨_,_,_,_,rfl,a1,by omega,.oth a2 fun x hx=>by simp at hx ⊢; exact .inl hx⟩
  simp (config:=KF) (disch:=omega) only [bZ,List.contains_nil,List.contains_cons,Bool.or_false,ksB,b6,cF,cU,cp,dq,cX,nstB,cV,oq,mM,m_val,im,mN,mO,kR,compM_t,compM_tt,compM_f,mQ,o0,m_store,mm_store,ga,ff,and_self,ca,retI,resI,resL,aw,aj,ai,ci,ak,aA,putS,Sf.set,Sf.reg,getR,setR,ae,Sf.disAt,Sf.setLoc,look,aM,ah,aa,ag,af,al,bO,aR,List.length_cons,List.length_nil,List.all_cons,List.all_nil,List.nil_append,List.cons_append,List.drop_zero,List.take_succ_cons,↓reduceIte,Nat.reduceEqDiff,Nat.reduceAdd,Nat.reduceLeDiff,Bool.true_and,Bool.and_true,and_true,true_and,reduceCtorEq,Nat.zero_add,or_false,decide_true,Bool.not_false,f1,f2,g3,g6,beq_self_eq_true]
  exact hr
end
end Go.Fx.YtddifejdkiemgaaFx

