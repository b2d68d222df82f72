/- What the functions that the statement reaches compute: part 30. -/
import Derived.Test.YtddifejdkiemgaaFxW29
namespace Go.Fx.YtddifejdkiemgaaFx
open Go Go.Fx
attribute [local irreducible] aC runI a9 cd

set_option maxRecDepth 100000
set_option maxHeartbeats 8000000

theorem jq (sz nw:Int) (hn:0≤nw∧nw≤nev) (l:List St5) (hd:∀ a ∈ l,0≤a.2.2.2∧a.2.2.2≤nev):br Go.Proofs.Try.prog n_f9 [.lit (.int .i64 sz),.lit (.int .u64 nw),ssAV l] ⟨[]⟩ (fun v _=>v = .lit (.bool true)):=by
  refine bB hmix k_f9 rfl rfl fun Q hQ=>?_
  unfold aFun c_f9
  have hml:(l.map saAV).length = l.length:=by simp
  by_cases hb:sz < 1∨1048576 < sz∨nw = nev
  · unfold ssAV
    simp (config:=KF) (disch:=omega) only [bZ,au,ev_f,putS,Sf.set,Sf.reg,getR,setR,ae,aL,id,bz,↓reduceIte,Nat.reduceEqDiff,Nat.reduceAdd,reduceCtorEq,Nat.zero_add,f9_1e,f9_2e,f9_2l,f9_3e,f9_4e,f9_4l]
    refine aK rfl e_f29 (snew_err hb _) rfl ?_
    simp (config:=KF) (disch:=omega) only [bZ,cO,az,au,extV,ev_f,putS,Sf.set,Sf.reg,getR,setR,ae,Sf.disAt,id,bX,bI,List.getElem?_cons_zero,List.getElem?_cons_succ,↓reduceIte,Nat.reduceEqDiff,reduceCtorEq,f9_5e,f9_6e,f9_6l]
    have hre:=rnew_err hb ⟨[]⟩
    simp only [rfAV,rfC,od] at hre
    refine aK rfl e_f30 hre rfl ?_
    by_cases h3:40 < l.length
    all_goals
      simp (config:=KF) (disch:=omega) only [bZ,ao,b7,AI.dst,bt,aE,aO,cO,cc,az,bA,aJ,au,bu,aV,extV,boxX,aW,lenI,ci,cv,cu,ev_f,ar,aG,putS,Sf.set,Sf.reg,getR,setR,ae,Sf.disAt,Sf.newLoc,Sf.setLoc,look,bq,aQ,id,bz,ah,bX,aa,bI,cM,ag,af,al,aF,gR,aB,cX,List.length_cons,List.length_nil,List.getElem?_cons_zero,List.getElem?_cons_succ,List.all_cons,List.all_nil,List.set_cons_zero,List.set_cons_succ,↓reduceIte,Nat.reduceEqDiff,Nat.reduceAdd,Nat.reduceLeDiff,Int.reduceEq,Bool.true_and,Bool.and_true,and_true,true_and,reduceCtorEq,Nat.zero_add,not_false_eq_true,decide_true,Bool.false_eq_true,cg,bp,aT,am,f9_7e,f9_8e,f9_9e,f9_9l,f9_10e,f9_11e,f9_12e,f9_12l,hml]
      refine bQ rfl e_f31 (oU _) rfl fun r st1 hr=>?_
      subst hr
      simp (config:=KF) (disch:=omega) only [bZ,retI,aO,az,bu,putS,Sf.set,Sf.reg,getR,setR,ae,Sf.disAt,↓reduceIte,Nat.reduceEqDiff,Bool.true_and,true_and]
      exact hQ _ _ rfl
  · have h1:1≤sz∧sz≤1048576:=by omega
    have h2:nw < nev:=by unfold nev at *; omega
    have hpl:=fun b q mid wid g st0 h0 h1=>plays_calls (b:=b) (q:=q) (mid:=mid) (wid:=wid) (sz:=sz) (nw:=nw) (H:=List.replicate 64 0) (V:=[]) (g:=g) (st:=st0) h0 l h1
    unfold ssAV at hpl ⊢
    simp (config:=KF) (disch:=omega) only [bZ,au,ev_f,putS,Sf.set,Sf.reg,getR,setR,ae,aL,id,bz,↓reduceIte,Nat.reduceEqDiff,Nat.reduceAdd,reduceCtorEq,Nat.zero_add,f9_1e,f9_2e,f9_2l,f9_3e,f9_4e,f9_4l]
    refine bQ rfl e_f29 (mV h1 ⟨hn.1,h2⟩ _) rfl fun r st0 hr=>?_
    obtain ⟨rfl,h0,_⟩:=hr
    generalize (St.boxes ⟨[]⟩).length + 3 = b at *
    generalize (St.boxes ⟨[]⟩).length + 1 = q at *
    generalize (St.boxes ⟨[]⟩).length + 2 = wid at *
    simp (config:=KF) (disch:=omega) only [bZ,cO,az,au,extV,ev_f,putS,Sf.set,Sf.reg,getR,setR,ae,Sf.disAt,id,bX,bI,own2_ptr,List.getElem?_cons_zero,List.getElem?_cons_succ,↓reduceIte,Nat.reduceEqDiff,reduceCtorEq,f9_5e,f9_6e,f9_6l]
    have hpl:=hpl b q _ wid 0 st0 h0
    obtain ⟨H,hH⟩:∃ H,H = List.replicate 64 (0:Int):=⟨_,rfl⟩
    have hre:=rnew_pure h1 h2 st0
    rw [← hH] at h0 hre hpl
    have f1:=fun H V=>cy (H:=H) (V:=V)
    have f2:=fun H V=>co (H:=H) (V:=V)
    have f3:=bP (V:=[]) h0.hl
    have f6:=b5 (V:=[]) h0.hl
    have f7:=dP (V:=[]) h0.hl
    refine aK rfl e_f30 hre rfl ?_
    by_cases h3:40 < l.length
    · simp (config:=KF) (disch:=omega) only [bZ,ao,b7,AI.dst,bt,aO,cO,cc,az,bA,aJ,au,bu,extV,boxX,aW,lenI,ci,cu,ev_f,ar,aG,putS,Sf.set,Sf.reg,getR,setR,ae,Sf.disAt,Sf.newLoc,Sf.setLoc,look,bq,aQ,id,bz,ah,bX,aa,bI,cM,ag,af,al,aF,cn,gR,aB,cX,List.length_cons,List.length_nil,List.getElem?_cons_zero,List.getElem?_cons_succ,List.all_cons,List.set_cons_zero,List.set_cons_succ,↓reduceIte,Nat.reduceEqDiff,Nat.reduceAdd,Nat.reduceLeDiff,Bool.true_and,Bool.and_true,and_true,true_and,reduceCtorEq,Nat.zero_add,decide_true,Bool.false_eq_true,cg,am,f9_7e,f9_8e,f9_9e,f9_9l,f9_10e,f9_11e,f9_12e,f9_12l,hml,f1,f2,f3,f7]
      refine bQ rfl e_f31 (oU _) rfl fun r st1 hr=>?_
      subst hr
      simp (config:=KF) (disch:=omega) only [bZ,retI,aO,az,bu,putS,Sf.set,Sf.reg,getR,setR,ae,Sf.disAt,↓reduceIte,Nat.reduceEqDiff,Bool.true_and,true_and]
      exact hQ _ _ rfl
    · simp (config:=KF) (disch:=omega) only [bZ,ao,AI.dst,aE,aO,cO,ap,cc,az,bA,aJ,au,aV,extV,aq,boxX,aW,iN,eG,dv,lenI,aj,ai,cv,cu,ak,aA,ev_f,ar,aG,putS,Sf.set,Sf.reg,getR,setR,ae,Sf.disAt,Sf.newLoc,Sf.setLoc,look,bq,aQ,id,bz,ah,bX,aa,bI,cM,ag,af,al,aF,cn,gR,aB,cX,List.length_cons,List.length_nil,List.getElem?_cons_zero,List.getElem?_cons_succ,List.all_cons,List.drop_zero,List.take_succ_cons,List.set_cons_zero,List.set_cons_succ,↓reduceIte,Nat.reduceEqDiff,Nat.reduceAdd,Nat.reduceLeDiff,Bool.true_and,Bool.and_true,and_true,true_and,reduceCtorEq,Nat.zero_add,not_true_eq_false,decide_true,decide_false,Bool.false_eq_true,bp,bf,am,f9_7e,f9_8e,f9_9e,f9_9l,f9_10e,f9_13e,f9_14e,f9_15e,f9_15l,f9_16e,f9_19e,f9_20e,f9_20l,hml,f1,f2,f3,f6,f7]
      refine bQ (vs:=[.ptr b 0,rfAV sz nw H [],.sl false 4 (l.map saAV)]) (by simp only [List.map_cons,List.map_nil,List.nil_append,List.append_nil,ah,aa,jW,bz,f1,f6]) e_f33 (hpl (by omega) (by omega) hd) rfl fun r st1 hr=>?_
      obtain ⟨nw',H',V',g',rfl,a1,_,_⟩:=hr
      have g3:=bP (V:=V') a1.hl
      have g6:=b5 (V:=V') a1.hl
      have g7:=dP (V:=V') a1.hl
      simp (config:=KF) (disch:=omega) only [bZ,ao,AI.dst,bt,cO,az,bA,aJ,au,extV,boxX,aW,ev_f,ar,aG,putS,Sf.set,Sf.reg,getR,setR,ae,Sf.disAt,Sf.newLoc,Sf.setLoc,look,bq,aQ,id,ah,bX,aa,bI,cM,ag,af,al,aF,cn,aU,gR,aB,cX,List.length_cons,List.length_nil,List.getElem?_cons_zero,List.getElem?_cons_succ,List.all_cons,↓reduceIte,Nat.reduceEqDiff,Nat.reduceAdd,Nat.reduceLeDiff,Bool.true_and,Bool.and_true,and_true,true_and,Nat.zero_add,am,f9_21e,f9_22e,f9_22l,f1,f2,g3]
      refine bQ rfl e_f31 (oU _) rfl fun r st1 hr=>?_
      subst hr
      simp (config:=KF) (disch:=omega) only [bZ,retI,aO,az,bu,putS,Sf.set,Sf.reg,getR,setR,ae,Sf.disAt,↓reduceIte,Nat.reduceEqDiff,Bool.true_and,true_and]
      exact hQ _ _ rfl

theorem jr {sz nw:Int} {l:List (Int×Int×Int×Int×Unit)} (hn:0≤nw∧nw≤nev) (hd:∀ x ∈ l,0≤x.2.2.2.1∧x.2.2.2.1≤nev):br Go.Proofs.Try.prog n_f9 [.lit (.int .i64 sz),.lit (.int .u64 nw),.sl false 4 (l.map fun x=>.agg [.lit (.int .i64 x.1),.lit (.int .i64 x.2.1),.lit (.int .i64 x.2.2.1),.lit (.int .u64 x.2.2.2.1)])] ⟨[]⟩ (fun v _=>v = .lit (.bool true)):=by
  rw [ss_lit]
  refine jq sz nw hn _ fun a ha=>?_
  obtain ⟨x,hx,rfl⟩:=List.mem_map.1 ha
  exact hd x hx
end Go.Fx.YtddifejdkiemgaaFx

