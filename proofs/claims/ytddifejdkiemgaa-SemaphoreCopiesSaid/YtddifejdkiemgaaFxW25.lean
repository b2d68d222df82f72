/- What the functions that the statement reaches compute: part 25. -/
import Derived.Test.YtddifejdkiemgaaFxW24
namespace Go.Fx.YtddifejdkiemgaaFx
open Go Go.Fx
attribute [local irreducible] aC runI a9 cd

set_option maxRecDepth 100000
set_option maxHeartbeats 4000000

/-- What the reference answers: its state, the grants in a list of their own, the error. -/
def RGr (st:St) (sz nw:Int) (x:Rt) (r:AV) (st':St):Prop :=
  ∃ v,r = .tup [rfAV sz nw x.1 x.2.1,v,.lit (.int .i64 x.2.2.2)]∧GB v st' x.2.2.1∧RfOk sz nw x.1 x.2.1∧GFr st st' []∧∀ i ∈ aY v,st.boxes.length≤i

section
variable {H:List Int} {V:List Vt} {sz nw:Int}
theorem RGr.err {st:St} (h:RfOk sz nw H V) (e:Int):RGr st sz nw (H,V,[],e) (.tup [rfAV sz nw H V,.lit (.slice none 0 0),.lit (.int .i64 e)]) st :=
  ⟨_,rfl,.inl ⟨rfl,rfl⟩,h,.refl _ _,fun i hi=>by simp [aY] at hi⟩

theorem m5 {st0:St} (h:RfOk sz nw H V) :
    bz Go.Proofs.Try.prog n_f80 [rfAV sz nw H V,.lit (.slice none 0 0)] st0 (fun r st'=>∃ v,r = .tup [rfAV sz nw (aP sz H V).1 (aP sz H V).2.1,v] ∧
      GB v st' (aP sz H V).2.2∧RfOk sz nw (aP sz H V).1 (aP sz H V).2.1∧GFr st0 st' []∧(∀ i ∈ aY v,st0.boxes.length≤i)) :=
  (kh h (v0:=.lit (.slice none 0 0)) (l0:=[]) (.inl ⟨rfl,rfl⟩) (by simp)).mono fun r st' ⟨v,a1,a2,a3,a4,a5⟩ =>
    ⟨v,a1,by simpa using a2,a3,by simpa [aY] using a4,fun i hi=>by have:=a5 i hi; simpa [aY] using this⟩

theorem rrel_calls {st:St} (h:RfOk sz nw H V) (t n:Int):bz Go.Proofs.Try.prog n_f73 [rfAV sz nw H V,.lit (.int .i64 t),.lit (.int .i64 n)] st (RGr st sz nw (sRel sz H V t n)):=by
  refine bB hmix k_f73 rfl rfl fun Q hQ=>?_
  unfold aFun c_f73
  unfold sRel at hQ
  have f1:=fun H V=>cz (H:=H) (V:=V)
  have f2:=fun H V=>co (H:=H) (V:=V)
  have f3:=fun V=>bL (V:=V) h.hl
  have f6:=fun V=>bW (V:=V) h.hl
  have f7:=fun V=>dF (V:=V) h.hl
  have hszb:=h.szb
  have hs1:=h.hs
  have hs0:=(fR H h.hb).1
  have hvd:(.agg (rfC sz nw H V):AV).dis = rfAV sz nw H V:=by simp only [ah,List.map_cons,aa,f1]
  obtain ⟨e,he⟩:∃ e,e = sChk sz V t n:=⟨_,rfl⟩
  rw [← he] at hQ
  simp only at hQ
  unfold sChk at he
  by_cases hb:t < 0∨64≤t∨n < 1∨sz < n
  · rw [if_pos hb] at he
    subst he
    rw [if_pos (by decide)] at hQ
    have hr:=hQ _ _ (.err h 2)
    by_cases h1:t < 0
    · simp (config:=KF) (disch:=omega) only [bZ,retI,resI,resL,ao,bY,AI.dst,bj,aI,ap,bA,bR,aH,ba,aq,boxX,aU,aj,ai,bd,ak,aA,ar,aG,putS,Sf.set,Sf.reg,getR,setR,ae,Sf.disAt,Sf.newLoc,Sf.setLoc,look,bt,aM,aO,ah,aa,ag,af,al,bO,aR,aF,aV,aB,List.length_cons,List.length_nil,List.all_cons,List.all_nil,List.drop_zero,List.take_succ_cons,List.set_cons_zero,List.set_cons_succ,↓reduceIte,Nat.reduceEqDiff,Nat.reduceAdd,Nat.reduceLeDiff,Bool.true_and,Bool.and_true,and_true,true_and,reduceCtorEq,Nat.zero_add,decide_true,Bool.false_eq_true,cc,bh,am,f73_1e,f73_2e,f73_2l,f73_3e,f73_4e,f73_5e,f73_5l,f73_6e,f73_7e,f73_8e,f73_8l,f1,f2,f3,f6,f7]
      exact hr
    by_cases h2:64≤t
    · simp (config:=KF) (disch:=omega) only [bZ,retI,resI,resL,ao,bY,AI.dst,bj,aD,aI,ap,bA,bR,aH,ba,aW,aq,boxX,aU,aj,ai,bd,c8,ak,aA,ar,aG,putS,Sf.set,Sf.reg,getR,setR,ae,Sf.disAt,Sf.newLoc,Sf.setLoc,look,bt,aM,aO,ah,aa,ag,af,al,bO,aR,aF,aV,aB,List.length_cons,List.length_nil,List.all_cons,List.all_nil,List.drop_zero,List.take_succ_cons,List.set_cons_zero,List.set_cons_succ,↓reduceIte,Nat.reduceEqDiff,Nat.reduceAdd,Nat.reduceLeDiff,Bool.true_and,Bool.and_true,and_true,true_and,reduceCtorEq,Nat.zero_add,decide_true,Bool.false_eq_true,cc,bk,bh,am,f73_1e,f73_2e,f73_2l,f73_3e,f73_4e,f73_5e,f73_5l,f73_6e,f73_7e,f73_8e,f73_8l,f1,f2,f3,f6,f7]
      exact hr
    by_cases h3:n < 1
    · simp (config:=KF) (disch:=omega) only [bZ,retI,resI,resL,ao,bY,AI.dst,bj,aD,aI,ap,bA,bR,aH,ba,aW,aq,boxX,aU,aj,ai,bd,c8,ak,aA,ar,aG,putS,Sf.set,Sf.reg,getR,setR,ae,Sf.disAt,Sf.newLoc,Sf.setLoc,look,bt,aM,aO,ah,aa,ag,af,al,bO,aR,aF,aV,aB,List.length_cons,List.length_nil,List.all_cons,List.all_nil,List.drop_zero,List.take_succ_cons,List.set_cons_zero,List.set_cons_succ,↓reduceIte,Nat.reduceEqDiff,Nat.reduceAdd,Nat.reduceLeDiff,Bool.true_and,Bool.and_true,and_true,true_and,reduceCtorEq,Nat.zero_add,decide_true,Bool.false_eq_true,cc,bk,bh,am,f73_1e,f73_2e,f73_2l,f73_3e,f73_4e,f73_5e,f73_5l,f73_6e,f73_7e,f73_8e,f73_8l,f1,f2,f3,f6,f7]
      exact hr
    have h4:sz < n:=by omega
    simp (config:=KF) (disch:=omega) only [bZ,retI,resI,resL,ao,AI.dst,aD,aI,az,ap,bA,bR,aH,aW,aq,boxX,aU,addA,aj,ai,bd,cr,c8,ak,aA,ar,aG,putS,Sf.set,Sf.reg,getR,setR,ae,Sf.disAt,Sf.newLoc,Sf.setLoc,look,bt,aM,aO,ah,aa,ag,af,al,bO,aR,aF,aV,aB,List.length_cons,List.length_nil,List.all_cons,List.all_nil,List.drop_zero,List.take_succ_cons,List.set_cons_zero,List.set_cons_succ,↓reduceIte,Nat.reduceEqDiff,Nat.reduceAdd,Nat.reduceLeDiff,Bool.true_and,Bool.and_true,and_true,true_and,reduceCtorEq,Nat.zero_add,Nat.add_zero,decide_true,Bool.false_eq_true,aS,bk,bh,am,f73_1e,f73_2e,f73_2l,f73_3e,f73_4e,f73_5e,f73_5l,f73_6e,f73_7e,f73_8e,f73_8l,f1,f2,f3,f6,f7]
    exact hr
  rw [if_neg hb] at he
  obtain ⟨k,hk1,hk2⟩:=o5 (sz:=sz) (nw:=nw) (V:=V) h.hl (by have:=h.cnt; omega) t st
  obtain ⟨r,hr⟩:=jB (sz:=sz) (nw:=nw) (V:=V) h.hl (i:=t) (by omega) (by omega)
  have hgb:=h.getb t (by omega) (by omega)
  by_cases hm:t ∈ vtk V
  · rw [if_pos hm] at he
    subst he
    rw [if_pos (by decide)] at hQ
    have hr:=hQ _ _ (.err h 11)
    have hk:=hk2.2 hm
    simp (config:=KF) (disch:=omega) only [bZ,ao,AI.dst,aD,aI,az,ap,bA,bR,au,aW,aq,boxX,addA,aj,ai,bd,cr,c8,ak,aA,ev_f,ar,putS,Sf.set,Sf.reg,getR,setR,ae,Sf.newLoc,look,bt,aM,aO,id,ah,aa,ag,af,al,aF,aV,aB,List.length_cons,List.all_cons,List.drop_zero,List.take_succ_cons,↓reduceIte,Nat.reduceEqDiff,Nat.reduceAdd,Nat.reduceLeDiff,Bool.true_and,Bool.and_true,and_true,true_and,reduceCtorEq,Nat.zero_add,Nat.add_zero,decide_true,Bool.false_eq_true,a8,bk,f73_1e,f73_2e,f73_2l,f73_3e,f73_4e,f73_5e,f73_5l,f73_6e,f73_9e,f73_10e,f73_11e,f73_11l,f1,f2,f3,f6]
    refine aL (vs:=[rfAV sz nw H V,.lit (.int .i64 t)]) (by simp only [List.map_cons,List.map_nil,List.nil_append,List.append_nil,ah,aa,bH,f1]) e_f79 hk1 rfl ?_
    simp (config:=KF) (disch:=omega) only [bZ,retI,resI,resL,ap,aH,aq,boxX,aU,aj,ai,c8,ak,aA,ar,aG,putS,Sf.set,Sf.reg,getR,setR,ae,Sf.disAt,Sf.setLoc,look,aM,ah,aa,ag,af,al,bO,aR,List.length_cons,List.length_nil,List.all_cons,List.all_nil,List.drop_zero,List.take_succ_cons,List.set_cons_zero,List.set_cons_succ,↓reduceIte,Nat.reduceEqDiff,Nat.reduceAdd,Nat.reduceLeDiff,Bool.true_and,Bool.and_true,and_true,true_and,Nat.zero_add,decide_true,aS,bh,am,f73_12e,f73_13e,f73_14e,f73_14l,f1,f2,f3,f6,f7]
    exact hr
  rw [if_neg hm] at he
  subst he
  rw [if_neg (by decide)] at hQ
  have hk:k < 0:=Int.not_le.1 fun e=>hm (hk2.1 e)
  by_cases h5:getH H t < n
  · rw [if_pos h5] at hQ
    have hq:=hQ _ _ (.err h 9)
    simp (config:=KF) (disch:=omega) only [bZ,ao,AI.dst,aD,aI,az,ap,bA,bR,au,aW,aq,boxX,addA,aj,ai,bd,cr,c8,ak,aA,ev_f,ar,putS,Sf.set,Sf.reg,getR,setR,ae,Sf.newLoc,look,bt,aM,aO,id,ah,aa,ag,af,al,aF,aV,aB,List.length_cons,List.all_cons,List.drop_zero,List.take_succ_cons,↓reduceIte,Nat.reduceEqDiff,Nat.reduceAdd,Nat.reduceLeDiff,Bool.true_and,Bool.and_true,and_true,true_and,reduceCtorEq,Nat.zero_add,Nat.add_zero,decide_true,Bool.false_eq_true,a8,bk,f73_1e,f73_2e,f73_2l,f73_3e,f73_4e,f73_5e,f73_5l,f73_6e,f73_9e,f73_10e,f73_11e,f73_11l,f1,f2,f3,f6]
    refine aL (vs:=[rfAV sz nw H V,.lit (.int .i64 t)]) (by simp only [List.map_cons,List.map_nil,List.nil_append,List.append_nil,ah,aa,bH,f1]) e_f79 hk1 rfl ?_
    simp (config:=KF) (disch:=omega) only [bZ,retI,resI,resL,az,jk,ap,aH,aq,boxX,aU,ixA,addA,aj,ai,bd,c8,ak,aA,ar,aG,putS,Sf.set,Sf.reg,getR,setR,ae,Sf.disAt,Sf.setLoc,look,aM,ah,aa,ag,af,al,bO,aR,List.length_cons,List.length_nil,List.all_cons,List.all_nil,List.drop_zero,List.take_succ_cons,List.set_cons_zero,List.set_cons_succ,Int.cast_ofNat_Int,↓reduceIte,Nat.reduceEqDiff,Nat.reduceAdd,Nat.reduceLeDiff,Bool.true_and,Bool.and_true,and_true,true_and,Nat.zero_add,decide_true,bD,aS,a8,bK,bh,am,Nat.mul_one,f73_12e,f73_15e,f73_16e,f73_17e,f73_17l,f73_18e,f73_19e,f73_20e,f73_20l,f1,f2,f3,f6,f7,hr]
    exact hq
  rw [if_neg h5] at hQ
  have hset:=fun y=>o4 (sz:=sz) (nw:=nw) (H:=H) (V:=V) h.hl (i:=t) (x:=y) ⟨by omega,by omega⟩
  have hadd:H.set t.toNat (getH H t - n) = addH H t (0 - n):=by unfold addH; congr 1; omega
  have h2:RfOk sz nw (addH H t (0 - n)) V:=h.add ⟨by omega,by omega⟩ (by omega) (by omega)
  have g3:=fun V=>bL (V:=V) h2.hl
  have g6:=fun V=>bW (V:=V) h2.hl
  simp (config:=KF) (disch:=omega) only [bZ,ao,AI.dst,aD,aI,az,ap,bA,bR,au,aW,aq,boxX,addA,aj,ai,bd,cr,c8,ak,aA,ev_f,ar,putS,Sf.set,Sf.reg,getR,setR,ae,Sf.newLoc,look,bt,aM,aO,id,ah,aa,ag,af,al,aF,aV,aB,List.length_cons,List.all_cons,List.drop_zero,List.take_succ_cons,↓reduceIte,Nat.reduceEqDiff,Nat.reduceAdd,Nat.reduceLeDiff,Bool.true_and,Bool.and_true,and_true,true_and,reduceCtorEq,Nat.zero_add,Nat.add_zero,decide_true,Bool.false_eq_true,a8,bk,f73_1e,f73_2e,f73_2l,f73_3e,f73_4e,f73_5e,f73_5l,f73_6e,f73_9e,f73_10e,f73_11e,f73_11l,f1,f2,f3,f6]
  refine aL (vs:=[rfAV sz nw H V,.lit (.int .i64 t)]) (by simp only [List.map_cons,List.map_nil,List.nil_append,List.append_nil,ah,aa,bH,f1]) e_f79 hk1 rfl ?_
  simp (config:=KF) (disch:=omega) only [bZ,az,jk,ap,aH,au,aq,boxX,aU,ixA,addA,aj,ai,n_sub,bd,c8,ak,aA,ev_f,ar,aG,putS,Sf.set,Sf.reg,getR,setR,ae,Sf.disAt,Sf.setLoc,look,aM,id,ah,aa,aZ,af,al,List.length_cons,List.length_nil,List.all_cons,List.all_nil,List.drop_zero,List.take_succ_cons,Int.cast_ofNat_Int,↓reduceIte,Nat.reduceEqDiff,Nat.reduceAdd,Nat.reduceLeDiff,Bool.true_and,Bool.and_true,and_true,true_and,Nat.zero_add,decide_true,bD,a8,IntWalk.i64_in,bK,aQ,am,Nat.mul_one,f73_12e,f73_15e,f73_16e,f73_17e,f73_17l,f73_18e,f73_21e,f73_22e,f73_22l,f73_23e,f73_24e,f73_24l,f1,f3,g3,g6,hr,hset,hadd]
  refine bE (vs:=[rfAV sz nw (addH H t (0 - n)) V,.lit (.slice none 0 0)]) (by simp only [List.map_cons,List.map_nil,List.nil_append,List.append_nil,ah,aa,bH,f1]) e_f80 (m5 h2) rfl fun r st2 hr=>?_
  obtain ⟨v,rfl,a1,a2,a3,a4⟩:=hr
  have hfin:=hQ _ _ ⟨v,rfl,a1,a2,a3,a4⟩
  obtain ⟨H',hH⟩:∃ H',H' = (aP sz (addH H t (0 - n)) V).1:=⟨_,rfl⟩
  obtain ⟨V',hV⟩:∃ V',V' = (aP sz (addH H t (0 - n)) V).2.1:=⟨_,rfl⟩
  simp only at hfin
  rw [← hH,← hV] at hfin a2
  have k3:=fun V=>bL (V:=V) a2.hl
  have k6:=fun V=>bW (V:=V) a2.hl
  have k7:=fun V V' a b=>eR (V:=V) (V':=V') h2.hl a2.hl a b
  have k8:=fun V=>dF (V:=V) a2.hl
  rcases a1.k with rfl | ⟨ib,ln,cap,rfl⟩
  all_goals
    simp (config:=KF) (disch:=omega) only [bZ,retI,resI,resL,cy,ap,aw,aH,extV,aq,boxX,aU,aj,ai,ak,aA,ar,aG,putS,Sf.set,Sf.reg,getR,setR,ae,Sf.disAt,Sf.setLoc,look,aM,ah,bS,b4,aa,bC,cq,d5,ag,af,al,bO,aR,gk,List.length_cons,List.length_nil,List.getElem?_cons_zero,List.getElem?_cons_succ,List.all_cons,List.all_nil,List.drop_zero,List.take_succ_cons,List.set_cons_zero,List.set_cons_succ,↓reduceIte,Nat.reduceEqDiff,Nat.reduceAdd,Nat.reduceLeDiff,Bool.true_and,Bool.and_true,and_true,true_and,Nat.zero_add,decide_true,bh,am,f73_25e,f73_26e,f73_26l,f1,f2,g3,hH.symm,hV.symm,k3,k6,k7,k8]
    exact hfin

theorem wo_without {A B:List Vt} {t n d:Int} (hnd:(vtk (A++(t,n,d)::B)).Nodup):wo (A++(t,n,d)::B) A.length = dS (A++(t,n,d)::B) t:=by
  rw [nh hnd]
  unfold wo
  simp

theorem wo_sub (V:List Vt) (i:Nat):(wo V i).Sublist V:=by
  unfold wo
  conv=>rhs; rw [← List.take_append_drop i V]
  exact (List.Sublist.refl _).append (List.drop_sublist_drop_left V (by omega))

theorem rcan_calls {st:St} (h:RfOk sz nw H V) (t:Int):bz Go.Proofs.Try.prog n_f74 [rfAV sz nw H V,.lit (.int .i64 t)] st (RGr st sz nw (sCan sz H V t)):=by
  refine bB hmix k_f74 rfl rfl fun Q hQ=>?_
  unfold aFun c_f74
  unfold sCan at hQ
  have f1:=fun H V=>cz (H:=H) (V:=V)
  have f2:=fun H V=>co (H:=H) (V:=V)
  have f3:=fun V=>bL (V:=V) h.hl
  have f6:=fun V=>bW (V:=V) h.hl
  have f7:=fun V=>dF (V:=V) h.hl
  have hcn:=h.cnt
  by_cases hb:t < 0∨64≤t
  · rw [if_pos hb] at hQ
    have hr:=hQ _ _ (.err h 2)
    by_cases h1:t < 0
    · simp (config:=KF) (disch:=omega) only [bZ,retI,resI,resL,ao,bY,AI.dst,bj,aI,ap,bA,bR,aH,ba,aq,boxX,aU,aj,ai,bd,ak,aA,ar,aG,putS,Sf.set,Sf.reg,getR,setR,ae,Sf.disAt,Sf.newLoc,Sf.setLoc,look,bt,aM,aO,ah,aa,ag,af,al,bO,aR,aF,aV,aB,List.length_cons,List.length_nil,List.all_cons,List.all_nil,List.drop_zero,List.take_succ_cons,List.set_cons_zero,List.set_cons_succ,↓reduceIte,Nat.reduceEqDiff,Nat.reduceAdd,Nat.reduceLeDiff,Bool.true_and,Bool.and_true,and_true,true_and,reduceCtorEq,Nat.zero_add,decide_true,Bool.false_eq_true,cc,bh,am,f74_1e,f74_2e,f74_2l,f74_3e,f74_4e,f74_5e,f74_5l,f74_6e,f74_7e,f74_8e,f74_8l,f1,f2,f3,f6,f7]
      exact hr
    have h2:64≤t:=by omega
    simp (config:=KF) (disch:=omega) only [bZ,retI,resI,resL,ao,AI.dst,aD,aI,ap,bA,bR,aH,aW,aq,boxX,aU,aj,ai,bd,c8,ak,aA,ar,aG,putS,Sf.set,Sf.reg,getR,setR,ae,Sf.disAt,Sf.newLoc,Sf.setLoc,look,bt,aM,aO,ah,aa,ag,af,al,bO,aR,aF,aV,aB,List.length_cons,List.length_nil,List.all_cons,List.all_nil,List.drop_zero,List.take_succ_cons,List.set_cons_zero,List.set_cons_succ,↓reduceIte,Nat.reduceEqDiff,Nat.reduceAdd,Nat.reduceLeDiff,Bool.true_and,Bool.and_true,and_true,true_and,reduceCtorEq,Nat.zero_add,decide_true,Bool.false_eq_true,aS,bk,bh,am,f74_1e,f74_2e,f74_2l,f74_3e,f74_4e,f74_5e,f74_5l,f74_6e,f74_7e,f74_8e,f74_8l,f1,f2,f3,f6,f7]
    exact hr
  rw [if_neg hb] at hQ
  by_cases hm:t ∉ vtk V
  · rw [if_pos hm] at hQ
    have hr:=hQ _ _ (.err h 9)
    obtain ⟨k,hk1,hk2⟩:=o5 (sz:=sz) (nw:=nw) (V:=V) h.hl (by omega) t st
    have hk:k < 0:=Int.not_le.1 fun e=>hm (hk2.1 e)
    simp (config:=KF) (disch:=omega) only [bZ,ao,AI.dst,aD,aI,ap,bA,bR,au,aW,aq,boxX,aj,ai,bd,c8,ak,aA,ev_f,ar,putS,Sf.set,Sf.reg,getR,setR,ae,Sf.newLoc,look,bt,aM,aO,id,ah,aa,ag,af,al,aF,aV,aB,List.length_cons,List.all_cons,List.drop_zero,List.take_succ_cons,↓reduceIte,Nat.reduceEqDiff,Nat.reduceAdd,Nat.reduceLeDiff,Bool.true_and,Bool.and_true,and_true,true_and,reduceCtorEq,Nat.zero_add,decide_true,Bool.false_eq_true,a8,bk,f74_1e,f74_2e,f74_2l,f74_3e,f74_4e,f74_5e,f74_5l,f74_6e,f74_9e,f74_10e,f74_10l,f1,f2,f3,f6]
    refine aL (vs:=[rfAV sz nw H V,.lit (.int .i64 t)]) (by simp only [List.map_cons,List.map_nil,List.nil_append,List.append_nil,ah,aa,bH,f1]) e_f79 hk1 rfl ?_
    simp (config:=KF) (disch:=omega) only [bZ,retI,resI,resL,ap,aw,aH,aq,boxX,aU,aj,ai,bd,ak,aA,ar,aG,putS,Sf.set,Sf.reg,getR,setR,ae,Sf.disAt,Sf.setLoc,look,aM,ah,aa,ag,af,al,bO,aR,List.length_cons,List.length_nil,List.all_cons,List.all_nil,List.drop_zero,List.take_succ_cons,List.set_cons_zero,List.set_cons_succ,↓reduceIte,Nat.reduceEqDiff,Nat.reduceAdd,Nat.reduceLeDiff,Bool.true_and,Bool.and_true,and_true,true_and,Nat.zero_add,decide_true,aS,bh,am,f74_11e,f74_12e,f74_13e,f74_13l,f74_14e,f74_15e,f74_16e,f74_16l,f1,f2,f3,f6,f7]
    exact hr
  rw [if_neg hm] at hQ
  obtain ⟨A,n',d',B,hVe⟩:=o8 (Decidable.not_not.1 hm)
  have hnd:=h.nd
  rw [hVe] at hnd
  obtain ⟨hn1,hn2,hn3⟩:=List.nodup_append.1 (by rw [lG] at hnd; exact hnd)
  have hAt:=rat_some (sz:=sz) (nw:=nw) (A:=A) (B:=B) (t:=t) (n:=n') (d:=d') h.hl (by rw [← hVe]; omega) (fun hx=>hn3 t hx t (by simp [vtk]) rfl) st
  have hwe:=wo_without hnd
  have hAl:A.length < V.length:=by rw [hVe]; simp
  rw [← hVe] at hAt hwe
  have hwo:=m3 (sz:=sz) (nw:=nw) (V:=V) h.hl (i:=A.length) hAl (by omega) st
  have h2:RfOk sz nw H (wo V A.length):=h.sub (wo_sub _ _)
  rw [hwe] at hwo h2
  have hvd:(.agg (rfC sz nw H (dS V t)):AV).dis = rfAV sz nw H (dS V t):=by simp only [ah,List.map_cons,aa,f1]
  simp (config:=KF) (disch:=omega) only [bZ,ao,AI.dst,aD,aI,ap,bA,bR,au,aW,aq,boxX,aj,ai,bd,c8,ak,aA,ev_f,ar,putS,Sf.set,Sf.reg,getR,setR,ae,Sf.newLoc,look,bt,aM,aO,id,ah,aa,ag,af,al,aF,aV,aB,List.length_cons,List.all_cons,List.drop_zero,List.take_succ_cons,↓reduceIte,Nat.reduceEqDiff,Nat.reduceAdd,Nat.reduceLeDiff,Bool.true_and,Bool.and_true,and_true,true_and,reduceCtorEq,Nat.zero_add,decide_true,Bool.false_eq_true,a8,bk,f74_1e,f74_2e,f74_2l,f74_3e,f74_4e,f74_5e,f74_5l,f74_6e,f74_9e,f74_10e,f74_10l,f1,f2,f3,f6]
  refine aL (vs:=[rfAV sz nw H V,.lit (.int .i64 t)]) (by simp only [List.map_cons,List.map_nil,List.nil_append,List.append_nil,ah,aa,bH,f1]) e_f79 hAt rfl ?_
  simp (config:=KF) (disch:=omega) only [bZ,ap,aw,au,aq,aj,ai,bd,ak,aA,ev_f,putS,Sf.set,Sf.reg,getR,setR,ae,Sf.disAt,look,id,ah,aa,List.length_cons,List.drop_zero,List.take_succ_cons,↓reduceIte,Nat.reduceEqDiff,Nat.reduceAdd,Nat.reduceLeDiff,decide_true,a8,f74_11e,f74_12e,f74_13e,f74_13l,f74_14e,f74_17e,f74_18e,f74_18l,f1,f3,f6]
  refine aL (vs:=[rfAV sz nw H V,.lit (.int .i64 (A.length:Nat))]) (by simp only [List.map_cons,List.map_nil,List.nil_append,List.append_nil,ah,aa,bH,f1]) e_f81 hwo rfl ?_
  simp (config:=KF) (disch:=omega) only [bZ,au,ev_f,putS,Sf.set,Sf.reg,getR,setR,id,↓reduceIte,Nat.reduceEqDiff]
  refine bE (vs:=[rfAV sz nw H (dS V t),.lit (.slice none 0 0)]) (by simp only [List.map_cons,List.map_nil,List.nil_append,List.append_nil,hvd,bH]) e_f80 (m5 h2) rfl fun r st2 hr=>?_
  obtain ⟨v,rfl,a1,a2,a3,a4⟩:=hr
  have hfin:=hQ _ _ ⟨v,rfl,a1,a2,a3,a4⟩
  obtain ⟨H',hH⟩:∃ H',H' = (aP sz H (dS V t)).1:=⟨_,rfl⟩
  obtain ⟨V',hV⟩:∃ V',V' = (aP sz H (dS V t)).2.1:=⟨_,rfl⟩
  simp only at hfin
  rw [← hH,← hV] at hfin a2
  have k3:=fun V=>bL (V:=V) a2.hl
  have k6:=fun V=>bW (V:=V) a2.hl
  have k7:=fun V V' a b=>eR (V:=V) (V':=V') h.hl a2.hl a b
  have k8:=fun V=>dF (V:=V) a2.hl
  rcases a1.k with rfl | ⟨ib,ln,cap,rfl⟩
  all_goals
    simp (config:=KF) (disch:=omega) only [bZ,retI,resI,resL,cy,ap,aw,aH,extV,aq,boxX,aU,aj,ai,ak,aA,ar,aG,putS,Sf.set,Sf.reg,getR,setR,ae,Sf.disAt,Sf.setLoc,look,aM,ah,bS,b4,aa,bC,cq,d5,ag,af,al,bO,aR,gk,List.length_cons,List.length_nil,List.getElem?_cons_zero,List.getElem?_cons_succ,List.all_cons,List.all_nil,List.drop_zero,List.take_succ_cons,List.set_cons_zero,List.set_cons_succ,↓reduceIte,Nat.reduceEqDiff,Nat.reduceAdd,Nat.reduceLeDiff,Bool.true_and,Bool.and_true,and_true,true_and,Nat.zero_add,decide_true,bh,am,f74_19e,f74_20e,f74_20l,f1,f2,f3,hH.symm,hV.symm,k3,k6,k7,k8]
    exact hfin
end
end Go.Fx.YtddifejdkiemgaaFx

