/- What the functions that the statement reaches compute: part 4. -/
import Derived.Test.YtohlpjfhkejjgaaFxW3
namespace Go.Fx.YtohlpjfhkejjgaaFx
open Go Go.Fx
attribute [local irreducible] aC runI aY cF

set_option maxRecDepth 100000
set_option maxHeartbeats 4000000

section
variable {st:St} {c q0 m0 q1 m1 wid:Nat} {bv:AV} {P:ChP}

theorem dx (h:ChIs st c P q0 m0 q1 m1 wid bv):bF Go.Proofs.Try.prog n_f29 [.ptr c 0] st (.lit (.bool false)):=by
  have hg:=h.get
  refine cC hmix k_f29 rfl rfl fun Q hQ=>?_
  unfold aFun c_f29
  simp (config:=KF) (disch:=omega) only [bZ,retI,aw,AI.dst,a9,a7,o_un,aD,aq,a8,aA,bN,au,aZ,fZ,ec,cZ,addA,ak,unA,putS,Sf.set,Sf.reg,getR,setR,ae,Sf.disAt,bt,List.drop_zero,↓reduceIte,Nat.reduceEqDiff,Bool.true_and,true_and,reduceCtorEq,Nat.add_zero,Bool.not_true,Bool.false_eq_true,f29_1e,f29_2e,f29_2l,f29_3e,f29_4e,f29_4l,hg]
  exact hQ _

theorem e8 (h:ChIs st c P q0 m0 q1 m1 wid bv) (t:Int):bF Go.Proofs.Try.prog n_f38 [.ptr c 0,.lit (.int .i64 t)] st (.lit (.int .i64 (chk P t))):=by
  have hg:=h.get
  obtain ⟨W,hW,hl⟩:=h.w
  refine cC hmix k_f38 rfl rfl fun Q hQ=>?_
  unfold aFun c_f38
  generalize hR:chk P t = R at hQ
  unfold chk at hR
  simp (config:=KF) (disch:=omega) only [bZ,az,ev_f,putS,Sf.set,Sf.reg,getR,setR,ae,bt,id,↓reduceIte,Nat.reduceEqDiff,reduceCtorEq,Nat.zero_add,f38_1e,f38_2e,f38_2l,f38_3e,f38_4e,f38_5e,f38_6e,f38_6l]
  refine bA rfl e_f29 (dx h) rfl ?_
  simp (config:=KF) (disch:=omega) only [bZ,aw,AI.dst,aA,cI,putS,Sf.set,Sf.reg,getR,setR,ae,Sf.disAt,↓reduceIte,Nat.reduceEqDiff,reduceCtorEq,f38_7e,f38_10e,f38_11e,f38_11l]
  have hlk:∀ z,cW (.int .i64) z true st (.map wid) (.lit (.int .i64 t)) = .ok (match bB t (entC P.S P.V) with | some b=>.tup [wtAV b,.lit (.bool true)] | none=>.tup [z,.lit (.bool false)]):=fun z=>by
    rw [dl hW,hl]; cases bB t (entC P.S P.V) <;> rfl
  have hs:=look_of_mem (k:=t) (m:=entC P.S P.V)
  refine c8 (fun h1=>?_) (fun h1=>?_)
  · simp (config:=KF) (disch:=omega) only [bZ,bU,retI,aw,cQ,AI.dst,bX,a7,aA,bQ,putS,Sf.set,Sf.reg,getR,setR,ae,Sf.disAt,↓reduceIte,Nat.reduceEqDiff,Bool.true_and,true_and,reduceCtorEq,Bool.false_eq_true,f38_12e,f38_13e,f38_14e,f38_14l]
    rw [if_pos (by omega)] at hR
    subst hR
    exact hQ _
  · simp (config:=KF) (disch:=omega) only [bZ,aw,AI.dst,a9,a7,aA,bN,ik,putS,Sf.set,Sf.reg,getR,setR,ae,Sf.disAt,↓reduceIte,Nat.reduceEqDiff,reduceCtorEq,Bool.false_eq_true,f38_12e]
    refine bV (fun h2=>?_) (fun h2=>?_)
    · simp (config:=KF) (disch:=omega) only [bZ,bU,retI,putS,Sf.set,Sf.reg,getR,setR,ae,↓reduceIte,Nat.reduceEqDiff,Bool.true_and,true_and,reduceCtorEq,f38_13e,f38_14e,f38_14l]
      rw [if_pos (by omega)] at hR
      subst hR
      exact hQ _
    · rw [if_neg (by omega)] at hR
      cases hx:bB t (entC P.S P.V) with
      | none =>
        rw [hx] at hs hlk
        simp (config:=KF) (disch:=omega) only [bZ,aV,retI,bP,aD,aq,a8,fG,aA,cm,aF,extV,au,aZ,boxX,aM,addA,ak,ap,aE,putS,Sf.set,Sf.reg,getR,setR,ae,Sf.disAt,Sf.newLoc,Sf.setLoc,look,bW,aR,cb,ao,bg,aj,aU,c6,ag,aa,ai,bD,cn,ey,aX,c7,List.length_cons,List.length_nil,List.getElem?_cons_zero,List.getElem?_cons_succ,List.all_cons,List.all_nil,List.drop_zero,List.drop_succ_cons,↓reduceIte,Nat.reduceEqDiff,Nat.reduceAdd,Nat.reduceLeDiff,Bool.true_and,Bool.and_true,and_true,true_and,reduceCtorEq,Nat.zero_add,ah,af,f38_15e,f38_16e,f38_17e,f38_17l,f38_18e,f38_19e,f38_19l,f38_20e,f38_23e,f38_24e,f38_24l,hg,hlk]
        rw [if_neg (by simpa using hs.symm)] at hR
        subst hR
        exact hQ _
      | some b =>
        rw [hx] at hs hlk
        simp (config:=KF) (disch:=omega) only [bZ,aV,retI,bP,aD,aq,a8,fG,aA,cm,aF,extV,au,aZ,boxX,aM,addA,ak,ap,aE,putS,Sf.set,Sf.reg,getR,setR,ae,Sf.disAt,Sf.newLoc,Sf.setLoc,look,bW,aR,cb,ao,bg,aj,aU,c6,ag,aa,ai,bD,cn,ey,aX,c7,List.length_cons,List.length_nil,List.getElem?_cons_zero,List.getElem?_cons_succ,List.all_cons,List.all_nil,List.drop_zero,List.drop_succ_cons,↓reduceIte,Nat.reduceEqDiff,Nat.reduceAdd,Nat.reduceLeDiff,Bool.true_and,Bool.and_true,and_true,true_and,reduceCtorEq,Nat.zero_add,ah,af,f38_15e,f38_16e,f38_17e,f38_17l,f38_18e,f38_19e,f38_19l,f38_20e,f38_21e,f38_22e,f38_22l,hg,hlk,wtAV]
        rw [if_pos (by simpa using hs.symm)] at hR
        subst hR
        exact hQ _

/-- senders: the first one that waits. -/
theorem lg (h:ChIs st c P q0 m0 q1 m1 wid bv) (hS:P.S = []) :
    bj Go.Proofs.Try.prog n_f32 [.ptr c 0,.lit (.int .i64 0)] st (fun r st'=>r = .tup [.lit (.int .i64 0),.lit (.int .i64 0),.lit (.bool false)]∧st' = st):=by
  have hg:=h.get
  have hs:=h.s
  rw [hS] at hs
  refine bf hmix k_f32 rfl rfl fun Q hQ=>?_
  unfold aFun c_f32
  simp (config:=KF) (disch:=omega) only [bZ,and_self,aD,nL,aq,a8,az,au,aZ,ixA,addA,ak,am,aG,ev_f,putS,Sf.set,Sf.reg,getR,setR,ae,bt,id,List.drop_zero,List.drop_succ_cons,Int.toNat_zero,Int.cast_ofNat_Int,↓reduceIte,Nat.reduceEqDiff,Int.reduceLT,Int.reduceLE,reduceCtorEq,Nat.zero_add,Nat.add_zero,decide_true,Nat.mul_one,f32_1e,f32_2e,f32_2l,f32_3e,f32_4e,f32_4l,hg]
  refine ba rfl e_f46 (qpop_nil hs) rfl fun r st' hr=>?_
  obtain ⟨rfl,rfl⟩:=hr
  simp (config:=KF) (disch:=omega) only [bZ,retI,resI,resL,bP,aA,extV,gw,putS,Sf.set,Sf.reg,getR,setR,ae,Sf.disAt,bg,aU,aJ,List.getElem?_cons_zero,List.getElem?_cons_succ,List.all_cons,List.all_nil,↓reduceIte,Nat.reduceEqDiff,Int.reduceEq,Bool.true_and,Bool.and_true,and_true,true_and,reduceCtorEq,not_false_eq_true,decide_true,f32_5e,f32_6e,f32_7e,f32_7l,f32_8e,f32_9e,f32_10e,f32_10l]
  exact hQ _ _ ⟨rfl,rfl⟩

theorem j1 (h:ChIs st c P q0 m0 q1 m1 wid bv) {k:Nat} {t v:Int} {l:List W3} (hS:P.S = (k,t,v)::l) (hb:P.g0 < 1000000) :
    bj Go.Proofs.Try.prog n_f32 [.ptr c 0,.lit (.int .i64 0)] st (fun r st'=>r = .tup [.lit (.int .i64 t),.lit (.int .i64 v),.lit (.bool true)]∧ChIs st' c { P with S:=l } q0 m0 q1 m1 wid bv∧Oth st st' [q0,m0,wid]):=by
  have hg:=h.get
  have hs:=h.s
  have hids:=h.ids
  have hnd:=h.nd
  have hrng:=h.rng
  have hbid:=h.bid
  obtain ⟨W,hW,hl⟩:=h.w
  simp only [List.nodup_cons,List.mem_cons,List.not_mem_nil,or_false,not_or] at hids
  obtain ⟨⟨i1,i2,i3,i4,i5⟩,⟨i6,i7,i8,i9⟩,⟨i10,i11,i12⟩,⟨i13,i14⟩,i15,_⟩:=hids
  have hent:entC P.S P.V = []++(t,(0,v,k))::(wEnt 0 l++wEnt 1 P.V):=by simp [entC,wEnt,hS]
  rw [hent] at hnd
  obtain ⟨h1,h2⟩:=ee hnd
  have hent2:entC l P.V = []++(wEnt 0 l++wEnt 1 P.V):=by simp [entC]
  rw [hS] at hs
  refine bf hmix k_f32 rfl rfl fun Q hQ=>?_
  unfold aFun c_f32
  simp (config:=KF) (disch:=omega) only [bZ,and_self,aD,nL,aq,a8,az,au,aZ,ixA,addA,ak,am,aG,ev_f,putS,Sf.set,Sf.reg,getR,setR,ae,bt,id,List.drop_zero,List.drop_succ_cons,Int.toNat_zero,Int.cast_ofNat_Int,↓reduceIte,Nat.reduceEqDiff,Int.reduceLT,Int.reduceLE,reduceCtorEq,Nat.zero_add,Nat.add_zero,decide_true,Nat.mul_one,f32_1e,f32_2e,f32_2l,f32_3e,f32_4e,f32_4l,hg]
  refine ba rfl e_f46 (mG (B:=qOf l) hs hb) rfl fun r st1 hr=>?_
  obtain ⟨rfl,hq1,ho1⟩:=hr
  have hg1:st1.get c = _:=(ho1.get (by simp; omega)).trans hg
  have hW1:=hW.oth ho1 (by simp; omega)
  have hk:∀ z,cW (.int .i64) z false st1 (.map wid) (.lit (.int .i64 t)) = .ok (wtAV (0,v,k)):=fun z=>by
    rw [dl hW1,hl,hent,h1]; rfl
  simp (config:=KF) (disch:=omega) only [bZ,bP,o_field,aD,aq,a8,fG,aA,o_del,extV,mf,au,aZ,addA,ak,gw,putS,Sf.set,Sf.reg,getR,setR,ae,Sf.disAt,cb,bg,aU,List.getElem?_cons_zero,List.getElem?_cons_succ,List.drop_zero,List.drop_succ_cons,↓reduceIte,Nat.reduceEqDiff,reduceCtorEq,Nat.zero_add,not_true_eq_false,decide_false,f32_5e,f32_6e,f32_7e,f32_7l,f32_8e,f32_11e,f32_12e,f32_12l,f32_13e,f32_14e,f32_14l,hg1,hk,wtAV]
  refine iq hW1 fun st2 hW2 ho2=>?_
  simp (config:=KF) (disch:=omega) only [bZ,retI,resI,resL,aA,putS,Sf.set,Sf.reg,getR,setR,ae,Sf.disAt,aJ,List.all_cons,List.all_nil,↓reduceIte,Nat.reduceEqDiff,Bool.true_and,Bool.and_true,and_true,true_and,reduceCtorEq,f32_15e,f32_16e,f32_16l]
  have ho:Oth st st2 [q0,m0,wid]:=(ho1.mono (by simp)).trans (ho2.mono (by simp))
  refine hQ _ _ ⟨rfl,⟨(ho.get (by simp; omega)).trans hg,h.buf.at fun x hx=>ho.2 x fun e=>hbid x hx (by simp at e ⊢; omega),hq1.oth ho2 (by simp; omega) (by simp; omega),h.r.oth ho (by simp; omega) (by simp; omega),⟨_,hW2,fun t'=>?_⟩,h.ids,hbid,?_,fun t' ht'=>?_,?_⟩,ho⟩
  · simp only
    rw [gA _ _ hW1.nd,hl,hent,hent2,h2]
  · simp only
    rw [hent2]
    simp only [aP,List.map_append,List.map_cons] at hnd ⊢
    exact hnd.sublist (List.Sublist.append (List.Sublist.refl _) (List.sublist_cons_self _ _))
  · refine hrng t' ?_
    simp only [hent2] at ht'
    rw [hent]
    simp only [aP,List.map_append,List.map_cons,List.mem_append,List.mem_cons] at ht' ⊢
    exact ht'.elim .inl fun e=>.inr (.inr e)
  · exact h.zv

/-- senders: one more. -/
theorem oY (h:ChIs st c P q0 m0 q1 m1 wid bv) {t v:Int} (hb:P.g0 < 100000) (hn:P.S.length < 4000) (hnew:t ∉ aP (entC P.S P.V)) (ht:0≤t∧t < 64) :
    bj Go.Proofs.Try.prog n_f39 [.ptr c 0,.lit (.int .i64 0),.lit (.int .i64 t),.lit (.int .i64 v)] st (fun r st'=>r = .lit (.int .i64 0)∧ChIs st' c { P with S:=P.S++[(P.g0 + 1,t,v)],g0:=P.g0 + 1 } q0 m0 q1 m1 wid bv∧Oth st st' [q0,m0,wid]):=by
  have hg:=h.get
  have hs:=h.s
  have hids:=h.ids
  have hnd:=h.nd
  have hrng:=h.rng
  have hbid:=h.bid
  obtain ⟨W,hW,hl⟩:=h.w
  simp only [List.nodup_cons,List.mem_cons,List.not_mem_nil,or_false,not_or] at hids
  obtain ⟨⟨i1,i2,i3,i4,i5⟩,⟨i6,i7,i8,i9⟩,⟨i10,i11,i12⟩,⟨i13,i14⟩,i15,_⟩:=hids
  have hent:entC P.S P.V = wEnt 0 P.S++wEnt 1 P.V:=rfl
  have hent2:entC (P.S++[(P.g0 + 1,t,v)]) P.V = wEnt 0 P.S++(t,(0,v,P.g0 + 1))::wEnt 1 P.V:=by simp [entC,wEnt]
  have hab:entC P.S P.V = wEnt 0 P.S++wEnt 1 P.V:=by simp [entC]
  have hnd2:(aP (wEnt 0 P.S++(t,((0:Int),v,P.g0 + 1))::wEnt 1 P.V)).Nodup:=by
    rw [hab,fQ] at hnd hnew
    rw [fQ]
    obtain ⟨n1,n2,n3⟩:=List.nodup_append.1 hnd
    refine List.nodup_append.2 ⟨n1,List.nodup_cons.2 ⟨fun e=>hnew (List.mem_append_right _ e),n2⟩,fun x hx y hy e=>?_⟩
    rcases List.mem_cons.1 hy with rfl | hy
    · subst e; exact hnew (List.mem_append_left _ hx)
    · exact n3 x hx y hy e
  obtain ⟨h1,h2⟩:=ee hnd2
  refine bf hmix k_f39 rfl rfl fun Q hQ=>?_
  unfold aFun c_f39
  simp (config:=KF) (disch:=omega) only [bZ,and_self,aD,nL,aq,a8,az,au,aZ,ixA,addA,ak,am,aG,ev_f,putS,Sf.set,Sf.reg,getR,setR,ae,bt,id,List.drop_zero,List.drop_succ_cons,Int.toNat_zero,Int.cast_ofNat_Int,↓reduceIte,Nat.reduceEqDiff,Nat.reduceAdd,Int.reduceLT,Int.reduceLE,reduceCtorEq,Nat.zero_add,Nat.add_zero,decide_true,Nat.mul_one,f39_1e,f39_2e,f39_2l,f39_3e,f39_4e,f39_4l,hg]
  refine ba rfl e_f48 (ld hs (by simp [qOf]; omega) (by omega)) rfl fun r st1 hr=>?_
  obtain ⟨rfl,hq1,ho1⟩:=hr
  have hg1:st1.get c = _:=(ho1.get (by simp; omega)).trans hg
  have hW1:=hW.oth ho1 (by simp; omega)
  simp (config:=KF) (disch:=omega) only [bZ,and_self,bP,aD,aq,a8,bT,aA,jL,extV,au,aZ,bstV,addA,ak,aQ,bR,putS,Sf.set,Sf.reg,getR,setR,ae,Sf.disAt,cb,bg,aU,ar,ag,aa,ai,List.length_cons,List.length_nil,List.getElem?_cons_zero,List.getElem?_cons_succ,List.all_cons,List.all_nil,List.drop_zero,List.drop_succ_cons,List.set_cons_zero,List.set_cons_succ,↓reduceIte,Nat.reduceEqDiff,Nat.reduceAdd,Nat.reduceLeDiff,Bool.and_true,and_true,reduceCtorEq,Nat.zero_add,decide_true,ah,af,f39_5e,f39_6e,f39_7e,f39_7l,f39_8e,f39_9e,f39_9l,hg1]
  refine eE (b:=(0,v,P.g0 + 1)) hW1 rfl rfl fun st2 hW2 ho2=>?_
  simp (config:=KF) (disch:=omega) only [bZ,retI,aA,putS,Sf.set,Sf.reg,getR,setR,ae,Sf.disAt,↓reduceIte,Nat.reduceEqDiff,Bool.true_and,true_and,reduceCtorEq,f39_10e,f39_11e,f39_11l]
  have ho:Oth st st2 [q0,m0,wid]:=(ho1.mono (by simp)).trans (ho2.mono (by simp))
  refine hQ _ _ ⟨rfl,⟨(ho.get (by simp; omega)).trans hg,h.buf.at fun x hx=>ho.2 x fun e=>hbid x hx (by simp at e ⊢; omega),by have:=hq1.oth ho2 (by simp; omega) (by simp; omega); simpa [qOf] using this,h.r.oth ho (by simp; omega) (by simp; omega),⟨_,hW2,fun t'=>?_⟩,h.ids,hbid,?_,fun t' ht'=>?_,?_⟩,ho⟩
  · simp only
    rw [dk,hl,hent2]
    by_cases e:t' = t
    · subst e; rw [if_pos rfl,h1]
    · have:=h2 t'
      rw [if_neg e] at this ⊢
      rw [← this,hab]
  · simp only
    rw [hent2]
    exact hnd2
  · simp only [hent2] at ht'
    simp only [aP,List.map_append,List.map_cons,List.mem_append,List.mem_cons] at ht'
    have hin:t' ∈ aP (wEnt 0 P.S++wEnt 1 P.V)→0≤t'∧t' < 64:=fun e=>hrng t' (by rw [hab]; exact e)
    simp only [aP,List.map_append,List.mem_append] at hin
    rcases ht' with e | rfl | e
    · exact hin (.inl e)
    · exact ht
    · exact hin (.inr e)
  · exact h.zv

/-- receivers: the first one that waits. -/
theorem lh (h:ChIs st c P q0 m0 q1 m1 wid bv) (hS:P.V = []) :
    bj Go.Proofs.Try.prog n_f32 [.ptr c 0,.lit (.int .i64 1)] st (fun r st'=>r = .tup [.lit (.int .i64 0),.lit (.int .i64 0),.lit (.bool false)]∧st' = st):=by
  have hg:=h.get
  have hs:=h.r
  rw [hS] at hs
  refine bf hmix k_f32 rfl rfl fun Q hQ=>?_
  unfold aFun c_f32
  simp (config:=KF) (disch:=omega) only [bZ,and_self,aD,nL,aq,a8,az,au,aZ,ixA,addA,ak,am,aG,ev_f,putS,Sf.set,Sf.reg,getR,setR,ae,bt,id,List.drop_zero,List.drop_succ_cons,Int.toNat_one,Int.cast_ofNat_Int,↓reduceIte,Nat.reduceEqDiff,Nat.reduceAdd,Int.reduceLT,Int.reduceLE,reduceCtorEq,Nat.zero_add,decide_true,Nat.mul_one,f32_1e,f32_2e,f32_2l,f32_3e,f32_4e,f32_4l,hg]
  refine ba rfl e_f46 (qpop_nil hs) rfl fun r st' hr=>?_
  obtain ⟨rfl,rfl⟩:=hr
  simp (config:=KF) (disch:=omega) only [bZ,retI,resI,resL,bP,aA,extV,gw,putS,Sf.set,Sf.reg,getR,setR,ae,Sf.disAt,bg,aU,aJ,List.getElem?_cons_zero,List.getElem?_cons_succ,List.all_cons,List.all_nil,↓reduceIte,Nat.reduceEqDiff,Int.reduceEq,Bool.true_and,Bool.and_true,and_true,true_and,reduceCtorEq,not_false_eq_true,decide_true,f32_5e,f32_6e,f32_7e,f32_7l,f32_8e,f32_9e,f32_10e,f32_10l]
  exact hQ _ _ ⟨rfl,rfl⟩

theorem j3 (h:ChIs st c P q0 m0 q1 m1 wid bv) {k:Nat} {t v:Int} {l:List W3} (hS:P.V = (k,t,v)::l) (hb:P.g1 < 1000000) :
    bj Go.Proofs.Try.prog n_f32 [.ptr c 0,.lit (.int .i64 1)] st (fun r st'=>r = .tup [.lit (.int .i64 t),.lit (.int .i64 v),.lit (.bool true)]∧ChIs st' c { P with V:=l } q0 m0 q1 m1 wid bv∧Oth st st' [q1,m1,wid]):=by
  have hg:=h.get
  have hs:=h.r
  have hids:=h.ids
  have hnd:=h.nd
  have hrng:=h.rng
  have hbid:=h.bid
  obtain ⟨W,hW,hl⟩:=h.w
  simp only [List.nodup_cons,List.mem_cons,List.not_mem_nil,or_false,not_or] at hids
  obtain ⟨⟨i1,i2,i3,i4,i5⟩,⟨i6,i7,i8,i9⟩,⟨i10,i11,i12⟩,⟨i13,i14⟩,i15,_⟩:=hids
  have hent:entC P.S P.V = wEnt 0 P.S++(t,(1,v,k))::wEnt 1 l:=by simp [entC,wEnt,hS]
  rw [hent] at hnd
  obtain ⟨h1,h2⟩:=ee hnd
  have hent2:entC P.S l = wEnt 0 P.S++wEnt 1 l:=by simp [entC]
  rw [hS] at hs
  refine bf hmix k_f32 rfl rfl fun Q hQ=>?_
  unfold aFun c_f32
  simp (config:=KF) (disch:=omega) only [bZ,and_self,aD,nL,aq,a8,az,au,aZ,ixA,addA,ak,am,aG,ev_f,putS,Sf.set,Sf.reg,getR,setR,ae,bt,id,List.drop_zero,List.drop_succ_cons,Int.toNat_one,Int.cast_ofNat_Int,↓reduceIte,Nat.reduceEqDiff,Nat.reduceAdd,Int.reduceLT,Int.reduceLE,reduceCtorEq,Nat.zero_add,decide_true,Nat.mul_one,f32_1e,f32_2e,f32_2l,f32_3e,f32_4e,f32_4l,hg]
  refine ba rfl e_f46 (mG (B:=qOf l) hs hb) rfl fun r st1 hr=>?_
  obtain ⟨rfl,hq1,ho1⟩:=hr
  have hg1:st1.get c = _:=(ho1.get (by simp; omega)).trans hg
  have hW1:=hW.oth ho1 (by simp; omega)
  have hk:∀ z,cW (.int .i64) z false st1 (.map wid) (.lit (.int .i64 t)) = .ok (wtAV (1,v,k)):=fun z=>by
    rw [dl hW1,hl,hent,h1]; rfl
  simp (config:=KF) (disch:=omega) only [bZ,bP,o_field,aD,aq,a8,fG,aA,o_del,extV,mf,au,aZ,addA,ak,gw,putS,Sf.set,Sf.reg,getR,setR,ae,Sf.disAt,cb,bg,aU,List.getElem?_cons_zero,List.getElem?_cons_succ,List.drop_zero,List.drop_succ_cons,↓reduceIte,Nat.reduceEqDiff,reduceCtorEq,Nat.zero_add,not_true_eq_false,decide_false,f32_5e,f32_6e,f32_7e,f32_7l,f32_8e,f32_11e,f32_12e,f32_12l,f32_13e,f32_14e,f32_14l,hg1,hk,wtAV]
  refine iq hW1 fun st2 hW2 ho2=>?_
  simp (config:=KF) (disch:=omega) only [bZ,retI,resI,resL,aA,putS,Sf.set,Sf.reg,getR,setR,ae,Sf.disAt,aJ,List.all_cons,List.all_nil,↓reduceIte,Nat.reduceEqDiff,Bool.true_and,Bool.and_true,and_true,true_and,reduceCtorEq,f32_15e,f32_16e,f32_16l]
  have ho:Oth st st2 [q1,m1,wid]:=(ho1.mono (by simp)).trans (ho2.mono (by simp))
  refine hQ _ _ ⟨rfl,⟨(ho.get (by simp; omega)).trans hg,h.buf.at fun x hx=>ho.2 x fun e=>hbid x hx (by simp at e ⊢; omega),h.s.oth ho (by simp; omega) (by simp; omega),hq1.oth ho2 (by simp; omega) (by simp; omega),⟨_,hW2,fun t'=>?_⟩,h.ids,hbid,?_,fun t' ht'=>?_,?_⟩,ho⟩
  · simp only
    rw [gA _ _ hW1.nd,hl,hent,hent2,h2]
  · simp only
    rw [hent2]
    simp only [aP,List.map_append,List.map_cons] at hnd ⊢
    exact hnd.sublist (List.Sublist.append (List.Sublist.refl _) (List.sublist_cons_self _ _))
  · refine hrng t' ?_
    simp only [hent2] at ht'
    rw [hent]
    simp only [aP,List.map_append,List.map_cons,List.mem_append,List.mem_cons] at ht' ⊢
    exact ht'.elim .inl fun e=>.inr (.inr e)
  · exact fun x hx=>h.zv x (by rw [hS]; simp [hx])

/-- receivers: one more. -/
theorem oZ (h:ChIs st c P q0 m0 q1 m1 wid bv) {t v:Int} (hb:P.g1 < 100000) (hn:P.V.length < 4000) (hnew:t ∉ aP (entC P.S P.V)) (ht:0≤t∧t < 64) (hv:v = 0) :
    bj Go.Proofs.Try.prog n_f39 [.ptr c 0,.lit (.int .i64 1),.lit (.int .i64 t),.lit (.int .i64 v)] st (fun r st'=>r = .lit (.int .i64 0)∧ChIs st' c { P with V:=P.V++[(P.g1 + 1,t,v)],g1:=P.g1 + 1 } q0 m0 q1 m1 wid bv∧Oth st st' [q1,m1,wid]):=by
  have hg:=h.get
  have hs:=h.r
  have hids:=h.ids
  have hnd:=h.nd
  have hrng:=h.rng
  have hbid:=h.bid
  obtain ⟨W,hW,hl⟩:=h.w
  simp only [List.nodup_cons,List.mem_cons,List.not_mem_nil,or_false,not_or] at hids
  obtain ⟨⟨i1,i2,i3,i4,i5⟩,⟨i6,i7,i8,i9⟩,⟨i10,i11,i12⟩,⟨i13,i14⟩,i15,_⟩:=hids
  have hent:entC P.S P.V = wEnt 0 P.S++wEnt 1 P.V:=rfl
  have hent2:entC P.S (P.V++[(P.g1 + 1,t,v)]) = (wEnt 0 P.S++wEnt 1 P.V)++(t,(1,v,P.g1 + 1))::[]:=by simp [entC,wEnt]
  have hab:entC P.S P.V = (wEnt 0 P.S++wEnt 1 P.V)++[]:=by simp [entC]
  have hnd2:(aP ((wEnt 0 P.S++wEnt 1 P.V)++(t,((1:Int),v,P.g1 + 1))::[])).Nodup:=by
    rw [hab,fQ] at hnd hnew
    rw [fQ]
    obtain ⟨n1,n2,n3⟩:=List.nodup_append.1 hnd
    refine List.nodup_append.2 ⟨n1,List.nodup_cons.2 ⟨fun e=>hnew (List.mem_append_right _ e),n2⟩,fun x hx y hy e=>?_⟩
    rcases List.mem_cons.1 hy with rfl | hy
    · subst e; exact hnew (List.mem_append_left _ hx)
    · exact n3 x hx y hy e
  obtain ⟨h1,h2⟩:=ee hnd2
  refine bf hmix k_f39 rfl rfl fun Q hQ=>?_
  unfold aFun c_f39
  simp (config:=KF) (disch:=omega) only [bZ,and_self,aD,nL,aq,a8,az,au,aZ,ixA,addA,ak,am,aG,ev_f,putS,Sf.set,Sf.reg,getR,setR,ae,bt,id,List.drop_zero,List.drop_succ_cons,Int.toNat_one,Int.cast_ofNat_Int,↓reduceIte,Nat.reduceEqDiff,Nat.reduceAdd,Int.reduceLT,Int.reduceLE,reduceCtorEq,Nat.zero_add,decide_true,Nat.mul_one,f39_1e,f39_2e,f39_2l,f39_3e,f39_4e,f39_4l,hg]
  refine ba rfl e_f48 (ld hs (by simp [qOf]; omega) (by omega)) rfl fun r st1 hr=>?_
  obtain ⟨rfl,hq1,ho1⟩:=hr
  have hg1:st1.get c = _:=(ho1.get (by simp; omega)).trans hg
  have hW1:=hW.oth ho1 (by simp; omega)
  simp (config:=KF) (disch:=omega) only [bZ,and_self,bP,aD,aq,a8,bT,aA,jL,extV,au,aZ,bstV,addA,ak,aQ,bR,putS,Sf.set,Sf.reg,getR,setR,ae,Sf.disAt,cb,bg,aU,ar,ag,aa,ai,List.length_cons,List.length_nil,List.getElem?_cons_zero,List.getElem?_cons_succ,List.all_cons,List.all_nil,List.drop_zero,List.drop_succ_cons,List.set_cons_zero,List.set_cons_succ,↓reduceIte,Nat.reduceEqDiff,Nat.reduceAdd,Nat.reduceLeDiff,Bool.and_true,and_true,reduceCtorEq,Nat.zero_add,decide_true,ah,af,f39_5e,f39_6e,f39_7e,f39_7l,f39_8e,f39_9e,f39_9l,hg1]
  refine eE (b:=(1,v,P.g1 + 1)) hW1 rfl rfl fun st2 hW2 ho2=>?_
  simp (config:=KF) (disch:=omega) only [bZ,retI,aA,putS,Sf.set,Sf.reg,getR,setR,ae,Sf.disAt,↓reduceIte,Nat.reduceEqDiff,Bool.true_and,true_and,reduceCtorEq,f39_10e,f39_11e,f39_11l]
  have ho:Oth st st2 [q1,m1,wid]:=(ho1.mono (by simp)).trans (ho2.mono (by simp))
  refine hQ _ _ ⟨rfl,⟨(ho.get (by simp; omega)).trans hg,h.buf.at fun x hx=>ho.2 x fun e=>hbid x hx (by simp at e ⊢; omega),h.s.oth ho (by simp; omega) (by simp; omega),by have:=hq1.oth ho2 (by simp; omega) (by simp; omega); simpa [qOf] using this,⟨_,hW2,fun t'=>?_⟩,h.ids,hbid,?_,fun t' ht'=>?_,?_⟩,ho⟩
  · simp only
    rw [dk,hl,hent2]
    by_cases e:t' = t
    · subst e; rw [if_pos rfl,h1]
    · have:=h2 t'
      rw [if_neg e] at this ⊢
      rw [← this,hab]
  · simp only
    rw [hent2]
    exact hnd2
  · simp only [hent2] at ht'
    simp only [aP,List.map_append,List.map_cons,List.mem_append,List.mem_cons] at ht'
    have hin:t' ∈ aP ((wEnt 0 P.S++wEnt 1 P.V)++[])→0≤t'∧t' < 64:=fun e=>hrng t' (by rw [hab]; exact e)
    simp only [aP,List.map_append,List.mem_append] at hin
    rcases ht' with e | rfl | e
    · exact hin (.inl e)
    · exact ht
    · exact hin (.inr e)
  · intro x hx; simp only [List.mem_append,List.mem_singleton] at hx; rcases hx with hx | rfl; exact h.zv x hx; exact hv
end
end Go.Fx.YtohlpjfhkejjgaaFx

