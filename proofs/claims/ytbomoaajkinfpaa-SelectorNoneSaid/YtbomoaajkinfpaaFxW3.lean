/- What the functions that the statement reaches compute: part 3. -/
import Derived.Test.YtbomoaajkinfpaaFxW2
namespace Go.Fx.YtbomoaajkinfpaaFx
open Go Go.Fx
attribute [local irreducible] aC runI aT bM

set_option maxRecDepth 100000
set_option maxHeartbeats 4000000

section
variable {st:St} {c q0 m0 q1 m1 wid:Nat} {bv:AV} {P:ChP}

theorem dU (h:ChIs st c P q0 m0 q1 m1 wid bv):bh Go.Proofs.Try.prog n_f44 [.ptr c 0] st (.lit (.bool false)):=by
  have hg:=h.get
  refine aR hmix k_f44 rfl rfl fun Q hQ=>?_
  unfold aFun c_f44
  simp (config:=KF) (disch:=omega) only [bZ,retI,ai,AI.dst,aL,a9,o_un,az,aw,aQ,ao,bA,aA,aM,ep,di,cA,addA,ag,unA,putS,Sf.set,Sf.reg,getR,setR,aa,Sf.disAt,aY,List.drop_zero,↓reduceIte,Nat.reduceEqDiff,Bool.true_and,true_and,reduceCtorEq,Nat.add_zero,Bool.not_true,Bool.false_eq_true,f44_1e,f44_2e,f44_2l,f44_3e,f44_4e,f44_4l,hg]
  exact hQ _

theorem ff (h:ChIs st c P q0 m0 q1 m1 wid bv) (t:Int):bh Go.Proofs.Try.prog n_f39 [.ptr c 0,.lit (.int .i64 t)] st (.lit (.int .i64 (chk P t))):=by
  have hg:=h.get
  obtain ⟨W,hW,hl⟩:=h.w
  refine aR hmix k_f39 rfl rfl fun Q hQ=>?_
  unfold aFun c_f39
  generalize hR:chk P t = R at hQ
  unfold chk at hR
  simp (config:=KF) (disch:=omega) only [bZ,ak,ev_f,putS,Sf.set,Sf.reg,getR,setR,aa,aY,id,↓reduceIte,Nat.reduceEqDiff,reduceCtorEq,Nat.zero_add,f39_1e,f39_2e,f39_2l,f39_3e,f39_4e,f39_5e,f39_6e,f39_6l]
  refine aG rfl e_f44 (dU h) rfl ?_
  simp (config:=KF) (disch:=omega) only [bZ,ai,AI.dst,ao,cn,putS,Sf.set,Sf.reg,getR,setR,aa,Sf.disAt,↓reduceIte,Nat.reduceEqDiff,reduceCtorEq,f39_7e,f39_10e,f39_11e,f39_11l]
  have hlk:∀ z,cz (.int .i64) z true st (.map wid) (.lit (.int .i64 t)) = .ok (match aP t (entC P.S P.V) with | some b=>.tup [wtAV b,.lit (.bool true)] | none=>.tup [z,.lit (.bool false)]):=fun z=>by
    rw [cC hW,hl]; cases aP t (entC P.S P.V) <;> rfl
  have hs:=look_of_mem (k:=t) (m:=entC P.S P.V)
  refine cQ (fun h1=>?_) (fun h1=>?_)
  · simp (config:=KF) (disch:=omega) only [bZ,bE,retI,ai,bX,AI.dst,bP,a9,ao,cm,putS,Sf.set,Sf.reg,getR,setR,aa,Sf.disAt,↓reduceIte,Nat.reduceEqDiff,Bool.true_and,true_and,reduceCtorEq,Bool.false_eq_true,f39_12e,f39_13e,f39_14e,f39_14l]
    rw [if_pos (by omega)] at hR
    subst hR
    exact hQ _
  · simp (config:=KF) (disch:=omega) only [bZ,ai,AI.dst,aL,a9,ao,bA,mM,putS,Sf.set,Sf.reg,getR,setR,aa,Sf.disAt,↓reduceIte,Nat.reduceEqDiff,reduceCtorEq,Bool.false_eq_true,f39_12e]
    refine bY (fun h2=>?_) (fun h2=>?_)
    · simp (config:=KF) (disch:=omega) only [bZ,bE,retI,putS,Sf.set,Sf.reg,getR,setR,aa,↓reduceIte,Nat.reduceEqDiff,Bool.true_and,true_and,reduceCtorEq,f39_13e,f39_14e,f39_14l]
      rw [if_pos (by omega)] at hR
      subst hR
      exact hQ _
    · rw [if_neg (by omega)] at hR
      cases hx:aP t (entC P.S P.V) with
      | none =>
        rw [hx] at hs hlk
        simp (config:=KF) (disch:=omega) only [bZ,au,retI,cd,az,aw,aQ,dS,ao,c9,aW,extV,aA,aM,boxX,bj,addA,ag,aO,aS,putS,Sf.set,Sf.reg,getR,setR,aa,Sf.disAt,Sf.newLoc,Sf.setLoc,look,cD,bF,bJ,aE,bq,ar,aX,ir,al,ae,ah,bU,bN,eN,bO,mL,List.length_cons,List.length_nil,List.getElem?_cons_zero,List.getElem?_cons_succ,List.all_cons,List.all_nil,List.drop_zero,List.drop_succ_cons,↓reduceIte,Nat.reduceEqDiff,Nat.reduceAdd,Nat.reduceLeDiff,Bool.true_and,Bool.and_true,and_true,true_and,reduceCtorEq,Nat.zero_add,am,af,f39_15e,f39_16e,f39_17e,f39_17l,f39_18e,f39_19e,f39_19l,f39_20e,f39_23e,f39_24e,f39_24l,hg,hlk]
        rw [if_neg (by simpa using hs.symm)] at hR
        subst hR
        exact hQ _
      | some b =>
        rw [hx] at hs hlk
        simp (config:=KF) (disch:=omega) only [bZ,au,retI,cd,az,aw,aQ,dS,ao,c9,aW,extV,aA,aM,boxX,bj,addA,ag,aO,aS,putS,Sf.set,Sf.reg,getR,setR,aa,Sf.disAt,Sf.newLoc,Sf.setLoc,look,cD,bF,bJ,aE,bq,ar,aX,ir,al,ae,ah,bU,bN,eN,bO,mL,List.length_cons,List.length_nil,List.getElem?_cons_zero,List.getElem?_cons_succ,List.all_cons,List.all_nil,List.drop_zero,List.drop_succ_cons,↓reduceIte,Nat.reduceEqDiff,Nat.reduceAdd,Nat.reduceLeDiff,Bool.true_and,Bool.and_true,and_true,true_and,reduceCtorEq,Nat.zero_add,am,af,f39_15e,f39_16e,f39_17e,f39_17l,f39_18e,f39_19e,f39_19l,f39_20e,f39_21e,f39_22e,f39_22l,hg,hlk,wtAV]
        rw [if_pos (by simpa using hs.symm)] at hR
        subst hR
        exact hQ _

/-- senders: the first one that waits. -/
theorem lB (h:ChIs st c P q0 m0 q1 m1 wid bv) (hS:P.S = []) :
    bf Go.Proofs.Try.prog n_f45 [.ptr c 0,.lit (.int .i64 0)] st (fun r st'=>r = .tup [.lit (.int .i64 0),.lit (.int .i64 0),.lit (.bool false)]∧st' = st):=by
  have hg:=h.get
  have hs:=h.s
  rw [hS] at hs
  refine aZ hmix k_f45 rfl rfl fun Q hQ=>?_
  unfold aFun c_f45
  simp (config:=KF) (disch:=omega) only [bZ,and_self,az,lk,aw,aQ,ak,aA,aM,ixA,addA,ag,aq,bg,ev_f,putS,Sf.set,Sf.reg,getR,setR,aa,aY,id,List.drop_zero,List.drop_succ_cons,Int.toNat_zero,Int.cast_ofNat_Int,↓reduceIte,Nat.reduceEqDiff,Int.reduceLT,Int.reduceLE,reduceCtorEq,Nat.zero_add,Nat.add_zero,decide_true,Nat.mul_one,f45_1e,f45_2e,f45_2l,f45_3e,f45_4e,f45_4l,hg]
  refine bw rfl e_f63 (qpop_nil hs) rfl fun r st' hr=>?_
  obtain ⟨rfl,rfl⟩:=hr
  simp (config:=KF) (disch:=omega) only [bZ,retI,resI,resL,cd,ao,extV,dO,putS,Sf.set,Sf.reg,getR,setR,aa,Sf.disAt,bq,aX,aU,List.getElem?_cons_zero,List.getElem?_cons_succ,List.all_cons,List.all_nil,↓reduceIte,Nat.reduceEqDiff,Int.reduceEq,Bool.true_and,Bool.and_true,and_true,true_and,reduceCtorEq,not_false_eq_true,decide_true,f45_5e,f45_6e,f45_7e,f45_7l,f45_8e,f45_9e,f45_10e,f45_10l]
  exact hQ _ _ ⟨rfl,rfl⟩

theorem j5 (h:ChIs st c P q0 m0 q1 m1 wid bv) {k:Nat} {t v:Int} {l:List W3} (hS:P.S = (k,t,v)::l) (hb:P.g0 < 1000000) :
    bf Go.Proofs.Try.prog n_f45 [.ptr c 0,.lit (.int .i64 0)] st (fun r st'=>r = .tup [.lit (.int .i64 t),.lit (.int .i64 v),.lit (.bool true)]∧ChIs st' c { P with S:=l } q0 m0 q1 m1 wid bv∧Oth st st' [q0,m0,wid]):=by
  have hg:=h.get
  have hs:=h.s
  have hids:=h.ids
  have hnd:=h.nd
  have hrng:=h.rng
  have hbid:=h.bid
  obtain ⟨W,hW,hl⟩:=h.w
  simp only [List.nodup_cons,List.mem_cons,List.not_mem_nil,or_false,not_or] at hids
  obtain ⟨⟨i1,i2,i3,i4,i5⟩,⟨i6,i7,i8,i9⟩,⟨i10,i11,i12⟩,⟨i13,i14⟩,i15,_⟩:=hids
  have hent:entC P.S P.V = []++(t,(0,v,k))::(wEnt 0 l++wEnt 1 P.V):=by simp [entC,wEnt,hS]
  rw [hent] at hnd
  obtain ⟨h1,h2⟩:=ey hnd
  have hent2:entC l P.V = []++(wEnt 0 l++wEnt 1 P.V):=by simp [entC]
  rw [hS] at hs
  refine aZ hmix k_f45 rfl rfl fun Q hQ=>?_
  unfold aFun c_f45
  simp (config:=KF) (disch:=omega) only [bZ,and_self,az,lk,aw,aQ,ak,aA,aM,ixA,addA,ag,aq,bg,ev_f,putS,Sf.set,Sf.reg,getR,setR,aa,aY,id,List.drop_zero,List.drop_succ_cons,Int.toNat_zero,Int.cast_ofNat_Int,↓reduceIte,Nat.reduceEqDiff,Int.reduceLT,Int.reduceLE,reduceCtorEq,Nat.zero_add,Nat.add_zero,decide_true,Nat.mul_one,f45_1e,f45_2e,f45_2l,f45_3e,f45_4e,f45_4l,hg]
  refine bw rfl e_f63 (mZ (B:=qOf l) hs hb) rfl fun r st1 hr=>?_
  obtain ⟨rfl,hq1,ho1⟩:=hr
  have hg1:st1.get c = _:=(ho1.get (by simp; omega)).trans hg
  have hW1:=hW.oth ho1 (by simp; omega)
  have hk:∀ z,cz (.int .i64) z false st1 (.map wid) (.lit (.int .i64 t)) = .ok (wtAV (0,v,k)):=fun z=>by
    rw [cC hW1,hl,hent,h1]; rfl
  simp (config:=KF) (disch:=omega) only [bZ,cd,o_field,az,aw,aQ,dS,ao,oh,extV,mH,aA,aM,addA,ag,dO,putS,Sf.set,Sf.reg,getR,setR,aa,Sf.disAt,bJ,bq,aX,List.getElem?_cons_zero,List.getElem?_cons_succ,List.drop_zero,List.drop_succ_cons,↓reduceIte,Nat.reduceEqDiff,reduceCtorEq,Nat.zero_add,not_true_eq_false,decide_false,f45_5e,f45_6e,f45_7e,f45_7l,f45_8e,f45_11e,f45_12e,f45_12l,f45_13e,f45_14e,f45_14l,hg1,hk,wtAV]
  refine gD hW1 fun st2 hW2 ho2=>?_
  simp (config:=KF) (disch:=omega) only [bZ,retI,resI,resL,ao,putS,Sf.set,Sf.reg,getR,setR,aa,Sf.disAt,aU,List.all_cons,List.all_nil,↓reduceIte,Nat.reduceEqDiff,Bool.true_and,Bool.and_true,and_true,true_and,reduceCtorEq,f45_15e,f45_16e,f45_16l]
  have ho:Oth st st2 [q0,m0,wid]:=(ho1.mono (by simp)).trans (ho2.mono (by simp))
  refine hQ _ _ ⟨rfl,⟨(ho.get (by simp; omega)).trans hg,h.buf.at fun x hx=>ho.2 x fun e=>hbid x hx (by simp at e ⊢; omega),hq1.oth ho2 (by simp; omega) (by simp; omega),h.r.oth ho (by simp; omega) (by simp; omega),⟨_,hW2,fun t'=>?_⟩,h.ids,hbid,?_,fun t' ht'=>?_,?_⟩,ho⟩
  · simp only
    rw [fV _ _ hW1.nd,hl,hent,hent2,h2]
  · simp only
    rw [hent2]
    simp only [bk,List.map_append,List.map_cons] at hnd ⊢
    exact hnd.sublist (List.Sublist.append (List.Sublist.refl _) (List.sublist_cons_self _ _))
  · refine hrng t' ?_
    simp only [hent2] at ht'
    rw [hent]
    simp only [bk,List.map_append,List.map_cons,List.mem_append,List.mem_cons] at ht' ⊢
    exact ht'.elim .inl fun e=>.inr (.inr e)
  · exact h.zv

/-- senders: one more. -/
theorem py (h:ChIs st c P q0 m0 q1 m1 wid bv) {t v:Int} (hb:P.g0 < 100000) (hn:P.S.length < 4000) (hnew:t ∉ bk (entC P.S P.V)) (ht:0≤t∧t < 64) :
    bf Go.Proofs.Try.prog n_f41 [.ptr c 0,.lit (.int .i64 0),.lit (.int .i64 t),.lit (.int .i64 v)] st (fun r st'=>r = .lit (.int .i64 0)∧ChIs st' c { P with S:=P.S++[(P.g0 + 1,t,v)],g0:=P.g0 + 1 } q0 m0 q1 m1 wid bv∧Oth st st' [q0,m0,wid]):=by
  have hg:=h.get
  have hs:=h.s
  have hids:=h.ids
  have hnd:=h.nd
  have hrng:=h.rng
  have hbid:=h.bid
  obtain ⟨W,hW,hl⟩:=h.w
  simp only [List.nodup_cons,List.mem_cons,List.not_mem_nil,or_false,not_or] at hids
  obtain ⟨⟨i1,i2,i3,i4,i5⟩,⟨i6,i7,i8,i9⟩,⟨i10,i11,i12⟩,⟨i13,i14⟩,i15,_⟩:=hids
  have hent:entC P.S P.V = wEnt 0 P.S++wEnt 1 P.V:=rfl
  have hent2:entC (P.S++[(P.g0 + 1,t,v)]) P.V = wEnt 0 P.S++(t,(0,v,P.g0 + 1))::wEnt 1 P.V:=by simp [entC,wEnt]
  have hab:entC P.S P.V = wEnt 0 P.S++wEnt 1 P.V:=by simp [entC]
  have hnd2:(bk (wEnt 0 P.S++(t,((0:Int),v,P.g0 + 1))::wEnt 1 P.V)).Nodup:=by
    rw [hab,fd] at hnd hnew
    rw [fd]
    obtain ⟨n1,n2,n3⟩:=List.nodup_append.1 hnd
    refine List.nodup_append.2 ⟨n1,List.nodup_cons.2 ⟨fun e=>hnew (List.mem_append_right _ e),n2⟩,fun x hx y hy e=>?_⟩
    rcases List.mem_cons.1 hy with rfl | hy
    · subst e; exact hnew (List.mem_append_left _ hx)
    · exact n3 x hx y hy e
  obtain ⟨h1,h2⟩:=ey hnd2
  refine aZ hmix k_f41 rfl rfl fun Q hQ=>?_
  unfold aFun c_f41
  simp (config:=KF) (disch:=omega) only [bZ,and_self,az,lk,aw,aQ,ak,aA,aM,ixA,addA,ag,aq,bg,ev_f,putS,Sf.set,Sf.reg,getR,setR,aa,aY,id,List.drop_zero,List.drop_succ_cons,Int.toNat_zero,Int.cast_ofNat_Int,↓reduceIte,Nat.reduceEqDiff,Nat.reduceAdd,Int.reduceLT,Int.reduceLE,reduceCtorEq,Nat.zero_add,Nat.add_zero,decide_true,Nat.mul_one,f41_1e,f41_2e,f41_2l,f41_3e,f41_4e,f41_4l,hg]
  refine bw rfl e_f60 (lA hs (by simp [qOf]; omega) (by omega)) rfl fun r st1 hr=>?_
  obtain ⟨rfl,hq1,ho1⟩:=hr
  have hg1:st1.get c = _:=(ho1.get (by simp; omega)).trans hg
  have hW1:=hW.oth ho1 (by simp; omega)
  simp (config:=KF) (disch:=omega) only [bZ,and_self,cd,az,aw,aQ,cP,ao,jQ,extV,aA,aM,bstV,addA,ag,bt,ce,putS,Sf.set,Sf.reg,getR,setR,aa,Sf.disAt,bJ,bq,aX,aB,al,ae,ah,List.length_cons,List.length_nil,List.getElem?_cons_zero,List.getElem?_cons_succ,List.all_cons,List.all_nil,List.drop_zero,List.drop_succ_cons,List.set_cons_zero,List.set_cons_succ,↓reduceIte,Nat.reduceEqDiff,Nat.reduceAdd,Nat.reduceLeDiff,Bool.and_true,and_true,reduceCtorEq,Nat.zero_add,decide_true,am,af,f41_5e,f41_6e,f41_7e,f41_7l,f41_8e,f41_9e,f41_9l,hg1]
  refine eO (b:=(0,v,P.g0 + 1)) hW1 rfl rfl fun st2 hW2 ho2=>?_
  simp (config:=KF) (disch:=omega) only [bZ,retI,ao,putS,Sf.set,Sf.reg,getR,setR,aa,Sf.disAt,↓reduceIte,Nat.reduceEqDiff,Bool.true_and,true_and,reduceCtorEq,f41_10e,f41_11e,f41_11l]
  have ho:Oth st st2 [q0,m0,wid]:=(ho1.mono (by simp)).trans (ho2.mono (by simp))
  refine hQ _ _ ⟨rfl,⟨(ho.get (by simp; omega)).trans hg,h.buf.at fun x hx=>ho.2 x fun e=>hbid x hx (by simp at e ⊢; omega),by have:=hq1.oth ho2 (by simp; omega) (by simp; omega); simpa [qOf] using this,h.r.oth ho (by simp; omega) (by simp; omega),⟨_,hW2,fun t'=>?_⟩,h.ids,hbid,?_,fun t' ht'=>?_,?_⟩,ho⟩
  · simp only
    rw [dC,hl,hent2]
    by_cases e:t' = t
    · subst e; rw [if_pos rfl,h1]
    · have:=h2 t'
      rw [if_neg e] at this ⊢
      rw [← this,hab]
  · simp only
    rw [hent2]
    exact hnd2
  · simp only [hent2] at ht'
    simp only [bk,List.map_append,List.map_cons,List.mem_append,List.mem_cons] at ht'
    have hin:t' ∈ bk (wEnt 0 P.S++wEnt 1 P.V)→0≤t'∧t' < 64:=fun e=>hrng t' (by rw [hab]; exact e)
    simp only [bk,List.map_append,List.mem_append] at hin
    rcases ht' with e | rfl | e
    · exact hin (.inl e)
    · exact ht
    · exact hin (.inr e)
  · exact h.zv

/-- receivers: the first one that waits. -/
theorem lC (h:ChIs st c P q0 m0 q1 m1 wid bv) (hS:P.V = []) :
    bf Go.Proofs.Try.prog n_f45 [.ptr c 0,.lit (.int .i64 1)] st (fun r st'=>r = .tup [.lit (.int .i64 0),.lit (.int .i64 0),.lit (.bool false)]∧st' = st):=by
  have hg:=h.get
  have hs:=h.r
  rw [hS] at hs
  refine aZ hmix k_f45 rfl rfl fun Q hQ=>?_
  unfold aFun c_f45
  simp (config:=KF) (disch:=omega) only [bZ,and_self,az,lk,aw,aQ,ak,aA,aM,ixA,addA,ag,aq,bg,ev_f,putS,Sf.set,Sf.reg,getR,setR,aa,aY,id,List.drop_zero,List.drop_succ_cons,Int.toNat_one,Int.cast_ofNat_Int,↓reduceIte,Nat.reduceEqDiff,Nat.reduceAdd,Int.reduceLT,Int.reduceLE,reduceCtorEq,Nat.zero_add,decide_true,Nat.mul_one,f45_1e,f45_2e,f45_2l,f45_3e,f45_4e,f45_4l,hg]
  refine bw rfl e_f63 (qpop_nil hs) rfl fun r st' hr=>?_
  obtain ⟨rfl,rfl⟩:=hr
  simp (config:=KF) (disch:=omega) only [bZ,retI,resI,resL,cd,ao,extV,dO,putS,Sf.set,Sf.reg,getR,setR,aa,Sf.disAt,bq,aX,aU,List.getElem?_cons_zero,List.getElem?_cons_succ,List.all_cons,List.all_nil,↓reduceIte,Nat.reduceEqDiff,Int.reduceEq,Bool.true_and,Bool.and_true,and_true,true_and,reduceCtorEq,not_false_eq_true,decide_true,f45_5e,f45_6e,f45_7e,f45_7l,f45_8e,f45_9e,f45_10e,f45_10l]
  exact hQ _ _ ⟨rfl,rfl⟩

theorem j6 (h:ChIs st c P q0 m0 q1 m1 wid bv) {k:Nat} {t v:Int} {l:List W3} (hS:P.V = (k,t,v)::l) (hb:P.g1 < 1000000) :
    bf Go.Proofs.Try.prog n_f45 [.ptr c 0,.lit (.int .i64 1)] st (fun r st'=>r = .tup [.lit (.int .i64 t),.lit (.int .i64 v),.lit (.bool true)]∧ChIs st' c { P with V:=l } q0 m0 q1 m1 wid bv∧Oth st st' [q1,m1,wid]):=by
  have hg:=h.get
  have hs:=h.r
  have hids:=h.ids
  have hnd:=h.nd
  have hrng:=h.rng
  have hbid:=h.bid
  obtain ⟨W,hW,hl⟩:=h.w
  simp only [List.nodup_cons,List.mem_cons,List.not_mem_nil,or_false,not_or] at hids
  obtain ⟨⟨i1,i2,i3,i4,i5⟩,⟨i6,i7,i8,i9⟩,⟨i10,i11,i12⟩,⟨i13,i14⟩,i15,_⟩:=hids
  have hent:entC P.S P.V = wEnt 0 P.S++(t,(1,v,k))::wEnt 1 l:=by simp [entC,wEnt,hS]
  rw [hent] at hnd
  obtain ⟨h1,h2⟩:=ey hnd
  have hent2:entC P.S l = wEnt 0 P.S++wEnt 1 l:=by simp [entC]
  rw [hS] at hs
  refine aZ hmix k_f45 rfl rfl fun Q hQ=>?_
  unfold aFun c_f45
  simp (config:=KF) (disch:=omega) only [bZ,and_self,az,lk,aw,aQ,ak,aA,aM,ixA,addA,ag,aq,bg,ev_f,putS,Sf.set,Sf.reg,getR,setR,aa,aY,id,List.drop_zero,List.drop_succ_cons,Int.toNat_one,Int.cast_ofNat_Int,↓reduceIte,Nat.reduceEqDiff,Nat.reduceAdd,Int.reduceLT,Int.reduceLE,reduceCtorEq,Nat.zero_add,decide_true,Nat.mul_one,f45_1e,f45_2e,f45_2l,f45_3e,f45_4e,f45_4l,hg]
  refine bw rfl e_f63 (mZ (B:=qOf l) hs hb) rfl fun r st1 hr=>?_
  obtain ⟨rfl,hq1,ho1⟩:=hr
  have hg1:st1.get c = _:=(ho1.get (by simp; omega)).trans hg
  have hW1:=hW.oth ho1 (by simp; omega)
  have hk:∀ z,cz (.int .i64) z false st1 (.map wid) (.lit (.int .i64 t)) = .ok (wtAV (1,v,k)):=fun z=>by
    rw [cC hW1,hl,hent,h1]; rfl
  simp (config:=KF) (disch:=omega) only [bZ,cd,o_field,az,aw,aQ,dS,ao,oh,extV,mH,aA,aM,addA,ag,dO,putS,Sf.set,Sf.reg,getR,setR,aa,Sf.disAt,bJ,bq,aX,List.getElem?_cons_zero,List.getElem?_cons_succ,List.drop_zero,List.drop_succ_cons,↓reduceIte,Nat.reduceEqDiff,reduceCtorEq,Nat.zero_add,not_true_eq_false,decide_false,f45_5e,f45_6e,f45_7e,f45_7l,f45_8e,f45_11e,f45_12e,f45_12l,f45_13e,f45_14e,f45_14l,hg1,hk,wtAV]
  refine gD hW1 fun st2 hW2 ho2=>?_
  simp (config:=KF) (disch:=omega) only [bZ,retI,resI,resL,ao,putS,Sf.set,Sf.reg,getR,setR,aa,Sf.disAt,aU,List.all_cons,List.all_nil,↓reduceIte,Nat.reduceEqDiff,Bool.true_and,Bool.and_true,and_true,true_and,reduceCtorEq,f45_15e,f45_16e,f45_16l]
  have ho:Oth st st2 [q1,m1,wid]:=(ho1.mono (by simp)).trans (ho2.mono (by simp))
  refine hQ _ _ ⟨rfl,⟨(ho.get (by simp; omega)).trans hg,h.buf.at fun x hx=>ho.2 x fun e=>hbid x hx (by simp at e ⊢; omega),h.s.oth ho (by simp; omega) (by simp; omega),hq1.oth ho2 (by simp; omega) (by simp; omega),⟨_,hW2,fun t'=>?_⟩,h.ids,hbid,?_,fun t' ht'=>?_,?_⟩,ho⟩
  · simp only
    rw [fV _ _ hW1.nd,hl,hent,hent2,h2]
  · simp only
    rw [hent2]
    simp only [bk,List.map_append,List.map_cons] at hnd ⊢
    exact hnd.sublist (List.Sublist.append (List.Sublist.refl _) (List.sublist_cons_self _ _))
  · refine hrng t' ?_
    simp only [hent2] at ht'
    rw [hent]
    simp only [bk,List.map_append,List.map_cons,List.mem_append,List.mem_cons] at ht' ⊢
    exact ht'.elim .inl fun e=>.inr (.inr e)
  · exact fun x hx=>h.zv x (by rw [hS]; simp [hx])

/-- receivers: one more. -/
theorem pz (h:ChIs st c P q0 m0 q1 m1 wid bv) {t v:Int} (hb:P.g1 < 100000) (hn:P.V.length < 4000) (hnew:t ∉ bk (entC P.S P.V)) (ht:0≤t∧t < 64) (hv:v = 0) :
    bf Go.Proofs.Try.prog n_f41 [.ptr c 0,.lit (.int .i64 1),.lit (.int .i64 t),.lit (.int .i64 v)] st (fun r st'=>r = .lit (.int .i64 0)∧ChIs st' c { P with V:=P.V++[(P.g1 + 1,t,v)],g1:=P.g1 + 1 } q0 m0 q1 m1 wid bv∧Oth st st' [q1,m1,wid]):=by
  have hg:=h.get
  have hs:=h.r
  have hids:=h.ids
  have hnd:=h.nd
  have hrng:=h.rng
  have hbid:=h.bid
  obtain ⟨W,hW,hl⟩:=h.w
  simp only [List.nodup_cons,List.mem_cons,List.not_mem_nil,or_false,not_or] at hids
  obtain ⟨⟨i1,i2,i3,i4,i5⟩,⟨i6,i7,i8,i9⟩,⟨i10,i11,i12⟩,⟨i13,i14⟩,i15,_⟩:=hids
  have hent:entC P.S P.V = wEnt 0 P.S++wEnt 1 P.V:=rfl
  have hent2:entC P.S (P.V++[(P.g1 + 1,t,v)]) = (wEnt 0 P.S++wEnt 1 P.V)++(t,(1,v,P.g1 + 1))::[]:=by simp [entC,wEnt]
  have hab:entC P.S P.V = (wEnt 0 P.S++wEnt 1 P.V)++[]:=by simp [entC]
  have hnd2:(bk ((wEnt 0 P.S++wEnt 1 P.V)++(t,((1:Int),v,P.g1 + 1))::[])).Nodup:=by
    rw [hab,fd] at hnd hnew
    rw [fd]
    obtain ⟨n1,n2,n3⟩:=List.nodup_append.1 hnd
    refine List.nodup_append.2 ⟨n1,List.nodup_cons.2 ⟨fun e=>hnew (List.mem_append_right _ e),n2⟩,fun x hx y hy e=>?_⟩
    rcases List.mem_cons.1 hy with rfl | hy
    · subst e; exact hnew (List.mem_append_left _ hx)
    · exact n3 x hx y hy e
  obtain ⟨h1,h2⟩:=ey hnd2
  refine aZ hmix k_f41 rfl rfl fun Q hQ=>?_
  unfold aFun c_f41
  simp (config:=KF) (disch:=omega) only [bZ,and_self,az,lk,aw,aQ,ak,aA,aM,ixA,addA,ag,aq,bg,ev_f,putS,Sf.set,Sf.reg,getR,setR,aa,aY,id,List.drop_zero,List.drop_succ_cons,Int.toNat_one,Int.cast_ofNat_Int,↓reduceIte,Nat.reduceEqDiff,Nat.reduceAdd,Int.reduceLT,Int.reduceLE,reduceCtorEq,Nat.zero_add,decide_true,Nat.mul_one,f41_1e,f41_2e,f41_2l,f41_3e,f41_4e,f41_4l,hg]
  refine bw rfl e_f60 (lA hs (by simp [qOf]; omega) (by omega)) rfl fun r st1 hr=>?_
  obtain ⟨rfl,hq1,ho1⟩:=hr
  have hg1:st1.get c = _:=(ho1.get (by simp; omega)).trans hg
  have hW1:=hW.oth ho1 (by simp; omega)
  simp (config:=KF) (disch:=omega) only [bZ,and_self,cd,az,aw,aQ,cP,ao,jQ,extV,aA,aM,bstV,addA,ag,bt,ce,putS,Sf.set,Sf.reg,getR,setR,aa,Sf.disAt,bJ,bq,aX,aB,al,ae,ah,List.length_cons,List.length_nil,List.getElem?_cons_zero,List.getElem?_cons_succ,List.all_cons,List.all_nil,List.drop_zero,List.drop_succ_cons,List.set_cons_zero,List.set_cons_succ,↓reduceIte,Nat.reduceEqDiff,Nat.reduceAdd,Nat.reduceLeDiff,Bool.and_true,and_true,reduceCtorEq,Nat.zero_add,decide_true,am,af,f41_5e,f41_6e,f41_7e,f41_7l,f41_8e,f41_9e,f41_9l,hg1]
  refine eO (b:=(1,v,P.g1 + 1)) hW1 rfl rfl fun st2 hW2 ho2=>?_
  simp (config:=KF) (disch:=omega) only [bZ,retI,ao,putS,Sf.set,Sf.reg,getR,setR,aa,Sf.disAt,↓reduceIte,Nat.reduceEqDiff,Bool.true_and,true_and,reduceCtorEq,f41_10e,f41_11e,f41_11l]
  have ho:Oth st st2 [q1,m1,wid]:=(ho1.mono (by simp)).trans (ho2.mono (by simp))
  refine hQ _ _ ⟨rfl,⟨(ho.get (by simp; omega)).trans hg,h.buf.at fun x hx=>ho.2 x fun e=>hbid x hx (by simp at e ⊢; omega),h.s.oth ho (by simp; omega) (by simp; omega),by have:=hq1.oth ho2 (by simp; omega) (by simp; omega); simpa [qOf] using this,⟨_,hW2,fun t'=>?_⟩,h.ids,hbid,?_,fun t' ht'=>?_,?_⟩,ho⟩
  · simp only
    rw [dC,hl,hent2]
    by_cases e:t' = t
    · subst e; rw [if_pos rfl,h1]
    · have:=h2 t'
      rw [if_neg e] at this ⊢
      rw [← this,hab]
  · simp only
    rw [hent2]
    exact hnd2
  · simp only [hent2] at ht'
    simp only [bk,List.map_append,List.map_cons,List.mem_append,List.mem_cons] at ht'
    have hin:t' ∈ bk ((wEnt 0 P.S++wEnt 1 P.V)++[])→0≤t'∧t' < 64:=fun e=>hrng t' (by rw [hab]; exact e)
    simp only [bk,List.map_append,List.mem_append] at hin
    rcases ht' with e | rfl | e
    · exact hin (.inl e)
    · exact ht
    · exact hin (.inr e)
  · intro x hx; simp only [List.mem_append,List.mem_singleton] at hx; rcases hx with hx | rfl; exact h.zv x hx; exact hv
end
end Go.Fx.YtbomoaajkinfpaaFx

