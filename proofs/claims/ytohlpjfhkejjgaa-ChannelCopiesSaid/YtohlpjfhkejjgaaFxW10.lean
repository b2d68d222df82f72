/- What the functions that the statement reaches compute: part 10. -/
import Derived.Test.YtohlpjfhkejjgaaFxW9
namespace Go.Fx.YtohlpjfhkejjgaaFx
open Go Go.Fx
attribute [local irreducible] aC runI aY cF

set_option maxRecDepth 100000
set_option maxHeartbeats 4000000

section
variable {st:St} {c q0 m0 q1 m1 wid:Nat} {bv:AV} {P:ChP}

/-- senders: one of them is taken out. -/
theorem ccancel0_in (h:ChIs st c P q0 m0 q1 m1 wid bv) {k:Nat} {t v:Int} {A B:List W3} (hS:P.S = A++(k,t,v)::B) (hb:P.g0 < 1000000) (hc:chk P t = 11) :
    bj Go.Proofs.Try.prog n_f28 [.ptr c 0,.lit (.int .i64 t)] st (fun r st'=>r = .lit (.int .i64 0)∧ChIs st' c { P with S:=A++B } q0 m0 q1 m1 wid bv∧Oth st st' [q0,m0,wid]):=by
  have hg:=h.get
  have hs:=h.s
  have hids:=h.ids
  have hnd:=h.nd
  have hrng:=h.rng
  have hbid:=h.bid
  obtain ⟨W,hW,hl⟩:=h.w
  simp only [List.nodup_cons,List.mem_cons,List.not_mem_nil,or_false,not_or] at hids
  obtain ⟨⟨i1,i2,i3,i4,i5⟩,⟨i6,i7,i8,i9⟩,⟨i10,i11,i12⟩,⟨i13,i14⟩,i15,_⟩:=hids
  have hent:entC P.S P.V = wEnt 0 A++(t,(0,v,k))::(wEnt 0 B++wEnt 1 P.V):=by simp [entC,wEnt,hS]
  rw [hent] at hnd
  obtain ⟨h1,h2⟩:=ee hnd
  have hent2:entC (A++B) P.V = wEnt 0 A++(wEnt 0 B++wEnt 1 P.V):=by simp [entC,wEnt]
  have hq:qOf P.S = qOf A++(k,t)::qOf B:=by rw [hS]; simp [qOf]
  rw [hq] at hs
  refine bf hmix k_f28 rfl rfl fun Q hQ=>?_
  unfold aFun c_f28
  simp (config:=KF) (disch:=omega) only [bZ,az,ev_f,putS,Sf.set,Sf.reg,getR,setR,ae,bt,id,↓reduceIte,Nat.reduceEqDiff,reduceCtorEq,Nat.zero_add,f28_1e,f28_2e,f28_2l,f28_3e,f28_4e,f28_4l]
  refine bA rfl e_f38 (e8 h t) rfl ?_
  rw [hc]
  have hk0:∀ z,cW (.int .i64) z false st (.map wid) (.lit (.int .i64 t)) = .ok (wtAV (0,v,k)):=fun z=>by
    rw [dl hW,hl,hent,h1]; rfl
  simp (config:=KF) (disch:=omega) only [bZ,List.contains_nil,da,cd,cX,cJ,oH,cc,dz,bp,tail_nil,and_self,aD,aq,a8,fG,aA,cm,aF,az,au,aZ,boxX,aM,ixA,addA,ak,bR,am,aG,ev_f,ap,aE,putS,Sf.set,Sf.reg,getR,setR,ae,Sf.disAt,Sf.newLoc,Sf.setLoc,look,bW,aR,bk,id,cb,ao,aj,ag,aa,ai,bD,cn,ey,aX,List.length_cons,List.length_nil,List.all_cons,List.all_nil,List.drop_zero,List.drop_succ_cons,List.set_cons_zero,List.set_cons_succ,Int.toNat_zero,Int.cast_ofNat_Int,↓reduceIte,Nat.reduceEqDiff,Nat.reduceAdd,Nat.reduceLeDiff,Int.reduceLT,Int.reduceLE,Int.reduceEq,Bool.true_and,Bool.and_true,and_true,true_and,reduceCtorEq,Nat.zero_add,Nat.add_zero,decide_true,decide_false,Bool.false_eq_true,ah,af,Nat.mul_one,f28_5e,f28_6e,f28_6l,f28_7e,f28_8e,f28_9e,f28_9l,f28_10e,f28_13e,f28_14e,f28_14l,f28_15e,f28_16e,f28_17e,f28_17l,f28_18e,f28_19e,f28_19h,f28_19l,hg,hk0,wtAV]
  refine ba rfl e_f40 (gf hs hb) rfl fun r st1 hr=>?_
  obtain ⟨rfl,hq1,ho1⟩:=hr
  have hg1:st1.get c = _:=(ho1.get (by simp; omega)).trans hg
  have hW1:=hW.oth ho1 (by simp; omega)
  simp (config:=KF) (disch:=omega) only [bZ,aD,aq,a8,o_del,au,aZ,addA,ak,putS,Sf.set,Sf.reg,getR,setR,ae,cb,List.drop_zero,List.drop_succ_cons,↓reduceIte,Nat.reduceEqDiff,reduceCtorEq,Nat.zero_add,f28_20e,f28_21e,f28_21l,hg1]
  refine iq hW1 fun st2 hW2 ho2=>?_
  simp (config:=KF) (disch:=omega) only [bZ,bU,retI,putS,Sf.set,Sf.reg,getR,setR,ae,↓reduceIte,Bool.true_and,true_and,f28_22e,f28_23e,f28_23l]
  have ho:Oth st st2 [q0,m0,wid]:=(ho1.mono (by simp)).trans (ho2.mono (by simp))
  have hq2:QIs st2 q0 m0 (qOf (A++B)) P.g0:=by
    have:=hq1.oth ho2 (by simp; omega) (by simp; omega)
    simpa [qOf] using this
  refine hQ _ _ ⟨rfl,⟨(ho.get (by simp; omega)).trans hg,h.buf.at fun x hx=>ho.2 x fun e=>hbid x hx (by simp at e ⊢; omega),hq2,h.r.oth ho (by simp; omega) (by simp; omega),⟨_,hW2,fun t'=>?_⟩,h.ids,hbid,?_,fun t' ht'=>?_,?_⟩,ho⟩
  · simp only
    rw [gA _ _ hW1.nd,hl,hent,hent2,h2]
  · simp only
    rw [hent2]
    simp only [aP,List.map_append,List.map_cons] at hnd ⊢
    exact hnd.sublist (List.Sublist.append (List.Sublist.refl _) (List.sublist_cons_self _ _))
  · refine hrng t' ?_
    simp only [hent2] at ht'
    rw [hent]
    simp only [aP,List.map_append,List.map_cons,List.mem_append,List.mem_cons] at ht' ⊢
    exact ht'.elim .inl fun e=>.inr (.inr e)
  · exact h.zv

/-- receivers: one of them is taken out. -/
theorem ccancel1_in (h:ChIs st c P q0 m0 q1 m1 wid bv) {k:Nat} {t v:Int} {A B:List W3} (hS:P.V = A++(k,t,v)::B) (hb:P.g1 < 1000000) (hc:chk P t = 11) :
    bj Go.Proofs.Try.prog n_f28 [.ptr c 0,.lit (.int .i64 t)] st (fun r st'=>r = .lit (.int .i64 0)∧ChIs st' c { P with V:=A++B } q0 m0 q1 m1 wid bv∧Oth st st' [q1,m1,wid]):=by
  have hg:=h.get
  have hs:=h.r
  have hids:=h.ids
  have hnd:=h.nd
  have hrng:=h.rng
  have hbid:=h.bid
  obtain ⟨W,hW,hl⟩:=h.w
  simp only [List.nodup_cons,List.mem_cons,List.not_mem_nil,or_false,not_or] at hids
  obtain ⟨⟨i1,i2,i3,i4,i5⟩,⟨i6,i7,i8,i9⟩,⟨i10,i11,i12⟩,⟨i13,i14⟩,i15,_⟩:=hids
  have hent:entC P.S P.V = wEnt 0 P.S++wEnt 1 A++(t,(1,v,k))::(wEnt 1 B):=by simp [entC,wEnt,hS]
  rw [hent] at hnd
  obtain ⟨h1,h2⟩:=ee hnd
  have hent2:entC P.S (A++B) = wEnt 0 P.S++wEnt 1 A++(wEnt 1 B):=by simp [entC,wEnt]
  have hq:qOf P.V = qOf A++(k,t)::qOf B:=by rw [hS]; simp [qOf]
  rw [hq] at hs
  refine bf hmix k_f28 rfl rfl fun Q hQ=>?_
  unfold aFun c_f28
  simp (config:=KF) (disch:=omega) only [bZ,az,ev_f,putS,Sf.set,Sf.reg,getR,setR,ae,bt,id,↓reduceIte,Nat.reduceEqDiff,reduceCtorEq,Nat.zero_add,f28_1e,f28_2e,f28_2l,f28_3e,f28_4e,f28_4l]
  refine bA rfl e_f38 (e8 h t) rfl ?_
  rw [hc]
  have hk0:∀ z,cW (.int .i64) z false st (.map wid) (.lit (.int .i64 t)) = .ok (wtAV (1,v,k)):=fun z=>by
    rw [dl hW,hl,hent,h1]; rfl
  simp (config:=KF) (disch:=omega) only [bZ,List.contains_nil,da,cd,cX,cJ,oH,cc,dz,bp,tail_nil,and_self,aD,aq,a8,fG,aA,cm,aF,az,au,aZ,boxX,aM,ixA,addA,ak,bR,am,aG,ev_f,ap,aE,putS,Sf.set,Sf.reg,getR,setR,ae,Sf.disAt,Sf.newLoc,Sf.setLoc,look,bW,aR,bk,id,cb,ao,aj,ag,aa,ai,bD,cn,ey,aX,List.length_cons,List.length_nil,List.all_cons,List.all_nil,List.drop_zero,List.drop_succ_cons,List.set_cons_zero,List.set_cons_succ,Int.toNat_one,Int.cast_ofNat_Int,↓reduceIte,Nat.reduceEqDiff,Nat.reduceAdd,Nat.reduceLeDiff,Int.reduceLT,Int.reduceLE,Int.reduceEq,Bool.true_and,Bool.and_true,and_true,true_and,reduceCtorEq,Nat.zero_add,Nat.add_zero,decide_true,decide_false,Bool.false_eq_true,ah,af,Nat.mul_one,f28_5e,f28_6e,f28_6l,f28_7e,f28_8e,f28_9e,f28_9l,f28_10e,f28_13e,f28_14e,f28_14l,f28_15e,f28_16e,f28_17e,f28_17l,f28_18e,f28_19e,f28_19h,f28_19l,hg,hk0,wtAV]
  refine ba rfl e_f40 (gf hs hb) rfl fun r st1 hr=>?_
  obtain ⟨rfl,hq1,ho1⟩:=hr
  have hg1:st1.get c = _:=(ho1.get (by simp; omega)).trans hg
  have hW1:=hW.oth ho1 (by simp; omega)
  simp (config:=KF) (disch:=omega) only [bZ,aD,aq,a8,o_del,au,aZ,addA,ak,putS,Sf.set,Sf.reg,getR,setR,ae,cb,List.drop_zero,List.drop_succ_cons,↓reduceIte,Nat.reduceEqDiff,reduceCtorEq,Nat.zero_add,f28_20e,f28_21e,f28_21l,hg1]
  refine iq hW1 fun st2 hW2 ho2=>?_
  simp (config:=KF) (disch:=omega) only [bZ,bU,retI,putS,Sf.set,Sf.reg,getR,setR,ae,↓reduceIte,Bool.true_and,true_and,f28_22e,f28_23e,f28_23l]
  have ho:Oth st st2 [q1,m1,wid]:=(ho1.mono (by simp)).trans (ho2.mono (by simp))
  have hq2:QIs st2 q1 m1 (qOf (A++B)) P.g1:=by
    have:=hq1.oth ho2 (by simp; omega) (by simp; omega)
    simpa [qOf] using this
  refine hQ _ _ ⟨rfl,⟨(ho.get (by simp; omega)).trans hg,h.buf.at fun x hx=>ho.2 x fun e=>hbid x hx (by simp at e ⊢; omega),h.s.oth ho (by simp; omega) (by simp; omega),hq2,⟨_,hW2,fun t'=>?_⟩,h.ids,hbid,?_,fun t' ht'=>?_,?_⟩,ho⟩
  · simp only
    rw [gA _ _ hW1.nd,hl,hent,hent2,h2]
  · simp only
    rw [hent2]
    simp only [aP,List.map_append,List.map_cons] at hnd ⊢
    exact hnd.sublist (List.Sublist.append (List.Sublist.refl _) (List.sublist_cons_self _ _))
  · refine hrng t' ?_
    simp only [hent2] at ht'
    rw [hent]
    simp only [aP,List.map_append,List.map_cons,List.mem_append,List.mem_cons] at ht' ⊢
    exact ht'.elim .inl fun e=>.inr (.inr e)
  · exact fun x hx=>h.zv x (by rw [hS]; simp only [List.mem_append,List.mem_cons] at hx ⊢; exact hx.elim .inl fun e=>.inr (.inr e))

theorem gP {d t:Int}:∀ {l:List W3},t ∈ aP (wEnt d l)→∃ A k v B,l = A++(k,t,v)::B
  | (k, u, v) :: l, h => by
    simp only [wEnt,aP,List.map_cons,List.mem_cons] at h
    by_cases e:t = u
    · subst e; exact ⟨[],k,v,l,rfl⟩
    · obtain ⟨A,k',v',B,h2⟩:=gP (d:=d) (l:=l) (h.resolve_left e)
      exact ⟨(k,u,v)::A,k',v',B,by rw [h2]; rfl⟩
theorem eF {d t:Int} {l:List W3} (h:t ∉ aP (wEnt d l)):(l.filter fun x=>x.2.1 != t) = l:=by
  rw [List.filter_eq_self]
  intro x hx
  simp only [bne_iff_ne,ne_eq]
  intro e
  apply h
  simp only [wEnt,aP,List.map_map,List.mem_map]
  exact ⟨x,hx,e⟩
theorem cU (d:Int) (l:List W3):aP (wEnt d l) = l.map fun x=>x.2.1:=by simp [aP,wEnt]

theorem mV (h:ChIs st c P q0 m0 q1 m1 wid bv) (t:Int) (hb:P.g0 < 1000000∧P.g1 < 1000000) :
    bj Go.Proofs.Try.prog n_f28 [.ptr c 0,.lit (.int .i64 t)] st (fun r st'=>r = .lit (.int .i64 (dw P t).2)∧cV st c (dw P t).1 q0 m0 q1 m1 wid bv st'):=by
  by_cases hc:chk P t = 11
  · have hin:t ∈ aP (entC P.S P.V):=by
      unfold chk at hc
      split at hc
      · simp at hc
      · split at hc
        · assumption
        · simp at hc
    have hnd:=h.nd
    simp only [dw,if_pos hc]
    simp only [entC,fQ,cU,List.mem_append] at hin hnd
    rw [← cU 0,← cU 1] at hin
    by_cases hi:t ∈ aP (wEnt 0 P.S)
    · obtain ⟨A,k,v,B,hS⟩:=gP hi
      rw [hS] at hnd
      simp only [List.map_append,List.map_cons,List.nodup_append,List.nodup_cons,List.mem_append,List.mem_cons,List.mem_map] at hnd
      obtain ⟨⟨_,⟨n1,_⟩,n2⟩,_,n3⟩:=hnd
      have e1:(P.S.filter fun x=>x.2.1 != t) = A++B:=by
        rw [hS,List.filter_append,List.filter_cons]
        rw [eF (d:=0) (l:=A) (fun e=>?_),eF (d:=0) (l:=B) (fun e=>?_)]
        · simp
        · rw [cU] at e
          exact n1 (by simpa using e)
        · rw [cU] at e
          simp only [List.mem_map] at e
          exact n2 t e t (.inl rfl) rfl
      have e2:(P.V.filter fun x=>x.2.1 != t) = P.V:=eF (d:=1) fun e=>by
        rw [cU] at e
        simp only [List.mem_map] at e
        exact n3 t (.inr (.inl rfl)) t e rfl
      rw [e1,e2]
      refine (ccancel0_in h hS hb.1 hc).mono fun r st' hr=>?_
      obtain ⟨rfl,h1,ho⟩:=hr
      exact ⟨rfl,h1.post (ho.kp (by simp [foot]))⟩
    · obtain ⟨A,k,v,B,hS⟩:=gP (hin.resolve_left hi)
      rw [hS] at hnd
      simp only [List.map_append,List.map_cons,List.nodup_append,List.nodup_cons,List.mem_append,List.mem_cons,List.mem_map] at hnd
      obtain ⟨_,⟨_,⟨n1,_⟩,n2⟩,n3⟩:=hnd
      have e1:(P.V.filter fun x=>x.2.1 != t) = A++B:=by
        rw [hS,List.filter_append,List.filter_cons]
        rw [eF (d:=1) (l:=A) (fun e=>?_),eF (d:=1) (l:=B) (fun e=>?_)]
        · simp
        · rw [cU] at e
          exact n1 (by simpa using e)
        · rw [cU] at e
          simp only [List.mem_map] at e
          exact n2 t e t (.inl rfl) rfl
      have e2:(P.S.filter fun x=>x.2.1 != t) = P.S:=eF (d:=0) hi
      rw [e1,e2]
      refine (ccancel1_in h hS hb.2 hc).mono fun r st' hr=>?_
      obtain ⟨rfl,h1,ho⟩:=hr
      exact ⟨rfl,h1.post (ho.kp (by simp [foot]))⟩
  · have hR:dw P t = (P,if chk P t = 0 then 9 else chk P t):=by
      unfold dw; rw [if_neg hc]; split <;> rfl
    rw [hR]
    refine bf hmix k_f28 rfl rfl fun Q hQ=>?_
    unfold aFun c_f28
    simp (config:=KF) (disch:=omega) only [bZ,az,ev_f,putS,Sf.set,Sf.reg,getR,setR,ae,bt,id,↓reduceIte,Nat.reduceEqDiff,reduceCtorEq,Nat.zero_add,f28_1e,f28_2e,f28_2l,f28_3e,f28_4e,f28_4l]
    refine bA rfl e_f38 (e8 h t) rfl ?_
    by_cases h0:chk P t = 0
    · rw [h0] at hQ ⊢
      simp (config:=KF) (disch:=omega) only [bZ,bU,retI,aA,bR,putS,Sf.set,Sf.reg,getR,setR,ae,Sf.disAt,↓reduceIte,Nat.reduceEqDiff,Bool.true_and,true_and,reduceCtorEq,decide_true,f28_5e,f28_6e,f28_6l,f28_7e,f28_8e,f28_9e,f28_9l,f28_10e,f28_11e,f28_12e,f28_12l]
      exact hQ _ _ ⟨rfl,h.post (Kp.refl _ _)⟩
    · rw [if_neg h0] at hQ
      simp (config:=KF) (disch:=omega) only [bZ,bU,retI,aA,bR,putS,Sf.set,Sf.reg,getR,setR,ae,Sf.disAt,↓reduceIte,Nat.reduceEqDiff,Bool.true_and,true_and,reduceCtorEq,decide_false,f28_5e,f28_6e,f28_6l,f28_7e,f28_8e,f28_9e,f28_9l,f28_10e,f28_13e,f28_14e,f28_14l,f28_15e,f28_24e,f28_25e,f28_25l,hc,h0]
      exact hQ _ _ ⟨rfl,h.post (Kp.refl _ _)⟩

theorem nW (h:ChIs st c P q0 m0 q1 m1 wid bv):bF Go.Proofs.Try.prog n_f13 [.ptr c 0] st (.lit (.int .i64 (P.buf.length:Nat))):=by
  have hg:=h.get
  obtain ⟨v1,v2,v3,v4,v5,v6,v7,v8⟩:=h.buf.facts
  refine cC hmix k_f13 rfl rfl fun Q hQ=>?_
  unfold aFun c_f13
  simp (config:=KF) (disch:=omega) only [bZ,az,ev_f,putS,Sf.set,Sf.reg,getR,setR,ae,bt,id,↓reduceIte,reduceCtorEq,f13_1e,f13_2e,f13_2l,f13_3e,f13_4e,f13_5e,f13_5l]
  refine bA rfl e_f29 (dx h) rfl ?_
  simp (config:=KF) (disch:=omega) only [bZ,retI,aD,aq,a8,cM,aA,au,aZ,addA,ak,putS,Sf.set,Sf.reg,getR,setR,ae,Sf.disAt,List.drop_zero,List.drop_succ_cons,↓reduceIte,Nat.reduceEqDiff,Bool.true_and,true_and,reduceCtorEq,Nat.zero_add,f13_6e,f13_9e,f13_10e,f13_10l,hg,v1,v8,cg]
  exact hQ _

theorem ccap_pure (h:ChIs st c P q0 m0 q1 m1 wid bv):bF Go.Proofs.Try.prog n_f17 [.ptr c 0] st (.lit (.int .i64 (P.cap:Nat))):=by
  have hg:=h.get
  refine cC hmix k_f17 rfl rfl fun Q hQ=>?_
  unfold aFun c_f17
  simp (config:=KF) (disch:=omega) only [bZ,az,ev_f,putS,Sf.set,Sf.reg,getR,setR,ae,bt,id,↓reduceIte,reduceCtorEq,f17_1e,f17_2e,f17_2l,f17_3e,f17_4e,f17_5e,f17_5l]
  refine bA rfl e_f29 (dx h) rfl ?_
  simp (config:=KF) (disch:=omega) only [bZ,retI,aD,aq,a8,aA,au,aZ,addA,ak,putS,Sf.set,Sf.reg,getR,setR,ae,Sf.disAt,List.drop_zero,List.drop_succ_cons,↓reduceIte,Nat.reduceEqDiff,Bool.true_and,true_and,reduceCtorEq,Nat.zero_add,f17_6e,f17_9e,f17_10e,f17_10l,hg]
  exact hQ _

theorem oQ (h:ChIs st c P q0 m0 q1 m1 wid bv):bF Go.Proofs.Try.prog n_f18 [.ptr c 0] st (.lit (.bool P.closed)):=by
  have hg:=h.get
  refine cC hmix k_f18 rfl rfl fun Q hQ=>?_
  unfold aFun c_f18
  simp (config:=KF) (disch:=omega) only [bZ,az,ev_f,putS,Sf.set,Sf.reg,getR,setR,ae,bt,id,↓reduceIte,reduceCtorEq,f18_1e,f18_2e,f18_2l,f18_3e,f18_4e,f18_4l]
  refine bA rfl e_f29 (dx h) rfl ?_
  simp (config:=KF) (disch:=omega) only [bZ,retI,aw,AI.dst,bX,a7,o_un,aD,aq,a8,aA,bQ,au,aZ,addA,ak,unA,putS,Sf.set,Sf.reg,getR,setR,ae,Sf.disAt,List.drop_zero,List.drop_succ_cons,↓reduceIte,Nat.reduceEqDiff,Bool.true_and,true_and,reduceCtorEq,Nat.zero_add,Bool.not_false,hg]
  exact hQ _

theorem mW (h:ChIs st c P q0 m0 q1 m1 wid bv):bF Go.Proofs.Try.prog n_f12 [.ptr c 0] st (.tup [.lit (.int .i64 (P.S.length:Nat)),.lit (.int .i64 (P.V.length:Nat))]):=by
  have hg:=h.get
  have e0:(qOf P.S).length = P.S.length:=by simp [qOf]
  have e1:(qOf P.V).length = P.V.length:=by simp [qOf]
  refine cC hmix k_f12 rfl rfl fun Q hQ=>?_
  unfold aFun c_f12
  simp (config:=KF) (disch:=omega) only [bZ,az,ev_f,putS,Sf.set,Sf.reg,getR,setR,ae,bt,id,↓reduceIte,Nat.reduceEqDiff,reduceCtorEq,f12_1e,f12_2e,f12_2l,f12_3e,f12_4e,f12_5e,f12_5l]
  refine bA rfl e_f29 (dx h) rfl ?_
  simp (config:=KF) (disch:=omega) only [bZ,cd,cX,cJ,oH,cc,dz,gL,bp,and_self,au,aZ,ixA,addA,ak,am,aG,ev_f,putS,Sf.set,Sf.reg,getR,setR,ae,bk,id,List.drop_zero,List.drop_succ_cons,Int.toNat_zero,Int.cast_ofNat_Int,↓reduceIte,Nat.reduceEqDiff,Int.reduceLT,Int.reduceLE,reduceCtorEq,Nat.zero_add,Nat.add_zero,decide_true,Nat.mul_one,f12_6e,f12_9e,f12_10e,f12_10h,f12_10l,hg]
  refine jh rfl e_f30 (nV h.s) rfl ?_
  simp (config:=KF) (disch:=omega) only [bZ,da,cd,cX,cJ,oH,cc,dz,e6,bp,tail_nil,and_self,az,au,aZ,ixA,addA,ak,am,aG,ev_f,putS,Sf.set,Sf.reg,getR,setR,id,List.drop_zero,List.drop_succ_cons,Int.toNat_one,Int.cast_ofNat_Int,↓reduceIte,Nat.reduceEqDiff,Nat.reduceAdd,Int.reduceLT,Int.reduceLE,reduceCtorEq,Nat.zero_add,decide_true,Nat.mul_one,hg,e0]
  refine bA rfl e_f30 (nV h.r) rfl ?_
  simp (config:=KF) (disch:=omega) only [bZ,retI,resI,resL,aA,putS,Sf.set,Sf.reg,getR,setR,ae,Sf.disAt,aJ,List.all_cons,List.all_nil,↓reduceIte,Nat.reduceEqDiff,Bool.true_and,Bool.and_true,and_true,true_and,reduceCtorEq,e1]
  exact hQ _
end
end Go.Fx.YtohlpjfhkejjgaaFx

