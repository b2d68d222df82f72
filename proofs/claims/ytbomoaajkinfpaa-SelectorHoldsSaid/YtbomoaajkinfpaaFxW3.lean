/- What the functions that the statement reaches compute: part 3. -/
import Derived.Test.YtbomoaajkinfpaaFxW2
namespace Go.Fx.YtbomoaajkinfpaaFx
open Go Go.Fx
attribute [local irreducible] aC runI aw aB

set_option maxRecDepth 100000
set_option maxHeartbeats 4000000

section
variable {st:St} {c q0 m0 q1 m1 wid:Nat} {bv:AV} {P:ChP}

theorem cC (h:ChIs st c P q0 m0 q1 m1 wid bv):aL Go.Proofs.Try.prog n_f44 [.ptr c 0] st (.lit (.bool false)):=by
  have hg:=h.get
  refine aD hmix k_f44 rfl rfl fun Q hQ=>?_
  unfold aFun c_f44
  simp (config:=KF) (disch:=omega) only [bZ,retI,AI.dst,ai,cT,cb,bz,addA,aa,unA,↓reduceIte,Nat.reduceEqDiff,reduceCtorEq,hg]
  exact hQ _

theorem eb (h:ChIs st c P q0 m0 q1 m1 wid bv) (t:Int):aL Go.Proofs.Try.prog n_f39 [.ptr c 0,.lit (.int .i64 t)] st (.lit (.int .i64 (chk P t))):=by
  have hg:=h.get
  obtain ⟨W,hW,hl⟩:=h.w
  refine aD hmix k_f39 rfl rfl fun Q hQ=>?_
  unfold aFun c_f39
  generalize hR:chk P t = R at hQ
  unfold chk at hR
  simp (config:=KF) (disch:=omega) only [bZ,id,↓reduceIte,Nat.reduceEqDiff,reduceCtorEq]
  refine ao rfl e_f44 (cC h) rfl ?_
  simp (config:=KF) (disch:=omega) only [bZ,AI.dst,↓reduceIte,Nat.reduceEqDiff,reduceCtorEq]
  have hlk:∀ z,aZ (.int .i64) z true st (.map wid) (.lit (.int .i64 t)) = .ok (match ag t (entC P.S P.V) with | some b=>.tup [wtAV b,.lit (.bool true)] | none=>.tup [z,.lit (.bool false)]):=fun z=>by
    rw [aW hW,hl]; cases ag t (entC P.S P.V) <;> rfl
  have hs:=ea (k:=t) (m:=entC P.S P.V)
  refine bw (fun h1=>?_) (fun h1=>?_)
  · simp (config:=KF) (disch:=omega) only [bZ,retI,AI.dst,↓reduceIte,Nat.reduceEqDiff,reduceCtorEq]
    rw [if_pos (by omega)] at hR
    subst hR
    exact hQ _
  · simp (config:=KF) (disch:=omega) only [bZ,AI.dst,e8,↓reduceIte,Nat.reduceEqDiff,reduceCtorEq]
    refine aP (fun h2=>?_) (fun h2=>?_)
    · simp (config:=KF) (disch:=omega) only [bZ,retI,↓reduceIte,Nat.reduceEqDiff,reduceCtorEq]
      rw [if_pos (by omega)] at hR
      subst hR
      exact hQ _
    · rw [if_neg (by omega)] at hR
      cases hx:ag t (entC P.S P.V) with
      | none =>
        rw [hx] at hs hlk
        simp (config:=KF) (disch:=omega) only [bZ,retI,bU,ai,am,addA,aa,dH,bW,dI,↓reduceIte,Nat.reduceEqDiff,Nat.reduceAdd,Nat.reduceLeDiff,reduceCtorEq,hg,hlk]
        rw [if_neg (by simpa using hs.symm)] at hR
        subst hR
        exact hQ _
      | some b =>
        rw [hx] at hs hlk
        simp (config:=KF) (disch:=omega) only [bZ,retI,bU,ai,am,addA,aa,dH,bW,dI,↓reduceIte,Nat.reduceEqDiff,Nat.reduceAdd,Nat.reduceLeDiff,reduceCtorEq,hg,hlk,wtAV]
        rw [if_pos (by simpa using hs.symm)] at hR
        subst hR
        exact hQ _

/-- senders: the first one that waits. -/
theorem kz (h:ChIs st c P q0 m0 q1 m1 wid bv) (hS:P.S = []) :
    aA Go.Proofs.Try.prog n_f45 [.ptr c 0,.lit (.int .i64 0)] st (fun r st'=>r = .tup [.lit (.int .i64 0),.lit (.int .i64 0),.lit (.bool false)]∧st' = st):=by
  have hg:=h.get
  have hs:=h.s
  rw [hS] at hs
  refine ap hmix k_f45 rfl rfl fun Q hQ=>?_
  unfold aFun c_f45
  simp (config:=KF) (disch:=omega) only [bZ,ke,ai,addA,aa,id,↓reduceIte,Nat.reduceEqDiff,Int.reduceLT,Int.reduceLE,reduceCtorEq,hg]
  refine au rfl e_f63 (qpop_nil hs) rfl fun r st' hr=>?_
  obtain ⟨rfl,rfl⟩:=hr
  simp (config:=KF) (disch:=omega) only [bZ,retI,↓reduceIte,Nat.reduceEqDiff,Int.reduceEq,reduceCtorEq,not_false_eq_true]
  exact hQ _ _ ⟨rfl,rfl⟩

theorem jo (h:ChIs st c P q0 m0 q1 m1 wid bv) {k:Nat} {t v:Int} {l:List W3} (hS:P.S = (k,t,v)::l) (hb:P.g0 < 1000000) :
    aA Go.Proofs.Try.prog n_f45 [.ptr c 0,.lit (.int .i64 0)] st (fun r st'=>r = .tup [.lit (.int .i64 t),.lit (.int .i64 v),.lit (.bool true)]∧ChIs st' c { P with S:=l } q0 m0 q1 m1 wid bv∧Oth st st' [q0,m0,wid]):=by
  have hg:=h.get
  have hs:=h.s
  have hids:=h.ids
  have hnd:=h.nd
  have hrng:=h.rng
  have hbid:=h.bid
  obtain ⟨W,hW,hl⟩:=h.w
  simp only [List.nodup_cons,List.mem_cons,List.not_mem_nil,or_false,not_or] at hids
  obtain ⟨⟨i1,i2,i3,i4,i5⟩,⟨i6,i7,i8,i9⟩,⟨i10,i11,i12⟩,⟨i13,i14⟩,i15,_⟩:=hids
  have hent:entC P.S P.V = []++(t,(0,v,k))::(wEnt 0 l++wEnt 1 P.V):=by simp [entC,wEnt,hS]
  rw [hent] at hnd
  obtain ⟨h1,h2⟩:=du hnd
  have hent2:entC l P.V = []++(wEnt 0 l++wEnt 1 P.V):=by simp [entC]
  rw [hS] at hs
  refine ap hmix k_f45 rfl rfl fun Q hQ=>?_
  unfold aFun c_f45
  simp (config:=KF) (disch:=omega) only [bZ,ke,ai,addA,aa,id,↓reduceIte,Nat.reduceEqDiff,Int.reduceLT,Int.reduceLE,reduceCtorEq,hg]
  refine au rfl e_f63 (mm (B:=qOf l) hs hb) rfl fun r st1 hr=>?_
  obtain ⟨rfl,hq1,ho1⟩:=hr
  have hg1:st1.get c = _:=(ho1.get (by simp; omega)).trans hg
  have hW1:=hW.oth ho1 (by simp; omega)
  have hk:∀ z,aZ (.int .i64) z false st1 (.map wid) (.lit (.int .i64 t)) = .ok (wtAV (0,v,k)):=fun z=>by
    rw [aW hW1,hl,hent,h1]; rfl
  simp (config:=KF) (disch:=omega) only [bZ,o_field,bU,kg,lO,ai,addA,aa,↓reduceIte,Nat.reduceEqDiff,reduceCtorEq,not_true_eq_false,hg1,hk,wtAV]
  refine d7 hW1 fun st2 hW2 ho2=>?_
  simp (config:=KF) (disch:=omega) only [bZ,retI,↓reduceIte,Nat.reduceEqDiff,reduceCtorEq]
  have ho:Oth st st2 [q0,m0,wid]:=(ho1.mono (by simp)).trans (ho2.mono (by simp))
  refine hQ _ _ ⟨rfl,⟨(ho.get (by simp; omega)).trans hg,h.buf.at fun x hx=>ho.2 x fun e=>hbid x hx (by simp at e ⊢; omega),hq1.oth ho2 (by simp; omega) (by simp; omega),h.r.oth ho (by simp; omega) (by simp; omega),⟨_,hW2,fun t'=>?_⟩,h.ids,hbid,?_,fun t' ht'=>?_,?_⟩,ho⟩
  · simp only
    rw [dJ _ _ hW1.nd,hl,hent,hent2,h2]
  · simp only
    rw [hent2]
    simp only [az,List.map_append,List.map_cons] at hnd ⊢
    exact hnd.sublist (List.Sublist.append (List.Sublist.refl _) (List.sublist_cons_self _ _))
  · refine hrng t' ?_
    simp only [hent2] at ht'
    rw [hent]
    simp only [az,List.map_append,List.map_cons,List.mem_append,List.mem_cons] at ht' ⊢
    exact ht'.elim .inl fun e=>.inr (.inr e)
  · exact h.zv

/-- senders: one more. -/
theorem oW (h:ChIs st c P q0 m0 q1 m1 wid bv) {t v:Int} (hb:P.g0 < 100000) (hn:P.S.length < 4000) (hnew:t ∉ az (entC P.S P.V)) (ht:0≤t∧t < 64) :
    aA Go.Proofs.Try.prog n_f41 [.ptr c 0,.lit (.int .i64 0),.lit (.int .i64 t),.lit (.int .i64 v)] st (fun r st'=>r = .lit (.int .i64 0)∧ChIs st' c { P with S:=P.S++[(P.g0 + 1,t,v)],g0:=P.g0 + 1 } q0 m0 q1 m1 wid bv∧Oth st st' [q0,m0,wid]):=by
  have hg:=h.get
  have hs:=h.s
  have hids:=h.ids
  have hnd:=h.nd
  have hrng:=h.rng
  have hbid:=h.bid
  obtain ⟨W,hW,hl⟩:=h.w
  simp only [List.nodup_cons,List.mem_cons,List.not_mem_nil,or_false,not_or] at hids
  obtain ⟨⟨i1,i2,i3,i4,i5⟩,⟨i6,i7,i8,i9⟩,⟨i10,i11,i12⟩,⟨i13,i14⟩,i15,_⟩:=hids
  have hent:entC P.S P.V = wEnt 0 P.S++wEnt 1 P.V:=rfl
  have hent2:entC (P.S++[(P.g0 + 1,t,v)]) P.V = wEnt 0 P.S++(t,(0,v,P.g0 + 1))::wEnt 1 P.V:=by simp [entC,wEnt]
  have hab:entC P.S P.V = wEnt 0 P.S++wEnt 1 P.V:=by simp [entC]
  have hnd2:(az (wEnt 0 P.S++(t,((0:Int),v,P.g0 + 1))::wEnt 1 P.V)).Nodup:=by
    rw [hab,d9] at hnd hnew
    rw [d9]
    obtain ⟨n1,n2,n3⟩:=List.nodup_append.1 hnd
    refine List.nodup_append.2 ⟨n1,List.nodup_cons.2 ⟨fun e=>hnew (List.mem_append_right _ e),n2⟩,fun x hx y hy e=>?_⟩
    rcases List.mem_cons.1 hy with rfl | hy
    · subst e; exact hnew (List.mem_append_left _ hx)
    · exact n3 x hx y hy e
  obtain ⟨h1,h2⟩:=du hnd2
  refine ap hmix k_f41 rfl rfl fun Q hQ=>?_
  unfold aFun c_f41
  simp (config:=KF) (disch:=omega) only [bZ,ke,ai,addA,aa,id,↓reduceIte,Nat.reduceEqDiff,Nat.reduceAdd,Int.reduceLT,Int.reduceLE,reduceCtorEq,hg]
  refine au rfl e_f60 (kw hs (by simp [qOf]; omega) (by omega)) rfl fun r st1 hr=>?_
  obtain ⟨rfl,hq1,ho1⟩:=hr
  have hg1:st1.get c = _:=(ho1.get (by simp; omega)).trans hg
  have hW1:=hW.oth ho1 (by simp; omega)
  simp (config:=KF) (disch:=omega) only [bZ,gb,ai,addA,aa,↓reduceIte,Nat.reduceEqDiff,Nat.reduceAdd,Nat.reduceLeDiff,reduceCtorEq,hg1]
  refine cE (b:=(0,v,P.g0 + 1)) hW1 rfl rfl fun st2 hW2 ho2=>?_
  simp (config:=KF) (disch:=omega) only [bZ,retI,↓reduceIte,Nat.reduceEqDiff,reduceCtorEq]
  have ho:Oth st st2 [q0,m0,wid]:=(ho1.mono (by simp)).trans (ho2.mono (by simp))
  refine hQ _ _ ⟨rfl,⟨(ho.get (by simp; omega)).trans hg,h.buf.at fun x hx=>ho.2 x fun e=>hbid x hx (by simp at e ⊢; omega),by have:=hq1.oth ho2 (by simp; omega) (by simp; omega); simpa [qOf] using this,h.r.oth ho (by simp; omega) (by simp; omega),⟨_,hW2,fun t'=>?_⟩,h.ids,hbid,?_,fun t' ht'=>?_,?_⟩,ho⟩
  · simp only
    rw [bX,hl,hent2]
    by_cases e:t' = t
    · subst e; rw [if_pos rfl,h1]
    · have:=h2 t'
      rw [if_neg e] at this ⊢
      rw [← this,hab]
  · simp only
    rw [hent2]
    exact hnd2
  · simp only [hent2] at ht'
    simp only [az,List.map_append,List.map_cons,List.mem_append,List.mem_cons] at ht'
    have hin:t' ∈ az (wEnt 0 P.S++wEnt 1 P.V)→0≤t'∧t' < 64:=fun e=>hrng t' (by rw [hab]; exact e)
    simp only [az,List.map_append,List.mem_append] at hin
    rcases ht' with e | rfl | e
    · exact hin (.inl e)
    · exact ht
    · exact hin (.inr e)
  · exact h.zv

/-- receivers: the first one that waits. -/
theorem kA (h:ChIs st c P q0 m0 q1 m1 wid bv) (hS:P.V = []) :
    aA Go.Proofs.Try.prog n_f45 [.ptr c 0,.lit (.int .i64 1)] st (fun r st'=>r = .tup [.lit (.int .i64 0),.lit (.int .i64 0),.lit (.bool false)]∧st' = st):=by
  have hg:=h.get
  have hs:=h.r
  rw [hS] at hs
  refine ap hmix k_f45 rfl rfl fun Q hQ=>?_
  unfold aFun c_f45
  simp (config:=KF) (disch:=omega) only [bZ,ke,ai,addA,aa,id,↓reduceIte,Nat.reduceEqDiff,Nat.reduceAdd,Int.reduceLT,Int.reduceLE,reduceCtorEq,hg]
  refine au rfl e_f63 (qpop_nil hs) rfl fun r st' hr=>?_
  obtain ⟨rfl,rfl⟩:=hr
  simp (config:=KF) (disch:=omega) only [bZ,retI,↓reduceIte,Nat.reduceEqDiff,Int.reduceEq,reduceCtorEq,not_false_eq_true]
  exact hQ _ _ ⟨rfl,rfl⟩

theorem jp (h:ChIs st c P q0 m0 q1 m1 wid bv) {k:Nat} {t v:Int} {l:List W3} (hS:P.V = (k,t,v)::l) (hb:P.g1 < 1000000) :
    aA Go.Proofs.Try.prog n_f45 [.ptr c 0,.lit (.int .i64 1)] st (fun r st'=>r = .tup [.lit (.int .i64 t),.lit (.int .i64 v),.lit (.bool true)]∧ChIs st' c { P with V:=l } q0 m0 q1 m1 wid bv∧Oth st st' [q1,m1,wid]):=by
  have hg:=h.get
  have hs:=h.r
  have hids:=h.ids
  have hnd:=h.nd
  have hrng:=h.rng
  have hbid:=h.bid
  obtain ⟨W,hW,hl⟩:=h.w
  simp only [List.nodup_cons,List.mem_cons,List.not_mem_nil,or_false,not_or] at hids
  obtain ⟨⟨i1,i2,i3,i4,i5⟩,⟨i6,i7,i8,i9⟩,⟨i10,i11,i12⟩,⟨i13,i14⟩,i15,_⟩:=hids
  have hent:entC P.S P.V = wEnt 0 P.S++(t,(1,v,k))::wEnt 1 l:=by simp [entC,wEnt,hS]
  rw [hent] at hnd
  obtain ⟨h1,h2⟩:=du hnd
  have hent2:entC P.S l = wEnt 0 P.S++wEnt 1 l:=by simp [entC]
  rw [hS] at hs
  refine ap hmix k_f45 rfl rfl fun Q hQ=>?_
  unfold aFun c_f45
  simp (config:=KF) (disch:=omega) only [bZ,ke,ai,addA,aa,id,↓reduceIte,Nat.reduceEqDiff,Nat.reduceAdd,Int.reduceLT,Int.reduceLE,reduceCtorEq,hg]
  refine au rfl e_f63 (mm (B:=qOf l) hs hb) rfl fun r st1 hr=>?_
  obtain ⟨rfl,hq1,ho1⟩:=hr
  have hg1:st1.get c = _:=(ho1.get (by simp; omega)).trans hg
  have hW1:=hW.oth ho1 (by simp; omega)
  have hk:∀ z,aZ (.int .i64) z false st1 (.map wid) (.lit (.int .i64 t)) = .ok (wtAV (1,v,k)):=fun z=>by
    rw [aW hW1,hl,hent,h1]; rfl
  simp (config:=KF) (disch:=omega) only [bZ,o_field,bU,kg,lO,ai,addA,aa,↓reduceIte,Nat.reduceEqDiff,reduceCtorEq,not_true_eq_false,hg1,hk,wtAV]
  refine d7 hW1 fun st2 hW2 ho2=>?_
  simp (config:=KF) (disch:=omega) only [bZ,retI,↓reduceIte,Nat.reduceEqDiff,reduceCtorEq]
  have ho:Oth st st2 [q1,m1,wid]:=(ho1.mono (by simp)).trans (ho2.mono (by simp))
  refine hQ _ _ ⟨rfl,⟨(ho.get (by simp; omega)).trans hg,h.buf.at fun x hx=>ho.2 x fun e=>hbid x hx (by simp at e ⊢; omega),h.s.oth ho (by simp; omega) (by simp; omega),hq1.oth ho2 (by simp; omega) (by simp; omega),⟨_,hW2,fun t'=>?_⟩,h.ids,hbid,?_,fun t' ht'=>?_,?_⟩,ho⟩
  · simp only
    rw [dJ _ _ hW1.nd,hl,hent,hent2,h2]
  · simp only
    rw [hent2]
    simp only [az,List.map_append,List.map_cons] at hnd ⊢
    exact hnd.sublist (List.Sublist.append (List.Sublist.refl _) (List.sublist_cons_self _ _))
  · refine hrng t' ?_
    simp only [hent2] at ht'
    rw [hent]
    simp only [az,List.map_append,List.map_cons,List.mem_append,List.mem_cons] at ht' ⊢
    exact ht'.elim .inl fun e=>.inr (.inr e)
  · exact fun x hx=>h.zv x (by rw [hS]; simp [hx])

/-- receivers: one more. -/
theorem oX (h:ChIs st c P q0 m0 q1 m1 wid bv) {t v:Int} (hb:P.g1 < 100000) (hn:P.V.length < 4000) (hnew:t ∉ az (entC P.S P.V)) (ht:0≤t∧t < 64) (hv:v = 0) :
    aA Go.Proofs.Try.prog n_f41 [.ptr c 0,.lit (.int .i64 1),.lit (.int .i64 t),.lit (.int .i64 v)] st (fun r st'=>r = .lit (.int .i64 0)∧ChIs st' c { P with V:=P.V++[(P.g1 + 1,t,v)],g1:=P.g1 + 1 } q0 m0 q1 m1 wid bv∧Oth st st' [q1,m1,wid]):=by
  have hg:=h.get
  have hs:=h.r
  have hids:=h.ids
  have hnd:=h.nd
  have hrng:=h.rng
  have hbid:=h.bid
  obtain ⟨W,hW,hl⟩:=h.w
  simp only [List.nodup_cons,List.mem_cons,List.not_mem_nil,or_false,not_or] at hids
  obtain ⟨⟨i1,i2,i3,i4,i5⟩,⟨i6,i7,i8,i9⟩,⟨i10,i11,i12⟩,⟨i13,i14⟩,i15,_⟩:=hids
  have hent:entC P.S P.V = wEnt 0 P.S++wEnt 1 P.V:=rfl
  have hent2:entC P.S (P.V++[(P.g1 + 1,t,v)]) = (wEnt 0 P.S++wEnt 1 P.V)++(t,(1,v,P.g1 + 1))::[]:=by simp [entC,wEnt]
  have hab:entC P.S P.V = (wEnt 0 P.S++wEnt 1 P.V)++[]:=by simp [entC]
  have hnd2:(az ((wEnt 0 P.S++wEnt 1 P.V)++(t,((1:Int),v,P.g1 + 1))::[])).Nodup:=by
    rw [hab,d9] at hnd hnew
    rw [d9]
    obtain ⟨n1,n2,n3⟩:=List.nodup_append.1 hnd
    refine List.nodup_append.2 ⟨n1,List.nodup_cons.2 ⟨fun e=>hnew (List.mem_append_right _ e),n2⟩,fun x hx y hy e=>?_⟩
    rcases List.mem_cons.1 hy with rfl | hy
    · subst e; exact hnew (List.mem_append_left _ hx)
    · exact n3 x hx y hy e
  obtain ⟨h1,h2⟩:=du hnd2
  refine ap hmix k_f41 rfl rfl fun Q hQ=>?_
  unfold aFun c_f41
  simp (config:=KF) (disch:=omega) only [bZ,ke,ai,addA,aa,id,↓reduceIte,Nat.reduceEqDiff,Nat.reduceAdd,Int.reduceLT,Int.reduceLE,reduceCtorEq,hg]
  refine au rfl e_f60 (kw hs (by simp [qOf]; omega) (by omega)) rfl fun r st1 hr=>?_
  obtain ⟨rfl,hq1,ho1⟩:=hr
  have hg1:st1.get c = _:=(ho1.get (by simp; omega)).trans hg
  have hW1:=hW.oth ho1 (by simp; omega)
  simp (config:=KF) (disch:=omega) only [bZ,gb,ai,addA,aa,↓reduceIte,Nat.reduceEqDiff,Nat.reduceAdd,Nat.reduceLeDiff,reduceCtorEq,hg1]
  refine cE (b:=(1,v,P.g1 + 1)) hW1 rfl rfl fun st2 hW2 ho2=>?_
  simp (config:=KF) (disch:=omega) only [bZ,retI,↓reduceIte,Nat.reduceEqDiff,reduceCtorEq]
  have ho:Oth st st2 [q1,m1,wid]:=(ho1.mono (by simp)).trans (ho2.mono (by simp))
  refine hQ _ _ ⟨rfl,⟨(ho.get (by simp; omega)).trans hg,h.buf.at fun x hx=>ho.2 x fun e=>hbid x hx (by simp at e ⊢; omega),h.s.oth ho (by simp; omega) (by simp; omega),by have:=hq1.oth ho2 (by simp; omega) (by simp; omega); simpa [qOf] using this,⟨_,hW2,fun t'=>?_⟩,h.ids,hbid,?_,fun t' ht'=>?_,?_⟩,ho⟩
  · simp only
    rw [bX,hl,hent2]
    by_cases e:t' = t
    · subst e; rw [if_pos rfl,h1]
    · have:=h2 t'
      rw [if_neg e] at this ⊢
      rw [← this,hab]
  · simp only
    rw [hent2]
    exact hnd2
  · simp only [hent2] at ht'
    simp only [az,List.map_append,List.map_cons,List.mem_append,List.mem_cons] at ht'
    have hin:t' ∈ az ((wEnt 0 P.S++wEnt 1 P.V)++[])→0≤t'∧t' < 64:=fun e=>hrng t' (by rw [hab]; exact e)
    simp only [az,List.map_append,List.mem_append] at hin
    rcases ht' with e | rfl | e
    · exact hin (.inl e)
    · exact ht
    · exact hin (.inr e)
  · intro x hx; simp only [List.mem_append,List.mem_singleton] at hx; rcases hx with hx | rfl; exact h.zv x hx; exact hv
end
end Go.Fx.YtbomoaajkinfpaaFx

