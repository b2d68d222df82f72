/- What the functions that the statement reaches compute: part 9. -/
import Derived.Test.YtbomoaajkinfpaaFxW8
namespace Go.Fx.YtbomoaajkinfpaaFx
open Go Go.Fx
attribute [local irreducible] aC runI aw aB

set_option maxRecDepth 100000
set_option maxHeartbeats 4000000

section
variable {st:St} {c q0 m0 q1 m1 wid:Nat} {bv:AV} {P:ChP}

/-- senders: one of them is taken out. -/
theorem ccancel0_in (h:ChIs st c P q0 m0 q1 m1 wid bv) {k:Nat} {t v:Int} {A B:List W3} (hS:P.S = A++(k,t,v)::B) (hb:P.g0 < 1000000) (hc:chk P t = 11) :
    aA Go.Proofs.Try.prog n_f16 [.ptr c 0,.lit (.int .i64 t)] st (fun r st'=>r = .lit (.int .i64 0)∧ChIs st' c { P with S:=A++B } q0 m0 q1 m1 wid bv∧Oth st st' [q0,m0,wid]):=by
  have hg:=h.get
  have hs:=h.s
  have hids:=h.ids
  have hnd:=h.nd
  have hrng:=h.rng
  have hbid:=h.bid
  obtain ⟨W,hW,hl⟩:=h.w
  simp only [List.nodup_cons,List.mem_cons,List.not_mem_nil,or_false,not_or] at hids
  obtain ⟨⟨i1,i2,i3,i4,i5⟩,⟨i6,i7,i8,i9⟩,⟨i10,i11,i12⟩,⟨i13,i14⟩,i15,_⟩:=hids
  have hent:entC P.S P.V = wEnt 0 A++(t,(0,v,k))::(wEnt 0 B++wEnt 1 P.V):=by simp [entC,wEnt,hS]
  rw [hent] at hnd
  obtain ⟨h1,h2⟩:=du hnd
  have hent2:entC (A++B) P.V = wEnt 0 A++(wEnt 0 B++wEnt 1 P.V):=by simp [entC,wEnt]
  have hq:qOf P.S = qOf A++(k,t)::qOf B:=by rw [hS]; simp [qOf]
  rw [hq] at hs
  refine ap hmix k_f16 rfl rfl fun Q hQ=>?_
  unfold aFun c_f16
  simp (config:=KF) (disch:=omega) only [bZ,id,↓reduceIte,Nat.reduceEqDiff,reduceCtorEq]
  refine ao rfl e_f39 (eb h t) rfl ?_
  rw [hc]
  have hk0:∀ z,aZ (.int .i64) z false st (.map wid) (.lit (.int .i64 t)) = .ok (wtAV (0,v,k)):=fun z=>by
    rw [aW hW,hl,hent,h1]; rfl
  simp (config:=KF) (disch:=omega) only [bZ,oI,aU,bU,ai,am,addA,aa,id,bW,↓reduceIte,Nat.reduceEqDiff,Nat.reduceAdd,Nat.reduceLeDiff,Int.reduceLT,Int.reduceLE,Int.reduceEq,reduceCtorEq,hg,hk0,wtAV]
  refine au rfl e_f43 (fh hs hb) rfl fun r st1 hr=>?_
  obtain ⟨rfl,hq1,ho1⟩:=hr
  have hg1:st1.get c = _:=(ho1.get (by simp; omega)).trans hg
  have hW1:=hW.oth ho1 (by simp; omega)
  simp (config:=KF) (disch:=omega) only [bZ,kg,ai,addA,aa,↓reduceIte,Nat.reduceEqDiff,reduceCtorEq,hg1]
  refine d7 hW1 fun st2 hW2 ho2=>?_
  simp (config:=KF) (disch:=omega) only [bZ,retI,↓reduceIte]
  have ho:Oth st st2 [q0,m0,wid]:=(ho1.mono (by simp)).trans (ho2.mono (by simp))
  have hq2:QIs st2 q0 m0 (qOf (A++B)) P.g0:=by
    have:=hq1.oth ho2 (by simp; omega) (by simp; omega)
    simpa [qOf] using this
  refine hQ _ _ ⟨rfl,⟨(ho.get (by simp; omega)).trans hg,h.buf.at fun x hx=>ho.2 x fun e=>hbid x hx (by simp at e ⊢; omega),hq2,h.r.oth ho (by simp; omega) (by simp; omega),⟨_,hW2,fun t'=>?_⟩,h.ids,hbid,?_,fun t' ht'=>?_,?_⟩,ho⟩
  · simp only
    rw [dJ _ _ hW1.nd,hl,hent,hent2,h2]
  · simp only
    rw [hent2]
    simp only [az,List.map_append,List.map_cons] at hnd ⊢
    exact hnd.sublist (List.Sublist.append (List.Sublist.refl _) (List.sublist_cons_self _ _))
  · refine hrng t' ?_
    simp only [hent2] at ht'
    rw [hent]
    simp only [az,List.map_append,List.map_cons,List.mem_append,List.mem_cons] at ht' ⊢
    exact ht'.elim .inl fun e=>.inr (.inr e)
  · exact h.zv

/-- receivers: one of them is taken out. -/
theorem ccancel1_in (h:ChIs st c P q0 m0 q1 m1 wid bv) {k:Nat} {t v:Int} {A B:List W3} (hS:P.V = A++(k,t,v)::B) (hb:P.g1 < 1000000) (hc:chk P t = 11) :
    aA Go.Proofs.Try.prog n_f16 [.ptr c 0,.lit (.int .i64 t)] st (fun r st'=>r = .lit (.int .i64 0)∧ChIs st' c { P with V:=A++B } q0 m0 q1 m1 wid bv∧Oth st st' [q1,m1,wid]):=by
  have hg:=h.get
  have hs:=h.r
  have hids:=h.ids
  have hnd:=h.nd
  have hrng:=h.rng
  have hbid:=h.bid
  obtain ⟨W,hW,hl⟩:=h.w
  simp only [List.nodup_cons,List.mem_cons,List.not_mem_nil,or_false,not_or] at hids
  obtain ⟨⟨i1,i2,i3,i4,i5⟩,⟨i6,i7,i8,i9⟩,⟨i10,i11,i12⟩,⟨i13,i14⟩,i15,_⟩:=hids
  have hent:entC P.S P.V = wEnt 0 P.S++wEnt 1 A++(t,(1,v,k))::(wEnt 1 B):=by simp [entC,wEnt,hS]
  rw [hent] at hnd
  obtain ⟨h1,h2⟩:=du hnd
  have hent2:entC P.S (A++B) = wEnt 0 P.S++wEnt 1 A++(wEnt 1 B):=by simp [entC,wEnt]
  have hq:qOf P.V = qOf A++(k,t)::qOf B:=by rw [hS]; simp [qOf]
  rw [hq] at hs
  refine ap hmix k_f16 rfl rfl fun Q hQ=>?_
  unfold aFun c_f16
  simp (config:=KF) (disch:=omega) only [bZ,id,↓reduceIte,Nat.reduceEqDiff,reduceCtorEq]
  refine ao rfl e_f39 (eb h t) rfl ?_
  rw [hc]
  have hk0:∀ z,aZ (.int .i64) z false st (.map wid) (.lit (.int .i64 t)) = .ok (wtAV (1,v,k)):=fun z=>by
    rw [aW hW,hl,hent,h1]; rfl
  simp (config:=KF) (disch:=omega) only [bZ,oI,aU,bU,ai,am,addA,aa,id,bW,↓reduceIte,Nat.reduceEqDiff,Nat.reduceAdd,Nat.reduceLeDiff,Int.reduceLT,Int.reduceLE,Int.reduceEq,reduceCtorEq,hg,hk0,wtAV]
  refine au rfl e_f43 (fh hs hb) rfl fun r st1 hr=>?_
  obtain ⟨rfl,hq1,ho1⟩:=hr
  have hg1:st1.get c = _:=(ho1.get (by simp; omega)).trans hg
  have hW1:=hW.oth ho1 (by simp; omega)
  simp (config:=KF) (disch:=omega) only [bZ,kg,ai,addA,aa,↓reduceIte,Nat.reduceEqDiff,reduceCtorEq,hg1]
  refine d7 hW1 fun st2 hW2 ho2=>?_
  simp (config:=KF) (disch:=omega) only [bZ,retI,↓reduceIte]
  have ho:Oth st st2 [q1,m1,wid]:=(ho1.mono (by simp)).trans (ho2.mono (by simp))
  have hq2:QIs st2 q1 m1 (qOf (A++B)) P.g1:=by
    have:=hq1.oth ho2 (by simp; omega) (by simp; omega)
    simpa [qOf] using this
  refine hQ _ _ ⟨rfl,⟨(ho.get (by simp; omega)).trans hg,h.buf.at fun x hx=>ho.2 x fun e=>hbid x hx (by simp at e ⊢; omega),h.s.oth ho (by simp; omega) (by simp; omega),hq2,⟨_,hW2,fun t'=>?_⟩,h.ids,hbid,?_,fun t' ht'=>?_,?_⟩,ho⟩
  · simp only
    rw [dJ _ _ hW1.nd,hl,hent,hent2,h2]
  · simp only
    rw [hent2]
    simp only [az,List.map_append,List.map_cons] at hnd ⊢
    exact hnd.sublist (List.Sublist.append (List.Sublist.refl _) (List.sublist_cons_self _ _))
  · refine hrng t' ?_
    simp only [hent2] at ht'
    rw [hent]
    simp only [az,List.map_append,List.map_cons,List.mem_append,List.mem_cons] at ht' ⊢
    exact ht'.elim .inl fun e=>.inr (.inr e)
  · exact fun x hx=>h.zv x (by rw [hS]; simp only [List.mem_append,List.mem_cons] at hx ⊢; exact hx.elim .inl fun e=>.inr (.inr e))

theorem iH {d t:Int}:∀ {l:List W3},t ∈ az (wEnt d l)→∃ A k v B,l = A++(k,t,v)::B
  | (k, u, v) :: l, h => by
    simp only [wEnt,az,List.map_cons,List.mem_cons] at h
    by_cases e:t = u
    · subst e; exact ⟨[],k,v,l,rfl⟩
    · obtain ⟨A,k',v',B,h2⟩:=iH (d:=d) (l:=l) (h.resolve_left e)
      exact ⟨(k,u,v)::A,k',v',B,by rw [h2]; rfl⟩
theorem ec {d t:Int} {l:List W3} (h:t ∉ az (wEnt d l)):(l.filter fun x=>x.2.1 != t) = l:=by
  rw [List.filter_eq_self]
  intro x hx
  simp only [bne_iff_ne,ne_eq]
  intro e
  apply h
  simp only [wEnt,az,List.map_map,List.mem_map]
  exact ⟨x,hx,e⟩
theorem cN (d:Int) (l:List W3):az (wEnt d l) = l.map fun x=>x.2.1:=by simp [az,wEnt]

theorem mP (h:ChIs st c P q0 m0 q1 m1 wid bv) (t:Int) (hb:P.g0 < 1000000∧P.g1 < 1000000) :
    aA Go.Proofs.Try.prog n_f16 [.ptr c 0,.lit (.int .i64 t)] st (fun r st'=>r = .lit (.int .i64 (fV P t).2)∧cf st c (fV P t).1 q0 m0 q1 m1 wid bv st'):=by
  by_cases hc:chk P t = 11
  · have hin:t ∈ az (entC P.S P.V):=by
      unfold chk at hc
      split at hc
      · simp at hc
      · split at hc
        · assumption
        · simp at hc
    have hnd:=h.nd
    simp only [fV,if_pos hc]
    simp only [entC,d9,cN,List.mem_append] at hin hnd
    rw [← cN 0,← cN 1] at hin
    by_cases hi:t ∈ az (wEnt 0 P.S)
    · obtain ⟨A,k,v,B,hS⟩:=iH hi
      rw [hS] at hnd
      simp only [List.map_append,List.map_cons,List.nodup_append,List.nodup_cons,List.mem_append,List.mem_cons,List.mem_map] at hnd
      obtain ⟨⟨_,⟨n1,_⟩,n2⟩,_,n3⟩:=hnd
      have e1:(P.S.filter fun x=>x.2.1 != t) = A++B:=by
        rw [hS,List.filter_append,List.filter_cons]
        rw [ec (d:=0) (l:=A) (fun e=>?_),ec (d:=0) (l:=B) (fun e=>?_)]
        · simp
        · rw [cN] at e
          exact n1 (by simpa using e)
        · rw [cN] at e
          simp only [List.mem_map] at e
          exact n2 t e t (.inl rfl) rfl
      have e2:(P.V.filter fun x=>x.2.1 != t) = P.V:=ec (d:=1) fun e=>by
        rw [cN] at e
        simp only [List.mem_map] at e
        exact n3 t (.inr (.inl rfl)) t e rfl
      rw [e1,e2]
      refine (ccancel0_in h hS hb.1 hc).mono fun r st' hr=>?_
      obtain ⟨rfl,h1,ho⟩:=hr
      exact ⟨rfl,h1.post (ho.kp (by simp [foot]))⟩
    · obtain ⟨A,k,v,B,hS⟩:=iH (hin.resolve_left hi)
      rw [hS] at hnd
      simp only [List.map_append,List.map_cons,List.nodup_append,List.nodup_cons,List.mem_append,List.mem_cons,List.mem_map] at hnd
      obtain ⟨_,⟨_,⟨n1,_⟩,n2⟩,n3⟩:=hnd
      have e1:(P.V.filter fun x=>x.2.1 != t) = A++B:=by
        rw [hS,List.filter_append,List.filter_cons]
        rw [ec (d:=1) (l:=A) (fun e=>?_),ec (d:=1) (l:=B) (fun e=>?_)]
        · simp
        · rw [cN] at e
          exact n1 (by simpa using e)
        · rw [cN] at e
          simp only [List.mem_map] at e
          exact n2 t e t (.inl rfl) rfl
      have e2:(P.S.filter fun x=>x.2.1 != t) = P.S:=ec (d:=0) hi
      rw [e1,e2]
      refine (ccancel1_in h hS hb.2 hc).mono fun r st' hr=>?_
      obtain ⟨rfl,h1,ho⟩:=hr
      exact ⟨rfl,h1.post (ho.kp (by simp [foot]))⟩
  · have hR:fV P t = (P,if chk P t = 0 then 9 else chk P t):=by
      unfold fV; rw [if_neg hc]; split <;> rfl
    rw [hR]
    refine ap hmix k_f16 rfl rfl fun Q hQ=>?_
    unfold aFun c_f16
    simp (config:=KF) (disch:=omega) only [bZ,id,↓reduceIte,Nat.reduceEqDiff,reduceCtorEq]
    refine ao rfl e_f39 (eb h t) rfl ?_
    by_cases h0:chk P t = 0
    · rw [h0] at hQ ⊢
      simp (config:=KF) (disch:=omega) only [bZ,retI,↓reduceIte,Nat.reduceEqDiff,reduceCtorEq]
      exact hQ _ _ ⟨rfl,h.post (Kp.refl _ _)⟩
    · rw [if_neg h0] at hQ
      simp (config:=KF) (disch:=omega) only [bZ,retI,↓reduceIte,Nat.reduceEqDiff,reduceCtorEq,hc,h0]
      exact hQ _ _ ⟨rfl,h.post (Kp.refl _ _)⟩

theorem nQ (h:ChIs st c P q0 m0 q1 m1 wid bv):aL Go.Proofs.Try.prog n_f20 [.ptr c 0] st (.lit (.int .i64 (P.buf.length:Nat))):=by
  have hg:=h.get
  obtain ⟨v1,v2,v3,v4,v5,v6,v7,v8⟩:=h.buf.facts
  refine aD hmix k_f20 rfl rfl fun Q hQ=>?_
  unfold aFun c_f20
  simp (config:=KF) (disch:=omega) only [bZ,id,↓reduceIte,reduceCtorEq]
  refine ao rfl e_f44 (cC h) rfl ?_
  simp (config:=KF) (disch:=omega) only [bZ,retI,ai,addA,aa,↓reduceIte,Nat.reduceEqDiff,reduceCtorEq,hg,v1,v8,al]
  exact hQ _

theorem ccap_pure (h:ChIs st c P q0 m0 q1 m1 wid bv):aL Go.Proofs.Try.prog n_f69 [.ptr c 0] st (.lit (.int .i64 (P.cap:Nat))):=by
  have hg:=h.get
  refine aD hmix k_f69 rfl rfl fun Q hQ=>?_
  unfold aFun c_f69
  simp (config:=KF) (disch:=omega) only [bZ,id,↓reduceIte,reduceCtorEq]
  refine ao rfl e_f44 (cC h) rfl ?_
  simp (config:=KF) (disch:=omega) only [bZ,retI,ai,addA,aa,↓reduceIte,Nat.reduceEqDiff,reduceCtorEq,hg]
  exact hQ _

theorem jt (h:ChIs st c P q0 m0 q1 m1 wid bv):aL Go.Proofs.Try.prog n_f22 [.ptr c 0] st (.lit (.bool P.closed)):=by
  have hg:=h.get
  refine aD hmix k_f22 rfl rfl fun Q hQ=>?_
  unfold aFun c_f22
  simp (config:=KF) (disch:=omega) only [bZ,id,↓reduceIte,reduceCtorEq]
  refine ao rfl e_f44 (cC h) rfl ?_
  simp (config:=KF) (disch:=omega) only [bZ,retI,AI.dst,ai,addA,aa,unA,↓reduceIte,Nat.reduceEqDiff,reduceCtorEq,hg]
  exact hQ _

theorem mQ (h:ChIs st c P q0 m0 q1 m1 wid bv):aL Go.Proofs.Try.prog n_f68 [.ptr c 0] st (.tup [.lit (.int .i64 (P.S.length:Nat)),.lit (.int .i64 (P.V.length:Nat))]):=by
  have hg:=h.get
  have e0:(qOf P.S).length = P.S.length:=by simp [qOf]
  have e1:(qOf P.V).length = P.V.length:=by simp [qOf]
  refine aD hmix k_f68 rfl rfl fun Q hQ=>?_
  unfold aFun c_f68
  simp (config:=KF) (disch:=omega) only [bZ,id,↓reduceIte,Nat.reduceEqDiff,reduceCtorEq]
  refine ao rfl e_f44 (cC h) rfl ?_
  simp (config:=KF) (disch:=omega) only [bZ,oI,aU,oK,ai,addA,aa,id,↓reduceIte,Nat.reduceEqDiff,Int.reduceLT,Int.reduceLE,reduceCtorEq,hg]
  refine call_h rfl e_f81 (nF h.s) rfl ?_
  simp (config:=KF) (disch:=omega) only [bZ,oI,aU,jg,ai,addA,aa,id,↓reduceIte,Nat.reduceEqDiff,Nat.reduceAdd,Int.reduceLT,Int.reduceLE,reduceCtorEq,hg,e0]
  refine ao rfl e_f81 (nF h.r) rfl ?_
  simp (config:=KF) (disch:=omega) only [bZ,retI,↓reduceIte,Nat.reduceEqDiff,reduceCtorEq,e1]
  exact hQ _
end
end Go.Fx.YtbomoaajkinfpaaFx

