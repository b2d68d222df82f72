/- What the functions that the statement reaches compute: part 22. -/
import Derived.Test.YtbdjfccgkdgbfaaFxW21
namespace Go.Fx.YtbdjfccgkdgbfaaFx
open Go Go.Fx
attribute [local irreducible] aC runI au aH

set_option maxRecDepth 100000
set_option maxHeartbeats 4000000

/-! Rows of messages. -/
def RvL (vs:List AV) (st:St) (r:Ms) (F:List Nat):Prop:=vs.length = r.length∧∀ (i:Nat) x m,vs[i]? = some x→r[i]? = some m→DV x st m∧∀ b ∈ ah x,b ∉ F
theorem RvL.nil (st:St) (F:List Nat):RvL [] st [] F:=⟨rfl,fun i x m h=>by simp at h⟩
theorem RvL.each {vs:List AV} {st:St} {r:Ms} {F:List Nat} (h:RvL vs st r F) {x:AV} (hx:x ∈ vs):∃ m,DV x st m:=by
  obtain ⟨i,hi⟩:=List.mem_iff_getElem?.1 hx
  have hl:=(List.getElem?_eq_some_iff.1 hi).1
  exact ⟨_,(h.2 i x (r[i]'(h.1 ▸ hl)) hi (List.getElem?_eq_getElem (h.1 ▸ hl))).1⟩
theorem RvL.step {vs:List AV} {st st':St} {r:Ms} {F F':List Nat} (h:RvL vs st r F) (hk:Kp st st' F) (hf:∀ b ∈ F',b ∈ F∨st.boxes.length≤b):RvL vs st' r F':=by
  refine ⟨h.1,fun i x m hx hm=>?_⟩
  obtain ⟨a,b⟩:=h.2 i x m hx hm
  refine ⟨a.kp hk b,fun q hq hq'=>?_⟩
  rcases hf q hq' with c | c
  · exact b q hq c
  · have:=a.lt q hq; omega
theorem RvL.snoc {vs:List AV} {st:St} {r:Ms} {F:List Nat} (h:RvL vs st r F) {v:AV} {m:List UInt8} (hv:DV v st m) (hb:∀ b ∈ ah v,b ∉ F):RvL (vs++[v]) st (r++[m]) F:=by
  refine ⟨by rw [List.length_append,List.length_append,h.1]; rfl,fun i x q hx hq=>?_⟩
  by_cases hi:i < vs.length
  · rw [List.getElem?_append_left hi] at hx
    rw [List.getElem?_append_left (by rw [← h.1]; exact hi)] at hq
    exact h.2 i x q hx hq
  · rw [List.getElem?_append_right (by omega)] at hx
    rw [List.getElem?_append_right (by rw [← h.1]; omega),← h.1] at hq
    have:i - vs.length = 0:=by
      have:=(List.getElem?_eq_some_iff.1 hx).1
      simp at this; omega
    rw [this] at hx hq
    simp only [List.getElem?_cons_zero,Option.some.injEq] at hx hq
    subst hx; subst hq
    exact ⟨hv,hb⟩
def rowA (vs:List AV):AV:=if vs = [] then .lit (.slice none 0 0) else .sl true 1 vs
theorem row_snoc (vs:List AV) (v:AV):rowA (vs++[v]) = .sl true 1 (vs++[v]):=if_neg (by simp)
theorem row_len (vs:List AV) (st:St):lenI .sl st (rowA vs).dis = .ok (.lit (.int .i64 (vs.length:Nat))):=by
  unfold rowA; split
  · rename_i h; rw [h]; rfl
  · rfl
def pubA (P:Ms):AV:=rowA (P.map dV)

/-- The messages of waiting tasks. -/
def wtA (wt:WT) (i:Nat):AV:=match wt i with | none=>.lit (.slice none 0 0) | some d=>dV d
def wtC (wt:WT):List AV:=(List.range 64).map (wtA wt)
theorem wtC_len (wt:WT):(wtC wt).length = 64:=by simp [wtC]
theorem wtC_get (wt:WT) {i:Nat} (hi:i < 64) (h:(wt i).isSome = true):∃ r,(wtC wt).drop i = dV (gt wt i)::r:=by
  unfold wtC
  rw [List.drop_eq_getElem_cons (by simpa using hi),List.getElem_map,List.getElem_range]
  have e:wtA wt i = dV (gt wt i):=by
    cases hw:wt i with
    | none=>rw [hw] at h; cases h
    | some d=>unfold wtA gt; rw [hw]; rfl
  rw [e]
  exact ⟨_,rfl⟩
theorem wtC_set (wt:WT) {i:Nat} (hi:i < 64) (d:List UInt8):(wtC wt).set i (dV d) = wtC (upd wt i d):=by
  apply List.ext_getElem?
  intro j
  rw [List.getElem?_set]
  unfold wtC
  by_cases hj:i = j
  · subst hj
    rw [if_pos rfl,if_pos (by simpa using hi),List.getElem?_map,List.getElem?_range (by omega)]
    simp [wtA,upd]
  · rw [if_neg hj,List.getElem?_map,List.getElem?_map]
    by_cases hl:j < 64
    · rw [List.getElem?_range hl]
      simp only [Option.map_some,wtA,upd]
      rw [if_neg (fun e=>hj e.symm)]
    · rw [List.getElem?_eq_none (by simpa using hl)]; rfl

/-- A row of messages in a box of its own. -/
theorem MB.growV {v:AV} {st:St} {l new:List AV} {bytes:Nat} {C:AV→St→Prop} (h:MB v st l) (hl:l.map AV.own1 = l) (hn:cellsD new = new) (hr:gD (l.length + new.length) bytes = true)
    (hC:∀ v' st',MB v' st' (l++new)→Kp st st' (ah v)→(∀ x ∈ ah v',x ∈ ah v∨st.boxes.length≤x)→C v' st'):appX false 1 bytes v C st new:=by
  rcases h with ⟨rfl,rfl⟩ | ⟨id,cap,r,rfl,hg,h1,h2⟩
  · refine ⟨rfl,by simpa using hr,?_⟩
    split
    · rename_i h
      have:new = []:=by simpa using h
      subst this
      exact hC _ _ (.inl ⟨rfl,rfl⟩) (Kp.refl _ _) (by simp [ah])
    · intro c hc
      refine hC _ _ (.inr ⟨st.boxes.length,c,List.replicate (c - new.length) .any,by simp,?_,by simpa using hc,by simp; omega⟩) ⟨by simp [St.push],fun id hid _=>bR hid⟩ (by simp [ah])
      rw [hn]
      simp only [List.nil_append,Nat.mul_one]
      exact bA st _
  · refine ⟨rfl,rfl,hr,?_⟩
    rw [hg]
    show (Res.ok _).wp _
    rw [wp_ok,hn]
    have hid:=aS hg
    split
    · rename_i hc
      refine ⟨by omega,hC _ _ (.inr ⟨id,cap,r.drop new.length,by simp,?_,by simpa using hc,?_⟩) ⟨by simp [St.set],fun id' _ hne=>b9 (by simpa [ah] using hne)⟩ (by simp [ah])⟩
      · rw [aw hid,Nat.zero_add,Nat.mul_one,gY rfl (by simp at h2; omega)]
        simp
      · simp at h2 ⊢; omega
    · rename_i hc
      have e:List.map AV.own1 (List.take (l.length * 1) (List.drop 0 (l++r))) = l:=by simp [hl]
      refine ⟨by simp,fun c hc=>hC _ _ (.inr ⟨st.boxes.length,c,List.replicate (c - (l.length + new.length)) .any,by simp,?_,by simpa using hc,by simp; omega⟩) ⟨by simp [St.push],fun id' hid' _=>bR hid'⟩ (by simp [ah])⟩
      rw [e]
      simp only [Nat.mul_one]
      exact bA st _
theorem RvL.own {vs:List AV} {st:St} {r:Ms} {F:List Nat} (h:RvL vs st r F):vs.map AV.own1 = vs:=by
  conv=>rhs; rw [← List.map_id vs]
  refine List.map_congr_left fun x hx=>?_
  obtain ⟨m,hm⟩:=h.each hx
  exact hm.facts.2.1
/-- Two rows lie apart, and from all else. -/
def Gx (z0 z1:AV) (wb:Nat) (F:List Nat):List Nat:=wb::(ah z0++(ah z1++F))
structure Sep (z0 z1:AV) (wb:Nat) (F:List Nat):Prop where
  a:∀ b ∈ ah z0,b≠wb∧b ∉ F∧b ∉ ah z1
  b:∀ b ∈ ah z1,b≠wb∧b ∉ F∧b ∉ ah z0
structure Rws (z0 z1:AV) (vs0 vs1:List AV) (r0 r1:Ms) (wb:Nat) (F:List Nat) (s:St):Prop where
  b0:MB z0 s vs0
  b1:MB z1 s vs1
  sp:Sep z0 z1 wb F
  v0:RvL vs0 s r0 (Gx z0 z1 wb F)
  v1:RvL vs1 s r1 (Gx z0 z1 wb F)
theorem Rws.step {z0 z1:AV} {vs0 vs1:List AV} {r0 r1:Ms} {wb:Nat} {F F':List Nat} {s s':St} (h:Rws z0 z1 vs0 vs1 r0 r1 wb F s) {G:List Nat} (hk:Kp s s' G) (hG:∀ b ∈ G,b = wb∨b ∈ F) (hf:∀ b ∈ F',b ∈ F∨s.boxes.length≤b):Rws z0 z1 vs0 vs1 r0 r1 wb F' s':=by
  obtain ⟨h1,h2,h3,h4,h5⟩:=h
  have l0:=h1.lt
  have l1:=h2.lt
  have n0:∀ b ∈ ah z0,b ∉ G:=fun b hb q=>by
    obtain ⟨q1,q2,_⟩:=h3.a b hb
    exact (hG b q).elim q1 q2
  have n1:∀ b ∈ ah z1,b ∉ G:=fun b hb q=>by
    obtain ⟨q1,q2,_⟩:=h3.b b hb
    exact (hG b q).elim q1 q2
  have hkw:Kp s s' (Gx z0 z1 wb F):=Kp.wide hk fun b hb=>by
    unfold Gx
    simp only [List.mem_cons,List.mem_append]
    rcases hG b hb with q | q
    · exact .inl q
    · exact .inr (.inr (.inr q))
  have hgx:∀ b ∈ Gx z0 z1 wb F',b ∈ Gx z0 z1 wb F∨s.boxes.length≤b:=fun b hb=>by
    unfold Gx at hb ⊢
    simp only [List.mem_cons,List.mem_append] at hb ⊢
    rcases hb with q | q | q | q
    · exact .inl (.inl q)
    · exact .inl (.inr (.inl q))
    · exact .inl (.inr (.inr (.inl q)))
    · exact (hf b q).imp (fun q=>.inr (.inr (.inr q))) _root_.id
  refine ⟨h1.at fun b hb=>hk.2 b (l0 b hb) (n0 b hb),h2.at fun b hb=>hk.2 b (l1 b hb) (n1 b hb),⟨fun b hb=>?_,fun b hb=>?_⟩,h4.step hkw hgx,h5.step hkw hgx⟩
  · obtain ⟨q1,q2,q3⟩:=h3.a b hb
    refine ⟨q1,fun q=>?_,q3⟩
    rcases hf b q with q | q
    · exact q2 q
    · have:=l0 b hb; omega
  · obtain ⟨q1,q2,q3⟩:=h3.b b hb
    refine ⟨q1,fun q=>?_,q3⟩
    rcases hf b q with q | q
    · exact q2 q
    · have:=l1 b hb; omega
theorem Rws.sym {z0 z1:AV} {vs0 vs1:List AV} {r0 r1:Ms} {wb:Nat} {F:List Nat} {s:St} (h:Rws z0 z1 vs0 vs1 r0 r1 wb F s):Rws z1 z0 vs1 vs0 r1 r0 wb F s:=by
  obtain ⟨h1,h2,h3,h4,h5⟩:=h
  have e:∀ b,b ∈ Gx z1 z0 wb F→b ∈ Gx z0 z1 wb F:=fun b hb=>by
    unfold Gx at hb ⊢
    simp only [List.mem_cons,List.mem_append] at hb ⊢
    rcases hb with q | q | q | q
    · exact .inl q
    · exact .inr (.inr (.inl q))
    · exact .inr (.inl q)
    · exact .inr (.inr (.inr q))
  have w:∀ {vs:List AV} {r:Ms},RvL vs s r (Gx z0 z1 wb F)→RvL vs s r (Gx z1 z0 wb F):=fun h=>⟨h.1,fun i x m hx hm=>⟨(h.2 i x m hx hm).1,fun b hb q=>(h.2 i x m hx hm).2 b hb (e b q)⟩⟩
  exact ⟨h2,h1,⟨h3.b,h3.a⟩,w h5,w h4⟩
theorem Rws.push {z0 z1 z:AV} {vs0 vs1:List AV} {r0 r1:Ms} {wb:Nat} {F:List Nat} {s s':St} {dv:AV} {m:List UInt8} (h:Rws z0 z1 vs0 vs1 r0 r1 wb F s) (hF:∀ b ∈ F,b < s.boxes.length) (hwb:wb < s.boxes.length) (hd:DV dv s m) (hdn:∀ b ∈ ah dv,b ∉ Gx z0 z1 wb F) (hz:MB z s' (vs0++[dv])) (hk:Kp s s' (ah z0)) (hzn:∀ b ∈ ah z,b ∈ ah z0∨s.boxes.length≤b):Rws z z1 (vs0++[dv]) vs1 (r0++[m]) r1 wb F s':=by
  obtain ⟨h1,h2,h3,h4,h5⟩:=h
  have l0:=h1.lt
  have l1:=h2.lt
  have hdl:=hd.lt
  have hkw:Kp s s' (Gx z0 z1 wb F):=Kp.wide hk fun b hb=>by
    unfold Gx
    simp only [List.mem_cons,List.mem_append]
    exact .inr (.inl hb)
  have hgx:∀ b ∈ Gx z z1 wb F,b ∈ Gx z0 z1 wb F∨s.boxes.length≤b:=fun b hb=>by
    unfold Gx at hb ⊢
    simp only [List.mem_cons,List.mem_append] at hb ⊢
    rcases hb with q | q | q | q
    · exact .inl (.inl q)
    · exact (hzn b q).imp (fun q=>.inr (.inl q)) _root_.id
    · exact .inl (.inr (.inr (.inl q)))
    · exact .inl (.inr (.inr (.inr q)))
  have hdk:∀ b ∈ ah dv,b ∉ ah z0:=fun b hb q=>hdn b hb (by unfold Gx; simp [q])
  refine ⟨hz,h2.at fun b hb=>hk.2 b (l1 b hb) (h3.b b hb).2.2,⟨fun b hb=>?_,fun b hb=>?_⟩,(h4.step hkw hgx).snoc (hd.kp hk hdk) fun b hb q=>?_,h5.step hkw hgx⟩
  · rcases hzn b hb with q | q
    · exact h3.a b q
    · exact ⟨fun e=>by omega,fun e=>by have:=hF b e; omega,fun e=>by have:=l1 b e; omega⟩
  · obtain ⟨q1,q2,q3⟩:=h3.b b hb
    refine ⟨q1,q2,fun q=>?_⟩
    rcases hzn b q with q | q
    · exact q3 q
    · have:=l1 b hb; omega
  · rcases hgx b q with q | q
    · exact hdn b hb q
    · have:=hdl b hb; omega

structure HL where
  i:Nat
  k:Nat
  R:HR
  P:Ms
  r0:Ms
  r1:Ms
  wt:WT
  vs0:List AV
  vs1:List AV
  z0:AV
  z1:AV
  F:List Nat
  s:St
structure HI (n:Nat) (other:Nat) (h wid wb:Nat) (a:HL):Prop where
  i:a.i≤n
  k:a.k≤100 * a.i
  hub:HubR a.s h wid a.k a.R a.F
  lt:∀ x ∈ a.F,x < a.s.boxes.length
  hw:HW a.R a.P a.r0 a.r1 other a.wt
  bw:a.s.get wb = some (wtC a.wt)
  wn:wb ∉ a.F
  rw:Rws a.z0 a.z1 a.vs0 a.vs1 a.r0 a.r1 wb a.F a.s
  pl:a.P.length≤100 * a.i
  rl:a.r0.length≤a.i∧a.r1.length≤a.i
  pb:∀ p ∈ a.P,p.length≤1030
  wl:∀ i d,a.wt i = some d→d.length≤1030

theorem init_subs {room pol other:Int} (hr:3≤room∧room≤4096) (hp:1≤pol∧pol≤3) (ho:3≤other∧other≤4096) :
    ∃ R1 R2,rSub 3 room pol ⟨[],[]⟩ = (R1,0,0)∧rSub 3 other 3 R1 = (R2,1,0)∧HW R2 [] [] [] other.toNat (fun _=>none):=by
  refine ⟨⟨[⟨0,3,room.toNat,pol,[],0⟩],[]⟩,⟨[⟨0,3,room.toNat,pol,[],0⟩,⟨1,3,other.toNat,3,[],0⟩],[]⟩,?_,?_,?_⟩
  · unfold rSub
    rw [if_neg (by omega),if_neg (by simp)]
    rfl
  · unfold rSub
    rw [if_neg (by omega),if_neg (by simp)]
    rfl
  · refine ⟨⟨⟨_,_,rfl,rfl,rfl,rfl,rfl,rfl,rfl,⟨List.Sublist.refl _,rfl⟩,⟨List.Sublist.refl _,rfl⟩,rfl⟩,fun _ q=>by cases q⟩,fun _ q=>by cases q⟩
end Go.Fx.YtbdjfccgkdgbfaaFx

