/- What the functions that the statement reaches compute: part 9. -/
import Derived.Test.YtgmeefljgbaanaaFxW8
namespace Go.Fx.YtgmeefljgbaanaaFx
open Go Go.Fx
attribute [local irreducible] aC runI aF a9

set_option maxRecDepth 100000
set_option maxHeartbeats 4000000

/-! A net lies in its boxes. -/
structure SL where
  s:Nat
  w:Nat
  m:Nat
  g:Nat
  qv:AV
  L:Qu
  S:Sk
structure WE where
  sock:Nat
  most:Int
  tick:Nat
def SL.ids (x:SL):List Nat:=[x.s,x.w,x.m]++ae x.qv
def SL.is (x:SL) (st:St):Prop:=SkIs st x.s x.w x.m x.g x.qv x.L x.S
def slAV (x:SL):AV:=.ptr x.s 0
def weAV (w:WE):AV:=.agg [.lit (.int .i64 (w.sock:Nat)),.lit (.int .i64 w.most),.lit (.int .u64 (w.tick:Nat))]
structure NetIs (st:St) (n sid wid now:Nat) (M:List (Int×SL)) (W:List (Int×WE)):Prop where
  get:st.get n = some [.lit (.int .u64 (now:Nat)),.map sid,.map wid]
  smp:MapIs st sid .i64 slAV M
  wmp:MapIs st wid .i64 weAV W
  sub:∀ (i:Int) x,ai i M = some x→x.is st
  sw:sid≠wid
  sep:∃ o:Nat→Int,(∀ (i:Int) x,ai i M = some x→0≤i∧∀ b ∈ x.ids,o b = i)∧o n = -1∧o sid = -1∧o wid = -1
def cS (n sid wid:Nat) (M:List (Int×SL)):List Nat:=n::sid::wid::M.flatMap fun p=>p.2.ids
theorem bJ {n sid wid b:Nat} {M:List (Int×SL)} (hn:(aT M).Nodup):b ∈ cS n sid wid M↔b = n∨b = sid∨b = wid∨∃ (i:Int) (x:SL),ai i M = some x∧b ∈ x.ids:=by
  unfold cS
  simp only [List.mem_cons,List.mem_flatMap]
  constructor
  · rintro (e | e | e | ⟨⟨i,x⟩,hx,hb⟩)
    · exact .inl e
    · exact .inr (.inl e)
    · exact .inr (.inr (.inl e))
    · exact .inr (.inr (.inr ⟨i,x,d6 hn hx,hb⟩))
  · rintro (e | e | e | ⟨i,x,hi,hb⟩)
    · exact .inl e
    · exact .inr (.inl e)
    · exact .inr (.inr (.inl e))
    · exact .inr (.inr (.inr ⟨(i,x),iW hi,hb⟩))

theorem enc_same {i:Int} {x y:SL}:∀ {M:List (Int×SL)},ai i M = some x→y.s = x.s→encM .i64 slAV (updP i y M) = encM .i64 slAV M
  | [],h,_=>by cases h
  | (k, z) :: r, h, he => by
    unfold ai at h
    unfold updP
    by_cases e:i = k
    · rw [if_pos e] at h ⊢
      cases h
      subst e
      unfold encM encE
      simp only [List.map_cons,slAV,he]
    · rw [if_neg e] at h ⊢
      have:=enc_same h he
      unfold encM at this ⊢
      rw [List.map_cons,List.map_cons,this]
theorem lz {i:Int} {x y:SL} {M:List (Int×SL)} (h:ai i M = some x):aT (updP i y M) = aT M:=by
  rw [ny,h]; rfl
theorem len_same {i:Int} {x y:SL} {M:List (Int×SL)} (h:ai i M = some x):(updP i y M).length = M.length:=by
  rw [ej,h]; rfl
theorem mapis_same {st:St} {id:Nat} {i:Int} {x y:SL} {M:List (Int×SL)} (h:MapIs st id .i64 slAV M) (hi:ai i M = some x) (he:y.s = x.s):MapIs st id .i64 slAV (updP i y M) :=
  ⟨by rw [enc_same hi he]; exact h.get,by rw [lz hi]; exact h.nd,by rw [len_same hi]; exact h.bl,h.bn,h.bc⟩

section
variable {st st':St} {n sid wid now:Nat} {M:List (Int×SL)} {W:List (Int×WE)}
theorem SL.at {x:SL} (hx:x.is st) (hb:∀ b ∈ x.ids,st'.boxes[b]? = st.boxes[b]?):x.is st':=SkIs.at hx hb
theorem SL.lts {x:SL} (hx:x.is st):∀ b ∈ x.ids,b < st.boxes.length:=SkIs.lts hx
theorem NetIs.lts (hh:NetIs st n sid wid now M W):∀ b ∈ cS n sid wid M,b < st.boxes.length:=by
  intro b hb
  rcases (bJ hh.smp.nd).1 hb with rfl | rfl | rfl | ⟨i,x,hi,hb⟩
  · exact bM hh.get
  · exact hh.smp.lt
  · exact hh.wmp.lt
  · exact SL.lts (hh.sub i x hi) b hb
theorem NetIs.ins (hh:NetIs st n sid wid now M W) {i:Int} {x:SL} (hi:ai i M = some x):∀ b ∈ x.ids,b ∈ cS n sid wid M:=fun b hb=>(bJ hh.smp.nd).2 (.inr (.inr (.inr ⟨i,x,hi,hb⟩)))
theorem NetIs.ne3 (hh:NetIs st n sid wid now M W):sid≠n∧wid≠n∧sid≠wid:=⟨hh.smp.ne hh.get,hh.wmp.ne hh.get,hh.sw⟩
theorem NetIs.ninx (hh:NetIs st n sid wid now M W) {i:Int} {x:SL} (hi:ai i M = some x):n ∉ x.ids∧sid ∉ x.ids∧wid ∉ x.ids:=by
  obtain ⟨o,o1,o2,o3,o4⟩:=hh.sep
  obtain ⟨h0,h1⟩:=o1 i x hi
  refine ⟨fun e=>?_,fun e=>?_,fun e=>?_⟩ <;> have:=h1 _ e <;> omega
theorem NetIs.at (hh:NetIs st n sid wid now M W) (hat:∀ b ∈ cS n sid wid M,st'.boxes[b]? = st.boxes[b]?):NetIs st' n sid wid now M W:=by
  have hm:=fun b=>(bJ (n:=n) (sid:=sid) (wid:=wid) (b:=b) hh.smp.nd).2
  exact ⟨(bQ (hat n (hm _ (.inl rfl)))).trans hh.get,hh.smp.at (hat sid (hm _ (.inr (.inl rfl)))),hh.wmp.at (hat wid (hm _ (.inr (.inr (.inl rfl))))),fun i x hi=>SL.at (hh.sub i x hi) fun b hb=>hat b (hh.ins hi b hb),hh.sw,hh.sep⟩
theorem NetIs.kp (hh:NetIs st n sid wid now M W) {F:List Nat} (hk:Kp st st' F) (hf:∀ b ∈ cS n sid wid M,b ∉ F):NetIs st' n sid wid now M W :=
  hh.at fun b hb=>hk.2 b (hh.lts b hb) (hf b hb)

/-- One socket changes. -/
theorem NetIs.setSock (hh:NetIs st n sid wid now M W) {i:Int} {x y:SL} (hi:ai i M = some x) (hk:Kp st st' x.ids) (hy:y.is st') (hid:∀ b ∈ y.ids,b ∈ x.ids∨st.boxes.length≤b) (hs:y.s = x.s) :
    NetIs st' n sid wid now (updP i y M) W∧∀ b ∈ cS n sid wid (updP i y M),b ∈ cS n sid wid M∨st.boxes.length≤b:=by
  obtain ⟨o,o1,o2,o3,o4⟩:=hh.sep
  have hlt:=hh.lts
  have hm:=fun b=>(bJ (n:=n) (sid:=sid) (wid:=wid) (b:=b) hh.smp.nd).2
  obtain ⟨i0,hox⟩:=o1 i x hi
  have hno:∀ b,o b≠i→b < st.boxes.length→st'.boxes[b]? = st.boxes[b]?:=fun b hb hl=>hk.2 b hl fun e=>hb (hox b e)
  have hln:n < st.boxes.length:=hlt n (hm _ (.inl rfl))
  have hls:sid < st.boxes.length:=hlt sid (hm _ (.inr (.inl rfl)))
  have hlw:wid < st.boxes.length:=hlt wid (hm _ (.inr (.inr (.inl rfl))))
  have hnd:(aT (updP i y M)).Nodup:=by rw [lz hi]; exact hh.smp.nd
  have hlook:∀ (j:Int) z,ai j (updP i y M) = some z→(j = i∧z = y)∨(j≠i∧ai j M = some z):=fun j z hj=>by
    rw [aW] at hj
    split at hj
    · rename_i e; exact .inl ⟨e,(Option.some.inj hj).symm⟩
    · rename_i e; exact .inr ⟨e,hj⟩
  refine ⟨⟨(bQ (hno n (by omega) hln)).trans hh.get,mapis_same (hh.smp.at (hno sid (by omega) hls)) hi hs,hh.wmp.at (hno wid (by omega) hlw),fun j z hj=>?_,hh.sw,fun b=>if b < st.boxes.length then o b else i,fun j z hj=>?_,?_,?_,?_⟩,fun b hb=>?_⟩
  · rcases hlook j z hj with ⟨rfl,rfl⟩ | ⟨hne,hj⟩
    · exact hy
    · refine SL.at (hh.sub j z hj) fun b hb=>hno b ?_ (hlt b (hh.ins hj b hb))
      rw [(o1 j z hj).2 b hb]; exact hne
  · rcases hlook j z hj with ⟨rfl,rfl⟩ | ⟨hne,hj⟩
    · refine ⟨i0,fun b hb=>?_⟩
      rcases hid b hb with q | q
      · exact (if_pos (hlt b (hh.ins hi b q))).trans (hox b q)
      · exact if_neg (by omega)
    · refine ⟨(o1 j z hj).1,fun b hb=>?_⟩
      exact (if_pos (hlt b (hh.ins hj b hb))).trans ((o1 j z hj).2 b hb)
  · exact (if_pos hln).trans o2
  · exact (if_pos hls).trans o3
  · exact (if_pos hlw).trans o4
  · rcases (bJ hnd).1 hb with e | e | e | ⟨j,z,hj,hbz⟩
    · exact .inl (hm _ (.inl e))
    · exact .inl (hm _ (.inr (.inl e)))
    · exact .inl (hm _ (.inr (.inr (.inl e))))
    · rcases hlook j z hj with ⟨rfl,rfl⟩ | ⟨hne,hj⟩
      · rcases hid b hbz with q | q
        · exact .inl (hh.ins hi b q)
        · exact .inr q
      · exact .inl (hh.ins hj b hbz)

/-- The map of those that wait changes. -/
theorem NetIs.setMap (hh:NetIs st n sid wid now M W) {W':List (Int×WE)} (ho:Oth st st' [wid]) (hm:MapIs st' wid .i64 weAV W'):NetIs st' n sid wid now M W':=by
  obtain ⟨e1,e2,e3⟩:=hh.ne3
  have hno:∀ b,b≠wid→st'.boxes[b]? = st.boxes[b]?:=fun b hb=>ho.2 b (by simpa using hb)
  exact ⟨(bQ (hno n (Ne.symm e2))).trans hh.get,hh.smp.at (hno sid e3),hm,fun i x hi=>SL.at (hh.sub i x hi) fun b hb=>hno b fun e=>(hh.ninx hi).2.2 (e ▸ hb),hh.sw,hh.sep⟩
/-- The time changes. -/
theorem NetIs.setNow (hh:NetIs st n sid wid now M W) (now':Nat):NetIs (st.set n [.lit (.int .u64 (now':Nat)),.map sid,.map wid]) n sid wid now' M W:=by
  obtain ⟨e1,e2,e3⟩:=hh.ne3
  exact ⟨aR (bM hh.get),hh.smp.set e1,hh.wmp.set e2,fun i x hi=>SL.at (hh.sub i x hi) fun b hb=>dR fun e=>(hh.ninx hi).1 (e ▸ hb),hh.sw,hh.sep⟩
/-- A socket comes. -/
theorem NetIs.add (hh:NetIs st n sid wid now M W) {i:Int} (hi:0≤i) (hno:ai i M = none) {y:SL} {st1:St} (hk:Kp st st1 []) (hy:y.is st1) (hid:∀ b ∈ y.ids,st.boxes.length≤b) (ho:Oth st1 st' [sid]) (hm:MapIs st' sid .i64 slAV (updP i y M)) :
    NetIs st' n sid wid now (updP i y M) W∧∀ b ∈ cS n sid wid (updP i y M),b ∈ cS n sid wid M∨st.boxes.length≤b:=by
  obtain ⟨o,o1,o2,o3,o4⟩:=hh.sep
  obtain ⟨e1,e2,e3⟩:=hh.ne3
  have hlt:=hh.lts
  have hmm:=fun b=>(bJ (n:=n) (sid:=sid) (wid:=wid) (b:=b) hh.smp.nd).2
  have hln:n < st.boxes.length:=hlt n (hmm _ (.inl rfl))
  have hls:sid < st.boxes.length:=hlt sid (hmm _ (.inr (.inl rfl)))
  have hlw:wid < st.boxes.length:=hlt wid (hmm _ (.inr (.inr (.inl rfl))))
  have hat:∀ b,b < st.boxes.length→b≠sid→st'.boxes[b]? = st.boxes[b]?:=fun b hb hne=>(ho.2 b (by simpa using hne)).trans (hk.2 b hb (by simp))
  have hlook:∀ (j:Int) z,ai j (updP i y M) = some z→(j = i∧z = y)∨(j≠i∧ai j M = some z):=fun j z hj=>by
    rw [aW] at hj
    split at hj
    · rename_i e; exact .inl ⟨e,(Option.some.inj hj).symm⟩
    · rename_i e; exact .inr ⟨e,hj⟩
  refine ⟨⟨(bQ (hat n hln (Ne.symm e1))).trans hh.get,hm,hh.wmp.at (hat wid hlw (Ne.symm e3)),fun j z hj=>?_,hh.sw,fun b=>if b < st.boxes.length then o b else i,fun j z hj=>?_,?_,?_,?_⟩,fun b hb=>?_⟩
  · rcases hlook j z hj with ⟨rfl,rfl⟩ | ⟨hne,hj⟩
    · exact SL.at hy fun b hb=>ho.2 b (by simp only [List.mem_singleton]; intro e; have:=hid b hb; omega)
    · exact SL.at (hh.sub j z hj) fun b hb=>hat b (hlt b (hh.ins hj b hb)) fun e=>(hh.ninx hj).2.1 (e ▸ hb)
  · rcases hlook j z hj with ⟨rfl,rfl⟩ | ⟨hne,hj⟩
    · exact ⟨hi,fun b hb=>if_neg (by have:=hid b hb; omega)⟩
    · refine ⟨(o1 j z hj).1,fun b hb=>?_⟩
      exact (if_pos (hlt b (hh.ins hj b hb))).trans ((o1 j z hj).2 b hb)
  · exact (if_pos hln).trans o2
  · exact (if_pos hls).trans o3
  · exact (if_pos hlw).trans o4
  · rcases (bJ hm.nd).1 hb with e | e | e | ⟨j,z,hj,hbz⟩
    · exact .inl (hmm _ (.inl e))
    · exact .inl (hmm _ (.inr (.inl e)))
    · exact .inl (hmm _ (.inr (.inr (.inl e))))
    · rcases hlook j z hj with ⟨rfl,rfl⟩ | ⟨hne,hj⟩
      · exact .inr (hid b hbz)
      · exact .inl (hh.ins hj b hbz)
/-- A socket goes. -/
theorem NetIs.del (hh:NetIs st n sid wid now M W) {i:Int} (ho:Oth st st' [sid]) (hm:MapIs st' sid .i64 slAV (delP i M)) :
    NetIs st' n sid wid now (delP i M) W∧∀ b ∈ cS n sid wid (delP i M),b ∈ cS n sid wid M:=by
  obtain ⟨o,o1,o2,o3,o4⟩:=hh.sep
  obtain ⟨e1,e2,e3⟩:=hh.ne3
  have hat:∀ b,b≠sid→st'.boxes[b]? = st.boxes[b]?:=fun b hne=>ho.2 b (by simpa using hne)
  have hlook:∀ (j:Int) z,ai j (delP i M) = some z→ai j M = some z:=fun j z hj=>by
    rw [ei _ _ hh.smp.nd] at hj
    split at hj
    · cases hj
    · exact hj
  refine ⟨⟨(bQ (hat n (Ne.symm e1))).trans hh.get,hm,hh.wmp.at (hat wid (Ne.symm e3)),fun j z hj=>SL.at (hh.sub j z (hlook j z hj)) fun b hb=>hat b fun e=>(hh.ninx (hlook j z hj)).2.1 (e ▸ hb),hh.sw,o,fun j z hj=>o1 j z (hlook j z hj),o2,o3,o4⟩,fun b hb=>?_⟩
  rcases (bJ hm.nd).1 hb with e | e | e | ⟨j,z,hj,hbz⟩
  · exact (bJ hh.smp.nd).2 (.inl e)
  · exact (bJ hh.smp.nd).2 (.inr (.inl e))
  · exact (bJ hh.smp.nd).2 (.inr (.inr (.inl e)))
  · exact hh.ins (hlook j z hj) b hbz

theorem dq (hh:NetIs st n sid wid now M W):az Go.Proofs.Try.prog n_f26 [.ptr n 0] st (.lit (.bool false)):=by
  have hg:=hh.get
  refine aB hmix k_f26 rfl rfl fun Q hQ=>?_
  unfold aFun c_f26
  simp (config:=KF) (disch:=omega) only [bZ,retI,AI.dst,aj,br,aJ,addA,aa,↓reduceIte,Nat.reduceEqDiff,reduceCtorEq,hg]
  exact hQ _
theorem dB (hh:NetIs st n sid wid now M W) (i:Int):cd (.int .i64) (.lit (.pointer none)) false st (.map sid) (.lit (.int .i64 i)) = .ok (match ai i M with | some x=>.ptr x.s 0 | none=>.lit (.pointer none)):=by
  rw [cH hh.smp]
  cases ai i M <;> rfl
end
end Go.Fx.YtgmeefljgbaanaaFx

