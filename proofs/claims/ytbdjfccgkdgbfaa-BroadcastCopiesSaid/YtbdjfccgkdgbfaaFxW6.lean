/- What the functions that the statement reaches compute: part 6. -/
import Derived.Test.YtbdjfccgkdgbfaaFxW5
namespace Go.Fx.YtbdjfccgkdgbfaaFx
open Go Go.Fx
attribute [local irreducible] aC runI az ar

set_option maxRecDepth 100000
set_option maxHeartbeats 4000000

/-! A hub lies in its boxes. -/
structure SL where
 s:Nat
 r:Nat
 b:Nat
 fr:Nat
 S:Sb
structure QL where
 q:Nat
 m:Nat
 g:Nat
 L:Qu
/-- What the map jm of a task: its topic, its ticket, its message (nil, or not). -/
structure WE where
 topic:Int
 tick:Nat
 data:List UInt8
 nl:Bool
def SL.ids (x:SL):List Nat:=[x.s,x.r,x.b]
def QL.ids (x:QL):List Nat:=[x.q,x.m]
def SL.is (x:SL) (st:St):Prop:=SbIs st x.s x.r x.b x.fr x.S
def QL.is (x:QL) (st:St):Prop:=QIs st x.q x.m x.L x.g
def ptrO:Option SL→AV
 | none=>.lit (.pointer none)
 | some x=>.ptr x.s 0
def ptrQ (x:QL):AV:=.ptr x.q 0
def dtAV (d:List UInt8) (nl:Bool):AV:=if nl = true then .lit (.slice none 0 0) else .sl false 1 (BB d)
def weAV (w:WE):AV:=.agg [.lit (.int .i64 w.topic),.lit (.int .u64 (w.tick:Nat)),dtAV w.data w.nl]
theorem dt_dv (st:St) {d:List UInt8} {nl:Bool} (h:nl = true→d = []):DV (dtAV d nl) st d:=by
 unfold dtAV
 cases nl with
 | true=>exact .inl ⟨rfl,h rfl⟩
 | false=>exact .inr (.inl rfl)
theorem dt_bufs (d:List UInt8) (nl:Bool):au (dtAV d nl) = []:=by unfold dtAV; split <;> rfl
theorem kN (w:WE):(weAV w).dis = weAV w:=by
 unfold weAV dtAV
 split <;> rfl

structure HubIs (st:St) (h wid:Nat) (L:List (Option SL)) (Qs:List QL) (M:List (Int×WE)):Prop where
 get:st.get h = some (L.map ptrO++(Qs.map ptrQ++[.map wid]))
 l64:L.length = 64
 q16:Qs.length = 16
 sub:∀ (i:Nat) x,L[i]? = some (some x)→x.is st
 que:∀ (i:Nat) x,Qs[i]? = some x→x.is st
 mp:MapIs st wid .i64 weAV M
 sep:∃ o:Nat→Nat,(∀ (i:Nat) x,L[i]? = some (some x)→∀ b ∈ x.ids,o b = i + 1)∧(∀ (i:Nat) x,Qs[i]? = some x→∀ b ∈ x.ids,o b = 100 + i)∧o h = 0∧o wid = 0
def optIds:Option SL→List Nat
 | none=>[]
 | some x=>x.ids
def ba (h wid:Nat) (L:List (Option SL)) (Qs:List QL):List Nat:=h::wid::(L.flatMap optIds++Qs.flatMap QL.ids)
theorem ai {h wid b:Nat} {L:List (Option SL)} {Qs:List QL}:b ∈ ba h wid L Qs↔b = h∨b = wid∨(∃ (i:Nat) (x:SL),L[i]? = some (some x)∧b ∈ x.ids)∨∃ (i:Nat) (x:QL),Qs[i]? = some x∧b ∈ x.ids:=by
 unfold ba
 simp only [List.mem_cons,List.mem_append,List.mem_flatMap]
 constructor
 ·rintro (e | e | ⟨x,hx,hb⟩ | ⟨x,hx,hb⟩)
  ·exact .inl e
  ·exact .inr (.inl e)
  ·cases x with
   | none=>cases hb
   | some x =>
     obtain ⟨i,hi⟩:=List.mem_iff_getElem?.1 hx
     exact .inr (.inr (.inl ⟨i,x,hi,hb⟩))
  ·obtain ⟨i,hi⟩:=List.mem_iff_getElem?.1 hx
   exact .inr (.inr (.inr ⟨i,x,hi,hb⟩))
 ·rintro (e | e | ⟨i,x,hi,hb⟩ | ⟨i,x,hi,hb⟩)
  ·exact .inl e
  ·exact .inr (.inl e)
  ·exact .inr (.inr (.inl ⟨some x,List.mem_of_getElem? hi,hb⟩))
  ·exact .inr (.inr (.inr ⟨x,List.mem_of_getElem? hi,hb⟩))

section
variable {st st':St} {h wid:Nat} {L:List (Option SL)} {Qs:List QL} {M:List (Int×WE)}
theorem QL.lts {x:QL} (hx:x.is st):∀ b ∈ x.ids,b < st.boxes.length:=by
 intro b hb
 simp only [QL.ids,List.mem_cons,List.not_mem_nil,or_false] at hb
 rcases hb with rfl | rfl
 ·exact QIs.ltq hx
 ·exact QIs.ltm hx
theorem SL.at {x:SL} (hx:x.is st) (hb:∀ b ∈ x.ids,st'.boxes[b]? = st.boxes[b]?):x.is st':=SbIs.at hx hb
theorem QL.at {x:QL} (hx:x.is st) (hb:∀ b ∈ x.ids,st'.boxes[b]? = st.boxes[b]?):x.is st':=QIs.at hx (hb _ (by simp [QL.ids])) (hb _ (by simp [QL.ids]))
theorem HubIs.lts (hh:HubIs st h wid L Qs M):∀ b ∈ ba h wid L Qs,b < st.boxes.length:=by
 intro b hb
 rcases ai.1 hb with rfl | rfl | ⟨i,x,hi,hb⟩ | ⟨i,x,hi,hb⟩
 ·exact bw hh.get
 ·exact hh.mp.lt
 ·exact SbIs.lts (hh.sub i x hi) b hb
 ·exact QL.lts (hh.que i x hi) b hb
theorem HubIs.kp (hh:HubIs st h wid L Qs M) {F:List Nat} (hk:Kp st st' F) (hf:∀ b ∈ ba h wid L Qs,b ∉ F):HubIs st' h wid L Qs M:=by
 have hat:∀ b ∈ ba h wid L Qs,st'.boxes[b]? = st.boxes[b]?:=fun b hb=>hk.2 b (hh.lts b hb) (hf b hb)
 exact ⟨(ck (hat h (ai.2 (.inl rfl)))).trans hh.get,hh.l64,hh.q16,fun i x hi=>SL.at (hh.sub i x hi) fun b hb=>hat b (ai.2 (.inr (.inr (.inl ⟨i,x,hi,hb⟩)))),
  fun i x hi=>QL.at (hh.que i x hi) fun b hb=>hat b (ai.2 (.inr (.inr (.inr ⟨i,x,hi,hb⟩)))),hh.mp.at (hat wid (ai.2 (.inr (.inl rfl)))),hh.sep⟩

/-- One subscriber changes. -/
theorem HubIs.setSub (hh:HubIs st h wid L Qs M) {i:Nat} {x y:SL} (hi:L[i]? = some (some x)) (hk:Kp st st' x.ids) (hy:y.is st') (hid:y.ids = x.ids) (hs:y.s = x.s):HubIs st' h wid (L.set i (some y)) Qs M∧ba h wid (L.set i (some y)) Qs ⊆ ba h wid L Qs:=by
 obtain ⟨o,o1,o2,o3,o4⟩:=hh.sep
 have hlt:=hh.lts
 have hil:i < L.length:=(List.getElem?_eq_some_iff.1 hi).1
 have hset:∀ (j:Nat) z,(L.set i (some y))[j]? = some (some z)→(j = i∧z = y)∨(j≠i∧L[j]? = some (some z)):=fun j z hj=>by
  rw [List.getElem?_set] at hj
  by_cases e:i = j
  ·subst e; rw [if_pos rfl,if_pos hil] at hj; exact .inl ⟨rfl,(Option.some.inj (Option.some.inj hj)).symm⟩
  ·rw [if_neg e] at hj; exact .inr ⟨fun q=>e q.symm,hj⟩
 have hno:∀ b,o b≠i + 1→b < st.boxes.length→st'.boxes[b]? = st.boxes[b]?:=fun b hb hl=>hk.2 b hl fun e=>hb (o1 i x hi b e)
 have hptr:(L.set i (some y)).map ptrO = L.map ptrO:=by
  apply List.ext_getElem?
  intro j
  rw [List.map_set,List.getElem?_set]
  split
  ·rename_i e; subst e
   rw [if_pos (by rw [List.length_map]; exact hil),List.getElem?_map,hi]
   simp [ptrO,hs]
  ·rfl
 refine ⟨⟨?_,by rw [List.length_set]; exact hh.l64,hh.q16,fun j z hj=>?_,fun j z hj=>QL.at (hh.que j z hj) fun b hb=>hno b (by rw [o2 j z hj b hb]; have:=(List.getElem?_eq_some_iff.1 hi).1; have:=hh.l64; omega) (hlt b (ai.2 (.inr (.inr (.inr ⟨j,z,hj,hb⟩))))),hh.mp.at (hno wid (by omega) (hlt wid (ai.2 (.inr (.inl rfl))))),o,fun j z hj b hb=>?_,o2,o3,o4⟩,fun b hb=>?_⟩
 ·rw [hptr,ck (hno h (by omega) (hlt h (ai.2 (.inl rfl))))]
  exact hh.get
 ·rcases hset j z hj with ⟨rfl,rfl⟩ | ⟨hne,hj⟩
  ·exact hy
  ·exact SL.at (hh.sub j z hj) fun b hb=>hno b (by rw [o1 j z hj b hb]; omega) (hlt b (ai.2 (.inr (.inr (.inl ⟨j,z,hj,hb⟩)))))
 ·rcases hset j z hj with ⟨rfl,rfl⟩ | ⟨hne,hj⟩
  ·rw [hid] at hb; exact o1 _ x hi b hb
  ·exact o1 j z hj b hb
 ·rcases ai.1 hb with e | e | ⟨j,z,hj,hbz⟩ | e
  ·exact ai.2 (.inl e)
  ·exact ai.2 (.inr (.inl e))
  ·rcases hset j z hj with ⟨rfl,rfl⟩ | ⟨hne,hj⟩
   ·rw [hid] at hbz; exact ai.2 (.inr (.inr (.inl ⟨_,x,hi,hbz⟩)))
   ·exact ai.2 (.inr (.inr (.inl ⟨j,z,hj,hbz⟩)))
  ·exact ai.2 (.inr (.inr (.inr e)))

/-- One queue changes. -/
theorem HubIs.setQue (hh:HubIs st h wid L Qs M) {i:Nat} {x y:QL} (hi:Qs[i]? = some x) (hk:Kp st st' x.ids) (hy:y.is st') (hq:y.q = x.q) (hm:y.m = x.m):HubIs st' h wid L (Qs.set i y) M∧ba h wid L (Qs.set i y) ⊆ ba h wid L Qs:=by
 have hid:y.ids = x.ids:=by simp [QL.ids,hq,hm]
 obtain ⟨o,o1,o2,o3,o4⟩:=hh.sep
 have hlt:=hh.lts
 have hil:i < Qs.length:=(List.getElem?_eq_some_iff.1 hi).1
 have hset:∀ (j:Nat) z,(Qs.set i y)[j]? = some z→(j = i∧z = y)∨(j≠i∧Qs[j]? = some z):=fun j z hj=>by
  rw [List.getElem?_set] at hj
  by_cases e:i = j
  ·subst e; rw [if_pos rfl,if_pos hil] at hj; exact .inl ⟨rfl,(Option.some.inj hj).symm⟩
  ·rw [if_neg e] at hj; exact .inr ⟨fun q=>e q.symm,hj⟩
 have hno:∀ b,o b≠100 + i→b < st.boxes.length→st'.boxes[b]? = st.boxes[b]?:=fun b hb hl=>hk.2 b hl fun e=>hb (o2 i x hi b e)
 have hptr:(Qs.set i y).map ptrQ = Qs.map ptrQ:=by
  apply List.ext_getElem?
  intro j
  rw [List.map_set,List.getElem?_set]
  split
  ·rename_i e; subst e
   rw [if_pos (by rw [List.length_map]; exact hil),List.getElem?_map,hi]
   simp [ptrQ,hq]
  ·rfl
 refine ⟨⟨?_,hh.l64,by rw [List.length_set]; exact hh.q16,fun j z hj=>SL.at (hh.sub j z hj) fun b hb=>hno b (by rw [o1 j z hj b hb]; have:=(List.getElem?_eq_some_iff.1 hj).1; have:=hh.l64; omega) (hlt b (ai.2 (.inr (.inr (.inl ⟨j,z,hj,hb⟩))))),fun j z hj=>?_,hh.mp.at (hno wid (by omega) (hlt wid (ai.2 (.inr (.inl rfl))))),o,o1,fun j z hj b hb=>?_,o3,o4⟩,fun b hb=>?_⟩
 ·rw [hptr,ck (hno h (by omega) (hlt h (ai.2 (.inl rfl))))]
  exact hh.get
 ·rcases hset j z hj with ⟨rfl,rfl⟩ | ⟨hne,hj⟩
  ·exact hy
  ·exact QL.at (hh.que j z hj) fun b hb=>hno b (by rw [o2 j z hj b hb]; omega) (hlt b (ai.2 (.inr (.inr (.inr ⟨j,z,hj,hb⟩)))))
 ·rcases hset j z hj with ⟨rfl,rfl⟩ | ⟨hne,hj⟩
  ·rw [hid] at hb; exact o2 _ x hi b hb
  ·exact o2 j z hj b hb
 ·rcases ai.1 hb with e | e | e | ⟨j,z,hj,hbz⟩
  ·exact ai.2 (.inl e)
  ·exact ai.2 (.inr (.inl e))
  ·exact ai.2 (.inr (.inr (.inl e)))
  ·rcases hset j z hj with ⟨rfl,rfl⟩ | ⟨hne,hj⟩
   ·rw [hid] at hbz; exact ai.2 (.inr (.inr (.inr ⟨_,x,hi,hbz⟩)))
   ·exact ai.2 (.inr (.inr (.inr ⟨j,z,hj,hbz⟩)))

/-- The map changes. -/
theorem HubIs.setMap (hh:HubIs st h wid L Qs M) {M':List (Int×WE)} (ho:Oth st st' [wid]) (hm:MapIs st' wid .i64 weAV M'):HubIs st' h wid L Qs M':=by
 obtain ⟨o,o1,o2,o3,o4⟩:=hh.sep
 have hwh:wid≠h:=hh.mp.ne hh.get
 have hno:∀ b,b≠wid→st'.boxes[b]? = st.boxes[b]?:=fun b hb=>ho.2 b (by simpa using hb)
 refine ⟨(ck (hno h (Ne.symm hwh))).trans hh.get,hh.l64,hh.q16,fun j z hj=>SL.at (hh.sub j z hj) fun b hb=>hno b fun e=>?_,fun j z hj=>QL.at (hh.que j z hj) fun b hb=>hno b fun e=>?_,hm,hh.sep⟩
 ·have:=o1 j z hj b hb; rw [e] at this; omega
 ·have:=o2 j z hj b hb; rw [e] at this; omega

/-- A subscriber comes or goes. -/
theorem HubIs.slot (hh:HubIs st h wid L Qs M) {i:Nat} (hi:i < 64) {y:Option SL} {F:List Nat} (hk:Kp st st' (h::F)) (hF:∀ b ∈ F,st.boxes.length≤b) (hg:st'.get h = some ((L.set i y).map ptrO++(Qs.map ptrQ++[.map wid]))) (hy:∀ x,y = some x→x.is st'∧∀ b ∈ x.ids,st.boxes.length≤b):HubIs st' h wid (L.set i y) Qs M:=by
 obtain ⟨o,o1,o2,o3,o4⟩:=hh.sep
 have hlt:=hh.lts
 have hl:=hh.l64
 have hset:∀ (j:Nat) z,(L.set i y)[j]? = some (some z)→(j = i∧y = some z)∨(j≠i∧L[j]? = some (some z)):=fun j z hj=>by
  rw [List.getElem?_set] at hj
  by_cases e:i = j
  ·subst e; rw [if_pos rfl,if_pos (by omega)] at hj; exact .inl ⟨rfl,Option.some.inj hj⟩
  ·rw [if_neg e] at hj; exact .inr ⟨fun q=>e q.symm,hj⟩
 have hno:∀ b,b≠h→b < st.boxes.length→st'.boxes[b]? = st.boxes[b]?:=fun b hb hl=>hk.2 b hl fun e=>by
  rcases List.mem_cons.1 e with e | e
  ·exact hb e
  ·have:=hF b e; omega
 have hwh:wid≠h:=hh.mp.ne hh.get
 refine ⟨hg,by rw [List.length_set]; exact hl,hh.q16,fun j z hj=>?_,fun j z hj=>QL.at (hh.que j z hj) fun b hb=>hno b (fun e=>by have:=o2 j z hj b hb; rw [e] at this; omega) (hlt b (ai.2 (.inr (.inr (.inr ⟨j,z,hj,hb⟩))))),hh.mp.at (hno wid hwh (hlt wid (ai.2 (.inr (.inl rfl))))),fun b=>if b < st.boxes.length then o b else i + 1,fun j z hj b hb=>?_,fun j z hj b hb=>?_,?_,?_⟩
 ·rcases hset j z hj with ⟨rfl,e⟩ | ⟨hne,hj⟩
  ·exact (hy z e).1
  ·exact SL.at (hh.sub j z hj) fun b hb=>hno b (fun e=>by have:=o1 j z hj b hb; rw [e] at this; omega) (hlt b (ai.2 (.inr (.inr (.inl ⟨j,z,hj,hb⟩)))))
 ·rcases hset j z hj with ⟨rfl,e⟩ | ⟨hne,hj⟩
  ·have:=(hy z e).2 b hb
   exact if_neg (by omega)
  ·exact (if_pos (hlt b (ai.2 (.inr (.inr (.inl ⟨j,z,hj,hb⟩)))))).trans (o1 j z hj b hb)
 ·exact (if_pos (hlt b (ai.2 (.inr (.inr (.inr ⟨j,z,hj,hb⟩)))))).trans (o2 j z hj b hb)
 ·exact (if_pos (hlt h (ai.2 (.inl rfl)))).trans o3
 ·exact (if_pos (hlt wid (ai.2 (.inr (.inl rfl))))).trans o4

theorem jA (wid:Nat) (hl:L.length = 64) (hq:Qs.length = 16):(L.map ptrO++(Qs.map ptrQ++[AV.map wid])).drop 80 = [AV.map wid]:=by
 rw [List.drop_append,List.drop_append,List.drop_eq_nil_of_le (by rw [List.length_map]; omega),List.drop_eq_nil_of_le (by rw [List.length_map,List.length_map]; omega),List.length_map,List.length_map,hl,hq]
 rfl
theorem hub_q (wid:Nat) (hl:L.length = 64) {i:Nat} {x:QL} (hi:Qs[i]? = some x):∃ r,(L.map ptrO++(Qs.map ptrQ++[AV.map wid])).drop (64 + i) = .ptr x.q 0::r:=by
 obtain ⟨h1,h2⟩:=List.getElem?_eq_some_iff.1 hi
 rw [List.drop_append,List.drop_eq_nil_of_le (by rw [List.length_map]; omega),List.length_map,hl,Nat.add_sub_cancel_left,List.nil_append,List.drop_append_of_le_length (by rw [List.length_map]; omega),List.drop_eq_getElem_cons (by rw [List.length_map]; exact h1),List.getElem_map,h2]
 exact ⟨_,rfl⟩
theorem hub_s (wid:Nat) {i:Nat} {x:Option SL} (hi:L[i]? = some x):∃ r,(L.map ptrO++(Qs.map ptrQ++[AV.map wid])).drop i = ptrO x::r:=by
 obtain ⟨h1,h2⟩:=List.getElem?_eq_some_iff.1 hi
 rw [List.drop_append_of_le_length (by rw [List.length_map]; omega),List.drop_eq_getElem_cons (by rw [List.length_map]; exact h1),List.getElem_map,h2]
 exact ⟨_,rfl⟩
theorem hub_t (wid:Nat) (hl:L.length = 64):(L.map ptrO++(Qs.map ptrQ++[AV.map wid])).take 64 = L.map ptrO:=by
 rw [List.take_append_of_le_length (by rw [List.length_map]; omega),List.take_of_length_le (by rw [List.length_map]; omega)]
theorem jf (wid:Nat) (hl:L.length = 64) (hq:Qs.length = 16):(L.map ptrO++(Qs.map ptrQ++[AV.map wid])).length = 81:=by simp [hl,hq]

/-! Calls that leave all alone. -/
theorem cN (hh:HubIs st h wid L Qs M):aB Go.Proofs.Try.prog n_f24 [.ptr h 0] st (.lit (.bool false)):=by
 have hg:=hh.get
 have hl:=hh.l64
 have hq:=hh.q16
 have hd:=jA wid hl hq
 refine aF hmix k_f24 rfl rfl fun Q hQ=>?_
 unfold aFun c_f24
 simp (config:=KF) (disch:=omega) only [bZ,retI,AI.dst,al,cH,bp,aY,addA,ae,bu,↓reduceIte,Nat.reduceEqDiff,reduceCtorEq,hg,hd]
 exact hQ _
theorem dC (n c:Int) (st:St):aB Go.Proofs.Try.prog n_f25 [.lit (.int .i64 n),.lit (.int .i64 c)] st (.lit (.bool (decide (0≤n∧n < c)))):=by
 refine aF hmix k_f25 rfl rfl fun Q hQ=>?_
 unfold aFun c_f25
 by_cases h1:0≤n
 ·simp (config:=KF) (disch:=omega) only [bZ,retI,AI.dst,dt,↓reduceIte,Nat.reduceEqDiff,reduceCtorEq,fm]
  simpa [h1] using hQ st
 ·simp (config:=KF) (disch:=omega) only [bZ,retI,AI.dst,dt,↓reduceIte,Nat.reduceEqDiff,reduceCtorEq,cd]
  simpa [h1] using hQ st

theorem eQ (x:Option SL):(ptrO x).dis = ptrO x∧(ptrO x).own1 = ptrO x∧(ptrO x).own2 = ptrO x∧(ptrO x).solid1 = true∧(ptrO x).noL = true∧(ptrO x).cells = [ptrO x]∧∀ s,kill s (ptrO x) = ptrO x:=by
 cases x <;> exact ⟨rfl,rfl,rfl,rfl,rfl,rfl,fun _=>rfl⟩
def atH (L:List (Option SL)) (n:Int):Option SL:=if n < 0 then none else (L[n.toNat]?).join
theorem kP (hh:HubIs st h wid L Qs M) (n:Int):aB Go.Proofs.Try.prog n_f31 [.ptr h 0,.lit (.int .i64 n)] st (ptrO (atH L n)):=by
 have hg:=hh.get
 have hl:=hh.l64
 refine aF hmix k_f31 rfl rfl fun Q hQ=>?_
 unfold aFun c_f31
 unfold atH at hQ
 simp (config:=KF) (disch:=omega) only [bZ,id,↓reduceIte,Nat.reduceEqDiff,reduceCtorEq]
 refine ak rfl e_f24 (cN hh) rfl ?_
 simp (config:=KF) (disch:=omega) only [bZ,AI.dst,id,↓reduceIte,Nat.reduceEqDiff,reduceCtorEq]
 refine ak rfl e_f25 (dC n 64 st) rfl ?_
 simp (config:=KF) (disch:=omega) only [bZ,AI.dst,unA,↓reduceIte,Nat.reduceEqDiff,reduceCtorEq,dF]
 refine aS (fun h1=>?_) (fun h1=>?_)
 ·have hx:(if n < 0 then none else (L[n.toNat]?).join) = none:=by
   by_cases h2:n < 0
   ·rw [if_pos h2]
   ·rw [if_neg h2,List.getElem?_eq_none (by omega)]; rfl
  rw [hx] at hQ
  simp (config:=KF) (disch:=omega) only [bZ,retI,↓reduceIte,Nat.reduceEqDiff,reduceCtorEq]
  exact hQ _
 ·have h2:0≤n∧n < 64:=Classical.not_not.1 h1
  obtain ⟨k,rfl⟩:∃ k:Nat,n = (k:Int):=⟨n.toNat,by omega⟩
  have hk:k < L.length:=by omega
  have hx:L[k]? = some L[k]:=List.getElem?_eq_getElem hk
  rw [if_neg (by omega),Int.toNat_natCast,hx,Option.join_some] at hQ
  obtain ⟨r,hr⟩:=hub_s (Qs:=Qs) wid hx
  obtain ⟨p1,p2,p3,p4,p5,p6,p7⟩:=eQ L[k]
  simp (config:=KF) (disch:=omega) only [bZ,retI,iv,al,addA,ae,↓reduceIte,Nat.reduceEqDiff,reduceCtorEq,hg,hr,p1,p5]
  exact hQ _
end
end Go.Fx.YtbdjfccgkdgbfaaFx

