/- An evaluator for resolved code, proved against the model: part 5. -/
import Derived.Test.YtohlpjfhkejjgaaFxD
/- Slices of plain cells that are written to and appended to. -/
namespace Go.Fx
open Go

def MB (v : AV) (st : St) (l : List AV) : Prop := (v = .lit (.slice none 0 0) ∧ l = []) ∨ ∃ id cap r, v = .bs id 1 0 l.length cap ∧ st.get id = some (l ++ r) ∧ l.length ≤ cap ∧ cap ≤ (l ++ r).length
/-- What lies elsewhere is as it was. -/
def Kept (st st' : St) (v : AV) : Prop := st.boxes.length ≤ st'.boxes.length ∧ ∀ id cs, st.get id = some cs → (∀ k o l c, v ≠ .bs id k o l c) → st'.get id = some cs
theorem Kept.refl (st : St) (v : AV) : Kept st st v := ⟨Nat.le_refl _, fun _ _ h _ => h⟩

theorem MB.facts {v : AV} {st : St} {l : List AV} (h : MB v st l) : v.dis = v ∧ v.own1 = v ∧ v.own2 = v ∧ v.solid1 = true ∧ v.noL = true ∧ v.cells = [v] ∧ (∀ s, kill s v = v) ∧ ∀ st', lenI .sl st' v = .ok (.lit (.int .i64 l.length)) := by
  rcases h with ⟨rfl, rfl⟩ | ⟨id, cap, r, rfl, _⟩
  · exact ⟨rfl, rfl, rfl, rfl, rfl, rfl, fun _ => rfl, fun _ => rfl⟩
  · exact ⟨rfl, rfl, rfl, rfl, rfl, rfl, fun _ => rfl, fun _ => rfl⟩

/-- No box holds what points to boxes. -/
def NBs (st : St) : Prop := ∀ id cs, st.get id = some cs → ∀ c ∈ cs, c.NB
theorem NBs.nil : NBs ⟨[]⟩ := fun id cs h => by simp [St.get] at h
theorem NBs.push {st : St} {cs : List AV} (h : NBs st) (hc : ∀ c ∈ cs, c.NB) : NBs (st.push (.cells cs)) := by
  intro id ds hg
  by_cases e : id < st.boxes.length
  · rw [get_push_old e] at hg
    exact h id ds hg
  · by_cases e2 : id = st.boxes.length
    · subst e2
      rw [get_push] at hg
      cases hg
      exact hc
    · have := get_lt hg
      rw [len_push] at this
      omega
theorem NBs.set {st : St} {id : Nat} {cs : List AV} (h : NBs st) (hid : id < st.boxes.length) (hc : ∀ c ∈ cs, c.NB) : NBs (st.set id cs) := by
  intro id' ds hg
  by_cases e : id = id'
  · subst e
    rw [get_set hid] at hg
    cases hg
    exact hc
  · rw [get_set_ne e] at hg
    exact h id' ds hg

theorem MB.app {v : AV} {st : St} {l new : List AV} {bytes : Nat} {C : AV → St → Prop} (h : MB v st l) (hl : Lits l) (hn : Lits new) (hr : roomB (l.length + new.length) bytes = true)
    (hC : ∀ v' st', MB v' st' (l ++ new) → Kept st st' v → (NBs st → NBs st') → C v' st') : appX false 1 bytes v C st new := by
  rcases h with ⟨rfl, rfl⟩ | ⟨id, cap, r, rfl, hg, h1, h2⟩
  · refine ⟨rfl, by simpa using hr, ?_⟩
    split
    · rename_i h
      have : new = [] := by simpa using h
      subst this
      exact hC _ _ (.inl ⟨rfl, rfl⟩) (Kept.refl _ _) id
    · intro c hc
      refine hC _ _ (.inr ⟨st.boxes.length, c, List.replicate (c - new.length) .any, by simp, ?_, by simpa using hc, by simp; omega⟩) ⟨by simp [St.push], fun id cs hg _ => by rw [get_push_old (get_lt hg)]; exact hg⟩ (fun h => h.push fun x hx => ?_)
      · rw [hn.cellsD]
        simp only [List.nil_append, Nat.mul_one]
        exact get_push st _
      · rw [hn.cellsD] at hx
        simp only [List.nil_append, Nat.mul_one, List.mem_append] at hx
        rcases hx with hx | hx
        · exact hn.nb x hx
        · rw [List.eq_of_mem_replicate hx]; exact .any
  · refine ⟨rfl, rfl, hr, ?_⟩
    rw [hg]
    show (Res.ok _).wp _
    rw [wp_ok, hn.cellsD]
    have hid := get_lt hg
    split
    · rename_i hc
      refine ⟨by omega, hC _ _ (.inr ⟨id, cap, r.drop new.length, by simp, ?_, by simpa using hc, ?_⟩) ⟨by simp [St.set], fun id' cs hg' hne => ?_⟩ (fun h => h.set hid ?_)⟩
      · rw [get_set hid, Nat.zero_add, Nat.mul_one, setAt_at rfl (by simp at h2; omega)]
        simp
      · simp at h2 ⊢; omega
      · rw [get_set_ne (fun e => hne _ _ _ _ (by rw [e])), hg']
      · rw [Nat.zero_add, Nat.mul_one, setAt_at rfl (by simp at h2; omega)]
        have h3 := h id _ hg
        intro x hx
        simp only [List.mem_append] at hx
        rcases hx with hx | hx | hx
        · exact hl.nb x hx
        · exact hn.nb x hx
        · exact h3 x (List.mem_append_right _ (List.mem_of_mem_drop hx))
    · rename_i hc
      have e : List.map AV.own1 (List.take (l.length * 1) (List.drop 0 (l ++ r))) = l := by simp [hl.own]
      refine ⟨by simp, fun c hc => hC _ _ (.inr ⟨st.boxes.length, c, List.replicate (c - (l.length + new.length)) .any, by simp, ?_, by simpa using hc, by simp; omega⟩) ⟨by simp [St.push], fun id' cs hg' _ => by rw [get_push_old (get_lt hg')]; exact hg'⟩ (fun h => h.push fun x hx => ?_)⟩
      · rw [e]
        simp only [Nat.mul_one]
        exact get_push st _
      · rw [e] at hx
        simp only [List.mem_append] at hx
        rcases hx with (hx | hx) | hx
        · exact hl.nb x hx
        · exact hn.nb x hx
        · rw [List.eq_of_mem_replicate hx]; exact .any

theorem MB.src {v : AV} {st : St} {l : List AV} (h : MB v st l) : ∃ r, srcA st 1 v = r ∧ ∀ K : List AV → Prop, K l → r.wp K := by
  refine ⟨_, rfl, fun K hK => ?_⟩
  rcases h with ⟨rfl, rfl⟩ | ⟨id, cap, r, rfl, hg, h1, h2⟩
  · exact hK
  · show (bsElems st id 1 0 l.length).wp K
    unfold bsElems
    rw [hg]
    show _ ∧ _
    refine ⟨by simp, ?_⟩
    rw [List.drop_zero, grp_one (by simp), List.take_left]
    exact hK

end Go.Fx

/- Functions that keep nothing may be handed what lies in boxes. -/
namespace Go.Fx
open Go

/-- The boxes are frozen, for as long as a call takes. -/
def Gh.still (g : Gh) (w : World) : Gh := { base := g.base, lb := g.lb, bx := fun _ => none
                                            imm := fun b o => match frzB g w 0 b with | some us => us[o]? | none => g.imm b o
                                            cls := fun b => match g.cls b with | some (.box _) => none | c => c }
/-- And behind it they are boxes again. -/
def Gh.back (g g2 : Gh) (n : Nat) : Gh := { base := g.base, lb := g.lb, bx := g.bx
                                            imm := fun b => if b < n then g.imm b else g2.imm b
                                            cls := fun b => if b < n then g.cls b else g2.cls b }

/-! A box may be frozen for good. -/
def St.one (id : Nat) (cs : List AV) : St := ⟨List.replicate id none ++ [some (.cells cs)]⟩
def St.kill (st : St) (id : Nat) : St := ⟨st.boxes.set id none⟩
end Go.Fx

/- Maps with plain keys, as lists; boxes that others are left alone by. -/
namespace Go.Fx
open Go

section
variable {β : Type}

def findP (t : Int) : List (Int × β) → Nat → Option (Nat × β)
  | [], _ => none
  | (k, b) :: r, i => if t = k then some (i, b) else findP t r (i + 1)
def lookP (t : Int) : List (Int × β) → Option β
  | [] => none
  | (k, b) :: r => if t = k then some b else lookP t r
def updP (t : Int) (b : β) : List (Int × β) → List (Int × β)
  | [] => [(t, b)]
  | (k, c) :: r => if t = k then (t, b) :: r else (k, c) :: updP t b r
def delP (t : Int) : List (Int × β) → List (Int × β)
  | [] => []
  | (k, c) :: r => if t = k then r else (k, c) :: delP t r
def keysP (m : List (Int × β)) : List Int := m.map Prod.fst

theorem findP_look (t : Int) : ∀ (m : List (Int × β)) (i : Nat), (findP t m i).map Prod.snd = lookP t m
  | [], _ => rfl
  | (k, b) :: r, i => by simp only [findP, lookP]; split; · rfl
                         · exact findP_look t r (i + 1)

theorem findP_upd {γ : Type} (e : Int × β → γ) (t : Int) (b : β) : ∀ (m : List (Int × β)) (i : Nat), match findP t m i with
    | some (j, _) => i ≤ j ∧ (m.map e).set (j - i) (e (t, b)) = (updP t b m).map e ∧ (m.map e).eraseIdx (j - i) = (delP t m).map e ∧ j - i < m.length
    | none => m.map e ++ [e (t, b)] = (updP t b m).map e ∧ delP t m = m
  | [], _ => by simp [findP, updP, delP]
  | (k, c) :: r, i => by
    simp only [findP]
    by_cases h : t = k
    · subst h
      simp [updP, delP]
    · rw [if_neg h]
      have ih := findP_upd e t b r (i + 1)
      cases hf : findP t r (i + 1) with
      | none => rw [hf] at ih; simp only at ih; simp [updP, delP, h, ih.1, ih.2]
      | some p =>
        obtain ⟨j, c'⟩ := p
        rw [hf] at ih
        simp only at ih ⊢
        obtain ⟨h1, h2, h3, h4⟩ := ih
        obtain ⟨q, rfl⟩ : ∃ q, j = i + 1 + q := ⟨j - (i + 1), by omega⟩
        rw [show i + 1 + q - (i + 1) = q by omega] at h2 h3 h4
        rw [show i + 1 + q - i = q + 1 by omega]
        refine ⟨by omega, ?_, ?_, by simp; omega⟩
        · simp [updP, h, h2]
        · simp [delP, h, h3]

theorem look_upd (t t' : Int) (b : β) : ∀ m : List (Int × β), lookP t' (updP t b m) = if t' = t then some b else lookP t' m
  | [] => by simp only [updP, lookP]
  | (k, c) :: r => by
    simp only [updP]
    by_cases h : t = k
    · subst h
      rw [if_pos rfl]
      simp only [lookP]
      split <;> rfl
    · rw [if_neg h]
      simp only [lookP]
      rw [look_upd t t' b r]
      by_cases h1 : t' = k
      · subst h1
        have : ¬ t' = t := fun e => h e.symm
        simp [this]
      · simp [h1]
theorem look_none {t : Int} : ∀ {m : List (Int × β)}, t ∉ keysP m → lookP t m = none
  | [], _ => rfl
  | (k, c) :: r, h => by
    simp only [keysP, List.map_cons, List.mem_cons, not_or] at h
    simp only [lookP]
    rw [if_neg h.1]
    exact look_none h.2
theorem look_del (t t' : Int) : ∀ {m : List (Int × β)}, (keysP m).Nodup → lookP t' (delP t m) = if t' = t then none else lookP t' m
  | [], _ => by simp [delP, lookP]
  | (k, c) :: r, hn => by
    simp only [keysP, List.map_cons, List.nodup_cons] at hn
    simp only [delP]
    by_cases h : t = k
    · subst h
      rw [if_pos rfl]
      simp only [lookP]
      by_cases h1 : t' = t
      · subst h1; rw [if_pos rfl]; exact look_none hn.1
      · rw [if_neg h1, if_neg h1]
    · rw [if_neg h]
      simp only [lookP]
      by_cases h1 : t' = k
      · subst h1
        have : ¬ t' = t := fun e => h e.symm
        simp [this]
      · rw [if_neg h1, if_neg h1]; exact look_del t t' hn.2
theorem len_upd (t : Int) (b : β) : ∀ m : List (Int × β), (updP t b m).length = if (lookP t m).isSome then m.length else m.length + 1
  | [] => by simp [updP, lookP]
  | (k, c) :: r => by
    simp only [updP, lookP]
    by_cases h : t = k
    · simp [h]
    · simp only [if_neg h, List.length_cons, len_upd t b r]
      split <;> rfl
theorem len_del (t : Int) : ∀ m : List (Int × β), (delP t m).length = if (lookP t m).isSome then m.length - 1 else m.length
  | [] => by simp [delP, lookP]
  | (k, c) :: r => by
    simp only [delP, lookP]
    by_cases h : t = k
    · simp [h]
    · simp only [if_neg h, List.length_cons, len_del t r]
      split
      · rename_i q
        have : r ≠ [] := by rintro rfl; simp [lookP] at q
        have := List.length_pos_iff.2 this
        omega
      · rfl
theorem keys_upd (t : Int) (b : β) : ∀ m : List (Int × β), keysP (updP t b m) = if (lookP t m).isSome then keysP m else keysP m ++ [t]
  | [] => by simp [updP, lookP, keysP]
  | (k, c) :: r => by
    simp only [updP, lookP]
    by_cases h : t = k
    · simp [h, keysP]
    · have := keys_upd t b r
      simp only [keysP] at this
      simp only [if_neg h, keysP, List.map_cons, this]
      split <;> rfl
theorem keys_del_sub (t x : Int) : ∀ {m : List (Int × β)}, x ∈ keysP (delP t m) → x ∈ keysP m
  | [], h => h
  | (k, c) :: r, h => by
    simp only [delP] at h
    simp only [keysP, List.map_cons, List.mem_cons]
    split at h
    · exact .inr h
    · simp only [keysP, List.map_cons, List.mem_cons] at h
      rcases h with h | h
      · exact .inl h
      · exact .inr (keys_del_sub t x h)
theorem nodup_upd {t : Int} {b : β} {m : List (Int × β)} (h : (keysP m).Nodup) : (keysP (updP t b m)).Nodup := by
  rw [keys_upd]
  split
  · exact h
  · rename_i hs
    refine List.nodup_append.2 ⟨h, by simp, ?_⟩
    intro x hx y hy
    simp only [List.mem_singleton] at hy
    subst hy
    rintro rfl
    have : ∀ m : List (Int × β), x ∈ keysP m → (lookP x m).isSome = true := by
      intro m
      induction m with
      | nil => intro h; simp [keysP] at h
      | cons p r ih =>
        obtain ⟨k, c⟩ := p
        intro h
        simp only [keysP, List.map_cons, List.mem_cons] at h
        simp only [lookP]
        split
        · rfl
        · rename_i hne
          rcases h with h | h
          · exact absurd h hne
          · exact ih h
    exact hs (this m hx)
theorem nodup_del {t : Int} : ∀ {m : List (Int × β)}, (keysP m).Nodup → (keysP (delP t m)).Nodup
  | [], h => h
  | (k, c) :: r, h => by
    simp only [keysP, List.map_cons, List.nodup_cons] at h
    simp only [delP]
    split
    · exact h.2
    · simp only [keysP, List.map_cons, List.nodup_cons]
      exact ⟨fun e => h.1 (keys_del_sub t k e), nodup_del h.2⟩

/-- As it lies in a box. -/
def encE (k : IntKind) (ev : β → AV) (p : Int × β) : AV × AV := (.lit (.int k p.1), ev p.2)
def encM (k : IntKind) (ev : β → AV) (m : List (Int × β)) : List (AV × AV) := m.map (encE k ev)
theorem findA_enc (k : IntKind) (ev : β → AV) (t : Int) : ∀ (m : List (Int × β)) (i : Nat), findA (.lit (.int k t)) (encM k ev m) i = .ok ((findP t m i).map fun p => (p.1, ev p.2))
  | [], _ => rfl
  | (q, b) :: r, i => by
    have ih := findA_enc k ev t r (i + 1)
    simp only [encM, List.map_cons, encE, findA, mapKeyEq, if_true, findP] at ih ⊢
    by_cases h : t = q
    · subst h; simp
    · have : (t == q) = false := by simpa using h
      simp only [this, if_neg h, Bool.false_eq_true, if_false]
      exact ih
end

/-! Boxes. -/
section
variable {st st' : St} {id q : Nat}

theorem getM_lt {es : List (AV × AV)} (h : st.getM id = some es) : id < st.boxes.length := by
  unfold St.getM at h
  split at h
  · rename_i hb
    exact (List.getElem?_eq_some_iff.1 hb).1
  · cases h
theorem get_at (h : st'.boxes[id]? = st.boxes[id]?) : st'.get id = st.get id := by unfold St.get; rw [h]
theorem getM_at (h : st'.boxes[id]? = st.boxes[id]?) : st'.getM id = st.getM id := by unfold St.getM; rw [h]
theorem getB_at (h : st'.boxes[id]? = st.boxes[id]?) : st'.getB id = st.getB id := by unfold St.getB; rw [h]
theorem set_at {cs : List AV} (h : id ≠ q) : (st.set q cs).boxes[id]? = st.boxes[id]? := by simp [St.set, List.getElem?_set_ne (fun e => h e.symm)]
theorem setM_at {es : List (AV × AV)} {bs : List Nat} {c : Nat} (h : id ≠ q) : (st.setM q es bs c).boxes[id]? = st.boxes[id]? := by simp [St.setM, List.getElem?_set_ne (fun e => h e.symm)]
theorem push_at {b : Box} (h : id < st.boxes.length) : (st.push b).boxes[id]? = st.boxes[id]? := by simp [St.push, List.getElem?_append_left h]
theorem getM_setM {es : List (AV × AV)} {bs : List Nat} {c : Nat} (h : id < st.boxes.length) : (st.setM id es bs c).getM id = some es := by simp [St.setM, St.getM, h]
theorem getB_setM {es : List (AV × AV)} {bs : List Nat} {c : Nat} (h : id < st.boxes.length) : (st.setM id es bs c).getB id = (bs, c) := by simp [St.setM, St.getB, h]
theorem get_mt {es : List (AV × AV)} (h : st.getM id = some es) : st.get id = none := by
  unfold St.getM at h; unfold St.get
  split at h
  · rename_i hb; simp [hb]
  · cases h
end

/-- All boxes but some are as they were. -/
def Oth (st st' : St) (S : List Nat) : Prop := st'.boxes.length = st.boxes.length ∧ ∀ id, id ∉ S → st'.boxes[id]? = st.boxes[id]?
theorem Oth.refl (st : St) (S : List Nat) : Oth st st S := ⟨rfl, fun _ _ => rfl⟩
theorem Oth.trans {a b c : St} {S : List Nat} (h : Oth a b S) (k : Oth b c S) : Oth a c S := ⟨k.1.trans h.1, fun id hid => (k.2 id hid).trans (h.2 id hid)⟩
theorem Oth.mono {a b : St} {S S' : List Nat} (h : Oth a b S) (hs : ∀ x ∈ S, x ∈ S') : Oth a b S' := ⟨h.1, fun id hid => h.2 id fun e => hid (hs id e)⟩
theorem Oth.set (st : St) (q : Nat) (cs : List AV) {S : List Nat} (h : q ∈ S) : Oth st (st.set q cs) S := ⟨len_set .., fun id hid => set_at fun e => hid (e ▸ h)⟩
theorem Oth.get {a b : St} {S : List Nat} (h : Oth a b S) {id : Nat} (hid : id ∉ S) : b.get id = a.get id := get_at (h.2 id hid)
theorem Oth.getM {a b : St} {S : List Nat} (h : Oth a b S) {id : Nat} (hid : id ∉ S) : b.getM id = a.getM id := getM_at (h.2 id hid)

section
variable {β : Type}

/-- A map lies in a box. -/
structure MapIs (st : St) (id : Nat) (k : IntKind) (ev : β → AV) (m : List (Int × β)) : Prop where
  get : st.getM id = some (encM k ev m)
  nd : (keysP m).Nodup
  bl : (st.getB id).1.length = m.length
  bn : (st.getB id).1.Nodup
  bc : ∀ b ∈ (st.getB id).1, b < (st.getB id).2

variable {st st' : St} {id : Nat} {k : IntKind} {ev : β → AV} {m : List (Int × β)}

theorem MapIs.lt (h : MapIs st id k ev m) : id < st.boxes.length := getM_lt h.get
theorem MapIs.at (h : MapIs st id k ev m) (hb : st'.boxes[id]? = st.boxes[id]?) : MapIs st' id k ev m := by
  refine ⟨(getM_at hb).trans h.get, h.nd, ?_, ?_, ?_⟩ <;> rw [getB_at hb]
  · exact h.bl
  · exact h.bn
  · exact h.bc
theorem MapIs.oth {S : List Nat} (h : MapIs st id k ev m) (ho : Oth st st' S) (hid : id ∉ S) : MapIs st' id k ev m := h.at (ho.2 id hid)
theorem MapIs.set (h : MapIs st id k ev m) {q : Nat} {cs : List AV} (hq : id ≠ q) : MapIs (st.set q cs) id k ev m := h.at (set_at hq)
theorem MapIs.push (h : MapIs st id k ev m) (b : Box) : MapIs (st.push b) id k ev m := h.at (push_at h.lt)
theorem MapIs.ne (h : MapIs st id k ev m) {q : Nat} {cs : List AV} (hq : st.get q = some cs) : id ≠ q := by
  rintro rfl
  rw [get_mt h.get] at hq; cases hq

theorem lookI_enc (h : MapIs st id k ev m) {z : AV} {ok : Bool} {t : Int} : lookupI (.int k) z ok st (.map id) (.lit (.int k t)) = .ok (match lookP t m with
    | some b => if ok then .tup [(ev b).dis, .lit (.bool true)] else (ev b).dis
    | none => if ok then .tup [z, .lit (.bool false)] else z) := by
  have hk : keyI (.int k) (.lit (.int k t)) = true := by simp [keyI]
  unfold lookupI
  rw [if_pos hk]
  simp only [h.get, Res.ofOpt, Res.bind, findA_enc]
  rw [← findP_look t m 0]
  cases findP t m 0 <;> rfl

theorem upd_step (h : MapIs st id k ev m) {t : Int} {b : β} {x : AV} (hx : x.solid = true) (hd : x.dis = ev b) {K : Sf → St → Prop} {sf : Sf}
    (hK : ∀ st', MapIs st' id k ev (updP t b m) → Oth st st' [id] → K sf st') : updX false (.int k) (.map id) (.lit (.int k t)) x K sf st := by
  refine ⟨by simp [keyI], rfl, hx, ?_⟩
  have hlt := h.lt
  simp only [h.get, Res.ofOpt, Res.wp, findA_enc, hd]
  have hu := findP_upd (encE k ev) t b m 0
  cases hf : findP t m 0 with
  | none =>
    rw [hf] at hu
    simp only [Option.map_none, St.updM, updA]
    have hno : lookP t m = none := by rw [← findP_look t m 0, hf]; rfl
    refine hK _ ⟨?_, nodup_upd h.nd, ?_, ?_, ?_⟩ ⟨by simp [St.setM], fun q hq => setM_at (by simpa using hq)⟩
    · rw [getM_setM hlt]; exact congrArg some hu.1
    · rw [getB_setM hlt, len_upd, hno]; simp [h.bl]
    · rw [getB_setM hlt]
      refine List.nodup_append.2 ⟨h.bn, by simp, fun x hx y hy e => ?_⟩
      simp only [List.mem_singleton] at hy
      subst hy; subst e
      exact Nat.lt_irrefl _ (h.bc _ hx)
    · rw [getB_setM hlt]
      intro b hb
      simp only [List.mem_append, List.mem_singleton] at hb
      rcases hb with hb | rfl
      · have := h.bc b hb; simp only; omega
      · simp
  | some p =>
    obtain ⟨j, c⟩ := p
    rw [hf] at hu
    simp only [Nat.sub_zero] at hu
    simp only [Option.map_some, St.updM, updA]
    have hyes : (lookP t m).isSome = true := by rw [← findP_look t m 0, hf]; rfl
    refine hK _ ⟨?_, nodup_upd h.nd, ?_, ?_, ?_⟩ ⟨by simp [St.setM], fun q hq => setM_at (by simpa using hq)⟩
    · rw [getM_setM hlt]; exact congrArg some hu.2.1
    · rw [getB_setM hlt, len_upd, if_pos hyes]; exact h.bl
    · rw [getB_setM hlt]; exact h.bn
    · rw [getB_setM hlt]; exact h.bc

theorem del_step (h : MapIs st id k ev m) {t : Int} {K : Sf → St → Prop} {sf : Sf}
    (hK : ∀ st', MapIs st' id k ev (delP t m) → Oth st st' [id] → K sf st') : delX false (.int k) (.map id) (.lit (.int k t)) K sf st := by
  refine ⟨by simp [keyI], rfl, ?_⟩
  have hlt := h.lt
  simp only [h.get, Res.ofOpt, Res.wp, findA_enc]
  cases hf : findP t m 0 with
  | none =>
    have hu : delP t m = m := by
      have : ∀ (m : List (Int × β)) (i : Nat), findP t m i = none → delP t m = m := by
        intro m
        induction m with
        | nil => intro i _; rfl
        | cons p r ih =>
          obtain ⟨k, c⟩ := p
          intro i h
          simp only [findP] at h
          simp only [delP]
          split at h
          · cases h
          · rename_i hne; rw [if_neg hne, ih (i + 1) h]
      exact this m 0 hf
    simp only [Option.map_none]
    exact hK _ (by rw [hu]; exact h) (Oth.refl _ _)
  | some p =>
    obtain ⟨j, c⟩ := p
    have hu := findP_upd (encE k ev) t c m 0
    rw [hf] at hu
    simp only [Nat.sub_zero] at hu
    simp only [Option.map_some, St.delM]
    have hyes : (lookP t m).isSome = true := by rw [← findP_look t m 0, hf]; rfl
    refine hK _ ⟨?_, nodup_del h.nd, ?_, ?_, ?_⟩ ⟨by simp [St.setM], fun q hq => setM_at (by simpa using hq)⟩
    · rw [getM_setM hlt]; exact congrArg some hu.2.2.1
    · rw [getB_setM hlt, len_del, if_pos hyes]
      simp only [List.length_eraseIdx, h.bl, if_pos hu.2.2.2]
    · rw [getB_setM hlt]; exact h.bn.sublist (List.eraseIdx_sublist ..)
    · rw [getB_setM hlt]; exact fun b hb => h.bc b (List.mem_of_mem_eraseIdx hb)

theorem lenI_enc (h : MapIs st id k ev m) : lenI .mp st (.map id) = .ok (.lit (.int .i64 m.length)) := by
  simp only [lenI, h.get, Res.ofOpt, Res.bind, encM, List.length_map]

theorem MapIs.new (st : St) (k : IntKind) (ev : β → AV) : MapIs (st.push (.mp [] [] 0)) st.boxes.length k ev [] := by
  refine ⟨getM_push .., by simp [keysP], ?_, ?_, ?_⟩ <;> rw [getB_push] <;> simp
end

/-- A function that only reads. -/
theorem pcalls_id {P : Program} {X : Cx} {f : FuncId} {fn : AFun} {vs : List AV} {st : St} (hmix : P.follows .mixedOrders = true) (hf : compF P X f = some fn) (hX : X.F = id) (hlen : Nat.ble vs.length fn.n = true) {v0 : AV} (h : ∀ Q : AV → St → Prop, (∀ st', Q v0 st') → aFun P id true fn vs st Q) : PCalls P f vs st v0 := by
  refine pcalls_of hmix hf (Nat.le_of_ble_eq_true hlen) ?_
  rw [hX]; exact h _ fun _ => rfl
end Go.Fx

/- Linked nodes in a map: a queue (plain lists; no program in sight). -/
namespace Go.Fx
open Go

/-- Value, before, next. -/
abbrev Nd := Int × Nat × Nat
abbrev Qu := List (Nat × Int)
def nxtOf : Qu → Nat → Nat
  | [], h => h
  | (x, _) :: _, _ => x
def lastT : Nat → Qu → Nat
  | p, [] => p
  | _, (t, _) :: r => lastT t r
def nodeA : Nat → Qu → Nat → Nat → Option Nd
  | _, [], _, _ => none
  | p, (u, v) :: r, h, t => if t = u then some (v, p, nxtOf r h) else nodeA u r h t
def ticks (L : Qu) : List Nat := L.map Prod.fst

theorem nodeA_app (B : Qu) (h t : Nat) : ∀ (A : Qu) (p : Nat), nodeA p (A ++ B) h t = match nodeA p A (nxtOf B h) t with | some x => some x | none => nodeA (lastT p A) B h t
  | [], p => rfl
  | (u, v) :: A, p => by
    simp only [List.cons_append, nodeA, lastT]
    split
    · cases A <;> rfl
    · exact nodeA_app B h t A u
theorem nodeA_none {h t : Nat} : ∀ {L : Qu} {p : Nat}, t ∉ ticks L → nodeA p L h t = none
  | [], _, _ => rfl
  | (u, v) :: r, p, hn => by
    simp only [ticks, List.map_cons, List.mem_cons, not_or] at hn
    simp only [nodeA]
    rw [if_neg hn.1]
    exact nodeA_none hn.2
theorem last_mem : ∀ {L : Qu} {p : Nat}, L ≠ [] → lastT p L ∈ ticks L
  | [(t, v)], p, _ => by simp [lastT, ticks]
  | (t, v) :: y :: r, p, _ => by
    have := last_mem (L := y :: r) (p := t) (by simp)
    simp only [lastT, ticks, List.map_cons, List.mem_cons] at this ⊢
    exact .inr this
theorem last_app (B : Qu) : ∀ (A : Qu) (p : Nat), lastT p (A ++ B) = lastT (lastT p A) B
  | [], _ => rfl
  | (t, v) :: A, p => last_app B A t
theorem last_ne {L : Qu} {p p' : Nat} (h : L ≠ []) : lastT p L = lastT p' L := by
  cases L with
  | nil => exact absurd rfl h
  | cons x r => rfl

/-- What follows behind the last one changes. -/
theorem nodeA_h {h h' t : Nat} : ∀ {L : Qu} {p : Nat}, (ticks L).Nodup → L ≠ [] → nodeA p L h' t = if t = lastT p L then (nodeA p L h t).map (fun x => (x.1, x.2.1, h')) else nodeA p L h t
  | [(u, v)], p, _, _ => by
    simp only [nodeA, lastT, nxtOf]
    by_cases e : t = u
    · simp [e]
    · simp [e]
  | (u, v) :: (u2, v2) :: r, p, hn, _ => by
    have ih := nodeA_h (h := h) (h' := h') (t := t) (L := (u2, v2) :: r) (p := u) (List.nodup_cons.1 hn).2 (by simp)
    have hl := last_mem (L := (u2, v2) :: r) (p := u) (by simp)
    have hne : u ≠ lastT u ((u2, v2) :: r) := fun e => (List.nodup_cons.1 hn).1 (by rw [e]; exact hl)
    have e0 : ∀ q, nodeA p ((u, v) :: (u2, v2) :: r) q t = if t = u then some (v, p, u2) else nodeA u ((u2, v2) :: r) q t := fun q => rfl
    rw [e0, e0, show lastT p ((u, v) :: (u2, v2) :: r) = lastT u ((u2, v2) :: r) from rfl]
    by_cases e : t = u
    · subst e; rw [if_pos rfl, if_pos rfl, if_neg hne]
    · rw [if_neg e, if_neg e]; exact ih
/-- What lies before the first one changes. -/
theorem nodeA_p {h t p p' : Nat} {u : Nat} {v : Int} {r : Qu} (hn : (ticks ((u, v) :: r)).Nodup) : nodeA p' ((u, v) :: r) h t = if t = u then (nodeA p ((u, v) :: r) h t).map (fun x => (x.1, p', x.2.2)) else nodeA p ((u, v) :: r) h t := by
  simp only [nodeA]
  by_cases e : t = u
  · simp [e]
  · simp [e]

theorem nodeA_push {L : Qu} {u : Nat} {v : Int} {t : Nat} (hn : (ticks L).Nodup) (hu : u ∉ ticks L) (hL : L ≠ []) :
    nodeA 0 (L ++ [(u, v)]) 0 t = if t = lastT 0 L then (nodeA 0 L 0 t).map (fun x => (x.1, x.2.1, u)) else if t = u then some (v, lastT 0 L, 0) else nodeA 0 L 0 t := by
  rw [nodeA_app]
  simp only [nxtOf, nodeA]
  have hl := last_mem (p := 0) hL
  rw [nodeA_h (h := 0) hn hL]
  by_cases e : t = lastT 0 L
  · rw [if_pos e, if_pos e]
    cases hx : nodeA 0 L 0 t with
    | some x => rfl
    | none =>
      exfalso
      have : ∀ (L : Qu) (p : Nat), t ∈ ticks L → nodeA p L 0 t ≠ none := by
        intro L
        induction L with
        | nil => intro p h; simp [ticks] at h
        | cons y r ih =>
          obtain ⟨a, b⟩ := y
          intro p h
          simp only [nodeA]
          split
          · simp
          · rename_i hne
            simp only [ticks, List.map_cons, List.mem_cons] at h
            exact ih a (h.resolve_left hne)
      exact this L 0 (e ▸ hl) hx
  · rw [if_neg e, if_neg e]
    by_cases e2 : t = u
    · subst e2; rw [nodeA_none hu]
      try simp
    · simp only [if_neg e2]
      cases nodeA 0 L 0 t <;> rfl

theorem nodeA_del {A B : Qu} {u : Nat} {v : Int} {t : Nat} (hn : (ticks (A ++ (u, v) :: B)).Nodup) :
    nodeA 0 (A ++ B) 0 t = if t = u then none else
      if A ≠ [] ∧ t = lastT 0 A then (nodeA 0 (A ++ (u, v) :: B) 0 t).map (fun x => (x.1, x.2.1, nxtOf B 0)) else
      if B ≠ [] ∧ t = nxtOf B 0 then (nodeA 0 (A ++ (u, v) :: B) 0 t).map (fun x => (x.1, lastT 0 A, x.2.2)) else nodeA 0 (A ++ (u, v) :: B) 0 t := by
  have h1 : (ticks A).Nodup ∧ (ticks ((u, v) :: B)).Nodup ∧ ∀ x ∈ ticks A, ∀ y ∈ ticks ((u, v) :: B), x ≠ y := by
    simp only [ticks, List.map_append] at hn
    exact List.nodup_append.1 hn
  obtain ⟨hA, hB0, hAB⟩ := h1
  have hB := List.nodup_cons.1 hB0
  have hu : u ∉ ticks A := fun e => hAB u e u (by simp [ticks]) rfl
  rw [nodeA_app, nodeA_app, show nxtOf ((u, v) :: B) 0 = u from rfl]
  by_cases e : t = u
  · subst e
    rw [if_pos rfl, nodeA_none hu]
    exact nodeA_none hB.1
  · rw [if_neg e]
    have e1 : nodeA (lastT 0 A) ((u, v) :: B) 0 t = nodeA u B 0 t := by simp only [nodeA]; rw [if_neg e]
    rw [e1]
    by_cases hAe : A = []
    · subst hAe
      simp only [nodeA, lastT, ne_eq, not_true_eq_false, false_and, if_false]
      cases B with
      | nil => simp [nodeA]
      | cons y r =>
        obtain ⟨w, z⟩ := y
        rw [nodeA_p (p := u) (p' := 0) hB.2]
        simp [show nxtOf ((w, z) :: r) 0 = w from rfl]
    · rw [nodeA_h (h := u) (h' := nxtOf B 0) hA hAe]
      by_cases e2 : t = lastT 0 A
      · have hin : t ∈ ticks A := e2 ▸ last_mem hAe
        rw [if_pos e2, if_pos ⟨hAe, e2⟩]
        cases hx : nodeA 0 A u t with
        | some x => rfl
        | none =>
          have hnb : t ∉ ticks B := fun hb => hAB t hin t (by simp only [ticks, List.map_cons, List.mem_cons]; exact .inr hb) rfl
          simp only [Option.map_none, nodeA_none hnb]
      · rw [if_neg e2, if_neg (fun q => e2 q.2)]
        cases B with
        | nil => simp [nodeA]
        | cons y r =>
          obtain ⟨w, z⟩ := y
          rw [nodeA_p (p := u) (p' := lastT 0 A) hB.2]
          simp only [show nxtOf ((w, z) :: r) 0 = w from rfl, ne_eq, reduceCtorEq, not_false_eq_true, true_and]
          by_cases e3 : t = w
          · have hna : t ∉ ticks A := fun ha => hAB t ha t (by simp [ticks, e3]) rfl
            rw [if_pos e3, if_pos e3, nodeA_none hna]
          · rw [if_neg e3, if_neg e3]

theorem nodeA_at {A B : Qu} {u : Nat} {v : Int} (hu : u ∉ ticks A) : nodeA 0 (A ++ (u, v) :: B) 0 u = some (v, lastT 0 A, nxtOf B 0) := by
  rw [nodeA_app, nodeA_none hu]
  simp [nodeA]

def ndAV (x : Nd) : AV := .agg [.lit (.int .i64 x.1), .lit (.int .u64 (x.2.1 : Nat)), .lit (.int .u64 (x.2.2 : Nat))]
theorem ndAV_dis (x : Nd) : (ndAV x).dis = ndAV x := rfl

/-- A queue lies in the boxes q and mid. -/
structure QIs (st : St) (q mid : Nat) (L : Qu) (g : Nat) : Prop where
  get : st.get q = some [.lit (.int .u64 (nxtOf L 0 : Nat)), .lit (.int .u64 (lastT 0 L : Nat)), .lit (.int .u64 (g : Nat)), .map mid]
  mp : ∃ m, MapIs st mid .u64 ndAV m ∧ (∀ t : Nat, lookP t m = nodeA 0 L 0 t) ∧ m.length = L.length
  srt : (ticks L).Pairwise (· < ·)
  pos : ∀ t ∈ ticks L, 0 < t ∧ t ≤ g

theorem QIs.nd {st : St} {q mid g : Nat} {L : Qu} (h : QIs st q mid L g) : (ticks L).Nodup := h.srt.imp fun h => Nat.ne_of_lt h
theorem QIs.ne {st : St} {q mid g : Nat} {L : Qu} (h : QIs st q mid L g) : mid ≠ q := by
  obtain ⟨m, hm, _⟩ := h.mp
  exact hm.ne h.get
theorem QIs.ltq {st : St} {q mid g : Nat} {L : Qu} (h : QIs st q mid L g) : q < st.boxes.length := get_lt h.get
theorem QIs.ltm {st : St} {q mid g : Nat} {L : Qu} (h : QIs st q mid L g) : mid < st.boxes.length := by
  obtain ⟨m, hm, _⟩ := h.mp
  exact hm.lt
theorem QIs.at {st st' : St} {q mid g : Nat} {L : Qu} (h : QIs st q mid L g) (h1 : st'.boxes[q]? = st.boxes[q]?) (h2 : st'.boxes[mid]? = st.boxes[mid]?) : QIs st' q mid L g := by
  obtain ⟨m, hm, h3, h4⟩ := h.mp
  exact ⟨(get_at h1).trans h.get, ⟨m, hm.at h2, h3, h4⟩, h.srt, h.pos⟩
theorem QIs.oth {st st' : St} {q mid g : Nat} {L : Qu} {S : List Nat} (h : QIs st q mid L g) (ho : Oth st st' S) (h1 : q ∉ S) (h2 : mid ∉ S) : QIs st' q mid L g := h.at (ho.2 _ h1) (ho.2 _ h2)
theorem QIs.nil_iff {st : St} {q mid g : Nat} {L : Qu} (h : QIs st q mid L g) : (nxtOf L 0 = 0 ↔ L = []) ∧ (lastT 0 L = 0 ↔ L = []) := by
  cases L with
  | nil => simp [nxtOf, lastT]
  | cons x r =>
    obtain ⟨t, v⟩ := x
    have h1 := h.pos t (by simp [ticks])
    have h2 := h.pos _ (last_mem (L := (t, v) :: r) (p := 0) (by simp))
    simp only [nxtOf, reduceCtorEq, iff_false]
    omega

theorem nodeA_some {t : Nat} : ∀ {L : Qu} {p : Nat}, t ∈ ticks L → ∃ x, nodeA p L 0 t = some x
  | (u, v) :: r, p, h => by
    simp only [nodeA]
    split
    · exact ⟨_, rfl⟩
    · rename_i hne
      simp only [ticks, List.map_cons, List.mem_cons] at h
      exact nodeA_some (h.resolve_left hne)
theorem ticks_app (A B : Qu) : ticks (A ++ B) = ticks A ++ ticks B := by simp [ticks]
theorem QIs.le {st : St} {q mid g : Nat} {L : Qu} (h : QIs st q mid L g) {t : Nat} (ht : t ∈ ticks L) : 0 < t ∧ t ≤ g := h.pos t ht

/-- A value more. -/
theorem QIs.push {st st' : St} {q mid g : Nat} {L : Qu} {v : Int} (h : QIs st q mid L g) {m' : List (Int × Nd)} (hg : st'.get q = some [.lit (.int .u64 (nxtOf (L ++ [(g + 1, v)]) 0 : Nat)), .lit (.int .u64 ((g + 1 : Nat))), .lit (.int .u64 ((g + 1 : Nat))), .map mid])
    (hm : MapIs st' mid .u64 ndAV m') (hl : ∀ t : Nat, lookP t m' = nodeA 0 (L ++ [(g + 1, v)]) 0 t) (hn : m'.length = L.length + 1) : QIs st' q mid (L ++ [(g + 1, v)]) (g + 1) := by
  refine ⟨by rw [last_app]; exact hg, ⟨m', hm, hl, by simp [hn]⟩, ?_, fun t ht => ?_⟩
  · rw [ticks_app]
    refine List.pairwise_append.2 ⟨h.srt, by simp [ticks], fun x hx y hy => ?_⟩
    simp only [ticks, List.map_cons, List.map_nil, List.mem_singleton] at hy
    have := (h.pos x hx).2
    omega
  · rw [ticks_app] at ht
    rcases List.mem_append.1 ht with ht | ht
    · have := h.pos t ht; omega
    · simp only [ticks, List.map_cons, List.map_nil, List.mem_singleton] at ht
      omega
theorem QIs.fresh {st : St} {q mid g : Nat} {L : Qu} (h : QIs st q mid L g) : g + 1 ∉ ticks L := fun e => by have := (h.pos _ e).2; omega

/-- A value less. -/
theorem QIs.del {st st' : St} {q mid g : Nat} {A B : Qu} {t : Nat} {v : Int} (h : QIs st q mid (A ++ (t, v) :: B) g) {m' : List (Int × Nd)} (hg : st'.get q = some [.lit (.int .u64 (nxtOf (A ++ B) 0 : Nat)), .lit (.int .u64 (lastT 0 (A ++ B) : Nat)), .lit (.int .u64 (g : Nat)), .map mid])
    (hm : MapIs st' mid .u64 ndAV m') (hl : ∀ t : Nat, lookP t m' = nodeA 0 (A ++ B) 0 t) (hn : m'.length = (A ++ B).length) : QIs st' q mid (A ++ B) g := by
  have hsub : (ticks (A ++ B)).Sublist (ticks (A ++ (t, v) :: B)) := by
    simp only [ticks_app]
    exact List.Sublist.append (List.Sublist.refl _) (List.sublist_cons_self _ _)
  exact ⟨hg, ⟨m', hm, hl, hn⟩, h.srt.sublist hsub, fun x hx => h.pos x (hsub.subset hx)⟩
end Go.Fx

/- A channel's state: plain lists, and where they lie. -/
namespace Go.Fx
open Go

/-- Ticket, task, value. -/
abbrev W3 := Nat × Int × Int
structure ChP where
  closed : Bool
  cap : Nat
  buf : List Int
  S : List W3
  V : List W3
  g0 : Nat
  g1 : Nat
def qOf (l : List W3) : Qu := l.map fun x => (x.1, x.2.1)
def wEnt (d : Int) (l : List W3) : List (Int × (Int × Int × Nat)) := l.map fun x => (x.2.1, (d, x.2.2, x.1))
def entC (S V : List W3) : List (Int × (Int × Int × Nat)) := wEnt 0 S ++ wEnt 1 V
def wtAV (x : Int × Int × Nat) : AV := .agg [.lit (.int .i64 x.1), .lit (.int .i64 x.2.1), .lit (.int .u64 (x.2.2 : Nat))]
def ints (l : List Int) : List AV := l.map fun v => .lit (.int .i64 v)
theorem ints_lits (l : List Int) : Lits (ints l) := fun x hx => by
  simp only [ints, List.mem_map] at hx
  obtain ⟨v, _, rfl⟩ := hx
  exact ⟨_, rfl⟩
theorem ints_len (l : List Int) : (ints l).length = l.length := by simp [ints]
theorem ints_app (l k : List Int) : ints (l ++ k) = ints l ++ ints k := by simp [ints]

theorem look_split {β : Type} {k : Int} {x : β} {B : List (Int × β)} : ∀ {A : List (Int × β)}, (keysP (A ++ (k, x) :: B)).Nodup → lookP k (A ++ (k, x) :: B) = some x ∧ ∀ t, lookP t (A ++ B) = if t = k then none else lookP t (A ++ (k, x) :: B)
  | [], h => by
    simp only [List.nil_append, keysP, List.map_cons, List.nodup_cons] at h
    refine ⟨by simp [lookP], fun t => ?_⟩
    by_cases e : t = k
    · subst e; rw [if_pos rfl]; exact look_none h.1
    · simp [lookP, e]
  | (a, b) :: A, h => by
    simp only [List.cons_append, keysP, List.map_cons, List.nodup_cons] at h
    obtain ⟨h1, h2⟩ := look_split (A := A) (B := B) (k := k) (x := x) h.2
    have hne : ¬ k = a := fun e => h.1 (by rw [← e]; simp)
    refine ⟨by simp only [List.cons_append, lookP]; rw [if_neg hne]; exact h1, fun t => ?_⟩
    simp only [List.cons_append, lookP]
    by_cases e : t = a
    · have e2 : ¬ t = k := fun q => hne (by rw [← q, e])
      rw [if_pos e, if_neg e2, if_pos e]
    · rw [if_neg e, if_neg e]; exact h2 t
theorem keys_app {β : Type} (A B : List (Int × β)) : keysP (A ++ B) = keysP A ++ keysP B := by simp [keysP]
theorem look_of_mem {β : Type} {k : Int} {m : List (Int × β)} : (lookP k m).isSome = decide (k ∈ keysP m) := by
  induction m with
  | nil => simp [lookP, keysP]
  | cons p r ih =>
    obtain ⟨a, b⟩ := p
    simp only [lookP, keysP, List.map_cons, List.mem_cons]
    by_cases e : k = a
    · simp [e]
    · simp only [if_neg e, e, false_or]; exact ih

/-- The boxes that a buffer lies in. -/
def bufIds : AV → List Nat
  | .bs id _ _ _ _ => [id]
  | _ => []

/-- A channel lies in its boxes. -/
structure ChIs (st : St) (c : Nat) (P : ChP) (q0 m0 q1 m1 wid : Nat) (bv : AV) : Prop where
  get : st.get c = some [.lit (.bool true), .lit (.bool P.closed), .lit (.int .i64 (P.cap : Nat)), bv, .ptr q0 0, .ptr q1 0, .map wid]
  buf : MB bv st (ints P.buf)
  s : QIs st q0 m0 (qOf P.S) P.g0
  r : QIs st q1 m1 (qOf P.V) P.g1
  w : ∃ W, MapIs st wid .i64 wtAV W ∧ ∀ t, lookP t W = lookP t (entC P.S P.V)
  ids : [c, q0, q1, m0, m1, wid].Nodup
  bid : ∀ x ∈ bufIds bv, x ∉ [c, q0, q1, m0, m1, wid]
  nd : (keysP (entC P.S P.V)).Nodup
  rng : ∀ t ∈ keysP (entC P.S P.V), 0 ≤ t ∧ t < 64
  zv : ∀ x ∈ P.V, x.2.2 = 0

/-- What a call leaves alone. -/
def Kp (st st' : St) (F : List Nat) : Prop := st.boxes.length ≤ st'.boxes.length ∧ ∀ id, id < st.boxes.length → id ∉ F → st'.boxes[id]? = st.boxes[id]?
theorem Kp.refl (st : St) (F : List Nat) : Kp st st F := ⟨Nat.le_refl _, fun _ _ _ => rfl⟩
theorem Kp.trans {a b c : St} {F F' : List Nat} (h : Kp a b F) (k : Kp b c F') (hf : ∀ x ∈ F', x ∈ F ∨ a.boxes.length ≤ x) : Kp a c F :=
  ⟨Nat.le_trans h.1 k.1, fun id hid hn => (k.2 id (Nat.lt_of_lt_of_le hid h.1) fun e => (hf id e).elim hn (fun q => by omega)).trans (h.2 id hid hn)⟩
theorem Oth.kp {st st' : St} {S F : List Nat} (h : Oth st st' S) (hs : ∀ x ∈ S, x ∈ F) : Kp st st' F := ⟨Nat.le_of_eq h.1.symm, fun id _ hn => h.2 id fun e => hn (hs id e)⟩

theorem MB.at {v : AV} {st st' : St} {l : List AV} (h : MB v st l) (hb : ∀ x ∈ bufIds v, st'.boxes[x]? = st.boxes[x]?) : MB v st' l := by
  rcases h with ⟨rfl, rfl⟩ | ⟨id, cap, r, rfl, hg, h1, h2⟩
  · exact .inl ⟨rfl, rfl⟩
  · exact .inr ⟨id, cap, r, rfl, (get_at (hb id (by simp [bufIds]))).trans hg, h1, h2⟩
theorem MB.lt {v : AV} {st : St} {l : List AV} (h : MB v st l) : ∀ x ∈ bufIds v, x < st.boxes.length := by
  rcases h with ⟨rfl, rfl⟩ | ⟨id, cap, r, rfl, hg, h1, h2⟩
  · simp [bufIds]
  · intro x hx
    simp only [bufIds, List.mem_singleton] at hx
    subst hx
    exact get_lt hg

section
variable {st st' : St} {c q0 m0 q1 m1 wid : Nat} {bv : AV} {P : ChP}

theorem ChIs.lts (h : ChIs st c P q0 m0 q1 m1 wid bv) : ∀ x ∈ [c, q0, q1, m0, m1, wid] ++ bufIds bv, x < st.boxes.length := by
  obtain ⟨W, hW, _⟩ := h.w
  intro x hx
  simp only [List.mem_append, List.mem_cons, List.not_mem_nil, or_false] at hx
  rcases hx with (rfl | rfl | rfl | rfl | rfl | rfl) | hx
  · exact get_lt h.get
  · exact h.s.ltq
  · exact h.r.ltq
  · exact h.s.ltm
  · exact h.r.ltm
  · exact hW.lt
  · exact h.buf.lt x hx
theorem ChIs.kp (h : ChIs st c P q0 m0 q1 m1 wid bv) {F : List Nat} (hk : Kp st st' F) (hf : ∀ x ∈ [c, q0, q1, m0, m1, wid] ++ bufIds bv, x ∉ F) : ChIs st' c P q0 m0 q1 m1 wid bv := by
  have hat : ∀ x ∈ [c, q0, q1, m0, m1, wid] ++ bufIds bv, st'.boxes[x]? = st.boxes[x]? := fun x hx => hk.2 x (h.lts x hx) (hf x hx)
  obtain ⟨W, hW, hl⟩ := h.w
  exact ⟨(get_at (hat c (by simp))).trans h.get, h.buf.at fun x hx => hat x (by simp only [List.mem_append]; exact .inr hx), h.s.at (hat _ (by simp)) (hat _ (by simp)), h.r.at (hat _ (by simp)) (hat _ (by simp)), ⟨W, hW.at (hat _ (by simp)), hl⟩, h.ids, h.bid, h.nd, h.rng, h.zv⟩
end

/-- A buffer is appended to. -/
theorem MB.grow {v : AV} {st : St} {l new : List AV} {bytes : Nat} {C : AV → St → Prop} (h : MB v st l) (hl : Lits l) (hn : Lits new) (hr : roomB (l.length + new.length) bytes = true)
    (hC : ∀ v' st', MB v' st' (l ++ new) → Kp st st' (bufIds v) → (∀ x ∈ bufIds v', x ∈ bufIds v ∨ st.boxes.length ≤ x) → C v' st') : appX false 1 bytes v C st new := by
  rcases h with ⟨rfl, rfl⟩ | ⟨id, cap, r, rfl, hg, h1, h2⟩
  · refine ⟨rfl, by simpa using hr, ?_⟩
    split
    · rename_i h
      have : new = [] := by simpa using h
      subst this
      exact hC _ _ (.inl ⟨rfl, rfl⟩) (Kp.refl _ _) (by simp [bufIds])
    · intro c hc
      refine hC _ _ (.inr ⟨st.boxes.length, c, List.replicate (c - new.length) .any, by simp, ?_, by simpa using hc, by simp; omega⟩) ⟨by simp [St.push], fun id hid _ => push_at hid⟩ (by simp [bufIds])
      rw [hn.cellsD]
      simp only [List.nil_append, Nat.mul_one]
      exact get_push st _
  · refine ⟨rfl, rfl, hr, ?_⟩
    rw [hg]
    show (Res.ok _).wp _
    rw [wp_ok, hn.cellsD]
    have hid := get_lt hg
    split
    · rename_i hc
      refine ⟨by omega, hC _ _ (.inr ⟨id, cap, r.drop new.length, by simp, ?_, by simpa using hc, ?_⟩) ⟨by simp [St.set], fun id' _ hne => set_at (by simpa [bufIds] using hne)⟩ (by simp [bufIds])⟩
      · rw [get_set hid, Nat.zero_add, Nat.mul_one, setAt_at rfl (by simp at h2; omega)]
        simp
      · simp at h2 ⊢; omega
    · rename_i hc
      have e : List.map AV.own1 (List.take (l.length * 1) (List.drop 0 (l ++ r))) = l := by simp [hl.own]
      refine ⟨by simp, fun c hc => hC _ _ (.inr ⟨st.boxes.length, c, List.replicate (c - (l.length + new.length)) .any, by simp, ?_, by simpa using hc, by simp; omega⟩) ⟨by simp [St.push], fun id' hid' _ => push_at hid'⟩ (by simp [bufIds])⟩
      rw [e]
      simp only [Nat.mul_one]
      exact get_push st _

/-! What calls do. -/
abbrev It := Int × Int × Int  -- task, value, error
def itAV (x : It) : AV := .agg [.lit (.int .i64 x.1), .lit (.int .i64 0), .lit (.int .i64 x.2.1), .lit (.int .i64 x.2.2)]
def itsAV (l : List It) : AV := if l = [] then .lit (.slice none 0 0) else .sl false 4 (l.map itAV)
theorem itsAV_facts (l : List It) : (itsAV l).dis = itsAV l ∧ (itsAV l).own1 = itsAV l ∧ (itsAV l).own2 = itsAV l ∧ (itsAV l).solid1 = true ∧ (itsAV l).noL = true ∧ (itsAV l).cells = [itsAV l] ∧ ∀ s, kill s (itsAV l) = itsAV l := by
  unfold itsAV; split <;> exact ⟨rfl, rfl, rfl, rfl, rfl, rfl, fun _ => rfl⟩
def pTrySend (P : ChP) (v : Int) : ChP × List It × Int :=
  if P.closed = true then (P, [], 14) else
  match P.V with
  | x :: l => ({ P with V := l }, [(x.2.1, v, 0)], 0)
  | [] => if P.buf.length < P.cap then ({ P with buf := P.buf ++ [v] }, [], 0) else (P, [], 16)

def foot (c q0 m0 q1 m1 wid : Nat) (bv : AV) : List Nat := [c, q0, q1, m0, m1, wid] ++ bufIds bv
def ChPost (st : St) (c : Nat) (P : ChP) (q0 m0 q1 m1 wid : Nat) (bv : AV) (st' : St) : Prop :=
  ∃ bv', ChIs st' c P q0 m0 q1 m1 wid bv' ∧ Kp st st' (foot c q0 m0 q1 m1 wid bv) ∧ ∀ x ∈ bufIds bv', x ∈ bufIds bv ∨ st.boxes.length ≤ x
theorem ChIs.post {st st' : St} {c q0 m0 q1 m1 wid : Nat} {bv : AV} {P : ChP} (h : ChIs st' c P q0 m0 q1 m1 wid bv) (hk : Kp st st' (foot c q0 m0 q1 m1 wid bv)) : ChPost st c P q0 m0 q1 m1 wid bv st' := ⟨bv, h, hk, fun _ h => .inl h⟩
theorem ChPost.trans {a b st' : St} {c q0 m0 q1 m1 wid : Nat} {bv bv1 : AV} {P : ChP} (hk : Kp a b (foot c q0 m0 q1 m1 wid bv)) (hb : ∀ x ∈ bufIds bv1, x ∈ bufIds bv ∨ a.boxes.length ≤ x) (h : ChPost b c P q0 m0 q1 m1 wid bv1 st') : ChPost a c P q0 m0 q1 m1 wid bv st' := by
  obtain ⟨bv', h1, h2, h3⟩ := h
  refine ⟨bv', h1, hk.trans h2 fun x hx => ?_, fun x hx => ?_⟩
  · simp only [foot, List.mem_append] at hx ⊢
    rcases hx with hx | hx
    · exact .inl (.inl hx)
    · exact (hb x hx).elim (fun e => .inl (.inr e)) .inr
  · rcases h3 x hx with h | h
    · exact hb x h
    · exact .inr (Nat.le_trans hk.1 h)

/-- The buffer has been written. -/
theorem ChIs.rebufC {st st1 : St} {c q0 m0 q1 m1 wid : Nat} {bv bv1 : AV} {P : ChP} {cl : Bool} {b' : List Int} (h : ChIs st c P q0 m0 q1 m1 wid bv) (hm : MB bv1 st1 (ints b')) (hk : Kp st st1 (bufIds bv)) (hb : ∀ x ∈ bufIds bv1, x ∈ bufIds bv ∨ st.boxes.length ≤ x) :
    ChIs (st1.set c [.lit (.bool true), .lit (.bool cl), .lit (.int .i64 (P.cap : Nat)), bv1, .ptr q0 0, .ptr q1 0, .map wid]) c { P with buf := b', closed := cl } q0 m0 q1 m1 wid bv1 ∧
    Kp st (st1.set c [.lit (.bool true), .lit (.bool cl), .lit (.int .i64 (P.cap : Nat)), bv1, .ptr q0 0, .ptr q1 0, .map wid]) (foot c q0 m0 q1 m1 wid bv) := by
  have hlt := h.lts
  have hids := h.ids
  have hbid := h.bid
  have hcl : c < st1.boxes.length := Nat.lt_of_lt_of_le (hlt c (by simp)) hk.1
  simp only [List.nodup_cons, List.mem_cons, List.not_mem_nil, or_false, not_or] at hids
  have hat : ∀ x ∈ [q0, q1, m0, m1, wid], (st1.set c [.lit (.bool true), .lit (.bool cl), .lit (.int .i64 (P.cap : Nat)), bv1, .ptr q0 0, .ptr q1 0, .map wid]).boxes[x]? = st.boxes[x]? := by
    intro x hx
    rw [set_at (by simp at hx; omega)]
    refine hk.2 x (hlt x (by simp at hx ⊢; omega)) fun e => ?_
    exact hbid x e (by simp at hx ⊢; omega)
  have hbc : ∀ x ∈ bufIds bv1, x ∉ [c, q0, q1, m0, m1, wid] := by
    intro x hx hin
    rcases hb x hx with e | e
    · exact hbid x e hin
    · have := hlt x (List.mem_append_left _ hin); omega
  obtain ⟨W, hW, hl⟩ := h.w
  refine ⟨⟨get_set hcl, hm.at fun x hx => set_at fun e => hbc x hx (by simp [e]), h.s.at (hat _ (by simp)) (hat _ (by simp)), h.r.at (hat _ (by simp)) (hat _ (by simp)), ⟨W, hW.at (hat _ (by simp)), hl⟩, h.ids, hbc, h.nd, h.rng, h.zv⟩, ⟨by rw [len_set]; exact hk.1, fun x hx hn => ?_⟩⟩
  simp only [foot, List.mem_append, List.mem_cons, List.not_mem_nil, or_false, not_or] at hn
  rw [set_at hn.1.1]
  exact hk.2 x hx hn.2

theorem ChIs.rebuf {st st1 : St} {c q0 m0 q1 m1 wid : Nat} {bv bv1 : AV} {P : ChP} {cl : Bool} {b' : List Int} (h : ChIs st c P q0 m0 q1 m1 wid bv) (hm : MB bv1 st1 (ints b')) (hk : Kp st st1 (bufIds bv)) (hb : ∀ x ∈ bufIds bv1, x ∈ bufIds bv ∨ st.boxes.length ≤ x) :
    ChPost st c { P with buf := b', closed := cl } q0 m0 q1 m1 wid bv (st1.set c [.lit (.bool true), .lit (.bool cl), .lit (.int .i64 (P.cap : Nat)), bv1, .ptr q0 0, .ptr q1 0, .map wid]) :=
  ⟨bv1, (h.rebufC hm hk hb).1, (h.rebufC hm hk hb).2, hb⟩

/-- What check answers. -/
def chk (P : ChP) (t : Int) : Int := if t < 0 ∨ 64 ≤ t then 2 else if t ∈ keysP (entC P.S P.V) then 11 else 0
def pSend (P : ChP) (t v : Int) : ChP × Bool × List It × Int :=
  if chk P t ≠ 0 then (P, false, [], chk P t) else
  if (pTrySend P v).2.2 = 16 then ({ P with S := P.S ++ [(P.g0 + 1, t, v)], g0 := P.g0 + 1 }, false, [], 0)
  else ((pTrySend P v).1, (pTrySend P v).2.2 == 0, (pTrySend P v).2.1, (pTrySend P v).2.2)
def pTryReceive (P : ChP) : ChP × Int × List It × Int :=
  match P.S with
  | x :: l => ({ P with S := l, buf := (P.buf ++ [x.2.2]).tail }, (P.buf ++ [x.2.2]).headD 0, [(x.2.1, 0, 0)], 0)
  | [] => match P.buf with
    | [] => (P, 0, [], if P.closed = true then 13 else 16)
    | x :: b => ({ P with buf := b }, x, [], 0)
def pClose (P : ChP) : ChP × List It × Int :=
  if P.closed = true then (P, [], 14) else ({ P with closed := true, S := [], V := [] }, P.V.map (fun x => (x.2.1, 0, 13)) ++ P.S.map (fun x => (x.2.1, 0, 14)), 0)
def pCancel (P : ChP) (t : Int) : ChP × Int :=
  if chk P t = 11 then ({ P with S := P.S.filter (fun x => x.2.1 != t), V := P.V.filter (fun x => x.2.1 != t) }, 0) else if chk P t = 0 then (P, 9) else (P, chk P t)
def pReceive (P : ChP) (t : Int) : ChP × Int × Bool × List It × Int :=
  if chk P t ≠ 0 then (P, 0, false, [], chk P t) else
  if (pTryReceive P).2.2.2 = 16 then ({ P with V := P.V ++ [(P.g1 + 1, t, 0)], g1 := P.g1 + 1 }, 0, false, [], 0)
  else ((pTryReceive P).1, (pTryReceive P).2.1, (pTryReceive P).2.2.2 == 0, (pTryReceive P).2.2.1, (pTryReceive P).2.2.2)
/-- Its sizes. -/
def Bd (P : ChP) (n : Nat) : Prop := P.g0 ≤ n ∧ P.g1 ≤ n ∧ P.buf.length ≤ n ∧ P.S.length ≤ n ∧ P.V.length ≤ n ∧ P.cap ≤ 4096
theorem try_16 {P : ChP} {v : Int} (h : (pTrySend P v).2.2 = 16) : (pTrySend P v).1 = P ∧ (pTrySend P v).2.1 = [] := by
  unfold pTrySend at *
  split
  · exact ⟨rfl, rfl⟩
  · rename_i h1
    rw [if_neg h1] at h
    split
    · rename_i h2; rw [h2] at h; simp at h
    · rename_i h2; rw [h2] at h
      split
      · rename_i h3; simp [if_pos h3] at h
      · exact ⟨rfl, rfl⟩
theorem tryr_16 {P : ChP} (h : (pTryReceive P).2.2.2 = 16) : (pTryReceive P).1 = P ∧ (pTryReceive P).2.2.1 = [] ∧ (pTryReceive P).2.1 = 0 := by
  unfold pTryReceive at *
  split
  · rename_i h1; rw [h1] at h; simp at h
  · rename_i h1
    split
    · exact ⟨rfl, rfl, rfl⟩
    · rename_i h2; rw [h1, h2] at h; simp at h
end Go.Fx

