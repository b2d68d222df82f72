/- An evaluator for resolved code, proved against the model: part 6. -/
import Derived.Test.YtbdjfccgkdgbfaaFxE
/- Slices of plain cells that are written to and appended to. -/
namespace Go.Fx
open Go
def MB (v:AV) (st:St) (l:List AV):Prop:=(v = .lit (.slice none 0 0)∧l = [])∨∃ id cap r,v = .bs id 1 0 l.length cap∧st.get id = some (l++r)∧l.length≤cap∧cap≤(l++r).length
def Kept (st st':St) (v:AV):Prop:=st.boxes.length≤st'.boxes.length∧∀ id cs,st.get id = some cs→(∀ k o l c,v≠.bs id k o l c)→st'.get id = some cs
theorem Kept.refl (st:St) (v:AV):Kept st st v:=⟨Nat.le_refl _,fun _ _ h _=>h⟩
theorem MB.facts {v:AV} {st:St} {l:List AV} (h:MB v st l):v.dis = v∧v.own1 = v∧v.own2 = v∧v.solid1 = true∧v.noL = true∧v.cells = [v]∧(∀ s,kill s v = v)∧∀ st',lenI .sl st' v = .ok (.lit (.int .i64 l.length)):=by
  rcases h with ⟨rfl,rfl⟩ | ⟨id,cap,r,rfl,_⟩
  · exact ⟨rfl,rfl,rfl,rfl,rfl,rfl,fun _=>rfl,fun _=>rfl⟩
  · exact ⟨rfl,rfl,rfl,rfl,rfl,rfl,fun _=>rfl,fun _=>rfl⟩
def NBs (st:St):Prop:=∀ id cs,st.get id = some cs→∀ c ∈ cs,c.NB
theorem NBs.nil:NBs ⟨[]⟩:=fun id cs h=>by simp [St.get] at h
theorem NBs.push {st:St} {cs:List AV} (h:NBs st) (hc:∀ c ∈ cs,c.NB):NBs (st.push (.cells cs)):=by
  intro id ds hg
  by_cases e:id < st.boxes.length
  · rw [cn e] at hg
    exact h id ds hg
  · by_cases e2:id = st.boxes.length
    · subst e2
      rw [bA] at hg
      cases hg
      exact hc
    · have:=aS hg
      rw [aE] at this
      omega
theorem NBs.set {st:St} {id:Nat} {cs:List AV} (h:NBs st) (hid:id < st.boxes.length) (hc:∀ c ∈ cs,c.NB):NBs (st.set id cs):=by
  intro id' ds hg
  by_cases e:id = id'
  · subst e
    rw [aw hid] at hg
    cases hg
    exact hc
  · rw [cB e] at hg
    exact h id' ds hg
theorem MB.app {v:AV} {st:St} {l new:List AV} {bytes:Nat} {C:AV→St→Prop} (h:MB v st l) (hl:Lits l) (hn:Lits new) (hr:gD (l.length + new.length) bytes = true)
    (hC:∀ v' st',MB v' st' (l++new)→Kept st st' v→(NBs st→NBs st')→C v' st'):appX false 1 bytes v C st new:=by
  rcases h with ⟨rfl,rfl⟩ | ⟨id,cap,r,rfl,hg,h1,h2⟩
  · refine ⟨rfl,by simpa using hr,?_⟩
    split
    · rename_i h
      have:new = []:=by simpa using h
      subst this
      exact hC _ _ (.inl ⟨rfl,rfl⟩) (Kept.refl _ _) id
    · intro c hc
      refine hC _ _ (.inr ⟨st.boxes.length,c,List.replicate (c - new.length) .any,by simp,?_,by simpa using hc,by simp; omega⟩) ⟨by simp [St.push],fun id cs hg _=>by rw [cn (aS hg)]; exact hg⟩ (fun h=>h.push fun x hx=>?_)
      · rw [hn.cellsD]
        simp only [List.nil_append,Nat.mul_one]
        exact bA st _
      · rw [hn.cellsD] at hx
        simp only [List.nil_append,Nat.mul_one,List.mem_append] at hx
        rcases hx with hx | hx
        · exact hn.nb x hx
        · rw [List.eq_of_mem_replicate hx]; exact .any
  · refine ⟨rfl,rfl,hr,?_⟩
    rw [hg]
    show (Res.ok _).wp _
    rw [wp_ok,hn.cellsD]
    have hid:=aS hg
    split
    · rename_i hc
      refine ⟨by omega,hC _ _ (.inr ⟨id,cap,r.drop new.length,by simp,?_,by simpa using hc,?_⟩) ⟨by simp [St.set],fun id' cs hg' hne=>?_⟩ (fun h=>h.set hid ?_)⟩
      · rw [aw hid,Nat.zero_add,Nat.mul_one,gY rfl (by simp at h2; omega)]
        simp
      · simp at h2 ⊢; omega
      · rw [cB (fun e=>hne _ _ _ _ (by rw [e])),hg']
      · rw [Nat.zero_add,Nat.mul_one,gY rfl (by simp at h2; omega)]
        have h3:=h id _ hg
        intro x hx
        simp only [List.mem_append] at hx
        rcases hx with hx | hx | hx
        · exact hl.nb x hx
        · exact hn.nb x hx
        · exact h3 x (List.mem_append_right _ (List.mem_of_mem_drop hx))
    · rename_i hc
      have e:List.map AV.own1 (List.take (l.length * 1) (List.drop 0 (l++r))) = l:=by simp [hl.own]
      refine ⟨by simp,fun c hc=>hC _ _ (.inr ⟨st.boxes.length,c,List.replicate (c - (l.length + new.length)) .any,by simp,?_,by simpa using hc,by simp; omega⟩) ⟨by simp [St.push],fun id' cs hg' _=>by rw [cn (aS hg')]; exact hg'⟩ (fun h=>h.push fun x hx=>?_)⟩
      · rw [e]
        simp only [Nat.mul_one]
        exact bA st _
      · rw [e] at hx
        simp only [List.mem_append] at hx
        rcases hx with (hx | hx) | hx
        · exact hl.nb x hx
        · exact hn.nb x hx
        · rw [List.eq_of_mem_replicate hx]; exact .any
end Go.Fx
/- Functions that keep nothing may be handed what lies in boxes. -/
namespace Go.Fx
open Go
def litB1:AV→Bool
  | .lit _=>true
  | _=>false
end Go.Fx
/- Maps with plain keys, as lists; boxes that others are left alone by. -/
namespace Go.Fx
open Go
section
variable {β:Type}
def fw (t:Int):List (Int×β)→Nat→Option (Nat×β)
  | [],_=>none
  | (k,b)::r,i=>if t = k then some (i,b) else fw t r (i + 1)
def bg (t:Int):List (Int×β)→Option β
  | []=>none
  | (k,b)::r=>if t = k then some b else bg t r
def updP (t:Int) (b:β):List (Int×β)→List (Int×β)
  | []=>[(t,b)]
  | (k,c)::r=>if t = k then (t,b)::r else (k,c)::updP t b r
def delP (t:Int):List (Int×β)→List (Int×β)
  | []=>[]
  | (k,c)::r=>if t = k then r else (k,c)::delP t r
def cc (m:List (Int×β)):List Int:=m.map Prod.fst
theorem fd (t:Int):∀ (m:List (Int×β)) (i:Nat),(fw t m i).map Prod.snd = bg t m
  | [],_=>rfl
  | (k, b) :: r, i => by
    simp only [fw,bg]; split; · rfl
    · exact fd t r (i + 1)
theorem kL {γ:Type} (e:Int×β→γ) (t:Int) (b:β):∀ (m:List (Int×β)) (i:Nat),match fw t m i with
    | some (j,_)=>i≤j∧(m.map e).set (j - i) (e (t,b)) = (updP t b m).map e∧(m.map e).eraseIdx (j - i) = (delP t m).map e∧j - i < m.length
    | none=>m.map e++[e (t,b)] = (updP t b m).map e∧delP t m = m
  | [],_=>by simp [fw,updP,delP]
  | (k, c) :: r, i => by
    simp only [fw]
    by_cases h:t = k
    · subst h
      simp [updP,delP]
    · rw [if_neg h]
      have ih:=kL e t b r (i + 1)
      cases hf:fw t r (i + 1) with
      | none=>rw [hf] at ih; simp only at ih; simp [updP,delP,h,ih.1,ih.2]
      | some p =>
        obtain ⟨j,c'⟩:=p
        rw [hf] at ih
        simp only at ih ⊢
        obtain ⟨h1,h2,h3,h4⟩:=ih
        obtain ⟨q,rfl⟩:∃ q,j = i + 1 + q:=⟨j - (i + 1),by omega⟩
        rw [show i + 1 + q - (i + 1) = q by omega] at h2 h3 h4
        rw [show i + 1 + q - i = q + 1 by omega]
        refine ⟨by omega,?_,?_,by simp; omega⟩
        · simp [updP,h,h2]
        · simp [delP,h,h3]
theorem dq (t t':Int) (b:β):∀ m:List (Int×β),bg t' (updP t b m) = if t' = t then some b else bg t' m
  | []=>by simp only [updP,bg]
  | (k, c) :: r => by
    simp only [updP]
    by_cases h:t = k
    · subst h
      rw [if_pos rfl]
      simp only [bg]
      split <;> rfl
    · rw [if_neg h]
      simp only [bg]
      rw [dq t t' b r]
      by_cases h1:t' = k
      · subst h1
        have:¬ t' = t:=fun e=>h e.symm
        simp [this]
      · simp [h1]
theorem oK {t:Int}:∀ {m:List (Int×β)},t ∉ cc m→bg t m = none
  | [],_=>rfl
  | (k, c) :: r, h => by
    simp only [cc,List.map_cons,List.mem_cons,not_or] at h
    simp only [bg]
    rw [if_neg h.1]
    exact oK h.2
theorem nn (t t':Int):∀ {m:List (Int×β)},(cc m).Nodup→bg t' (delP t m) = if t' = t then none else bg t' m
  | [],_=>by simp [delP,bg]
  | (k, c) :: r, hn => by
    simp only [cc,List.map_cons,List.nodup_cons] at hn
    simp only [delP]
    by_cases h:t = k
    · subst h
      rw [if_pos rfl]
      simp only [bg]
      by_cases h1:t' = t
      · subst h1; rw [if_pos rfl]; exact oK hn.1
      · rw [if_neg h1,if_neg h1]
    · rw [if_neg h]
      simp only [bg]
      by_cases h1:t' = k
      · subst h1
        have:¬ t' = t:=fun e=>h e.symm
        simp [this]
      · rw [if_neg h1,if_neg h1]; exact nn t t' hn.2
theorem eK (t:Int) (b:β):∀ m:List (Int×β),(updP t b m).length = if (bg t m).isSome then m.length else m.length + 1
  | []=>by simp [updP,bg]
  | (k, c) :: r => by
    simp only [updP,bg]
    by_cases h:t = k
    · simp [h]
    · simp only [if_neg h,List.length_cons,eK t b r]
      split <;> rfl
theorem pG (t:Int):∀ m:List (Int×β),(delP t m).length = if (bg t m).isSome then m.length - 1 else m.length
  | []=>by simp [delP,bg]
  | (k, c) :: r => by
    simp only [delP,bg]
    by_cases h:t = k
    · simp [h]
    · simp only [if_neg h,List.length_cons,pG t r]
      split
      · rename_i q
        have:r≠[]:=by rintro rfl; simp [bg] at q
        have:=List.length_pos_iff.2 this
        omega
      · rfl
theorem keys_upd (t:Int) (b:β):∀ m:List (Int×β),cc (updP t b m) = if (bg t m).isSome then cc m else cc m++[t]
  | []=>by simp [updP,bg,cc]
  | (k, c) :: r => by
    simp only [updP,bg]
    by_cases h:t = k
    · simp [h,cc]
    · have:=keys_upd t b r
      simp only [cc] at this
      simp only [if_neg h,cc,List.map_cons,this]
      split <;> rfl
theorem j0 (t x:Int):∀ {m:List (Int×β)},x ∈ cc (delP t m)→x ∈ cc m
  | [],h=>h
  | (k, c) :: r, h => by
    simp only [delP] at h
    simp only [cc,List.map_cons,List.mem_cons]
    split at h
    · exact .inr h
    · simp only [cc,List.map_cons,List.mem_cons] at h
      rcases h with h | h
      · exact .inl h
      · exact .inr (j0 t x h)
theorem kM {t:Int} {b:β} {m:List (Int×β)} (h:(cc m).Nodup):(cc (updP t b m)).Nodup:=by
  rw [keys_upd]
  split
  · exact h
  · rename_i hs
    refine List.nodup_append.2 ⟨h,by simp,?_⟩
    intro x hx y hy
    simp only [List.mem_singleton] at hy
    subst hy
    rintro rfl
    have:∀ m:List (Int×β),x ∈ cc m→(bg x m).isSome = true:=by
      intro m
      induction m with
      | nil=>intro h; simp [cc] at h
      | cons p r ih =>
        obtain ⟨k,c⟩:=p
        intro h
        simp only [cc,List.map_cons,List.mem_cons] at h
        simp only [bg]
        split
        · rfl
        · rename_i hne
          rcases h with h | h
          · exact absurd h hne
          · exact ih h
    exact hs (this m hx)
theorem kN {t:Int}:∀ {m:List (Int×β)},(cc m).Nodup→(cc (delP t m)).Nodup
  | [],h=>h
  | (k, c) :: r, h => by
    simp only [cc,List.map_cons,List.nodup_cons] at h
    simp only [delP]
    split
    · exact h.2
    · simp only [cc,List.map_cons,List.nodup_cons]
      exact ⟨fun e=>h.1 (j0 t k e),kN h.2⟩
def encE (k:IntKind) (ev:β→AV) (p:Int×β):AV×AV:=(.lit (.int k p.1),ev p.2)
def encM (k:IntKind) (ev:β→AV) (m:List (Int×β)):List (AV×AV):=m.map (encE k ev)
theorem iC (k:IntKind) (ev:β→AV) (t:Int):∀ (m:List (Int×β)) (i:Nat),cw (.lit (.int k t)) (encM k ev m) i = .ok ((fw t m i).map fun p=>(p.1,ev p.2))
  | [],_=>rfl
  | (q, b) :: r, i => by
    have ih:=iC k ev t r (i + 1)
    simp only [encM,List.map_cons,encE,cw,cu,if_true,fw] at ih ⊢
    by_cases h:t = q
    · subst h; simp
    · have:(t == q) = false:=by simpa using h
      simp only [this,if_neg h,Bool.false_eq_true,if_false]
      exact ih
end
section
variable {st st':St} {id q:Nat}
theorem getM_lt {es:List (AV×AV)} (h:st.getM id = some es):id < st.boxes.length:=by
  unfold St.getM at h
  split at h
  · rename_i hb
    exact (List.getElem?_eq_some_iff.1 hb).1
  · cases h
theorem bY (h:st'.boxes[id]? = st.boxes[id]?):st'.get id = st.get id:=by unfold St.get; rw [h]
theorem getM_at (h:st'.boxes[id]? = st.boxes[id]?):st'.getM id = st.getM id:=by unfold St.getM; rw [h]
theorem getB_at (h:st'.boxes[id]? = st.boxes[id]?):st'.getB id = st.getB id:=by unfold St.getB; rw [h]
theorem b9 {cs:List AV} (h:id≠q):(st.set q cs).boxes[id]? = st.boxes[id]?:=by simp [St.set,List.getElem?_set_ne (fun e=>h e.symm)]
theorem pH {es:List (AV×AV)} {bs:List Nat} {c:Nat} (h:id≠q):(st.setM q es bs c).boxes[id]? = st.boxes[id]?:=by simp [St.setM,List.getElem?_set_ne (fun e=>h e.symm)]
theorem bR {b:Box} (h:id < st.boxes.length):(st.push b).boxes[id]? = st.boxes[id]?:=by simp [St.push,List.getElem?_append_left h]
theorem kP {es:List (AV×AV)} {bs:List Nat} {c:Nat} (h:id < st.boxes.length):(st.setM id es bs c).getM id = some es:=by simp [St.setM,St.getM,h]
theorem dh {es:List (AV×AV)} {bs:List Nat} {c:Nat} (h:id < st.boxes.length):(st.setM id es bs c).getB id = (bs,c):=by simp [St.setM,St.getB,h]
theorem get_mt {es:List (AV×AV)} (h:st.getM id = some es):st.get id = none:=by
  unfold St.getM at h; unfold St.get
  split at h
  · rename_i hb; simp [hb]
  · cases h
end
def Oth (st st':St) (S:List Nat):Prop:=st'.boxes.length = st.boxes.length∧∀ id,id ∉ S→st'.boxes[id]? = st.boxes[id]?
theorem Oth.refl (st:St) (S:List Nat):Oth st st S:=⟨rfl,fun _ _=>rfl⟩
theorem Oth.trans {a b c:St} {S:List Nat} (h:Oth a b S) (k:Oth b c S):Oth a c S:=⟨k.1.trans h.1,fun id hid=>(k.2 id hid).trans (h.2 id hid)⟩
theorem Oth.mono {a b:St} {S S':List Nat} (h:Oth a b S) (hs:∀ x ∈ S,x ∈ S'):Oth a b S':=⟨h.1,fun id hid=>h.2 id fun e=>hid (hs id e)⟩
theorem Oth.set (st:St) (q:Nat) (cs:List AV) {S:List Nat} (h:q ∈ S):Oth st (st.set q cs) S:=⟨eI ..,fun id hid=>b9 fun e=>hid (e ▸ h)⟩
theorem Oth.get {a b:St} {S:List Nat} (h:Oth a b S) {id:Nat} (hid:id ∉ S):b.get id = a.get id:=bY (h.2 id hid)
section
variable {β:Type}
structure MapIs (st:St) (id:Nat) (k:IntKind) (ev:β→AV) (m:List (Int×β)):Prop where
  get:st.getM id = some (encM k ev m)
  nd:(cc m).Nodup
  bl:(st.getB id).1.length = m.length
  bn:(st.getB id).1.Nodup
  bc:∀ b ∈ (st.getB id).1,b < (st.getB id).2
variable {st st':St} {id:Nat} {k:IntKind} {ev:β→AV} {m:List (Int×β)}
theorem MapIs.lt (h:MapIs st id k ev m):id < st.boxes.length:=getM_lt h.get
theorem MapIs.at (h:MapIs st id k ev m) (hb:st'.boxes[id]? = st.boxes[id]?):MapIs st' id k ev m:=by
  refine ⟨(getM_at hb).trans h.get,h.nd,?_,?_,?_⟩ <;> rw [getB_at hb]
  · exact h.bl
  · exact h.bn
  · exact h.bc
theorem MapIs.set (h:MapIs st id k ev m) {q:Nat} {cs:List AV} (hq:id≠q):MapIs (st.set q cs) id k ev m:=h.at (b9 hq)
theorem MapIs.push (h:MapIs st id k ev m) (b:Box):MapIs (st.push b) id k ev m:=h.at (bR h.lt)
theorem MapIs.ne (h:MapIs st id k ev m) {q:Nat} {cs:List AV} (hq:st.get q = some cs):id≠q:=by
  rintro rfl
  rw [get_mt h.get] at hq; cases hq
theorem cg (h:MapIs st id k ev m) {z:AV} {ok:Bool} {t:Int}:bP (.int k) z ok st (.map id) (.lit (.int k t)) = .ok (match bg t m with
    | some b=>if ok then .tup [(ev b).dis,.lit (.bool true)] else (ev b).dis
    | none=>if ok then .tup [z,.lit (.bool false)] else z):=by
  have hk:keyI (.int k) (.lit (.int k t)) = true:=by simp [keyI]
  unfold bP
  rw [if_pos hk]
  simp only [h.get,Res.ofOpt,Res.bind,iC]
  rw [← fd t m 0]
  cases fw t m 0 <;> rfl
theorem ff (h:MapIs st id k ev m) {t:Int} {b:β} {x:AV} (hx:x.solid = true) (hd:x.dis = ev b) {K:Sf→St→Prop} {sf:Sf}
    (hK:∀ st',MapIs st' id k ev (updP t b m)→Oth st st' [id]→K sf st'):updX false (.int k) (.map id) (.lit (.int k t)) x K sf st:=by
  refine ⟨by simp [keyI],rfl,hx,?_⟩
  have hlt:=h.lt
  simp only [h.get,Res.ofOpt,Res.wp,iC,hd]
  have hu:=kL (encE k ev) t b m 0
  cases hf:fw t m 0 with
  | none =>
    rw [hf] at hu
    simp only [Option.map_none,St.updM,updA]
    have hno:bg t m = none:=by rw [← fd t m 0,hf]; rfl
    refine hK _ ⟨?_,kM h.nd,?_,?_,?_⟩ ⟨by simp [St.setM],fun q hq=>pH (by simpa using hq)⟩
    · rw [kP hlt]; exact congrArg some hu.1
    · rw [dh hlt,eK,hno]; simp [h.bl]
    · rw [dh hlt]
      refine List.nodup_append.2 ⟨h.bn,by simp,fun x hx y hy e=>?_⟩
      simp only [List.mem_singleton] at hy
      subst hy; subst e
      exact Nat.lt_irrefl _ (h.bc _ hx)
    · rw [dh hlt]
      intro b hb
      simp only [List.mem_append,List.mem_singleton] at hb
      rcases hb with hb | rfl
      · have:=h.bc b hb; simp only; omega
      · simp
  | some p =>
    obtain ⟨j,c⟩:=p
    rw [hf] at hu
    simp only [Nat.sub_zero] at hu
    simp only [Option.map_some,St.updM,updA]
    have hyes:(bg t m).isSome = true:=by rw [← fd t m 0,hf]; rfl
    refine hK _ ⟨?_,kM h.nd,?_,?_,?_⟩ ⟨by simp [St.setM],fun q hq=>pH (by simpa using hq)⟩
    · rw [kP hlt]; exact congrArg some hu.2.1
    · rw [dh hlt,eK,if_pos hyes]; exact h.bl
    · rw [dh hlt]; exact h.bn
    · rw [dh hlt]; exact h.bc
theorem np (h:MapIs st id k ev m) {t:Int} {K:Sf→St→Prop} {sf:Sf}
    (hK:∀ st',MapIs st' id k ev (delP t m)→Oth st st' [id]→K sf st'):delX false (.int k) (.map id) (.lit (.int k t)) K sf st:=by
  refine ⟨by simp [keyI],rfl,?_⟩
  have hlt:=h.lt
  simp only [h.get,Res.ofOpt,Res.wp,iC]
  cases hf:fw t m 0 with
  | none =>
    have hu:delP t m = m:=by
      have:∀ (m:List (Int×β)) (i:Nat),fw t m i = none→delP t m = m:=by
        intro m
        induction m with
        | nil=>intro i _; rfl
        | cons p r ih =>
          obtain ⟨k,c⟩:=p
          intro i h
          simp only [fw] at h
          simp only [delP]
          split at h
          · cases h
          · rename_i hne; rw [if_neg hne,ih (i + 1) h]
      exact this m 0 hf
    simp only [Option.map_none]
    exact hK _ (by rw [hu]; exact h) (Oth.refl _ _)
  | some p =>
    obtain ⟨j,c⟩:=p
    have hu:=kL (encE k ev) t c m 0
    rw [hf] at hu
    simp only [Nat.sub_zero] at hu
    simp only [Option.map_some,St.delM]
    have hyes:(bg t m).isSome = true:=by rw [← fd t m 0,hf]; rfl
    refine hK _ ⟨?_,kN h.nd,?_,?_,?_⟩ ⟨by simp [St.setM],fun q hq=>pH (by simpa using hq)⟩
    · rw [kP hlt]; exact congrArg some hu.2.2.1
    · rw [dh hlt,pG,if_pos hyes]
      simp only [List.length_eraseIdx,h.bl,if_pos hu.2.2.2]
    · rw [dh hlt]; exact h.bn.sublist (List.eraseIdx_sublist ..)
    · rw [dh hlt]; exact fun b hb=>h.bc b (List.mem_of_mem_eraseIdx hb)
theorem nq (h:MapIs st id k ev m):lenI .mp st (.map id) = .ok (.lit (.int .i64 m.length)):=by
  simp only [lenI,h.get,Res.ofOpt,Res.bind,encM,List.length_map]
theorem MapIs.new (st:St) (k:IntKind) (ev:β→AV):MapIs (st.push (.mp [] [] 0)) st.boxes.length k ev []:=by
  refine ⟨getM_push ..,by simp [cc],?_,?_,?_⟩ <;> rw [getB_push] <;> simp
end
theorem aV {P:Program} {X:Cx} {f:FuncId} {fn:AFun} {vs:List AV} {st:St} (hmix:P.follows .mixedOrders = true) (hf:gR P X f = some fn) (hX:X.F = id) (hlen:Nat.ble vs.length fn.n = true) {v0:AV} (h:∀ Q:AV→St→Prop,(∀ st',Q v0 st')→aFun P id true fn vs st Q):aG P f vs st v0:=by
  refine pcalls_of hmix hf (Nat.le_of_ble_eq_true hlen) ?_
  rw [hX]; exact h _ fun _=>rfl
end Go.Fx
/- Linked nodes in a map: a queue (plain lists; no program in sight). -/
namespace Go.Fx
open Go
abbrev Nd:=Int×Nat×Nat
abbrev Qu:=List (Nat×Int)
def aB:Qu→Nat→Nat
  | [],h=>h
  | (x,_)::_,_=>x
def ar:Nat→Qu→Nat
  | p,[]=>p
  | _,(t,_)::r=>ar t r
def aW:Nat→Qu→Nat→Nat→Option Nd
  | _,[],_,_=>none
  | p,(u,v)::r,h,t=>if t = u then some (v,p,aB r h) else aW u r h t
def aF (L:Qu):List Nat:=L.map Prod.fst
theorem fW (B:Qu) (h t:Nat):∀ (A:Qu) (p:Nat),aW p (A++B) h t = match aW p A (aB B h) t with | some x=>some x | none=>aW (ar p A) B h t
  | [],p=>rfl
  | (u, v) :: A, p => by
    simp only [List.cons_append,aW,ar]
    split
    · cases A <;> rfl
    · exact fW B h t A u
theorem cD {h t:Nat}:∀ {L:Qu} {p:Nat},t ∉ aF L→aW p L h t = none
  | [],_,_=>rfl
  | (u, v) :: r, p, hn => by
    simp only [aF,List.map_cons,List.mem_cons,not_or] at hn
    simp only [aW]
    rw [if_neg hn.1]
    exact cD hn.2
theorem ew:∀ {L:Qu} {p:Nat},L≠[]→ar p L ∈ aF L
  | [(t,v)],p,_=>by simp [ar,aF]
  | (t, v) :: y :: r, p, _ => by
    have:=ew (L:=y::r) (p:=t) (by simp)
    simp only [ar,aF,List.map_cons,List.mem_cons] at this ⊢
    exact .inr this
theorem fX (B:Qu):∀ (A:Qu) (p:Nat),ar p (A++B) = ar (ar p A) B
  | [],_=>rfl
  | (t,v)::A,p=>fX B A t
theorem last_ne {L:Qu} {p p':Nat} (h:L≠[]):ar p L = ar p' L:=by
  cases L with
  | nil=>exact absurd rfl h
  | cons x r=>rfl
theorem pI {h h' t:Nat}:∀ {L:Qu} {p:Nat},(aF L).Nodup→L≠[]→aW p L h' t = if t = ar p L then (aW p L h t).map (fun x=>(x.1,x.2.1,h')) else aW p L h t
  | [(u, v)], p, _, _ => by
    simp only [aW,ar,aB]
    by_cases e:t = u
    · simp [e]
    · simp [e]
  | (u, v) :: (u2, v2) :: r, p, hn, _ => by
    have ih:=pI (h:=h) (h':=h') (t:=t) (L:=(u2,v2)::r) (p:=u) (List.nodup_cons.1 hn).2 (by simp)
    have hl:=ew (L:=(u2,v2)::r) (p:=u) (by simp)
    have hne:u≠ar u ((u2,v2)::r):=fun e=>(List.nodup_cons.1 hn).1 (by rw [e]; exact hl)
    have e0:∀ q,aW p ((u,v)::(u2,v2)::r) q t = if t = u then some (v,p,u2) else aW u ((u2,v2)::r) q t:=fun q=>rfl
    rw [e0,e0,show ar p ((u,v)::(u2,v2)::r) = ar u ((u2,v2)::r) from rfl]
    by_cases e:t = u
    · subst e; rw [if_pos rfl,if_pos rfl,if_neg hne]
    · rw [if_neg e,if_neg e]; exact ih
theorem nodeA_p {h t p p':Nat} {u:Nat} {v:Int} {r:Qu} (hn:(aF ((u,v)::r)).Nodup):aW p' ((u,v)::r) h t = if t = u then (aW p ((u,v)::r) h t).map (fun x=>(x.1,p',x.2.2)) else aW p ((u,v)::r) h t:=by
  simp only [aW]
  by_cases e:t = u
  · simp [e]
  · simp [e]
theorem nodeA_push {L:Qu} {u:Nat} {v:Int} {t:Nat} (hn:(aF L).Nodup) (hu:u ∉ aF L) (hL:L≠[]) :
    aW 0 (L++[(u,v)]) 0 t = if t = ar 0 L then (aW 0 L 0 t).map (fun x=>(x.1,x.2.1,u)) else if t = u then some (v,ar 0 L,0) else aW 0 L 0 t:=by
  rw [fW]
  simp only [aB,aW]
  have hl:=ew (p:=0) hL
  rw [pI (h:=0) hn hL]
  by_cases e:t = ar 0 L
  · rw [if_pos e,if_pos e]
    cases hx:aW 0 L 0 t with
    | some x=>rfl
    | none =>
      exfalso
      have:∀ (L:Qu) (p:Nat),t ∈ aF L→aW p L 0 t≠none:=by
        intro L
        induction L with
        | nil=>intro p h; simp [aF] at h
        | cons y r ih =>
          obtain ⟨a,b⟩:=y
          intro p h
          simp only [aW]
          split
          · simp
          · rename_i hne
            simp only [aF,List.map_cons,List.mem_cons] at h
            exact ih a (h.resolve_left hne)
      exact this L 0 (e ▸ hl) hx
  · rw [if_neg e,if_neg e]
    by_cases e2:t = u
    · subst e2; rw [cD hu]
      try simp
    · simp only [if_neg e2]
      cases aW 0 L 0 t <;> rfl
theorem nodeA_del {A B:Qu} {u:Nat} {v:Int} {t:Nat} (hn:(aF (A++(u,v)::B)).Nodup) :
    aW 0 (A++B) 0 t = if t = u then none else
      if A≠[]∧t = ar 0 A then (aW 0 (A++(u,v)::B) 0 t).map (fun x=>(x.1,x.2.1,aB B 0)) else
      if B≠[]∧t = aB B 0 then (aW 0 (A++(u,v)::B) 0 t).map (fun x=>(x.1,ar 0 A,x.2.2)) else aW 0 (A++(u,v)::B) 0 t:=by
  have h1:(aF A).Nodup∧(aF ((u,v)::B)).Nodup∧∀ x ∈ aF A,∀ y ∈ aF ((u,v)::B),x≠y:=by
    simp only [aF,List.map_append] at hn
    exact List.nodup_append.1 hn
  obtain ⟨hA,hB0,hAB⟩:=h1
  have hB:=List.nodup_cons.1 hB0
  have hu:u ∉ aF A:=fun e=>hAB u e u (by simp [aF]) rfl
  rw [fW,fW,show aB ((u,v)::B) 0 = u from rfl]
  by_cases e:t = u
  · subst e
    rw [if_pos rfl,cD hu]
    exact cD hB.1
  · rw [if_neg e]
    have e1:aW (ar 0 A) ((u,v)::B) 0 t = aW u B 0 t:=by simp only [aW]; rw [if_neg e]
    rw [e1]
    by_cases hAe:A = []
    · subst hAe
      simp only [aW,ar,ne_eq,not_true_eq_false,false_and,if_false]
      cases B with
      | nil=>simp [aW]
      | cons y r =>
        obtain ⟨w,z⟩:=y
        rw [nodeA_p (p:=u) (p':=0) hB.2]
        simp [show aB ((w,z)::r) 0 = w from rfl]
    · rw [pI (h:=u) (h':=aB B 0) hA hAe]
      by_cases e2:t = ar 0 A
      · have hin:t ∈ aF A:=e2 ▸ ew hAe
        rw [if_pos e2,if_pos ⟨hAe,e2⟩]
        cases hx:aW 0 A u t with
        | some x=>rfl
        | none =>
          have hnb:t ∉ aF B:=fun hb=>hAB t hin t (by simp only [aF,List.map_cons,List.mem_cons]; exact .inr hb) rfl
          simp only [Option.map_none,cD hnb]
      · rw [if_neg e2,if_neg (fun q=>e2 q.2)]
        cases B with
        | nil=>simp [aW]
        | cons y r =>
          obtain ⟨w,z⟩:=y
          rw [nodeA_p (p:=u) (p':=ar 0 A) hB.2]
          simp only [show aB ((w,z)::r) 0 = w from rfl,ne_eq,reduceCtorEq,not_false_eq_true,true_and]
          by_cases e3:t = w
          · have hna:t ∉ aF A:=fun ha=>hAB t ha t (by simp [aF,e3]) rfl
            rw [if_pos e3,if_pos e3,cD hna]
          · rw [if_neg e3,if_neg e3]
theorem nodeA_at {A B:Qu} {u:Nat} {v:Int} (hu:u ∉ aF A):aW 0 (A++(u,v)::B) 0 u = some (v,ar 0 A,aB B 0):=by
  rw [fW,cD hu]
  simp [aW]
def ndAV (x:Nd):AV:=.agg [.lit (.int .i64 x.1),.lit (.int .u64 (x.2.1:Nat)),.lit (.int .u64 (x.2.2:Nat))]
theorem ndAV_dis (x:Nd):(ndAV x).dis = ndAV x:=rfl
structure QIs (st:St) (q mid:Nat) (L:Qu) (g:Nat):Prop where
  get:st.get q = some [.lit (.int .u64 (aB L 0:Nat)),.lit (.int .u64 (ar 0 L:Nat)),.lit (.int .u64 (g:Nat)),.map mid]
  mp:∃ m,MapIs st mid .u64 ndAV m∧(∀ t:Nat,bg t m = aW 0 L 0 t)∧m.length = L.length
  srt:(aF L).Pairwise (· < ·)
  pos:∀ t ∈ aF L,0 < t∧t≤g
theorem QIs.nd {st:St} {q mid g:Nat} {L:Qu} (h:QIs st q mid L g):(aF L).Nodup:=h.srt.imp fun h=>Nat.ne_of_lt h
theorem QIs.ne {st:St} {q mid g:Nat} {L:Qu} (h:QIs st q mid L g):mid≠q:=by
  obtain ⟨m,hm,_⟩:=h.mp
  exact hm.ne h.get
theorem QIs.ltq {st:St} {q mid g:Nat} {L:Qu} (h:QIs st q mid L g):q < st.boxes.length:=aS h.get
theorem QIs.ltm {st:St} {q mid g:Nat} {L:Qu} (h:QIs st q mid L g):mid < st.boxes.length:=by
  obtain ⟨m,hm,_⟩:=h.mp
  exact hm.lt
theorem QIs.at {st st':St} {q mid g:Nat} {L:Qu} (h:QIs st q mid L g) (h1:st'.boxes[q]? = st.boxes[q]?) (h2:st'.boxes[mid]? = st.boxes[mid]?):QIs st' q mid L g:=by
  obtain ⟨m,hm,h3,h4⟩:=h.mp
  exact ⟨(bY h1).trans h.get,⟨m,hm.at h2,h3,h4⟩,h.srt,h.pos⟩
theorem QIs.nil_iff {st:St} {q mid g:Nat} {L:Qu} (h:QIs st q mid L g):(aB L 0 = 0↔L = [])∧(ar 0 L = 0↔L = []):=by
  cases L with
  | nil=>simp [aB,ar]
  | cons x r =>
    obtain ⟨t,v⟩:=x
    have h1:=h.pos t (by simp [aF])
    have h2:=h.pos _ (ew (L:=(t,v)::r) (p:=0) (by simp))
    simp only [aB,reduceCtorEq,iff_false]
    omega
theorem fg {t:Nat}:∀ {L:Qu} {p:Nat},t ∈ aF L→∃ x,aW p L 0 t = some x
  | (u, v) :: r, p, h => by
    simp only [aW]
    split
    · exact ⟨_,rfl⟩
    · rename_i hne
      simp only [aF,List.map_cons,List.mem_cons] at h
      exact fg (h.resolve_left hne)
theorem cQ (A B:Qu):aF (A++B) = aF A++aF B:=by simp [aF]
theorem QIs.push {st st':St} {q mid g:Nat} {L:Qu} {v:Int} (h:QIs st q mid L g) {m':List (Int×Nd)} (hg:st'.get q = some [.lit (.int .u64 (aB (L++[(g + 1,v)]) 0:Nat)),.lit (.int .u64 ((g + 1:Nat))),.lit (.int .u64 ((g + 1:Nat))),.map mid])
    (hm:MapIs st' mid .u64 ndAV m') (hl:∀ t:Nat,bg t m' = aW 0 (L++[(g + 1,v)]) 0 t) (hn:m'.length = L.length + 1):QIs st' q mid (L++[(g + 1,v)]) (g + 1):=by
  refine ⟨by rw [fX]; exact hg,⟨m',hm,hl,by simp [hn]⟩,?_,fun t ht=>?_⟩
  · rw [cQ]
    refine List.pairwise_append.2 ⟨h.srt,by simp [aF],fun x hx y hy=>?_⟩
    simp only [aF,List.map_cons,List.map_nil,List.mem_singleton] at hy
    have:=(h.pos x hx).2
    omega
  · rw [cQ] at ht
    rcases List.mem_append.1 ht with ht | ht
    · have:=h.pos t ht; omega
    · simp only [aF,List.map_cons,List.map_nil,List.mem_singleton] at ht
      omega
theorem QIs.fresh {st:St} {q mid g:Nat} {L:Qu} (h:QIs st q mid L g):g + 1 ∉ aF L:=fun e=>by have:=(h.pos _ e).2; omega
theorem QIs.del {st st':St} {q mid g:Nat} {A B:Qu} {t:Nat} {v:Int} (h:QIs st q mid (A++(t,v)::B) g) {m':List (Int×Nd)} (hg:st'.get q = some [.lit (.int .u64 (aB (A++B) 0:Nat)),.lit (.int .u64 (ar 0 (A++B):Nat)),.lit (.int .u64 (g:Nat)),.map mid])
    (hm:MapIs st' mid .u64 ndAV m') (hl:∀ t:Nat,bg t m' = aW 0 (A++B) 0 t) (hn:m'.length = (A++B).length):QIs st' q mid (A++B) g:=by
  have hsub:(aF (A++B)).Sublist (aF (A++(t,v)::B)):=by
    simp only [cQ]
    exact List.Sublist.append (List.Sublist.refl _) (List.sublist_cons_self _ _)
  exact ⟨hg,⟨m',hm,hl,hn⟩,h.srt.sublist hsub,fun x hx=>h.pos x (hsub.subset hx)⟩
end Go.Fx
/- A channel's state: plain lists, and where they lie. -/
namespace Go.Fx
open Go
abbrev W3:=Nat×Int×Int
structure ChP where
  closed:Bool
  cap:Nat
  buf:List Int
  S:List W3
  V:List W3
  g0:Nat
  g1:Nat
def qOf (l:List W3):Qu:=l.map fun x=>(x.1,x.2.1)
def wEnt (d:Int) (l:List W3):List (Int×(Int×Int×Nat)):=l.map fun x=>(x.2.1,(d,x.2.2,x.1))
def entC (S V:List W3):List (Int×(Int×Int×Nat)):=wEnt 0 S++wEnt 1 V
def wtAV (x:Int×Int×Nat):AV:=.agg [.lit (.int .i64 x.1),.lit (.int .i64 x.2.1),.lit (.int .u64 (x.2.2:Nat))]
def ints (l:List Int):List AV:=l.map fun v=>.lit (.int .i64 v)
def ah:AV→List Nat
  | .bs id _ _ _ _=>[id]
  | _=>[]
structure ChIs (st:St) (c:Nat) (P:ChP) (q0 m0 q1 m1 wid:Nat) (bv:AV):Prop where
  get:st.get c = some [.lit (.bool true),.lit (.bool P.closed),.lit (.int .i64 (P.cap:Nat)),bv,.ptr q0 0,.ptr q1 0,.map wid]
  buf:MB bv st (ints P.buf)
  s:QIs st q0 m0 (qOf P.S) P.g0
  r:QIs st q1 m1 (qOf P.V) P.g1
  w:∃ W,MapIs st wid .i64 wtAV W∧∀ t,bg t W = bg t (entC P.S P.V)
  ids:[c,q0,q1,m0,m1,wid].Nodup
  bid:∀ x ∈ ah bv,x ∉ [c,q0,q1,m0,m1,wid]
  nd:(cc (entC P.S P.V)).Nodup
  rng:∀ t ∈ cc (entC P.S P.V),0≤t∧t < 64
  zv:∀ x ∈ P.V,x.2.2 = 0
def Kp (st st':St) (F:List Nat):Prop:=st.boxes.length≤st'.boxes.length∧∀ id,id < st.boxes.length→id ∉ F→st'.boxes[id]? = st.boxes[id]?
theorem Kp.refl (st:St) (F:List Nat):Kp st st F:=⟨Nat.le_refl _,fun _ _ _=>rfl⟩
theorem Kp.trans {a b c:St} {F F':List Nat} (h:Kp a b F) (k:Kp b c F') (hf:∀ x ∈ F',x ∈ F∨a.boxes.length≤x):Kp a c F :=
  ⟨Nat.le_trans h.1 k.1,fun id hid hn=>(k.2 id (Nat.lt_of_lt_of_le hid h.1) fun e=>(hf id e).elim hn (fun q=>by omega)).trans (h.2 id hid hn)⟩
theorem Oth.kp {st st':St} {S F:List Nat} (h:Oth st st' S) (hs:∀ x ∈ S,x ∈ F):Kp st st' F:=⟨Nat.le_of_eq h.1.symm,fun id _ hn=>h.2 id fun e=>hn (hs id e)⟩
theorem MB.at {v:AV} {st st':St} {l:List AV} (h:MB v st l) (hb:∀ x ∈ ah v,st'.boxes[x]? = st.boxes[x]?):MB v st' l:=by
  rcases h with ⟨rfl,rfl⟩ | ⟨id,cap,r,rfl,hg,h1,h2⟩
  · exact .inl ⟨rfl,rfl⟩
  · exact .inr ⟨id,cap,r,rfl,(bY (hb id (by simp [ah]))).trans hg,h1,h2⟩
theorem MB.lt {v:AV} {st:St} {l:List AV} (h:MB v st l):∀ x ∈ ah v,x < st.boxes.length:=by
  rcases h with ⟨rfl,rfl⟩ | ⟨id,cap,r,rfl,hg,h1,h2⟩
  · simp [ah]
  · intro x hx
    simp only [ah,List.mem_singleton] at hx
    subst hx
    exact aS hg
section
variable {st st':St} {c q0 m0 q1 m1 wid:Nat} {bv:AV} {P:ChP}
theorem ChIs.lts (h:ChIs st c P q0 m0 q1 m1 wid bv):∀ x ∈ [c,q0,q1,m0,m1,wid]++ah bv,x < st.boxes.length:=by
  obtain ⟨W,hW,_⟩:=h.w
  intro x hx
  simp only [List.mem_append,List.mem_cons,List.not_mem_nil,or_false] at hx
  rcases hx with (rfl | rfl | rfl | rfl | rfl | rfl) | hx
  · exact aS h.get
  · exact h.s.ltq
  · exact h.r.ltq
  · exact h.s.ltm
  · exact h.r.ltm
  · exact hW.lt
  · exact h.buf.lt x hx
end
abbrev It := Int × Int × Int  -- task, value, error
def itAV (x:It):AV:=.agg [.lit (.int .i64 x.1),.lit (.int .i64 0),.lit (.int .i64 x.2.1),.lit (.int .i64 x.2.2)]
def fh (l:List It):AV:=if l = [] then .lit (.slice none 0 0) else .sl false 4 (l.map itAV)
def foot (c q0 m0 q1 m1 wid:Nat) (bv:AV):List Nat:=[c,q0,q1,m0,m1,wid]++ah bv
def ChPost (st:St) (c:Nat) (P:ChP) (q0 m0 q1 m1 wid:Nat) (bv:AV) (st':St):Prop :=
  ∃ bv',ChIs st' c P q0 m0 q1 m1 wid bv'∧Kp st st' (foot c q0 m0 q1 m1 wid bv)∧∀ x ∈ ah bv',x ∈ ah bv∨st.boxes.length≤x
theorem ChIs.post {st st':St} {c q0 m0 q1 m1 wid:Nat} {bv:AV} {P:ChP} (h:ChIs st' c P q0 m0 q1 m1 wid bv) (hk:Kp st st' (foot c q0 m0 q1 m1 wid bv)):ChPost st c P q0 m0 q1 m1 wid bv st':=⟨bv,h,hk,fun _ h=>.inl h⟩
theorem ChIs.rebufC {st st1:St} {c q0 m0 q1 m1 wid:Nat} {bv bv1:AV} {P:ChP} {cl:Bool} {b':List Int} (h:ChIs st c P q0 m0 q1 m1 wid bv) (hm:MB bv1 st1 (ints b')) (hk:Kp st st1 (ah bv)) (hb:∀ x ∈ ah bv1,x ∈ ah bv∨st.boxes.length≤x) :
    ChIs (st1.set c [.lit (.bool true),.lit (.bool cl),.lit (.int .i64 (P.cap:Nat)),bv1,.ptr q0 0,.ptr q1 0,.map wid]) c { P with buf:=b',closed:=cl } q0 m0 q1 m1 wid bv1 ∧
    Kp st (st1.set c [.lit (.bool true),.lit (.bool cl),.lit (.int .i64 (P.cap:Nat)),bv1,.ptr q0 0,.ptr q1 0,.map wid]) (foot c q0 m0 q1 m1 wid bv):=by
  have hlt:=h.lts
  have hids:=h.ids
  have hbid:=h.bid
  have hcl:c < st1.boxes.length:=Nat.lt_of_lt_of_le (hlt c (by simp)) hk.1
  simp only [List.nodup_cons,List.mem_cons,List.not_mem_nil,or_false,not_or] at hids
  have hat:∀ x ∈ [q0,q1,m0,m1,wid],(st1.set c [.lit (.bool true),.lit (.bool cl),.lit (.int .i64 (P.cap:Nat)),bv1,.ptr q0 0,.ptr q1 0,.map wid]).boxes[x]? = st.boxes[x]?:=by
    intro x hx
    rw [b9 (by simp at hx; omega)]
    refine hk.2 x (hlt x (by simp at hx ⊢; omega)) fun e=>?_
    exact hbid x e (by simp at hx ⊢; omega)
  have hbc:∀ x ∈ ah bv1,x ∉ [c,q0,q1,m0,m1,wid]:=by
    intro x hx hin
    rcases hb x hx with e | e
    · exact hbid x e hin
    · have:=hlt x (List.mem_append_left _ hin); omega
  obtain ⟨W,hW,hl⟩:=h.w
  refine ⟨⟨aw hcl,hm.at fun x hx=>b9 fun e=>hbc x hx (by simp [e]),h.s.at (hat _ (by simp)) (hat _ (by simp)),h.r.at (hat _ (by simp)) (hat _ (by simp)),⟨W,hW.at (hat _ (by simp)),hl⟩,h.ids,hbc,h.nd,h.rng,h.zv⟩,⟨by rw [eI]; exact hk.1,fun x hx hn=>?_⟩⟩
  simp only [foot,List.mem_append,List.mem_cons,List.not_mem_nil,or_false,not_or] at hn
  rw [b9 hn.1.1]
  exact hk.2 x hx hn.2
end Go.Fx
