/- An evaluator for resolved code, proved against the model: part 6. -/
import Derived.Test.YtbdjfccgkdgbfaaFxE
/- Maps with plain keys, as lists; boxes that others are left alone by. -/
namespace Go.Fx
open Go
section
variable {β:Type}
def fV (t:Int):List (Int×β)→Nat→Option (Nat×β)
  | [],_=>none
  | (k,b)::r,i=>if t = k then some (i,b) else fV t r (i + 1)
def bu (t:Int):List (Int×β)→Option β
  | []=>none
  | (k,b)::r=>if t = k then some b else bu t r
def updP (t:Int) (b:β):List (Int×β)→List (Int×β)
  | []=>[(t,b)]
  | (k,c)::r=>if t = k then (t,b)::r else (k,c)::updP t b r
def delP (t:Int):List (Int×β)→List (Int×β)
  | []=>[]
  | (k,c)::r=>if t = k then r else (k,c)::delP t r
def ck (m:List (Int×β)):List Int:=m.map Prod.fst
theorem fC (t:Int):∀ (m:List (Int×β)) (i:Nat),(fV t m i).map Prod.snd = bu t m
  | [],_=>rfl
  | (k, b) :: r, i => by
    simp only [fV,bu]; split; · rfl
    · exact fC t r (i + 1)
theorem kI {γ:Type} (e:Int×β→γ) (t:Int) (b:β):∀ (m:List (Int×β)) (i:Nat),match fV t m i with
    | some (j,_)=>i≤j∧(m.map e).set (j - i) (e (t,b)) = (updP t b m).map e∧(m.map e).eraseIdx (j - i) = (delP t m).map e∧j - i < m.length
    | none=>m.map e++[e (t,b)] = (updP t b m).map e∧delP t m = m
  | [],_=>by simp [fV,updP,delP]
  | (k, c) :: r, i => by
    simp only [fV]
    by_cases h:t = k
    · subst h
      simp [updP,delP]
    · rw [if_neg h]
      have ih:=kI e t b r (i + 1)
      cases hf:fV t r (i + 1) with
      | none=>rw [hf] at ih; simp only at ih; simp [updP,delP,h,ih.1,ih.2]
      | some p =>
        obtain ⟨j,c'⟩:=p
        rw [hf] at ih
        simp only at ih ⊢
        obtain ⟨h1,h2,h3,h4⟩:=ih
        obtain ⟨q,rfl⟩:∃ q,j = i + 1 + q:=⟨j - (i + 1),by omega⟩
        rw [show i + 1 + q - (i + 1) = q by omega] at h2 h3 h4
        rw [show i + 1 + q - i = q + 1 by omega]
        refine ⟨by omega,?_,?_,by simp; omega⟩
        · simp [updP,h,h2]
        · simp [delP,h,h3]
theorem dG (t t':Int) (b:β):∀ m:List (Int×β),bu t' (updP t b m) = if t' = t then some b else bu t' m
  | []=>by simp only [updP,bu]
  | (k, c) :: r => by
    simp only [updP]
    by_cases h:t = k
    · subst h
      rw [if_pos rfl]
      simp only [bu]
      split <;> rfl
    · rw [if_neg h]
      simp only [bu]
      rw [dG t t' b r]
      by_cases h1:t' = k
      · subst h1
        have:¬ t' = t:=fun e=>h e.symm
        simp [this]
      · simp [h1]
theorem o8 {t:Int}:∀ {m:List (Int×β)},t ∉ ck m→bu t m = none
  | [],_=>rfl
  | (k, c) :: r, h => by
    simp only [ck,List.map_cons,List.mem_cons,not_or] at h
    simp only [bu]
    rw [if_neg h.1]
    exact o8 h.2
theorem nD (t t':Int):∀ {m:List (Int×β)},(ck m).Nodup→bu t' (delP t m) = if t' = t then none else bu t' m
  | [],_=>by simp [delP,bu]
  | (k, c) :: r, hn => by
    simp only [ck,List.map_cons,List.nodup_cons] at hn
    simp only [delP]
    by_cases h:t = k
    · subst h
      rw [if_pos rfl]
      simp only [bu]
      by_cases h1:t' = t
      · subst h1; rw [if_pos rfl]; exact o8 hn.1
      · rw [if_neg h1,if_neg h1]
    · rw [if_neg h]
      simp only [bu]
      by_cases h1:t' = k
      · subst h1
        have:¬ t' = t:=fun e=>h e.symm
        simp [this]
      · rw [if_neg h1,if_neg h1]; exact nD t t' hn.2
theorem e6 (t:Int) (b:β):∀ m:List (Int×β),(updP t b m).length = if (bu t m).isSome then m.length else m.length + 1
  | []=>by simp [updP,bu]
  | (k, c) :: r => by
    simp only [updP,bu]
    by_cases h:t = k
    · simp [h]
    · simp only [if_neg h,List.length_cons,e6 t b r]
      split <;> rfl
theorem p0 (t:Int):∀ m:List (Int×β),(delP t m).length = if (bu t m).isSome then m.length - 1 else m.length
  | []=>by simp [delP,bu]
  | (k, c) :: r => by
    simp only [delP,bu]
    by_cases h:t = k
    · simp [h]
    · simp only [if_neg h,List.length_cons,p0 t r]
      split
      · rename_i q
        have:r≠[]:=by rintro rfl; simp [bu] at q
        have:=List.length_pos_iff.2 this
        omega
      · rfl
theorem keys_upd (t:Int) (b:β):∀ m:List (Int×β),ck (updP t b m) = if (bu t m).isSome then ck m else ck m++[t]
  | []=>by simp [updP,bu,ck]
  | (k, c) :: r => by
    simp only [updP,bu]
    by_cases h:t = k
    · simp [h,ck]
    · have:=keys_upd t b r
      simp only [ck] at this
      simp only [if_neg h,ck,List.map_cons,this]
      split <;> rfl
theorem j0 (t x:Int):∀ {m:List (Int×β)},x ∈ ck (delP t m)→x ∈ ck m
  | [],h=>h
  | (k, c) :: r, h => by
    simp only [delP] at h
    simp only [ck,List.map_cons,List.mem_cons]
    split at h
    · exact .inr h
    · simp only [ck,List.map_cons,List.mem_cons] at h
      rcases h with h | h
      · exact .inl h
      · exact .inr (j0 t x h)
theorem kJ {t:Int} {b:β} {m:List (Int×β)} (h:(ck m).Nodup):(ck (updP t b m)).Nodup:=by
  rw [keys_upd]
  split
  · exact h
  · rename_i hs
    refine List.nodup_append.2 ⟨h,by simp,?_⟩
    intro x hx y hy
    simp only [List.mem_singleton] at hy
    subst hy
    rintro rfl
    have:∀ m:List (Int×β),x ∈ ck m→(bu x m).isSome = true:=by
      intro m
      induction m with
      | nil=>intro h; simp [ck] at h
      | cons p r ih =>
        obtain ⟨k,c⟩:=p
        intro h
        simp only [ck,List.map_cons,List.mem_cons] at h
        simp only [bu]
        split
        · rfl
        · rename_i hne
          rcases h with h | h
          · exact absurd h hne
          · exact ih h
    exact hs (this m hx)
theorem kK {t:Int}:∀ {m:List (Int×β)},(ck m).Nodup→(ck (delP t m)).Nodup
  | [],h=>h
  | (k, c) :: r, h => by
    simp only [ck,List.map_cons,List.nodup_cons] at h
    simp only [delP]
    split
    · exact h.2
    · simp only [ck,List.map_cons,List.nodup_cons]
      exact ⟨fun e=>h.1 (j0 t k e),kK h.2⟩
def encE (k:IntKind) (ev:β→AV) (p:Int×β):AV×AV:=(.lit (.int k p.1),ev p.2)
def encM (k:IntKind) (ev:β→AV) (m:List (Int×β)):List (AV×AV):=m.map (encE k ev)
theorem iJ (k:IntKind) (ev:β→AV) (t:Int):∀ (m:List (Int×β)) (i:Nat),cH (.lit (.int k t)) (encM k ev m) i = .ok ((fV t m i).map fun p=>(p.1,ev p.2))
  | [],_=>rfl
  | (q, b) :: r, i => by
    have ih:=iJ k ev t r (i + 1)
    simp only [encM,List.map_cons,encE,cH,cG,if_true,fV] at ih ⊢
    by_cases h:t = q
    · subst h; simp
    · have:(t == q) = false:=by simpa using h
      simp only [this,if_neg h,Bool.false_eq_true,if_false]
      exact ih
end
section
variable {st st':St} {id q:Nat}
theorem getM_lt {es:List (AV×AV)} (h:st.getM id = some es):id < st.boxes.length:=by
  unfold St.getM at h
  split at h
  · rename_i hb
    exact (List.getElem?_eq_some_iff.1 hb).1
  · cases h
theorem cE (h:st'.boxes[id]? = st.boxes[id]?):st'.get id = st.get id:=by unfold St.get; rw [h]
theorem getM_at (h:st'.boxes[id]? = st.boxes[id]?):st'.getM id = st.getM id:=by unfold St.getM; rw [h]
theorem getB_at (h:st'.boxes[id]? = st.boxes[id]?):st'.getB id = st.getB id:=by unfold St.getB; rw [h]
theorem bT {cs:List AV} (h:id≠q):(st.set q cs).boxes[id]? = st.boxes[id]?:=by simp [St.set,List.getElem?_set_ne (fun e=>h e.symm)]
theorem p8 {es:List (AV×AV)} {bs:List Nat} {c:Nat} (h:id≠q):(st.setM q es bs c).boxes[id]? = st.boxes[id]?:=by simp [St.setM,List.getElem?_set_ne (fun e=>h e.symm)]
theorem b9 {b:Box} (h:id < st.boxes.length):(st.push b).boxes[id]? = st.boxes[id]?:=by simp [St.push,List.getElem?_append_left h]
theorem kL {es:List (AV×AV)} {bs:List Nat} {c:Nat} (h:id < st.boxes.length):(st.setM id es bs c).getM id = some es:=by simp [St.setM,St.getM,h]
theorem dw {es:List (AV×AV)} {bs:List Nat} {c:Nat} (h:id < st.boxes.length):(st.setM id es bs c).getB id = (bs,c):=by simp [St.setM,St.getB,h]
theorem get_mt {es:List (AV×AV)} (h:st.getM id = some es):st.get id = none:=by
  unfold St.getM at h; unfold St.get
  split at h
  · rename_i hb; simp [hb]
  · cases h
end
def Oth (st st':St) (S:List Nat):Prop:=st'.boxes.length = st.boxes.length∧∀ id,id ∉ S→st'.boxes[id]? = st.boxes[id]?
theorem Oth.refl (st:St) (S:List Nat):Oth st st S:=⟨rfl,fun _ _=>rfl⟩
theorem Oth.trans {a b c:St} {S:List Nat} (h:Oth a b S) (k:Oth b c S):Oth a c S:=⟨k.1.trans h.1,fun id hid=>(k.2 id hid).trans (h.2 id hid)⟩
theorem Oth.mono {a b:St} {S S':List Nat} (h:Oth a b S) (hs:∀ x ∈ S,x ∈ S'):Oth a b S':=⟨h.1,fun id hid=>h.2 id fun e=>hid (hs id e)⟩
theorem Oth.set (st:St) (q:Nat) (cs:List AV) {S:List Nat} (h:q ∈ S):Oth st (st.set q cs) S:=⟨eN ..,fun id hid=>bT fun e=>hid (e ▸ h)⟩
theorem Oth.get {a b:St} {S:List Nat} (h:Oth a b S) {id:Nat} (hid:id ∉ S):b.get id = a.get id:=cE (h.2 id hid)
section
variable {β:Type}
structure MapIs (st:St) (id:Nat) (k:IntKind) (ev:β→AV) (m:List (Int×β)):Prop where
  get:st.getM id = some (encM k ev m)
  nd:(ck m).Nodup
  bl:(st.getB id).1.length = m.length
  bn:(st.getB id).1.Nodup
  bc:∀ b ∈ (st.getB id).1,b < (st.getB id).2
variable {st st':St} {id:Nat} {k:IntKind} {ev:β→AV} {m:List (Int×β)}
theorem MapIs.lt (h:MapIs st id k ev m):id < st.boxes.length:=getM_lt h.get
theorem MapIs.at (h:MapIs st id k ev m) (hb:st'.boxes[id]? = st.boxes[id]?):MapIs st' id k ev m:=by
  refine ⟨(getM_at hb).trans h.get,h.nd,?_,?_,?_⟩ <;> rw [getB_at hb]
  · exact h.bl
  · exact h.bn
  · exact h.bc
theorem MapIs.set (h:MapIs st id k ev m) {q:Nat} {cs:List AV} (hq:id≠q):MapIs (st.set q cs) id k ev m:=h.at (bT hq)
theorem MapIs.push (h:MapIs st id k ev m) (b:Box):MapIs (st.push b) id k ev m:=h.at (b9 h.lt)
theorem MapIs.ne (h:MapIs st id k ev m) {q:Nat} {cs:List AV} (hq:st.get q = some cs):id≠q:=by
  rintro rfl
  rw [get_mt h.get] at hq; cases hq
theorem co (h:MapIs st id k ev m) {z:AV} {ok:Bool} {t:Int}:b8 (.int k) z ok st (.map id) (.lit (.int k t)) = .ok (match bu t m with
    | some b=>if ok then .tup [(ev b).dis,.lit (.bool true)] else (ev b).dis
    | none=>if ok then .tup [z,.lit (.bool false)] else z):=by
  have hk:keyI (.int k) (.lit (.int k t)) = true:=by simp [keyI]
  unfold b8
  rw [if_pos hk]
  simp only [h.get,Res.ofOpt,Res.bind,iJ]
  rw [← fC t m 0]
  cases fV t m 0 <;> rfl
theorem fD (h:MapIs st id k ev m) {t:Int} {b:β} {x:AV} (hx:x.solid = true) (hd:x.dis = ev b) {K:Sf→St→Prop} {sf:Sf}
    (hK:∀ st',MapIs st' id k ev (updP t b m)→Oth st st' [id]→K sf st'):updX false (.int k) (.map id) (.lit (.int k t)) x K sf st:=by
  refine ⟨by simp [keyI],rfl,hx,?_⟩
  have hlt:=h.lt
  simp only [h.get,Res.ofOpt,Res.wp,iJ,hd]
  have hu:=kI (encE k ev) t b m 0
  cases hf:fV t m 0 with
  | none =>
    rw [hf] at hu
    simp only [Option.map_none,St.updM,updA]
    have hno:bu t m = none:=by rw [← fC t m 0,hf]; rfl
    refine hK _ ⟨?_,kJ h.nd,?_,?_,?_⟩ ⟨by simp [St.setM],fun q hq=>p8 (by simpa using hq)⟩
    · rw [kL hlt]; exact congrArg some hu.1
    · rw [dw hlt,e6,hno]; simp [h.bl]
    · rw [dw hlt]
      refine List.nodup_append.2 ⟨h.bn,by simp,fun x hx y hy e=>?_⟩
      simp only [List.mem_singleton] at hy
      subst hy; subst e
      exact Nat.lt_irrefl _ (h.bc _ hx)
    · rw [dw hlt]
      intro b hb
      simp only [List.mem_append,List.mem_singleton] at hb
      rcases hb with hb | rfl
      · have:=h.bc b hb; simp only; omega
      · simp
  | some p =>
    obtain ⟨j,c⟩:=p
    rw [hf] at hu
    simp only [Nat.sub_zero] at hu
    simp only [Option.map_some,St.updM,updA]
    have hyes:(bu t m).isSome = true:=by rw [← fC t m 0,hf]; rfl
    refine hK _ ⟨?_,kJ h.nd,?_,?_,?_⟩ ⟨by simp [St.setM],fun q hq=>p8 (by simpa using hq)⟩
    · rw [kL hlt]; exact congrArg some hu.2.1
    · rw [dw hlt,e6,if_pos hyes]; exact h.bl
    · rw [dw hlt]; exact h.bn
    · rw [dw hlt]; exact h.bc
theorem nE (h:MapIs st id k ev m) {t:Int} {K:Sf→St→Prop} {sf:Sf}
    (hK:∀ st',MapIs st' id k ev (delP t m)→Oth st st' [id]→K sf st'):delX false (.int k) (.map id) (.lit (.int k t)) K sf st:=by
  refine ⟨by simp [keyI],rfl,?_⟩
  have hlt:=h.lt
  simp only [h.get,Res.ofOpt,Res.wp,iJ]
  cases hf:fV t m 0 with
  | none =>
    have hu:delP t m = m:=by
      have:∀ (m:List (Int×β)) (i:Nat),fV t m i = none→delP t m = m:=by
        intro m
        induction m with
        | nil=>intro i _; rfl
        | cons p r ih =>
          obtain ⟨k,c⟩:=p
          intro i h
          simp only [fV] at h
          simp only [delP]
          split at h
          · cases h
          · rename_i hne; rw [if_neg hne,ih (i + 1) h]
      exact this m 0 hf
    simp only [Option.map_none]
    exact hK _ (by rw [hu]; exact h) (Oth.refl _ _)
  | some p =>
    obtain ⟨j,c⟩:=p
    have hu:=kI (encE k ev) t c m 0
    rw [hf] at hu
    simp only [Nat.sub_zero] at hu
    simp only [Option.map_some,St.delM]
    have hyes:(bu t m).isSome = true:=by rw [← fC t m 0,hf]; rfl
    refine hK _ ⟨?_,kK h.nd,?_,?_,?_⟩ ⟨by simp [St.setM],fun q hq=>p8 (by simpa using hq)⟩
    · rw [kL hlt]; exact congrArg some hu.2.2.1
    · rw [dw hlt,p0,if_pos hyes]
      simp only [List.length_eraseIdx,h.bl,if_pos hu.2.2.2]
    · rw [dw hlt]; exact h.bn.sublist (List.eraseIdx_sublist ..)
    · rw [dw hlt]; exact fun b hb=>h.bc b (List.mem_of_mem_eraseIdx hb)
theorem nF (h:MapIs st id k ev m):lenI .mp st (.map id) = .ok (.lit (.int .i64 m.length)):=by
  simp only [lenI,h.get,Res.ofOpt,Res.bind,encM,List.length_map]
theorem MapIs.new (st:St) (k:IntKind) (ev:β→AV):MapIs (st.push (.mp [] [] 0)) st.boxes.length k ev []:=by
  refine ⟨getM_push ..,by simp [ck],?_,?_,?_⟩ <;> rw [getB_push] <;> simp
end
theorem aE {P:Program} {X:Cx} {f:FuncId} {fn:AFun} {vs:List AV} {st:St} (hmix:P.follows .mixedOrders = true) (hf:hZ P X f = some fn) (hX:X.F = id) (hlen:Nat.ble vs.length fn.n = true) {v0:AV} (h:∀ Q:AV→St→Prop,(∀ st',Q v0 st')→aFun P id true fn vs st Q):aB P f vs st v0:=by
  refine pcalls_of hmix hf (Nat.le_of_ble_eq_true hlen) ?_
  rw [hX]; exact h _ fun _=>rfl
end Go.Fx
/- Linked nodes in a map: a queue (plain lists; no program in sight). -/
namespace Go.Fx
open Go
abbrev Nd:=Int×Nat×Nat
abbrev Qu:=List (Nat×Int)
def aQ:Qu→Nat→Nat
  | [],h=>h
  | (x,_)::_,_=>x
def aK:Nat→Qu→Nat
  | p,[]=>p
  | _,(t,_)::r=>aK t r
def ba:Nat→Qu→Nat→Nat→Option Nd
  | _,[],_,_=>none
  | p,(u,v)::r,h,t=>if t = u then some (v,p,aQ r h) else ba u r h t
def aT (L:Qu):List Nat:=L.map Prod.fst
theorem gp (B:Qu) (h t:Nat):∀ (A:Qu) (p:Nat),ba p (A++B) h t = match ba p A (aQ B h) t with | some x=>some x | none=>ba (aK p A) B h t
  | [],p=>rfl
  | (u, v) :: A, p => by
    simp only [List.cons_append,ba,aK]
    split
    · cases A <;> rfl
    · exact gp B h t A u
theorem cN {h t:Nat}:∀ {L:Qu} {p:Nat},t ∉ aT L→ba p L h t = none
  | [],_,_=>rfl
  | (u, v) :: r, p, hn => by
    simp only [aT,List.map_cons,List.mem_cons,not_or] at hn
    simp only [ba]
    rw [if_neg hn.1]
    exact cN hn.2
theorem eQ:∀ {L:Qu} {p:Nat},L≠[]→aK p L ∈ aT L
  | [(t,v)],p,_=>by simp [aK,aT]
  | (t, v) :: y :: r, p, _ => by
    have:=eQ (L:=y::r) (p:=t) (by simp)
    simp only [aK,aT,List.map_cons,List.mem_cons] at this ⊢
    exact .inr this
theorem gq (B:Qu):∀ (A:Qu) (p:Nat),aK p (A++B) = aK (aK p A) B
  | [],_=>rfl
  | (t,v)::A,p=>gq B A t
theorem last_ne {L:Qu} {p p':Nat} (h:L≠[]):aK p L = aK p' L:=by
  cases L with
  | nil=>exact absurd rfl h
  | cons x r=>rfl
theorem p9 {h h' t:Nat}:∀ {L:Qu} {p:Nat},(aT L).Nodup→L≠[]→ba p L h' t = if t = aK p L then (ba p L h t).map (fun x=>(x.1,x.2.1,h')) else ba p L h t
  | [(u, v)], p, _, _ => by
    simp only [ba,aK,aQ]
    by_cases e:t = u
    · simp [e]
    · simp [e]
  | (u, v) :: (u2, v2) :: r, p, hn, _ => by
    have ih:=p9 (h:=h) (h':=h') (t:=t) (L:=(u2,v2)::r) (p:=u) (List.nodup_cons.1 hn).2 (by simp)
    have hl:=eQ (L:=(u2,v2)::r) (p:=u) (by simp)
    have hne:u≠aK u ((u2,v2)::r):=fun e=>(List.nodup_cons.1 hn).1 (by rw [e]; exact hl)
    have e0:∀ q,ba p ((u,v)::(u2,v2)::r) q t = if t = u then some (v,p,u2) else ba u ((u2,v2)::r) q t:=fun q=>rfl
    rw [e0,e0,show aK p ((u,v)::(u2,v2)::r) = aK u ((u2,v2)::r) from rfl]
    by_cases e:t = u
    · subst e; rw [if_pos rfl,if_pos rfl,if_neg hne]
    · rw [if_neg e,if_neg e]; exact ih
theorem nodeA_p {h t p p':Nat} {u:Nat} {v:Int} {r:Qu} (hn:(aT ((u,v)::r)).Nodup):ba p' ((u,v)::r) h t = if t = u then (ba p ((u,v)::r) h t).map (fun x=>(x.1,p',x.2.2)) else ba p ((u,v)::r) h t:=by
  simp only [ba]
  by_cases e:t = u
  · simp [e]
  · simp [e]
theorem nodeA_push {L:Qu} {u:Nat} {v:Int} {t:Nat} (hn:(aT L).Nodup) (hu:u ∉ aT L) (hL:L≠[]) :
    ba 0 (L++[(u,v)]) 0 t = if t = aK 0 L then (ba 0 L 0 t).map (fun x=>(x.1,x.2.1,u)) else if t = u then some (v,aK 0 L,0) else ba 0 L 0 t:=by
  rw [gp]
  simp only [aQ,ba]
  have hl:=eQ (p:=0) hL
  rw [p9 (h:=0) hn hL]
  by_cases e:t = aK 0 L
  · rw [if_pos e,if_pos e]
    cases hx:ba 0 L 0 t with
    | some x=>rfl
    | none =>
      exfalso
      have:∀ (L:Qu) (p:Nat),t ∈ aT L→ba p L 0 t≠none:=by
        intro L
        induction L with
        | nil=>intro p h; simp [aT] at h
        | cons y r ih =>
          obtain ⟨a,b⟩:=y
          intro p h
          simp only [ba]
          split
          · simp
          · rename_i hne
            simp only [aT,List.map_cons,List.mem_cons] at h
            exact ih a (h.resolve_left hne)
      exact this L 0 (e ▸ hl) hx
  · rw [if_neg e,if_neg e]
    by_cases e2:t = u
    · subst e2; rw [cN hu]
      try simp
    · simp only [if_neg e2]
      cases ba 0 L 0 t <;> rfl
theorem nodeA_del {A B:Qu} {u:Nat} {v:Int} {t:Nat} (hn:(aT (A++(u,v)::B)).Nodup) :
    ba 0 (A++B) 0 t = if t = u then none else
      if A≠[]∧t = aK 0 A then (ba 0 (A++(u,v)::B) 0 t).map (fun x=>(x.1,x.2.1,aQ B 0)) else
      if B≠[]∧t = aQ B 0 then (ba 0 (A++(u,v)::B) 0 t).map (fun x=>(x.1,aK 0 A,x.2.2)) else ba 0 (A++(u,v)::B) 0 t:=by
  have h1:(aT A).Nodup∧(aT ((u,v)::B)).Nodup∧∀ x ∈ aT A,∀ y ∈ aT ((u,v)::B),x≠y:=by
    simp only [aT,List.map_append] at hn
    exact List.nodup_append.1 hn
  obtain ⟨hA,hB0,hAB⟩:=h1
  have hB:=List.nodup_cons.1 hB0
  have hu:u ∉ aT A:=fun e=>hAB u e u (by simp [aT]) rfl
  rw [gp,gp,show aQ ((u,v)::B) 0 = u from rfl]
  by_cases e:t = u
  · subst e
    rw [if_pos rfl,cN hu]
    exact cN hB.1
  · rw [if_neg e]
    have e1:ba (aK 0 A) ((u,v)::B) 0 t = ba u B 0 t:=by simp only [ba]; rw [if_neg e]
    rw [e1]
    by_cases hAe:A = []
    · subst hAe
      simp only [ba,aK,ne_eq,not_true_eq_false,false_and,if_false]
      cases B with
      | nil=>simp [ba]
      | cons y r =>
        obtain ⟨w,z⟩:=y
        rw [nodeA_p (p:=u) (p':=0) hB.2]
        simp [show aQ ((w,z)::r) 0 = w from rfl]
    · rw [p9 (h:=u) (h':=aQ B 0) hA hAe]
      by_cases e2:t = aK 0 A
      · have hin:t ∈ aT A:=e2 ▸ eQ hAe
        rw [if_pos e2,if_pos ⟨hAe,e2⟩]
        cases hx:ba 0 A u t with
        | some x=>rfl
        | none =>
          have hnb:t ∉ aT B:=fun hb=>hAB t hin t (by simp only [aT,List.map_cons,List.mem_cons]; exact .inr hb) rfl
          simp only [Option.map_none,cN hnb]
      · rw [if_neg e2,if_neg (fun q=>e2 q.2)]
        cases B with
        | nil=>simp [ba]
        | cons y r =>
          obtain ⟨w,z⟩:=y
          rw [nodeA_p (p:=u) (p':=aK 0 A) hB.2]
          simp only [show aQ ((w,z)::r) 0 = w from rfl,ne_eq,reduceCtorEq,not_false_eq_true,true_and]
          by_cases e3:t = w
          · have hna:t ∉ aT A:=fun ha=>hAB t ha t (by simp [aT,e3]) rfl
            rw [if_pos e3,if_pos e3,cN hna]
          · rw [if_neg e3,if_neg e3]
theorem nodeA_at {A B:Qu} {u:Nat} {v:Int} (hu:u ∉ aT A):ba 0 (A++(u,v)::B) 0 u = some (v,aK 0 A,aQ B 0):=by
  rw [gp,cN hu]
  simp [ba]
def ndAV (x:Nd):AV:=.agg [.lit (.int .i64 x.1),.lit (.int .u64 (x.2.1:Nat)),.lit (.int .u64 (x.2.2:Nat))]
theorem ndAV_dis (x:Nd):(ndAV x).dis = ndAV x:=rfl
structure QIs (st:St) (q mid:Nat) (L:Qu) (g:Nat):Prop where
  get:st.get q = some [.lit (.int .u64 (aQ L 0:Nat)),.lit (.int .u64 (aK 0 L:Nat)),.lit (.int .u64 (g:Nat)),.map mid]
  mp:∃ m,MapIs st mid .u64 ndAV m∧(∀ t:Nat,bu t m = ba 0 L 0 t)∧m.length = L.length
  srt:(aT L).Pairwise (· < ·)
  pos:∀ t ∈ aT L,0 < t∧t≤g
theorem QIs.nd {st:St} {q mid g:Nat} {L:Qu} (h:QIs st q mid L g):(aT L).Nodup:=h.srt.imp fun h=>Nat.ne_of_lt h
theorem QIs.ne {st:St} {q mid g:Nat} {L:Qu} (h:QIs st q mid L g):mid≠q:=by
  obtain ⟨m,hm,_⟩:=h.mp
  exact hm.ne h.get
theorem QIs.ltq {st:St} {q mid g:Nat} {L:Qu} (h:QIs st q mid L g):q < st.boxes.length:=bh h.get
theorem QIs.ltm {st:St} {q mid g:Nat} {L:Qu} (h:QIs st q mid L g):mid < st.boxes.length:=by
  obtain ⟨m,hm,_⟩:=h.mp
  exact hm.lt
theorem QIs.at {st st':St} {q mid g:Nat} {L:Qu} (h:QIs st q mid L g) (h1:st'.boxes[q]? = st.boxes[q]?) (h2:st'.boxes[mid]? = st.boxes[mid]?):QIs st' q mid L g:=by
  obtain ⟨m,hm,h3,h4⟩:=h.mp
  exact ⟨(cE h1).trans h.get,⟨m,hm.at h2,h3,h4⟩,h.srt,h.pos⟩
theorem QIs.nil_iff {st:St} {q mid g:Nat} {L:Qu} (h:QIs st q mid L g):(aQ L 0 = 0↔L = [])∧(aK 0 L = 0↔L = []):=by
  cases L with
  | nil=>simp [aQ,aK]
  | cons x r =>
    obtain ⟨t,v⟩:=x
    have h1:=h.pos t (by simp [aT])
    have h2:=h.pos _ (eQ (L:=(t,v)::r) (p:=0) (by simp))
    simp only [aQ,reduceCtorEq,iff_false]
    omega
theorem fE {t:Nat}:∀ {L:Qu} {p:Nat},t ∈ aT L→∃ x,ba p L 0 t = some x
  | (u, v) :: r, p, h => by
    simp only [ba]
    split
    · exact ⟨_,rfl⟩
    · rename_i hne
      simp only [aT,List.map_cons,List.mem_cons] at h
      exact fE (h.resolve_left hne)
theorem cX (A B:Qu):aT (A++B) = aT A++aT B:=by simp [aT]
theorem QIs.push {st st':St} {q mid g:Nat} {L:Qu} {v:Int} (h:QIs st q mid L g) {m':List (Int×Nd)} (hg:st'.get q = some [.lit (.int .u64 (aQ (L++[(g + 1,v)]) 0:Nat)),.lit (.int .u64 ((g + 1:Nat))),.lit (.int .u64 ((g + 1:Nat))),.map mid])
    (hm:MapIs st' mid .u64 ndAV m') (hl:∀ t:Nat,bu t m' = ba 0 (L++[(g + 1,v)]) 0 t) (hn:m'.length = L.length + 1):QIs st' q mid (L++[(g + 1,v)]) (g + 1):=by
  refine ⟨by rw [gq]; exact hg,⟨m',hm,hl,by simp [hn]⟩,?_,fun t ht=>?_⟩
  · rw [cX]
    refine List.pairwise_append.2 ⟨h.srt,by simp [aT],fun x hx y hy=>?_⟩
    simp only [aT,List.map_cons,List.map_nil,List.mem_singleton] at hy
    have:=(h.pos x hx).2
    omega
  · rw [cX] at ht
    rcases List.mem_append.1 ht with ht | ht
    · have:=h.pos t ht; omega
    · simp only [aT,List.map_cons,List.map_nil,List.mem_singleton] at ht
      omega
theorem QIs.fresh {st:St} {q mid g:Nat} {L:Qu} (h:QIs st q mid L g):g + 1 ∉ aT L:=fun e=>by have:=(h.pos _ e).2; omega
theorem QIs.del {st st':St} {q mid g:Nat} {A B:Qu} {t:Nat} {v:Int} (h:QIs st q mid (A++(t,v)::B) g) {m':List (Int×Nd)} (hg:st'.get q = some [.lit (.int .u64 (aQ (A++B) 0:Nat)),.lit (.int .u64 (aK 0 (A++B):Nat)),.lit (.int .u64 (g:Nat)),.map mid])
    (hm:MapIs st' mid .u64 ndAV m') (hl:∀ t:Nat,bu t m' = ba 0 (A++B) 0 t) (hn:m'.length = (A++B).length):QIs st' q mid (A++B) g:=by
  have hsub:(aT (A++B)).Sublist (aT (A++(t,v)::B)):=by
    simp only [cX]
    exact List.Sublist.append (List.Sublist.refl _) (List.sublist_cons_self _ _)
  exact ⟨hg,⟨m',hm,hl,hn⟩,h.srt.sublist hsub,fun x hx=>h.pos x (hsub.subset hx)⟩
end Go.Fx
/- A channel's state: plain lists, and where they lie. -/
namespace Go.Fx
open Go
abbrev W3:=Nat×Int×Int
structure ChP where
  closed:Bool
  cap:Nat
  buf:List Int
  S:List W3
  V:List W3
  g0:Nat
  g1:Nat
def qOf (l:List W3):Qu:=l.map fun x=>(x.1,x.2.1)
def wEnt (d:Int) (l:List W3):List (Int×(Int×Int×Nat)):=l.map fun x=>(x.2.1,(d,x.2.2,x.1))
def entC (S V:List W3):List (Int×(Int×Int×Nat)):=wEnt 0 S++wEnt 1 V
def wtAV (x:Int×Int×Nat):AV:=.agg [.lit (.int .i64 x.1),.lit (.int .i64 x.2.1),.lit (.int .u64 (x.2.2:Nat))]
def ints (l:List Int):List AV:=l.map fun v=>.lit (.int .i64 v)
def ap:AV→List Nat
  | .bs id _ _ _ _=>[id]
  | _=>[]
structure ChIs (st:St) (c:Nat) (P:ChP) (q0 m0 q1 m1 wid:Nat) (bv:AV):Prop where
  get:st.get c = some [.lit (.bool true),.lit (.bool P.closed),.lit (.int .i64 (P.cap:Nat)),bv,.ptr q0 0,.ptr q1 0,.map wid]
  buf:MB bv st (ints P.buf)
  s:QIs st q0 m0 (qOf P.S) P.g0
  r:QIs st q1 m1 (qOf P.V) P.g1
  w:∃ W,MapIs st wid .i64 wtAV W∧∀ t,bu t W = bu t (entC P.S P.V)
  ids:[c,q0,q1,m0,m1,wid].Nodup
  bid:∀ x ∈ ap bv,x ∉ [c,q0,q1,m0,m1,wid]
  nd:(ck (entC P.S P.V)).Nodup
  rng:∀ t ∈ ck (entC P.S P.V),0≤t∧t < 64
  zv:∀ x ∈ P.V,x.2.2 = 0
def Kp (st st':St) (F:List Nat):Prop:=st.boxes.length≤st'.boxes.length∧∀ id,id < st.boxes.length→id ∉ F→st'.boxes[id]? = st.boxes[id]?
theorem Kp.refl (st:St) (F:List Nat):Kp st st F:=⟨Nat.le_refl _,fun _ _ _=>rfl⟩
theorem Kp.trans {a b c:St} {F F':List Nat} (h:Kp a b F) (k:Kp b c F') (hf:∀ x ∈ F',x ∈ F∨a.boxes.length≤x):Kp a c F :=
  ⟨Nat.le_trans h.1 k.1,fun id hid hn=>(k.2 id (Nat.lt_of_lt_of_le hid h.1) fun e=>(hf id e).elim hn (fun q=>by omega)).trans (h.2 id hid hn)⟩
theorem Oth.kp {st st':St} {S F:List Nat} (h:Oth st st' S) (hs:∀ x ∈ S,x ∈ F):Kp st st' F:=⟨Nat.le_of_eq h.1.symm,fun id _ hn=>h.2 id fun e=>hn (hs id e)⟩
theorem MB.at {v:AV} {st st':St} {l:List AV} (h:MB v st l) (hb:∀ x ∈ ap v,st'.boxes[x]? = st.boxes[x]?):MB v st' l:=by
  rcases h with ⟨rfl,rfl⟩ | ⟨id,cap,r,rfl,hg,h1,h2⟩
  · exact .inl ⟨rfl,rfl⟩
  · exact .inr ⟨id,cap,r,rfl,(cE (hb id (by simp [ap]))).trans hg,h1,h2⟩
theorem MB.lt {v:AV} {st:St} {l:List AV} (h:MB v st l):∀ x ∈ ap v,x < st.boxes.length:=by
  rcases h with ⟨rfl,rfl⟩ | ⟨id,cap,r,rfl,hg,h1,h2⟩
  · simp [ap]
  · intro x hx
    simp only [ap,List.mem_singleton] at hx
    subst hx
    exact bh hg
section
variable {st st':St} {c q0 m0 q1 m1 wid:Nat} {bv:AV} {P:ChP}
theorem ChIs.lts (h:ChIs st c P q0 m0 q1 m1 wid bv):∀ x ∈ [c,q0,q1,m0,m1,wid]++ap bv,x < st.boxes.length:=by
  obtain ⟨W,hW,_⟩:=h.w
  intro x hx
  simp only [List.mem_append,List.mem_cons,List.not_mem_nil,or_false] at hx
  rcases hx with (rfl | rfl | rfl | rfl | rfl | rfl) | hx
  · exact bh h.get
  · exact h.s.ltq
  · exact h.r.ltq
  · exact h.s.ltm
  · exact h.r.ltm
  · exact hW.lt
  · exact h.buf.lt x hx
end
theorem MB.grow {v:AV} {st:St} {l new:List AV} {bytes:Nat} {C:AV→St→Prop} (h:MB v st l) (hl:Lits l) (hn:Lits new) (hr:gJ (l.length + new.length) bytes = true)
    (hC:∀ v' st',MB v' st' (l++new)→Kp st st' (ap v)→(∀ x ∈ ap v',x ∈ ap v∨st.boxes.length≤x)→C v' st'):appX false 1 bytes v C st new:=by
  rcases h with ⟨rfl,rfl⟩ | ⟨id,cap,r,rfl,hg,h1,h2⟩
  · refine ⟨rfl,by simpa using hr,?_⟩
    split
    · rename_i h
      have:new = []:=by simpa using h
      subst this
      exact hC _ _ (.inl ⟨rfl,rfl⟩) (Kp.refl _ _) (by simp [ap])
    · intro c hc
      refine hC _ _ (.inr ⟨st.boxes.length,c,List.replicate (c - new.length) .any,by simp,?_,by simpa using hc,by simp; omega⟩) ⟨by simp [St.push],fun id hid _=>b9 hid⟩ (by simp [ap])
      rw [hn.cellsD]
      simp only [List.nil_append,Nat.mul_one]
      exact bI st _
  · refine ⟨rfl,rfl,hr,?_⟩
    rw [hg]
    show (Res.ok _).wp _
    rw [wp_ok,hn.cellsD]
    have hid:=bh hg
    split
    · rename_i hc
      refine ⟨by omega,hC _ _ (.inr ⟨id,cap,r.drop new.length,by simp,?_,by simpa using hc,?_⟩) ⟨by simp [St.set],fun id' _ hne=>bT (by simpa [ap] using hne)⟩ (by simp [ap])⟩
      · rw [aF hid,Nat.zero_add,Nat.mul_one,gk rfl (by simp at h2; omega)]
        simp
      · simp at h2 ⊢; omega
    · rename_i hc
      have e:List.map AV.own1 (List.take (l.length * 1) (List.drop 0 (l++r))) = l:=by simp [hl.own]
      refine ⟨by simp,fun c hc=>hC _ _ (.inr ⟨st.boxes.length,c,List.replicate (c - (l.length + new.length)) .any,by simp,?_,by simpa using hc,by simp; omega⟩) ⟨by simp [St.push],fun id' hid' _=>b9 hid'⟩ (by simp [ap])⟩
      rw [e]
      simp only [Nat.mul_one]
      exact bI st _
abbrev It := Int × Int × Int  -- task, value, error
def itAV (x:It):AV:=.agg [.lit (.int .i64 x.1),.lit (.int .i64 0),.lit (.int .i64 x.2.1),.lit (.int .i64 x.2.2)]
def dA (l:List It):AV:=if l = [] then .lit (.slice none 0 0) else .sl false 4 (l.map itAV)
def foot (c q0 m0 q1 m1 wid:Nat) (bv:AV):List Nat:=[c,q0,q1,m0,m1,wid]++ap bv
def ChPost (st:St) (c:Nat) (P:ChP) (q0 m0 q1 m1 wid:Nat) (bv:AV) (st':St):Prop :=
  ∃ bv',ChIs st' c P q0 m0 q1 m1 wid bv'∧Kp st st' (foot c q0 m0 q1 m1 wid bv)∧∀ x ∈ ap bv',x ∈ ap bv∨st.boxes.length≤x
theorem ChIs.post {st st':St} {c q0 m0 q1 m1 wid:Nat} {bv:AV} {P:ChP} (h:ChIs st' c P q0 m0 q1 m1 wid bv) (hk:Kp st st' (foot c q0 m0 q1 m1 wid bv)):ChPost st c P q0 m0 q1 m1 wid bv st':=⟨bv,h,hk,fun _ h=>.inl h⟩
theorem ChIs.rebufC {st st1:St} {c q0 m0 q1 m1 wid:Nat} {bv bv1:AV} {P:ChP} {cl:Bool} {b':List Int} (h:ChIs st c P q0 m0 q1 m1 wid bv) (hm:MB bv1 st1 (ints b')) (hk:Kp st st1 (ap bv)) (hb:∀ x ∈ ap bv1,x ∈ ap bv∨st.boxes.length≤x) :
    ChIs (st1.set c [.lit (.bool true),.lit (.bool cl),.lit (.int .i64 (P.cap:Nat)),bv1,.ptr q0 0,.ptr q1 0,.map wid]) c { P with buf:=b',closed:=cl } q0 m0 q1 m1 wid bv1 ∧
    Kp st (st1.set c [.lit (.bool true),.lit (.bool cl),.lit (.int .i64 (P.cap:Nat)),bv1,.ptr q0 0,.ptr q1 0,.map wid]) (foot c q0 m0 q1 m1 wid bv):=by
  have hlt:=h.lts
  have hids:=h.ids
  have hbid:=h.bid
  have hcl:c < st1.boxes.length:=Nat.lt_of_lt_of_le (hlt c (by simp)) hk.1
  simp only [List.nodup_cons,List.mem_cons,List.not_mem_nil,or_false,not_or] at hids
  have hat:∀ x ∈ [q0,q1,m0,m1,wid],(st1.set c [.lit (.bool true),.lit (.bool cl),.lit (.int .i64 (P.cap:Nat)),bv1,.ptr q0 0,.ptr q1 0,.map wid]).boxes[x]? = st.boxes[x]?:=by
    intro x hx
    rw [bT (by simp at hx; omega)]
    refine hk.2 x (hlt x (by simp at hx ⊢; omega)) fun e=>?_
    exact hbid x e (by simp at hx ⊢; omega)
  have hbc:∀ x ∈ ap bv1,x ∉ [c,q0,q1,m0,m1,wid]:=by
    intro x hx hin
    rcases hb x hx with e | e
    · exact hbid x e hin
    · have:=hlt x (List.mem_append_left _ hin); omega
  obtain ⟨W,hW,hl⟩:=h.w
  refine ⟨⟨aF hcl,hm.at fun x hx=>bT fun e=>hbc x hx (by simp [e]),h.s.at (hat _ (by simp)) (hat _ (by simp)),h.r.at (hat _ (by simp)) (hat _ (by simp)),⟨W,hW.at (hat _ (by simp)),hl⟩,h.ids,hbc,h.nd,h.rng,h.zv⟩,⟨by rw [eN]; exact hk.1,fun x hx hn=>?_⟩⟩
  simp only [foot,List.mem_append,List.mem_cons,List.not_mem_nil,or_false,not_or] at hn
  rw [bT hn.1.1]
  exact hk.2 x hx hn.2
end Go.Fx
