/- What the functions that the statement reaches compute: part 13. -/
import Derived.Test.YtbomoaajkinfpaaFxW12
namespace Go.Fx.YtbomoaajkinfpaaFx
open Go Go.Fx
attribute [local irreducible] aC runI aw aB

set_option maxRecDepth 100000
set_option maxHeartbeats 4000000

/-! Buffers of elements of some cells. -/
def KB (k:Nat) (v:AV) (st:St) (cs:List AV) (n:Nat):Prop:=(v = .lit (.slice none 0 0)∧cs = []∧n = 0)∨∃ id cap r,v = .bs id k 0 n cap∧st.get id = some (cs++r)∧cs.length = n * k∧n≤cap∧cap * k≤(cs++r).length
section
variable {k n:Nat} {v:AV} {st st':St} {cs:List AV}
theorem KB.facts (h:KB k v st cs n):v.dis = v∧v.own1 = v∧v.own2 = v∧v.solid1 = true∧v.noL = true∧v.cells = [v]∧(∀ s,kill s v = v)∧∀ st',lenI .sl st' v = .ok (.lit (.int .i64 n)):=by
  rcases h with ⟨rfl,rfl,rfl⟩ | ⟨id,cap,r,rfl,_⟩
  · exact ⟨rfl,rfl,rfl,rfl,rfl,rfl,fun _=>rfl,fun _=>rfl⟩
  · exact ⟨rfl,rfl,rfl,rfl,rfl,rfl,fun _=>rfl,fun _=>rfl⟩
theorem KB.at (h:KB k v st cs n) (hb:∀ x ∈ ae v,st'.boxes[x]? = st.boxes[x]?):KB k v st' cs n:=by
  rcases h with h | ⟨id,cap,r,rfl,hg,h1⟩
  · exact .inl h
  · exact .inr ⟨id,cap,r,rfl,(bt (hb id (by simp [ae]))).trans hg,h1⟩
theorem KB.lt (h:KB k v st cs n):∀ x ∈ ae v,x < st.boxes.length:=by
  rcases h with ⟨rfl,_⟩ | ⟨id,cap,r,rfl,hg,_⟩
  · simp [ae]
  · intro x hx
    simp only [ae,List.mem_singleton] at hx
    subst hx
    exact bq hg
theorem KB.len (h:KB k v st cs n):cs.length = n * k:=by
  rcases h with ⟨_,rfl,rfl⟩ | ⟨id,cap,r,_,_,h1,_⟩
  · simp
  · exact h1
theorem KB.grow {new:List AV} {bytes:Nat} {C:AV→St→Prop} (h:KB k v st cs n) (ho:cs.map AV.own1 = cs) (hn:(cellsD new).length = new.length * k) (hr:dW (n + new.length) bytes = true)
    (hC:∀ v' st',KB k v' st' (cs++cellsD new) (n + new.length)→Kp st st' (ae v)→(∀ x ∈ ae v',x ∈ ae v∨st.boxes.length≤x)→C v' st'):appX false k bytes v C st new:=by
  rcases h with ⟨rfl,rfl,rfl⟩ | ⟨id,cap,r,rfl,hg,h0,h1,h2⟩
  · refine ⟨rfl,by simpa using hr,?_⟩
    split
    · rename_i h
      have:new = []:=by simpa using h
      subst this
      exact hC _ _ (.inl ⟨rfl,rfl,rfl⟩) (Kp.refl _ _) (by simp [ae])
    · intro c hc
      refine hC _ _ (.inr ⟨st.boxes.length,c,List.replicate ((c - new.length) * k) .any,by simp,bI st _,by simpa using hn,by omega,?_⟩) ⟨by simp [St.push],fun id hid _=>bu hid⟩ (by simp [ae])
      simp only [List.nil_append,List.length_append,hn,List.length_replicate]
      rw [← Nat.add_mul]
      exact Nat.mul_le_mul_right _ (by omega)
  · refine ⟨rfl,rfl,hr,?_⟩
    rw [hg]
    show (Res.ok _).wp _
    rw [wp_ok]
    have hid:=bq hg
    simp only [List.length_append] at h2
    split
    · rename_i hc
      have h3:(n + new.length) * k≤cap * k:=Nat.mul_le_mul_right _ hc
      rw [Nat.add_mul] at h3
      refine ⟨by simp only [List.length_append,Nat.zero_add,Nat.add_mul]; omega,hC _ _ (.inr ⟨id,cap,r.drop (cellsD new).length,rfl,?_,?_,hc,?_⟩) ⟨by simp [St.set],fun id' _ hne=>ce (by simpa [ae] using hne)⟩ (by simp [ae])⟩
      · rw [aS hid,Nat.zero_add,fA h0.symm (by rw [hn]; omega)]
        simp
      · simp only [List.length_append,h0,hn,Nat.add_mul]
      · simp only [List.length_append,List.length_drop,h0,hn]; omega
    · rename_i hc
      have e:List.map AV.own1 (List.take (n * k) (List.drop 0 (cs++r))) = cs:=by
        rw [List.drop_zero,← h0,List.take_left,ho]
      refine ⟨by simp only [List.length_append,Nat.zero_add]; omega,fun c hc=>hC _ _ (.inr ⟨st.boxes.length,c,List.replicate ((c - (n + new.length)) * k) .any,rfl,?_,?_,hc,?_⟩) ⟨by simp [St.push],fun id' hid' _=>bu hid'⟩ (by simp [ae])⟩
      · rw [e]; exact bI st _
      · simp only [List.length_append,h0,hn,Nat.add_mul]
      · simp only [List.length_append,h0,hn,List.length_replicate]
        rw [← Nat.add_mul,← Nat.add_mul]
        exact Nat.mul_le_mul_right _ (by omega)
end

/-! A selector lies in its boxes. -/
abbrev Cs:=Int×Bool×Int
abbrev Wt:=Int×List Cs
def csAV (x:Cs):AV:=.agg [.lit (.int .i64 x.1),.lit (.bool x.2.1),.lit (.int .i64 x.2.2)]
def csSl (l:List Cs):AV:=if l = [] then .lit (.slice none 0 0) else .sl false 3 (l.map csAV)
theorem cg (l:List Cs):(csSl l).dis = csSl l∧(csSl l).own1 = csSl l∧(csSl l).own2 = csSl l∧(csSl l).solid1 = true∧(csSl l).noL = true∧(csSl l).cells = [csSl l]∧∀ s,kill s (csSl l) = csSl l:=by
  unfold csSl; split <;> exact ⟨rfl,rfl,rfl,rfl,rfl,rfl,fun _=>rfl⟩

structure CL where
  c:Nat
  q0:Nat
  m0:Nat
  q1:Nat
  m1:Nat
  wid:Nat
  bv:AV
  P:ChP
def CL.ids (x:CL):List Nat:=foot x.c x.q0 x.m0 x.q1 x.m1 x.wid x.bv
def CL.is (x:CL) (st:St):Prop:=ChIs st x.c x.P x.q0 x.m0 x.q1 x.m1 x.wid x.bv
def ptrs (L:List CL):List AV:=L.map fun x=>.ptr x.c 0
theorem ptrs_own (L:List CL):(ptrs L).map AV.own1 = ptrs L:=by simp [ptrs,AV.own1]
structure SelIs (st:St) (s mid:Nat) (cv ov:AV) (L:List CL) (ws:List Wt):Prop where
  get:st.get s = some [cv,ov,.map mid]
  chs:KB 1 cv st (ptrs L) L.length
  ord:MB ov st (ints (ws.map (·.1)))
  mp:∃ M,MapIs st mid .i64 csSl M∧∀ t,ag t M = ag t ws
  each:∀ x ∈ L,x.is st
  sep:∃ o:Nat→Nat,(∀ (i:Nat) x,L[i]? = some x→∀ b ∈ x.ids,o b = i + 1)∧∀ b ∈ s::mid::(ae cv++ae ov),o b = 0
  own:(s::mid::(ae cv++ae ov)).Nodup

def ah (s mid:Nat) (cv ov:AV) (L:List CL):List Nat:=s::mid::(ae cv++ae ov++L.flatMap CL.ids)
def dK (st:St) (s mid:Nat) (cv ov:AV) (L:List CL) (st':St) (L':List CL) (ws':List Wt):Prop :=
  ∃ cv' ov',SelIs st' s mid cv' ov' L' ws'∧Kp st st' (ah s mid cv ov L)∧∀ x ∈ ah s mid cv' ov' L',x ∈ ah s mid cv ov L∨st.boxes.length≤x

section
variable {st st':St} {s mid:Nat} {cv ov:AV} {L:List CL} {ws:List Wt}
theorem SelIs.self (h:SelIs st s mid cv ov L ws):dK st s mid cv ov L st L ws:=⟨cv,ov,h,Kp.refl _ _,fun _ hx=>.inl hx⟩
theorem dK.step {a b c:St} {cv' ov':AV} {L' L'':List CL} {ws'':List Wt} (h1:Kp a b (ah s mid cv ov L)) (h2:∀ x ∈ ah s mid cv' ov' L',x ∈ ah s mid cv ov L∨a.boxes.length≤x) (h:dK b s mid cv' ov' L' c L'' ws''):dK a s mid cv ov L c L'' ws'':=by
  obtain ⟨cv2,ov2,k1,k2,k3⟩:=h
  exact ⟨cv2,ov2,k1,h1.trans k2 h2,fun x hx=>(k3 x hx).elim (h2 x) fun e=>.inr (Nat.le_trans h1.1 e)⟩
theorem SelIs.lts (h:SelIs st s mid cv ov L ws):∀ x ∈ ah s mid cv ov L,x < st.boxes.length:=by
  obtain ⟨M,hM,_⟩:=h.mp
  intro x hx
  simp only [ah,List.mem_cons,List.mem_append,List.mem_flatMap] at hx
  rcases hx with rfl | rfl | (hx | hx) | ⟨y,hy,hx⟩
  · exact bq h.get
  · exact hM.lt
  · exact h.chs.lt x hx
  · exact h.ord.lt x hx
  · exact (h.each y hy).lts x hx
theorem SelIs.kp (h:SelIs st s mid cv ov L ws) {F:List Nat} (hk:Kp st st' F) (hf:∀ x ∈ ah s mid cv ov L,x ∉ F):SelIs st' s mid cv ov L ws:=by
  have hat:∀ x ∈ ah s mid cv ov L,st'.boxes[x]? = st.boxes[x]?:=fun x hx=>hk.2 x (h.lts x hx) (hf x hx)
  obtain ⟨M,hM,hl⟩:=h.mp
  refine ⟨(bt (hat s (by simp [ah]))).trans h.get,h.chs.at fun x hx=>hat x (by simp [ah,hx]),h.ord.at fun x hx=>hat x (by simp [ah,hx]),⟨M,hM.at (hat _ (by simp [ah])),hl⟩,fun x hx=>?_,h.sep,h.own⟩
  refine (h.each x hx).kp hk fun y hy=>hf y ?_
  simp only [ah,List.mem_cons,List.mem_append,List.mem_flatMap]
  exact .inr (.inr (.inr ⟨x,hx,hy⟩))

/-- The ids of a channel are none of another's, nor of the selector's own. -/
theorem SelIs.apart (h:SelIs st s mid cv ov L ws) {i:Nat} {x:CL} (hi:L[i]? = some x):(∀ b ∈ x.ids,b ∉ s::mid::(ae cv++ae ov))∧∀ (j:Nat) y,L[j]? = some y→j≠i→∀ b ∈ y.ids,b ∉ x.ids:=by
  obtain ⟨o,h1,h2⟩:=h.sep
  refine ⟨fun b hb hc=>?_,fun j y hj hne b hb hc=>?_⟩
  · have:=h1 i x hi b hb
    have:=h2 b hc
    omega
  · have:=h1 i x hi b hc
    have:=h1 j y hj b hb
    omega

/-- A call at one of the channels. -/
theorem SelIs.chan (h:SelIs st s mid cv ov L ws) {i:Nat} {x:CL} (hi:L[i]? = some x) {P':ChP} (hp:cf st x.c P' x.q0 x.m0 x.q1 x.m1 x.wid x.bv st') :
    ∃ bv',SelIs st' s mid cv ov (L.set i { x with P:=P',bv:=bv' }) ws∧Kp st st' (ah s mid cv ov L)∧∀ y ∈ ah s mid cv ov (L.set i { x with P:=P',bv:=bv' }),y ∈ ah s mid cv ov L∨st.boxes.length≤y:=by
  obtain ⟨bv',hc,hk,hb⟩:=hp
  obtain ⟨a1,a2⟩:=h.apart hi
  have hil:i < L.length:=(List.getElem?_eq_some_iff.1 hi).1
  have hxm:x ∈ L:=List.mem_of_getElem? hi
  have hlt:=h.lts
  have hxin:∀ b ∈ x.ids,b ∈ ah s mid cv ov L:=fun b hb=>by
    simp only [ah,List.mem_cons,List.mem_append,List.mem_flatMap]
    exact .inr (.inr (.inr ⟨x,hxm,hb⟩))
  have hkf:Kp st st' (ah s mid cv ov L):=⟨hk.1,fun id hid hn=>hk.2 id hid fun e=>hn (hxin id e)⟩
  have hat:∀ b ∈ s::mid::(ae cv++ae ov),st'.boxes[b]? = st.boxes[b]?:=fun b hb=>hk.2 b (hlt b (by simp only [ah,List.mem_cons,List.mem_append] at hb ⊢; rcases hb with hb | hb | hb; exact .inl hb; exact .inr (.inl hb); exact .inr (.inr (.inl hb)))) fun e=>a1 b e hb
  have hnew:∀ b ∈ CL.ids { x with P:=P',bv:=bv' },b ∈ x.ids∨st.boxes.length≤b:=fun b hb'=>by
    simp only [CL.ids,foot,List.mem_append] at hb' ⊢
    rcases hb' with e | e
    · exact .inl (.inl e)
    · exact (hb b e).imp .inr id
  have hset:∀ (j:Nat) y,(L.set i { x with P:=P',bv:=bv' })[j]? = some y→(j = i∧y = { x with P:=P',bv:=bv' })∨(j≠i∧L[j]? = some y):=fun j y hj=>by
    rw [List.getElem?_set] at hj
    by_cases e:i = j
    · subst e; rw [if_pos rfl,if_pos hil] at hj; exact .inl ⟨rfl,(Option.some.inj hj).symm⟩
    · rw [if_neg e] at hj; exact .inr ⟨fun q=>e q.symm,hj⟩
  obtain ⟨M,hM,hl⟩:=h.mp
  have hptr:ptrs (L.set i { x with P:=P',bv:=bv' }) = ptrs L:=by
    apply List.ext_getElem?
    intro j
    simp only [ptrs,List.getElem?_map,List.getElem?_set]
    by_cases e:i = j
    · subst e
      have:L[i]? = some L[i]:=List.getElem?_eq_getElem hil
      have hx:L[i] = x:=Option.some.inj (this.symm.trans hi)
      simp [hil,hx]
    · simp [e]
  refine ⟨bv',⟨(bt (hat s (by simp))).trans h.get,?_,h.ord.at fun b hb=>hat b (by simp [hb]),⟨M,hM.at (hat mid (by simp)),hl⟩,fun y hy=>?_,?_,h.own⟩,hkf,fun y hy=>?_⟩
  · rw [hptr,List.length_set]
    exact h.chs.at fun b hb=>hat b (by simp [hb])
  · obtain ⟨j,hj⟩:=List.mem_iff_getElem?.1 hy
    rcases hset j y hj with ⟨rfl,rfl⟩ | ⟨hne,hj⟩
    · exact hc
    · exact (h.each y (List.mem_of_getElem? hj)).kp hk fun b hb=>a2 j y hj hne b hb
  · obtain ⟨o,h1,h2⟩:=h.sep
    refine ⟨fun b=>if b < st.boxes.length then o b else i + 1,fun j y hj b hb=>?_,fun b hb=>?_⟩
    · rcases hset j y hj with ⟨rfl,rfl⟩ | ⟨hne,hj⟩
      · rcases hnew b hb with e | e
        · exact (if_pos (hlt b (hxin b e))).trans (h1 _ x hi b e)
        · exact if_neg (by omega)
      · exact (if_pos ((h.each y (List.mem_of_getElem? hj)).lts b hb)).trans (h1 j y hj b hb)
    · have:b < st.boxes.length:=hlt b (by simp only [ah,List.mem_cons,List.mem_append] at hb ⊢; rcases hb with hb | hb | hb; exact .inl hb; exact .inr (.inl hb); exact .inr (.inr (.inl hb)))
      simp only [this,if_true]
      exact h2 b hb
  · simp only [ah,List.mem_cons,List.mem_append,List.mem_flatMap] at hy ⊢
    rcases hy with e | e | e | ⟨z,hz,hy⟩
    · exact .inl (.inl e)
    · exact .inl (.inr (.inl e))
    · exact .inl (.inr (.inr (.inl e)))
    · obtain ⟨j,hj⟩:=List.mem_iff_getElem?.1 hz
      rcases hset j z hj with ⟨rfl,rfl⟩ | ⟨hne,hj⟩
      · exact (hnew y hy).imp (fun e=>.inr (.inr (.inr ⟨x,hxm,e⟩))) id
      · exact .inl (.inr (.inr (.inr ⟨z,List.mem_of_getElem? hj,hy⟩)))

/-- The selector's own boxes change. -/
theorem SelIs.mine (h:SelIs st s mid cv ov L ws) {ov':AV} {ws':List Wt} (hk:Kp st st' (s::mid::ae ov)) (hg:st'.get s = some [cv,ov',.map mid]) (ho:MB ov' st' (ints (ws'.map (·.1)))) (hm:∃ M,MapIs st' mid .i64 csSl M∧∀ t,ag t M = ag t ws')
    (hb:∀ x ∈ ae ov',x ∈ ae ov∨st.boxes.length≤x) (hn:(ae ov').Nodup):dK st s mid cv ov L st' L ws':=by
  have hlt:=h.lts
  have hown:=h.own
  simp only [List.nodup_cons,List.mem_cons,List.mem_append,List.nodup_append,not_or] at hown
  obtain ⟨⟨n1,n2,n3⟩,⟨n4,n5⟩,n6,n7,n8⟩:=hown
  have hcv:∀ b ∈ ae cv,b < st.boxes.length:=fun b hb=>hlt b (by simp [ah,hb])
  have hcn:∀ b ∈ ae cv,b ∉ s::mid::ae ov:=fun b hb e=>by
    simp only [List.mem_cons] at e
    rcases e with rfl | rfl | e
    · exact n2 hb
    · exact n4 hb
    · exact n8 b hb b e rfl
  have hls:s < st.boxes.length:=hlt s (by simp [ah])
  have hlm:mid < st.boxes.length:=hlt mid (by simp [ah])
  have hxn:∀ x ∈ L,∀ b ∈ x.ids,b ∉ s::mid::ae ov:=fun x hx b hb e=>by
    obtain ⟨i,hi⟩:=List.mem_iff_getElem?.1 hx
    refine (h.apart hi).1 b hb ?_
    simp only [List.mem_cons,List.mem_append] at e ⊢
    rcases e with e | e | e
    · exact .inl e
    · exact .inr (.inl e)
    · exact .inr (.inr (.inr e))
  refine ⟨cv,ov',⟨hg,h.chs.at fun b hb=>hk.2 b (hcv b hb) (hcn b hb),ho,hm,fun x hx=>(h.each x hx).kp hk (hxn x hx),?_,?_⟩,⟨hk.1,fun id hid hn=>hk.2 id hid fun e=>hn ?_⟩,fun x hx=>?_⟩
  · obtain ⟨o,h1,h2⟩:=h.sep
    refine ⟨fun b=>if b < st.boxes.length then o b else 0,fun j y hj b hb=>?_,fun b hb'=>?_⟩
    · exact (if_pos ((h.each y (List.mem_of_getElem? hj)).lts b hb)).trans (h1 j y hj b hb)
    · show (if b < st.boxes.length then o b else 0) = 0
      split
      · refine h2 b ?_
        simp only [List.mem_cons,List.mem_append] at hb' ⊢
        rcases hb' with e | e | e | e
        · exact .inl e
        · exact .inr (.inl e)
        · exact .inr (.inr (.inl e))
        · rcases hb b e with e | e
          · exact .inr (.inr (.inr e))
          · omega
      · rfl
  · simp only [List.nodup_cons,List.mem_cons,List.mem_append,List.nodup_append,not_or]
    have hno:∀ b,b < st.boxes.length→b ∉ ae ov→b ∉ ae ov':=fun b h1 h2 e=>(hb b e).elim h2 fun q=>by omega
    exact ⟨⟨n1,n2,hno s hls n3⟩,⟨n4,hno mid hlm n5⟩,n6,hn,fun a ha b hb' e=>hno a (hcv a ha) (fun q=>n8 a ha a q rfl) (e ▸ hb')⟩
  · simp only [ah,List.mem_cons,List.mem_append] at e ⊢
    rcases e with e | e | e
    · exact .inl e
    · exact .inr (.inl e)
    · exact .inr (.inr (.inl (.inr e)))
  · simp only [ah,List.mem_cons,List.mem_append] at hx ⊢
    rcases hx with e | e | (e | e) | e
    · exact .inl (.inl e)
    · exact .inl (.inr (.inl e))
    · exact .inl (.inr (.inr (.inl (.inl e))))
    · exact (hb x e).imp (fun e=>.inr (.inr (.inl (.inr e)))) id
    · exact .inl (.inr (.inr (.inr e)))
theorem MB.nodup {v:AV} {st:St} {l:List AV} (h:MB v st l):(ae v).Nodup:=by
  rcases h with ⟨rfl,_⟩ | ⟨_,_,_,rfl,_⟩ <;> simp [ae]
end
end Go.Fx.YtbomoaajkinfpaaFx

