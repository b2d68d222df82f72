/- What the functions that the statement reaches compute: part 25. -/
import Derived.Test.YtbomoaajkinfpaaFxW24
namespace Go.Fx.YtbomoaajkinfpaaFx
open Go Go.Fx
attribute [local irreducible] aC runI aw aB

set_option maxRecDepth 100000
set_option maxHeartbeats 4000000

/-! A selector that is being built. -/
structure SelC (st:St) (s mid:Nat) (cv ov:AV) (L:List CL) (os:List Int) (M:List (Int×List Cs)):Prop where
  get:st.get s = some [cv,ov,.map mid]
  chs:KB 1 cv st (ptrs L) L.length
  ord:MB ov st (ints os)
  mp:MapIs st mid .i64 csSl M
  each:∀ x ∈ L,x.is st
  sep:∃ o:Nat→Nat,(∀ (i:Nat) x,L[i]? = some x→∀ b ∈ x.ids,o b = i + 1)∧∀ b ∈ s::mid::(ae cv++ae ov),o b = 0
  own:(s::mid::(ae cv++ae ov)).Nodup

section
variable {st st':St} {s mid:Nat} {cv ov:AV} {L:List CL} {os:List Int} {M:List (Int×List Cs)} {ws:List Wt}
theorem SelC.is (h:SelC st s mid cv ov L (ws.map (·.1)) M) (hm:∀ t,ag t M = ag t ws):SelIs st s mid cv ov L ws:=⟨h.get,h.chs,h.ord,⟨M,h.mp,hm⟩,h.each,h.sep,h.own⟩
theorem SelC.lts (h:SelC st s mid cv ov L os M):∀ x ∈ ah s mid cv ov L,x < st.boxes.length:=by
  intro x hx
  simp only [ah,List.mem_cons,List.mem_append,List.mem_flatMap] at hx
  rcases hx with rfl | rfl | (hx | hx) | ⟨y,hy,hx⟩
  · exact bq h.get
  · exact h.mp.lt
  · exact h.chs.lt x hx
  · exact h.ord.lt x hx
  · exact (h.each y hy).lts x hx
theorem SelC.at (h:SelC st s mid cv ov L os M) (hat:∀ x ∈ ah s mid cv ov L,st'.boxes[x]? = st.boxes[x]?) (hl:st.boxes.length≤st'.boxes.length):SelC st' s mid cv ov L os M:=by
  have hlt:=h.lts
  have hk:Kp st st' ((List.range st.boxes.length).filter fun x=>decide (x ∉ ah s mid cv ov L)):=⟨hl,fun id hid hn=>hat id (by
    simp only [List.mem_filter,List.mem_range,decide_eq_true_eq,not_and,Decidable.not_not] at hn
    exact hn hid)⟩
  refine ⟨(bt (hat s (by simp [ah]))).trans h.get,h.chs.at fun x hx=>hat x (by simp [ah,hx]),h.ord.at fun x hx=>hat x (by simp [ah,hx]),h.mp.at (hat _ (by simp [ah])),fun x hx=>?_,h.sep,h.own⟩
  refine (h.each x hx).kp hk fun y hy e=>?_
  simp only [List.mem_filter,decide_eq_true_eq] at e
  refine e.2 ?_
  simp only [ah,List.mem_cons,List.mem_append,List.mem_flatMap]
  exact .inr (.inr (.inr ⟨x,hx,hy⟩))

/-- One more channel, whose boxes are new. -/
theorem SelC.snoc {st1 st2 st3:St} {x:CL} {cv':AV} (h:SelC st1 s mid cv ov L os M) (hx:x.is st2) (hk:Kp st1 st2 []) (hid:∀ b ∈ x.ids,st1.boxes.length≤b)
    (hb:KB 1 cv' st3 (ptrs L++[.ptr x.c 0]) (L.length + 1)) (hk3:Kp st2 st3 (ae cv)) (hi':∀ y ∈ ae cv',y ∈ ae cv∨st2.boxes.length≤y) (hnd:(ae cv').Nodup) :
    SelC (st3.set s [cv',ov,.map mid]) s mid cv' ov (L++[x]) os M:=by
  have hlt:=h.lts
  have hown:=h.own
  simp only [List.nodup_cons,List.mem_cons,List.mem_append,List.nodup_append,not_or] at hown
  obtain ⟨⟨n1,n2,n3⟩,⟨n4,n5⟩,n6,n7,n8⟩:=hown
  have hls:s < st1.boxes.length:=hlt s (by simp [ah])
  have hlm:mid < st1.boxes.length:=hlt mid (by simp [ah])
  have hlc:∀ b ∈ ae cv,b < st1.boxes.length:=fun b hb=>hlt b (by simp [ah,hb])
  have hlo:∀ b ∈ ae ov,b < st1.boxes.length:=fun b hb=>hlt b (by simp [ah,hb])
  have h12:=hk.1
  have h23:=hk3.1
  have hat:∀ b,b < st1.boxes.length→b≠s→b ∉ ae cv→(st3.set s [cv',ov,.map mid]).boxes[b]? = st1.boxes[b]?:=fun b hb hn hc=>by
    rw [ce hn,hk3.2 b (by omega) hc,hk.2 b hb (by simp)]
  have hxl:=hx.lts
  have hsc:s ∉ ae cv':=fun e=>(hi' s e).elim n2 fun q=>by omega
  have hmc:mid ∉ ae cv':=fun e=>(hi' mid e).elim n4 fun q=>by omega
  have hcl:∀ y ∈ L,∀ b ∈ y.ids,b < st1.boxes.length∧b≠s∧b ∉ ae cv:=fun y hy b hb'=>by
    obtain ⟨o,h1,h2⟩:=h.sep
    obtain ⟨i,hi⟩:=List.mem_iff_getElem?.1 hy
    have:=h1 i y hi b hb'
    refine ⟨(h.each y hy).lts b hb',fun e=>?_,fun e=>?_⟩
    · subst e; have:=h2 b (by simp); omega
    · have:=h2 b (by simp [e]); omega
  refine ⟨aS (by omega),?_,?_,?_,fun y hy=>?_,?_,?_⟩
  · rw [show ptrs (L++[x]) = ptrs L++[.ptr x.c 0] by simp [ptrs],List.length_append,List.length_singleton]
    exact hb.at fun b hb'=>ce fun e=>hsc (by rw [← e]; exact hb')
  · exact h.ord.at fun b hb'=>hat b (hlo b hb') (fun e=>n3 (by rw [← e]; exact hb')) fun e=>n8 b e b hb' rfl
  · exact h.mp.at (hat mid hlm (fun e=>n1 e.symm) n4)
  · rcases List.mem_append.1 hy with hy | hy
    · refine (h.each y hy).kp (F:=s::ae cv) ⟨by rw [cz]; omega,fun id hid hn=>?_⟩ fun b hb' e=>?_
      · simp only [List.mem_cons,not_or] at hn
        exact hat id hid hn.1 hn.2
      · obtain ⟨_,q2,q3⟩:=hcl y hy b hb'
        simp only [List.mem_cons] at e
        exact e.elim q2 q3
    · simp only [List.mem_singleton] at hy
      subst hy
      refine hx.kp (F:=s::ae cv) ⟨by rw [cz]; exact h23,fun id hid hn=>?_⟩ fun b hb' e=>?_
      · simp only [List.mem_cons,not_or] at hn
        rw [ce hn.1,hk3.2 id hid hn.2]
      · have:=hid b hb'
        simp only [List.mem_cons] at e
        rcases e with e | e
        · omega
        · have:=hlc b e; omega
  · obtain ⟨o,h1,h2⟩:=h.sep
    refine ⟨fun b=>if b < st1.boxes.length then o b else if b < st2.boxes.length then L.length + 1 else 0,fun i y hi b hb'=>?_,fun b hb'=>?_⟩
    · rw [List.getElem?_append] at hi
      split at hi
      · have hy:y ∈ L:=List.mem_of_getElem? hi
        exact (if_pos ((h.each y hy).lts b hb')).trans (h1 i y hi b hb')
      · rename_i hge
        rw [List.getElem?_singleton] at hi
        split at hi
        · cases hi
          have q1:=hid b hb'
          have q2:=hxl b hb'
          have:i = L.length:=by omega
          subst this
          exact (if_neg (by omega)).trans (if_pos q2)
        · cases hi
    · show (if b < st1.boxes.length then o b else if b < st2.boxes.length then L.length + 1 else 0) = 0
      simp only [List.mem_cons,List.mem_append] at hb'
      have key:b < st1.boxes.length→b ∈ s::mid::(ae cv++ae ov)→(if b < st1.boxes.length then o b else if b < st2.boxes.length then L.length + 1 else 0) = 0:=fun q1 q2=>(if_pos q1).trans (h2 b q2)
      rcases hb' with e | e | e | e
      · subst e; exact key hls (by simp)
      · subst e; exact key hlm (by simp)
      · rcases hi' b e with q | q
        · exact key (hlc b q) (by simp [q])
        · rw [if_neg (by omega),if_neg (by omega)]
      · exact key (hlo b e) (by simp [e])
  · simp only [List.nodup_cons,List.mem_cons,List.mem_append,List.nodup_append,not_or]
    exact ⟨⟨n1,hsc,n3⟩,⟨hmc,n5⟩,hnd,n7,fun a ha b hb' e=>(hi' a ha).elim (fun q=>n8 a q b hb' e) fun q=>by have:=hlo b hb'; omega⟩
end

section
variable {st:St} {s mid n:Nat} {cv ov:AV} {L:List CL} {R:RS}
/-- The tasks that wait, in a new buffer. -/
theorem mr (h:SelR st s mid cv ov L R n):aA Go.Proofs.Try.prog n_f26 [.ptr s 0] st
    (fun r st'=>MB r st' (ints (R.ws.map (·.1)))∧st.boxes.length≤st'.boxes.length∧(∀ i,i < st.boxes.length→st'.boxes[i]? = st.boxes[i]?)∧∀ x ∈ ae r,st.boxes.length≤x):=by
  have hg:=h.is.get
  obtain ⟨u1,u2,u3,u4,u5,u6,u7,u8⟩:=h.is.ord.facts
  have hfew:=h.few
  refine ap hmix k_f26 rfl rfl fun Q hQ=>?_
  unfold aFun c_f26
  simp (config:=KF) (disch:=omega) only [bZ,id,↓reduceIte,reduceCtorEq]
  refine ao rfl e_f51 (dv h.is) rfl ?_
  simp (config:=KF) (disch:=omega) only [bZ,ai,addA,aa,id,↓reduceIte,Nat.reduceEqDiff,reduceCtorEq,hg,u1]
  refine au (vs:=[ov]) (by simp [u1]) e_f52 (fW h.is.ord (by rw [List.length_map]; omega)) (by simp [u5]) fun r st' hr=>?_
  obtain ⟨w1,w2,w3,w4,w5,w6,w7,w8⟩:=hr.1.facts
  simp (config:=KF) (disch:=omega) only [bZ,retI,↓reduceIte,Nat.reduceEqDiff,reduceCtorEq,w1,w5]
  exact hQ _ _ hr
end
end Go.Fx.YtbomoaajkinfpaaFx

