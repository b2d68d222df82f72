/- What the functions that the statement reaches compute: part 24. -/
import Derived.Test.YtgmeefljgbaanaaFxW23
namespace Go.Fx.YtgmeefljgbaanaaFx
open Go Go.Fx
attribute [local irreducible] aC runI aF a9

set_option maxRecDepth 100000
set_option maxHeartbeats 4000000

/-! What is received is what was sent. -/
abbrev Bt:=List (List UInt8×Bool)
def Mt:List (List UInt8)→Bt→Prop
  | _,[]=>True
  | [],_::_=>False
  | s::ss,r::rs=>(Bg s r = true∧Mt ss rs)∨Mt ss (r::rs)
theorem mt_nil (ss:List (List UInt8)):Mt ss []:=by cases ss <;> exact trivial
theorem Mt.snoc {d:List UInt8} {r:List UInt8×Bool} (hb:Bg d r = true):∀ {ss:List (List UInt8)} {A:Bt},Mt ss A→Mt (ss++[d]) (A++[r])
  | [],[],_=>.inl ⟨hb,trivial⟩
  | [],_::_,h=>h.elim
  | s::ss,[],_=>.inr (Mt.snoc hb (mt_nil ss))
  | s :: ss, a :: A, h => by
    rcases h with ⟨h1,h2⟩ | h
    · exact .inl ⟨h1,Mt.snoc hb h2⟩
    · exact .inr (Mt.snoc hb (A:=a::A) h)
theorem Mt.weak (d:List UInt8):∀ {ss:List (List UInt8)} {A:Bt},Mt ss A→Mt (ss++[d]) A
  | ss,[],_=>mt_nil _
  | [],_::_,h=>h.elim
  | s :: ss, a :: A, h => by
    rcases h with ⟨h1,h2⟩ | h
    · exact .inl ⟨h1,Mt.weak d h2⟩
    · exact .inr (Mt.weak d h)
theorem Mt.sub:∀ {ss:List (List UInt8)} {A B:Bt},Mt ss A→B.Sublist A→Mt ss B
  | ss,_,[],_,_=>mt_nil ss
  | [],[],b::B,_,hs=>by cases hs
  | [],_::_,_,h,_=>h.elim
  | s::ss,[],b::B,_,hs=>by cases hs
  | s :: ss, a :: A, b :: B, h, hs => by
    cases hs with
    | cons _ hs =>
      rcases h with ⟨_,h2⟩ | h
      · exact .inr (Mt.sub h2 hs)
      · exact .inr (Mt.sub h (hs.cons a))
    | cons_cons _ hs =>
      rcases h with ⟨h1,h2⟩ | h
      · exact .inl ⟨h1,Mt.sub h2 hs⟩
      · exact .inr (Mt.sub h (hs.cons_cons _))
theorem Mt.rep {x y:List UInt8×Bool} (hxy:∀ s,Bg s x = true→Bg s y = true) {B:Bt}:∀ {ss:List (List UInt8)} {A:Bt},Mt ss (A++x::B)→Mt ss (A++y::B)
  | [],[],h=>h.elim
  | [],_::_,h=>h.elim
  | s :: ss, [], h => by
    rcases h with ⟨h1,h2⟩ | h
    · exact .inl ⟨hxy s h1,h2⟩
    · exact .inr (Mt.rep hxy (A:=[]) h)
  | s :: ss, a :: A, h => by
    rcases h with ⟨h1,h2⟩ | h
    · exact .inl ⟨h1,Mt.rep hxy h2⟩
    · exact .inr (Mt.rep hxy (A:=a::A) h)
/-- The first in turn is as good as any. -/
def grd:List (List UInt8)→Bt→Prop
  | _,[]=>True
  | [],_::_=>False
  | s::ss,r::rs=>if Bg s r = true then grd ss rs else grd ss (r::rs)
theorem Mt.turn:∀ {ss:List (List UInt8)} {A:Bt},Mt ss A→grd ss A
  | ss,[],_=>by cases ss <;> exact trivial
  | [],_::_,h=>h.elim
  | s :: ss, r :: rs, h => by
    unfold grd
    rcases h with ⟨h1,h2⟩ | h
    · rw [if_pos h1]; exact Mt.turn h2
    · split
      · exact Mt.turn (h.sub (List.sublist_cons_self r rs))
      · exact Mt.turn h
theorem grd_skip {s:List UInt8} {ss:List (List UInt8)} {r:List UInt8×Bool} {rs:Bt} (h:grd (s::ss) (r::rs)) (hb:Bg s r = false):grd ss (r::rs):=by
  unfold grd at h; rw [if_neg (by rw [hb]; decide)] at h; exact h
theorem grd_take {s:List UInt8} {ss:List (List UInt8)} {r:List UInt8×Bool} {rs:Bt} (h:grd (s::ss) (r::rs)) (hb:Bg s r = true):grd ss rs:=by
  unfold grd at h; rw [if_pos hb] at h; exact h

def me:ByteArray:=⟨#[109,101]⟩
def gB (r:Rc):List UInt8×Bool:=(r.data,r.cut)
def qB (p:Pk):List UInt8×Bool:=(p.data,false)
theorem qt (d:List UInt8):Bg d (d,false) = true:=by unfold Bg; simp
theorem bg_cut (p:Pk) (t most:Int) (hm:0≤most):∀ s,Bg s (qB p) = true→Bg s (gB (cutR t p most)) = true:=by
  intro s h
  unfold Bg qB at h
  simp only [Bool.false_eq_true,if_false,decide_eq_true_eq] at h
  subst h
  unfold gB cutR Bg
  simp only [decide_eq_true_eq]
  split
  · rename_i h
    have hc:cutN most p.data = most.toNat:=if_pos h
    have hl:(p.data.take most.toNat).length = most.toNat:=by rw [List.length_take]; omega
    rw [hc,hl]
    simp only [Bool.and_eq_true,decide_eq_true_eq,and_true]
    omega
  · rename_i h
    have hc:cutN most p.data = p.data.length:=if_neg h
    rw [hc,List.take_length]
    simp
structure HG (R:NR) (pks:Nat) (sent:List (List UInt8)) (got:List Rc):Prop where
  ex:∃ S,R.socks = [S]∧S.num = 0∧S.nm = me∧S.port = 5∧S.pks = pks∧0 < S.pks∧S.q.length≤S.pks∧(S.q≠[]→R.ws = [])∧sent.length = got.length + S.q.length + S.dr + S.old∧Mt sent (got.map gB++S.q.map qB)∧∀ p ∈ S.q,p.nm = me∧p.port = 5
  ws:∀ w ∈ R.ws,w.sock = 0∧0≤w.most
  got:∀ r ∈ got,r.nm = me∧r.port = 5∧r.err = 0

theorem cutQ_end (S:Sk) (n:Nat):∀ (q:List Pk) (k:Nat),(cutQ S n q k).1 = []∨gL S n (cutQ S n q k).1
  | [],k=>.inl rfl
  | p :: r, k => by
    unfold cutQ
    by_cases h:gL S n (p::r)
    · rw [if_pos h]; exact .inr h
    · rw [if_neg h]; exact cutQ_end S n r (k + 1)
theorem iD (to life:Nat):∀ (q:List Pk) (k:Nat),(dK to life q k).1.Sublist q
  | [],k=>List.Sublist.refl _
  | p :: r, k => by
    unfold dK
    split
    · exact (iD to life r (k + 1)).trans (List.sublist_cons_self p r)
    · exact List.Sublist.refl _
theorem delW_mem {t:Int}:∀ {l:List Wt} {w:Wt} {s:List Wt},delW t l = some (w,s)→w ∈ l∧∀ x ∈ s,x ∈ l
  | [],_,_,q=>by cases q
  | x :: r, w, s, q => by
    simp only [delW] at q
    split at q
    · simp only [Option.some.injEq,Prod.mk.injEq] at q
      obtain ⟨rfl,rfl⟩:=q
      exact ⟨by simp,fun y hy=>by simp [hy]⟩
    · cases hp:delW t r with
      | none=>rw [hp] at q; cases q
      | some z =>
        obtain ⟨y,u⟩:=z
        rw [hp] at q
        simp only [Option.some.injEq,Prod.mk.injEq] at q
        obtain ⟨rfl,rfl⟩:=q
        obtain ⟨q1,q2⟩:=delW_mem hp
        refine ⟨by simp [q1],fun a ha=>?_⟩
        rcases List.mem_cons.1 ha with ha | ha
        · simp [ha]
        · simp [q2 a ha]
theorem vme:gK me 5 = true:=rfl
section
variable {R:NR} {pks:Nat} {sent:List (List UInt8)} {got:List Rc}
theorem HG.send (h:HG R pks sent got) (d:List UInt8):((cc 0 me 5 d R).2.2≠0→(cc 0 me 5 d R).1 = R)∧((cc 0 me 5 d R).2.2 = 0→HG (cc 0 me 5 d R).1 pks (sent++[d]) (got++(cc 0 me 5 d R).2.1)):=by
  obtain ⟨S,h1,h2,h3,h4,h5,h6,h7,h8,h9,h10,h11⟩:=h.ex
  unfold cc
  rw [if_neg (by rw [vme]; decide)]
  by_cases c1:2048 < d.length
  · rw [if_pos c1]; exact ⟨fun _=>rfl,fun q=>by cases q⟩
  rw [if_neg c1,h1]
  have e1:atS 0 [S] = some S:=by simp [atS,h2]
  have e2:ofS me 5 [S] = some S:=by simp [ofS,h3,h4]
  rw [e1]
  simp only
  rw [e2]
  simp only [h2]
  cases hw:R.ws with
  | nil =>
    simp only [fstW]
    refine ⟨fun q=>absurd rfl q,fun _=>⟨⟨getS ⟨S.nm,S.port,d,R.now⟩ S,?_,?_⟩,?_,?_⟩⟩
    · simp [modS,h2]
    · obtain ⟨g1,g2,g3,g4,g5,g6,g7,g8⟩:=lw ⟨S.nm,S.port,d,R.now⟩ S
      obtain ⟨g9,g10⟩:=pt ⟨S.nm,S.port,d,R.now⟩ S
      refine ⟨g1.trans h2,g3.trans h3,g4.trans h4,g7.trans h5,g7 ▸ h6,?_,fun _=>rfl,?_,?_,fun p hp=>?_⟩
      · rw [g7]
        unfold getS
        split
        · exact h7
        · split
          · rename_i c; simp only [List.length_append,List.length_cons,List.length_nil]; exact c.1
          · split
            · exact h7
            · simp only [List.length_append,List.length_cons,List.length_nil]
              rcases cutQ_end S d.length S.q S.dr with e | e
              · rw [e,List.length_nil]; exact h6
              · exact e.1
      · simp only [List.length_append,List.length_cons,List.length_nil,List.append_nil]
        omega
      · simp only [List.append_nil]
        unfold getS
        split
        · exact h10.weak d
        · split
          · simp only [List.map_append,List.map_cons,List.map_nil]
            rw [← List.append_assoc]
            exact h10.snoc (qt d)
          · split
            · exact h10.weak d
            · simp only [List.map_append,List.map_cons,List.map_nil]
              rw [← List.append_assoc]
              refine Mt.snoc (qt d) (h10.sub ?_)
              obtain ⟨pre,e1,e2⟩:=nG (S:=S) (n:=d.length) S.q S.dr
              refine List.Sublist.append (List.Sublist.refl _) (List.Sublist.map _ ?_)
              conv=>rhs; rw [e1]
              exact List.sublist_append_right _ _
      · rcases g10 p hp with q | q
        · exact h11 p q
        · rw [q]; exact ⟨h3,h4⟩
    · intro w hw'; cases hw'
    · simp only [List.append_nil]; exact h.got
  | cons w rest =>
    have hws:=h.ws w (by rw [hw]; exact List.mem_cons_self ..)
    have hq:S.q = []:=by
      cases hq:S.q with
      | nil=>rfl
      | cons p ps=>have:=h8 (by rw [hq]; simp); rw [hw] at this; cases this
    have hf:fstW ((0:Nat):Int) (w::rest) = some (w,rest):=by unfold fstW; rw [if_pos (by rw [hws.1])]
    rw [hf]
    simp only
    refine ⟨fun q=>absurd rfl q,fun _=>⟨⟨S,rfl,h2,h3,h4,h5,h6,h7,fun q=>absurd hq q,?_,?_,h11⟩,?_,?_⟩⟩
    · simp only [List.length_append,List.length_cons,List.length_nil]; omega
    · rw [hq] at h10 ⊢
      simp only [List.map_append,List.map_cons,List.map_nil,List.append_nil] at h10 ⊢
      exact h10.snoc (bg_cut ⟨S.nm,S.port,d,R.now⟩ w.task w.most hws.2 d (qt d))
    · intro x hx; exact h.ws x (by rw [hw]; exact List.mem_cons_of_mem _ hx)
    · intro r hr
      rcases List.mem_append.1 hr with hr | hr
      · exact h.got r hr
      · simp only [List.mem_singleton] at hr; subst hr
        exact ⟨h3,h4,rfl⟩
theorem HG.take (h:HG R pks sent got) {S:Sk} (h1:R.socks = [S]) {p:Pk} {ps:List Pk} (hq:S.q = p::ps) (t most:Int) (hm:0≤most):HG { R with socks:=modS 0 fK R.socks } pks sent (got++[cutR t p most]):=by
  obtain ⟨S',h1',h2,h3,h4,h5,h6,h7,h8,h9,h10,h11⟩:=h.ex
  obtain rfl:S = S':=by rw [h1] at h1'; simpa using h1'
  have hp:=h11 p (by rw [hq]; exact List.mem_cons_self ..)
  refine ⟨⟨fK S,by simp [h1,modS,h2],h2,h3,h4,h5,h6,?_,fun _=>h8 (by rw [hq]; simp),?_,?_,fun x hx=>h11 x ?_⟩,h.ws,fun r hr=>?_⟩
  · unfold fK; simp only [List.length_tail]; omega
  · unfold fK
    rw [hq] at h9 ⊢
    simp only [List.length_append,List.length_cons,List.length_nil,List.tail_cons] at h9 ⊢
    omega
  · unfold fK
    rw [hq] at h10 ⊢
    simp only [List.map_append,List.map_cons,List.map_nil,List.tail_cons,List.append_assoc,List.singleton_append] at h10 ⊢
    exact h10.rep (bg_cut p t most hm)
  · exact List.mem_of_mem_tail hx
  · rcases List.mem_append.1 hr with hr | hr
    · exact h.got r hr
    · simp only [List.mem_singleton] at hr; subst hr
      exact ⟨hp.1,hp.2,rfl⟩
def gotD (w:Int) (x:RO) (got:List Rc):List Rc:=(if (w = 2∧x.done = true)∨w = 3 then got++[x.one] else got)++x.all
theorem HG.step (h:HG R pks sent got) (w t n m:Int) (nm:ByteArray) (port pol:Int) (life:Nat) (d:List UInt8) (at_:Int) (hw:1≤w∧w≠5) (hn:w≤3→n = 0∧nm = me∧port = 5) :
    ((rDo w t n m nm port pol life d at_ R).2.err≠0→(rDo w t n m nm port pol life d at_ R).1 = R) ∧
    ((rDo w t n m nm port pol life d at_ R).2.err = 0→HG (rDo w t n m nm port pol life d at_ R).1 pks (if w = 1 then sent++[d] else sent) (gotD w (rDo w t n m nm port pol life d at_ R).2 got)):=by
  obtain ⟨S,h1,h2,h3,h4,h5,h6,h7,h8,h9,h10,h11⟩:=h.ex
  have e1:atS 0 R.socks = some S:=by simp [h1,atS,h2]
  unfold rDo
  rw [if_neg (by omega)]
  by_cases w1:w = 1
  · subst w1
    obtain ⟨rfl,rfl,rfl⟩:=hn (by omega)
    rw [if_pos rfl,if_pos rfl]
    unfold gotD
    rw [if_neg (by omega)]
    exact h.send d
  rw [if_neg w1,if_neg w1]
  by_cases w2:w = 2
  · subst w2
    obtain ⟨rfl,rfl,rfl⟩:=hn (by omega)
    rw [if_pos rfl]
    unfold fL gotD
    by_cases c1:t < 0∨64≤t∨m < 0
    · rw [if_pos c1]; exact ⟨fun _=>rfl,fun q=>by cases q⟩
    rw [if_neg c1,e1]
    simp only
    by_cases c2:(delW t R.ws).isSome = true
    · rw [if_pos c2]; exact ⟨fun _=>rfl,fun q=>by cases q⟩
    rw [if_neg c2]
    cases hq:S.q with
    | nil =>
      refine ⟨fun q=>absurd rfl q,fun _=>?_⟩
      simp only [Bool.false_eq_true,and_false,false_or,List.append_nil]
      rw [if_neg (by omega)]
      refine ⟨⟨S,h1,h2,h3,h4,h5,h6,h7,fun q=>absurd hq q,h9,h10,h11⟩,fun x hx=>?_,h.got⟩
      rcases List.mem_append.1 hx with hx | hx
      · exact h.ws x hx
      · simp only [List.mem_singleton] at hx; subst hx
        exact ⟨h2,by simp only; omega⟩
    | cons p ps =>
      refine ⟨fun q=>absurd rfl q,fun _=>?_⟩
      simp only [and_self,true_or,if_true,List.append_nil]
      exact h.take h1 hq t m (by omega)
  rw [if_neg w2]
  by_cases w3:w = 3
  · subst w3
    obtain ⟨rfl,rfl,rfl⟩:=hn (by omega)
    rw [if_pos rfl]
    unfold rTry gotD
    by_cases c1:m < 0
    · rw [if_pos c1]; exact ⟨fun _=>rfl,fun q=>by cases q⟩
    rw [if_neg c1,e1]
    simp only
    cases hq:S.q with
    | nil=>exact ⟨fun _=>rfl,fun q=>by cases q⟩
    | cons p ps =>
      refine ⟨fun q=>absurd rfl q,fun _=>?_⟩
      simp only [or_true,if_true,List.append_nil]
      exact h.take h1 hq 0 m (by omega)
  rw [if_neg w3]
  have hgd:∀ x:RO,x.all = []→gotD w x got = got:=fun x hx=>by
    unfold gotD; rw [if_neg (by omega),hx,List.append_nil]
  by_cases w4:w = 4
  · rw [if_pos w4,hgd _ rfl]
    unfold gA
    by_cases c1:t < 0∨64≤t
    · rw [if_pos c1]; exact ⟨fun _=>rfl,fun q=>by cases q⟩
    rw [if_neg c1]
    cases hd:delW t R.ws with
    | none=>exact ⟨fun _=>rfl,fun q=>by cases q⟩
    | some z =>
      obtain ⟨x,rest⟩:=z
      obtain ⟨m1,m2⟩:=delW_mem hd
      refine ⟨fun q=>absurd rfl q,fun _=>⟨⟨S,h1,h2,h3,h4,h5,h6,h7,fun q=>?_,h9,h10,h11⟩,fun y hy=>h.ws y (m2 y hy),h.got⟩⟩
      have:=h8 q
      rw [this] at m1; cases m1
  rw [if_neg w4,if_neg hw.2,hgd _ rfl]
  unfold rAdv
  split
  · exact ⟨fun _=>rfl,fun q=>by cases q⟩
  · refine ⟨fun q=>absurd rfl q,fun _=>⟨⟨advS at_.toNat S,by simp [h1],h2,h3,h4,h5,h6,?_,fun q=>h8 fun e=>q ?_,?_,?_,fun p hp=>h11 p ?_⟩,h.ws,h.got⟩⟩
    · have:=(iD at_.toNat S.life S.q 0).length_le
      unfold advS; simp only; omega
    · have hs:(advS at_.toNat S).q.Sublist S.q:=iD at_.toNat S.life S.q 0
      rw [e] at hs
      exact List.eq_nil_of_sublist_nil hs
    · have:=(kw at_.toNat S.life S.q 0).1
      unfold advS; simp only; omega
    · exact h10.sub (List.Sublist.append (List.Sublist.refl _) (List.Sublist.map _ (iD at_.toNat S.life S.q 0)))
    · exact (iD at_.toNat S.life S.q 0).subset hp
end
end Go.Fx.YtgmeefljgbaanaaFx

