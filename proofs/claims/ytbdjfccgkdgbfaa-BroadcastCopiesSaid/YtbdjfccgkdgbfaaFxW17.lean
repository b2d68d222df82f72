/- What the functions that the statement reaches compute: part 17. -/
import Derived.Test.YtbdjfccgkdgbfaaFxW16
namespace Go.Fx.YtbdjfccgkdgbfaaFx
open Go Go.Fx
attribute [local irreducible] aC runI az ar

set_option maxRecDepth 100000
set_option maxHeartbeats 4000000

/-! A call of the program. -/
structure RO where
 n:Int
 done:Bool
 data:List UInt8
 items:List Nat
 err:Int
def rDo (w t p n o:Int) (d:List UInt8) (R:HR):HR×RO :=
 if w = 0 then ((rSub p n o R).1,⟨(rSub p n o R).2.1,false,[],[],(rSub p n o R).2.2⟩)
 else if w = 1 then ((rPub p d R).1,⟨0,false,[],[],(rPub p d R).2⟩)
 else if w = 2 then ((b9 t p d R).1,⟨0,(b9 t p d R).2.1,[],[],(b9 t p d R).2.2⟩)
 else if w = 3 then ((bk n R).1,⟨0,false,(bk n R).2.1,(bk n R).2.2.1,(bk n R).2.2.2⟩)
 else if w = 4 then ((cC n R).1,⟨0,false,[],(cC n R).2.1,(cC n R).2.2⟩)
 else ((bI t R).1,⟨0,false,[],(bI t R).2.1,(bI t R).2.2⟩)

/-- What jm behind a call. -/
def DoK (st st':St) (h wid n:Nat) (F:List Nat) (x:HR×RO) (v:AV):Prop :=
 ∃ dv F',v = resA x.2.n x.2.done dv (itsV x.2.items) x.2.err∧MB dv st' (BB x.2.data)∧(∀ b ∈ au dv,st.boxes.length≤b)∧(∀ b ∈ au dv,b ∉ F')∧HubR st' h wid (n + 100) x.1 F'∧Kp st st' F∧∀ b ∈ F',(b ∈ F∨st.boxes.length≤b)∧b < st'.boxes.length
theorem do_calls {st:St} {h wid k:Nat} {R:HR} {F:List Nat} (hh:HubR st h wid k R F) (hF:∀ x ∈ F,x < st.boxes.length) (w t p n o:Int) {v:AV} {d:List UInt8} (hv:DV v st d) (hd:d.length≤100000) (hvn:∀ b ∈ au v,b ∉ F) (hn:k < 900000) :
  am Go.Proofs.Try.prog n_f13 [.ptr h 0,actA w t p n o v] st (fun x st'=>DoK st st' h wid k F (rDo w t p n o d R) x):=by
 obtain ⟨v1,v2,v3,v4,v5,v6,v7,v8⟩:=hv.facts
 unfold actA
 refine ap hmix k_f13 rfl rfl fun Q hQ=>?_
 unfold aFun c_f13
 unfold rDo at hQ
 have same:∀ (st':St) (x:HR×RO),x.2.data = []→HubR st' h wid (k + 100) x.1 F→Kp st st' F→DoK st st' h wid k F x (resA x.2.n x.2.done (.lit (.slice none 0 0)) (itsV x.2.items) x.2.err):=fun st' x hx h1 h2 =>
  ⟨_,F,rfl,.inl ⟨rfl,by rw [hx]; rfl⟩,fun _ q=>(by cases q),fun _ q=>(by cases q),h1,h2,fun b hb=>⟨.inl hb,Nat.lt_of_lt_of_le (hF b hb) h2.1⟩⟩
 unfold resA at same
 simp (config:=KF) (disch:=omega) only [bZ,addA,ae,bA,↓reduceIte,Nat.reduceEqDiff,Nat.reduceAdd,reduceCtorEq,v2,v4]
 refine aS (fun c0=>?_) (fun c0=>?_)
 ·rw [if_pos c0] at hQ
  simp (config:=KF) (disch:=omega) only [bZ,addA,ae,id,↓reduceIte,Nat.reduceEqDiff,reduceCtorEq]
  refine aq rfl e_f9 (py hh p n o) rfl fun x st1 hr=>?_
  obtain ⟨rfl,F',r1,r2,r3⟩:=hr
  generalize rSub p n o R = O at hQ r1
  simp (config:=KF) (disch:=omega) only [bZ,retI,ah,addA,ae,↓reduceIte,Nat.reduceEqDiff,Nat.reduceAdd,Nat.reduceLeDiff,reduceCtorEq,af,aa]
  refine hQ _ _ ⟨.lit (.slice none 0 0),F',rfl,.inl ⟨rfl,rfl⟩,fun _ q=>(by cases q),fun _ q=>(by cases q),r1.mono (by omega) (fun _ q=>q),r2,r3⟩
 rw [if_neg c0] at hQ
 simp (config:=KF) (disch:=omega) only [bZ,↓reduceIte,Nat.reduceEqDiff,reduceCtorEq]
 refine aS (fun c1=>?_) (fun c1=>?_)
 ·rw [if_pos c1] at hQ
  simp (config:=KF) (disch:=omega) only [bZ,addA,ae,id,↓reduceIte,Nat.reduceEqDiff,reduceCtorEq,v1]
  refine aq (vs:=[.ptr h 0,.lit (.int .i64 p),v]) (by simp [v1,cQ,aL]) e_f28 (ly hh p hv hd hvn hn) (by simp [v5,bT,aD]) fun x st1 hr=>?_
  obtain ⟨rfl,r1,r2⟩:=hr
  generalize rPub p d R = O at hQ r1
  simp (config:=KF) (disch:=omega) only [bZ,retI,ah,addA,ae,↓reduceIte,Nat.reduceEqDiff,Nat.reduceAdd,Nat.reduceLeDiff,reduceCtorEq,af,aa]
  exact hQ _ _ (same st1 (O.1,⟨0,false,[],[],O.2⟩) rfl (r1.mono (by omega) (fun _ q=>q)) r2)
 rw [if_neg c1] at hQ
 simp (config:=KF) (disch:=omega) only [bZ,↓reduceIte,Nat.reduceEqDiff,reduceCtorEq]
 refine aS (fun c2=>?_) (fun c2=>?_)
 ·rw [if_pos c2] at hQ
  simp (config:=KF) (disch:=omega) only [bZ,addA,ae,id,↓reduceIte,Nat.reduceEqDiff,reduceCtorEq,v1]
  refine aq (vs:=[.ptr h 0,.lit (.int .i64 t),.lit (.int .i64 p),v]) (by simp [v1,cQ,aL]) e_f29 (n4 hh t p hv hd hvn hn) (by simp [v5,bT,aD]) fun x st1 hr=>?_
  obtain ⟨rfl,r1,r2⟩:=hr
  generalize b9 t p d R = O at hQ r1
  simp (config:=KF) (disch:=omega) only [bZ,retI,ah,addA,ae,↓reduceIte,Nat.reduceEqDiff,Nat.reduceAdd,Nat.reduceLeDiff,reduceCtorEq,af,aa]
  exact hQ _ _ (same st1 (O.1,⟨0,O.2.1,[],[],O.2.2⟩) rfl (r1.mono (by omega) (fun _ q=>q)) r2)
 rw [if_neg c2] at hQ
 simp (config:=KF) (disch:=omega) only [bZ,↓reduceIte,Nat.reduceEqDiff,reduceCtorEq]
 refine aS (fun c3=>?_) (fun c3=>?_)
 ·rw [if_pos c3] at hQ
  simp (config:=KF) (disch:=omega) only [bZ,addA,ae,id,↓reduceIte,Nat.reduceEqDiff,reduceCtorEq]
  refine aq rfl e_f33 (n5 hh hF n hn) rfl fun x st1 hr=>?_
  obtain ⟨dv,rfl,hmb,hw,r1,r2⟩:=hr
  generalize bk n R = O at hQ r1 hmb
  obtain ⟨w1,w2,w3,w4,w5,w6,w7,w8⟩:=hmb.facts
  obtain ⟨a1,a2,a3,a4⟩:=aU O.2.2.1
  obtain ⟨a5,a6,a7⟩:=dL O.2.2.1
  simp (config:=KF) (disch:=omega) only [bZ,retI,ah,addA,ae,↓reduceIte,Nat.reduceEqDiff,Nat.reduceAdd,Nat.reduceLeDiff,reduceCtorEq,af,aa,w1,w2,w3,w4,w6,a1,a2,a3,a5,a6]
  refine hQ _ _ ⟨dv,F,rfl,hmb,hw,fun b hb q=>?_,r1.mono (by omega) (fun _ q=>q),r2,fun b hb=>⟨.inl hb,Nat.lt_of_lt_of_le (hF b hb) r2.1⟩⟩
  have:=hF b q
  have:=hw b hb
  omega
 rw [if_neg c3] at hQ
 simp (config:=KF) (disch:=omega) only [bZ,↓reduceIte,Nat.reduceEqDiff,reduceCtorEq]
 refine aS (fun c4=>?_) (fun c4=>?_)
 ·rw [if_pos c4] at hQ
  simp (config:=KF) (disch:=omega) only [bZ,addA,ae,id,↓reduceIte,Nat.reduceEqDiff,reduceCtorEq]
  refine aq rfl e_f11 (leave_calls hh n hn) rfl fun x st1 hr=>?_
  obtain ⟨rfl,r1,r2⟩:=hr
  generalize cC n R = O at hQ r1
  obtain ⟨a1,a2,a3,a4⟩:=aU O.2.1
  obtain ⟨a5,a6,a7⟩:=dL O.2.1
  simp (config:=KF) (disch:=omega) only [bZ,retI,ah,addA,ae,↓reduceIte,Nat.reduceEqDiff,Nat.reduceAdd,Nat.reduceLeDiff,reduceCtorEq,af,aa,a1,a2,a3,a5,a6]
  exact hQ _ _ (same st1 (O.1,⟨0,false,[],O.2.1,O.2.2⟩) rfl (r1.mono (by omega) (fun _ q=>q)) r2)
 rw [if_neg c4] at hQ
 simp (config:=KF) (disch:=omega) only [bZ,addA,ae,id,↓reduceIte,Nat.reduceEqDiff,reduceCtorEq]
 refine aq rfl e_f34 (qA hh t hn) rfl fun x st1 hr=>?_
 obtain ⟨rfl,r1,r2⟩:=hr
 generalize bI t R = O at hQ r1
 obtain ⟨a1,a2,a3,a4⟩:=aU O.2.1
 obtain ⟨a5,a6,a7⟩:=dL O.2.1
 simp (config:=KF) (disch:=omega) only [bZ,retI,ah,addA,ae,↓reduceIte,Nat.reduceEqDiff,Nat.reduceAdd,Nat.reduceLeDiff,reduceCtorEq,af,aa,a1,a2,a3,a5,a6]
 exact hQ _ _ (same st1 (O.1,⟨0,false,[],O.2.1,O.2.2⟩) rfl (r1.mono (by omega) (fun _ q=>q)) r2)
end Go.Fx.YtbdjfccgkdgbfaaFx

namespace Go.Fx.YtbdjfccgkdgbfaaFx
open Go Go.Fx
attribute [local irreducible] aC runI az ar

set_option maxRecDepth 100000
set_option maxHeartbeats 4000000

/-! Calls as values; few. -/
structure Act where
 w:Int
 t:Int
 p:Int
 n:Int
 o:Int
 d:List UInt8
def dV (d:List UInt8):AV:=.sl false 1 (BB d)
def actV (a:Act):AV:=actA a.w a.t a.p a.n a.o (dV a.d)
def fewB (l:List Act):Bool:=l.all fun a=>decide (a.d.length≤1030)
theorem act_getD {l:List Act} {i:Nat} (h:i < l.length):(l.map actV).getD i .any = .agg [.lit (.int .i64 l[i].w),.lit (.int .i64 l[i].t),.lit (.int .i64 l[i].p),.lit (.int .i64 l[i].n),.lit (.int .i64 l[i].o),.sl false 1 (BB l[i].d)]:=by
 rw [List.getD_eq_getElem?_getD,List.getElem?_map,List.getElem?_eq_getElem h]; rfl
theorem n8 (l:List Act) (hl:l.length≤60) (st:St):aB Go.Proofs.Try.prog n_f12 [.sl false 6 (l.map actV)] st (.lit (.bool (fewB l))):=by
 refine aF hmix k_f12 rfl rfl fun Q hQ=>?_
 unfold aFun c_f12
 simp (config:=KF) (disch:=omega) only [bZ,↓reduceIte,reduceCtorEq]
 rw [f12_7w]
 refine a8 (A:=Nat) (fun i=>l.length - i) (fun i=>⟨[(0,.sl false 6 (l.map actV)),(3,.lit (.int .i64 (i:Nat)))],[]⟩) (fun _=>st)
  (fun i=>i≤l.length∧fewB (l.take i) = true) 0 ⟨Nat.zero_le _,rfl⟩ (Sf.le_refl _) rfl ?_
 rintro i ⟨h1,h2⟩ K hK hKe hKr
 by_cases h3:i < l.length
 ·have hg:=act_getD h3
  have htk:fewB (l.take (i + 1)) = decide (l[i].d.length≤1030):=by
   rw [List.take_succ_eq_append_getElem h3]
   unfold fewB at h2 ⊢
   rw [List.all_append,h2]; simp
  by_cases h4:l[i].d.length≤1030
  ·rw [decide_eq_true h4] at htk
   simp (config:=KF) (disch:=omega) only [bZ,ixSV,lenI,addA,ae,↓reduceIte,Nat.reduceEqDiff,reduceCtorEq,aO,hg]
   exact hK (i + 1) _ ⟨h3,htk⟩ (by omega) (Sf.le_refl _)
  ·have hf:fewB l = false:=by
    unfold fewB
    rw [List.all_eq_false]
    exact ⟨l[i],List.getElem_mem h3,by simpa using h4⟩
   rw [hf] at hQ
   simp (config:=KF) (disch:=omega) only [bZ,ixSV,lenI,addA,ae,↓reduceIte,Nat.reduceEqDiff,reduceCtorEq,aO,hg]
   refine hKr _ _ ?_
   simp (config:=KF) (disch:=omega) only [bZ,retI,↓reduceIte]
   exact hQ _
 ·obtain rfl:i = l.length:=by omega
  rw [List.take_length] at h2
  rw [h2] at hQ
  simp (config:=KF) (disch:=omega) only [bZ,lenI,↓reduceIte,Nat.reduceEqDiff,reduceCtorEq]
  refine hKe _ _ _ ?_
  simp (config:=KF) (disch:=omega) only [bZ,retI,↓reduceIte]
  exact hQ _

/-! What jm of two subscribers of a topic. -/
abbrev Ms:=List (List UInt8)
/-- What a subscriber has read, has and has lost, of what was published. -/
def Got (P r:Ms) (S:Sb):Prop:=(r++S.msgs).Sublist P∧r.length + S.msgs.length + S.lost = P.length
def large (other:Nat) (P:Ms):Nat:=(P.filter fun p=>decide (other < p.length + 2)).length
theorem large_snoc (other:Nat) (P:Ms) (p:List UInt8):large other (P++[p]) = large other P + if other < p.length + 2 then 1 else 0:=by
 unfold large
 rw [List.filter_append,List.length_append]
 by_cases h:other < p.length + 2
 ·simp [h]
 ·simp [h]
theorem Got.give {P r:Ms} {S:Sb} (h:Got P r S) (p:List UInt8):Got (P++[p]) r (cf p S):=by
 obtain ⟨h1,h2⟩:=h
 have ht:(cf p S).lost + (cf p S).msgs.length = S.lost + S.msgs.length + 1:=(dM p S).2.2.2.2
 refine ⟨?_,by rw [List.length_append,List.length_cons,List.length_nil]; omega⟩
 unfold cf
 split
 ·simp only
  rw [← List.append_assoc]
  exact h1.append (List.Sublist.refl _)
 ·split
  ·rename_i hc
   obtain ⟨_,_,pre,hp⟩:=eB hc.1 S.msgs S.lost
   simp only
   rw [← List.append_assoc]
   refine List.Sublist.append (List.Sublist.trans (List.Sublist.append (List.Sublist.refl r) ?_) h1) (List.Sublist.refl _)
   conv=>rhs; rw [hp]
   exact List.sublist_append_right _ _
  ·exact h1.trans (List.sublist_append_left _ _)
theorem give_block {S:Sb} {p:List UInt8} (hp:S.pol = 3) (hc:¬ (p.length + 2≤S.room∧¬ used S.msgs + (p.length + 2)≤S.room)):(cf p S).lost = S.lost + if S.room < p.length + 2 then 1 else 0:=by
 unfold cf
 split
 ·rename_i h
  rw [if_neg (by omega)]; rfl
 ·rename_i h
  rw [if_neg (by rw [hp]; omega),if_pos (by omega)]

structure HG (R:HR) (P r0 r1:Ms) (other:Nat):Prop where
 ex:∃ S0 S1,R.subs = [S0,S1]∧S0.num = 0∧S1.num = 1∧S0.topic = 3∧S1.topic = 3∧S1.pol = 3∧S1.room = other∧Got P r0 S0∧Got P r1 S1∧S1.lost = large other P
 ws:∀ w ∈ R.ws,w.2.1 = 3
theorem HG.pub {R:HR} {P r0 r1:Ms} {other:Nat} (h:HG R P r0 r1 other) {p:List UInt8} (hc:canR 3 p.length R.subs = true) {ws:List WW} (hw:∀ w ∈ ws,w.2.1 = 3):HG ⟨pubR 3 p R.subs,ws⟩ (P++[p]) r0 r1 other:=by
 obtain ⟨S0,S1,h1,h2,h3,h4,h5,h6,h7,h8,h9,h10⟩:=h.ex
 refine ⟨⟨cf p S0,cf p S1,?_,?_,?_,?_,?_,?_,?_,h8.give p,h9.give p,?_⟩,hw⟩
 ·unfold pubR
  rw [h1]
  simp [h4,h5]
 ·rw [(dM p S0).1,h2]
 ·rw [(dM p S1).1,h3]
 ·rw [(dM p S0).2.1,h4]
 ·rw [(dM p S1).2.1,h5]
 ·rw [(dM p S1).2.2.2.1,h6]
 ·rw [(dM p S1).2.2.1,h7]
 ·unfold canR at hc
  rw [h1] at hc
  simp only [List.all_cons,List.all_nil,Bool.and_true,Bool.and_eq_true,h5,h6] at hc
  have hc:=hc.2
  rw [give_block h6,h10,large_snoc,h7]
  rintro ⟨a,b⟩
  simp [a,b] at hc
theorem HG.on {r0 r1:Ms} {other:Nat} (wt:Nat→List UInt8):∀ (k:Nat) {R:HR} {P:Ms},HG R P r0 r1 other→(∀ w ∈ R.ws,wt w.1 = w.2.2)→HG (onR 3 k R).1 (P++(onR 3 k R).2.map wt) r0 r1 other∧∀ w ∈ (onR 3 k R).1.ws,w ∈ R.ws
 | 0,R,P,h,_=>by simpa [onR] using h
 | k + 1, R, P, h, hw => by
   have popm:∀ {l:List WW} {w:WW} {s:List WW},popR 3 l = some (w,s)→w ∈ l∧∀ x ∈ s,x ∈ l:=by
    intro l
    induction l with
    | nil=>intro w s q; cases q
    | cons x r ih =>
      intro w s q
      simp only [popR] at q
      split at q
      ·simp only [Option.some.injEq,Prod.mk.injEq] at q
       obtain ⟨rfl,rfl⟩:=q
       exact ⟨by simp,fun y hy=>by simp [hy]⟩
      ·cases hp:popR 3 r with
       | none=>rw [hp] at q; cases q
       | some z =>
         obtain ⟨y,u⟩:=z
         rw [hp] at q
         simp only [Option.some.injEq,Prod.mk.injEq] at q
         obtain ⟨rfl,rfl⟩:=q
         obtain ⟨q1,q2⟩:=ih hp
         refine ⟨by simp [q1],fun a ha=>?_⟩
         rcases List.mem_cons.1 ha with ha | ha
         ·simp [ha]
         ·simp [q2 a ha]
   unfold onR
   cases hp:popR 3 R.ws with
   | none=>simpa using h
   | some z =>
     obtain ⟨w,rest⟩:=z
     obtain ⟨m1,m2⟩:=popm hp
     simp only
     by_cases hc:canR 3 w.2.2.length R.subs = true
     ·rw [if_pos hc]
      have hp1:=h.pub hc (ws:=rest) fun x hx=>h.ws x (m2 x hx)
      obtain ⟨a1,a2⟩:=HG.on wt k (R:=⟨pubR 3 w.2.2 R.subs,rest⟩) (P:=P++[w.2.2]) hp1 fun x hx=>hw x (m2 x hx)
      refine ⟨?_,fun x hx=>m2 x (a2 x hx)⟩
      rw [List.map_cons,hw w m1]
      rw [List.append_assoc] at a1
      exact a1
     ·rw [if_neg hc]
      simpa using h
end Go.Fx.YtbdjfccgkdgbfaaFx

