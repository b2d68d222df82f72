/- What the functions that the statement reaches compute: part 21. -/
import Derived.Test.YtbdjfccgkdgbfaaFxW20
namespace Go.Fx.YtbdjfccgkdgbfaaFx
open Go Go.Fx
attribute [local irreducible] aC runI au aH

set_option maxRecDepth 100000
set_option maxHeartbeats 4000000

/-! Calls as values; few. -/
structure Act where
  w:Int
  t:Int
  p:Int
  n:Int
  o:Int
  d:List UInt8
def dV (d:List UInt8):AV:=.sl false 1 (BB d)
def actV (a:Act):AV:=actA a.w a.t a.p a.n a.o (dV a.d)
def fewB (l:List Act):Bool:=l.all fun a=>decide (a.d.length≤1030)
theorem act_getD {l:List Act} {i:Nat} (h:i < l.length):(l.map actV).getD i .any = .agg [.lit (.int .i64 l[i].w),.lit (.int .i64 l[i].t),.lit (.int .i64 l[i].p),.lit (.int .i64 l[i].n),.lit (.int .i64 l[i].o),.sl false 1 (BB l[i].d)]:=by
  rw [List.getD_eq_getElem?_getD,List.getElem?_map,List.getElem?_eq_getElem h]; rfl
theorem few_pure (l:List Act) (hl:l.length≤60) (st:St):aG Go.Proofs.Try.prog n_f12 [.sl false 6 (l.map actV)] st (.lit (.bool (fewB l))):=by
  refine aV hmix k_f12 rfl rfl fun Q hQ=>?_
  unfold aFun c_f12
  simp (config:=KF) (disch:=omega) only [bZ,↓reduceIte,reduceCtorEq]
  rw [f12_7w]
  refine cX (A:=Nat) (fun i=>l.length - i) (fun i=>⟨[(0,.sl false 6 (l.map actV)),(3,.lit (.int .i64 (i:Nat)))],[]⟩) (fun _=>st)
    (fun i=>i≤l.length∧fewB (l.take i) = true) 0 ⟨Nat.zero_le _,rfl⟩ (Sf.le_refl _) rfl ?_
  rintro i ⟨h1,h2⟩ K hK hKe hKr
  by_cases h3:i < l.length
  · have hg:=act_getD h3
    have htk:fewB (l.take (i + 1)) = decide (l[i].d.length≤1030):=by
      rw [List.take_succ_eq_append_getElem h3]
      unfold fewB at h2 ⊢
      rw [List.all_append,h2]; simp
    by_cases h4:l[i].d.length≤1030
    · rw [decide_eq_true h4] at htk
      simp (config:=KF) (disch:=omega) only [bZ,gu,ixSV,lenI,addA,aa,dk,↓reduceIte,Nat.reduceEqDiff,reduceCtorEq,aK,aP,a9,hg]
      exact hK (i + 1) _ ⟨h3,htk⟩ (by omega) (Sf.le_refl _)
    · have hf:fewB l = false:=by
        unfold fewB
        rw [List.all_eq_false]
        exact ⟨l[i],List.getElem_mem h3,by simpa using h4⟩
      rw [hf] at hQ
      simp (config:=KF) (disch:=omega) only [bZ,aI,gu,ixSV,lenI,addA,aa,dk,↓reduceIte,Nat.reduceEqDiff,reduceCtorEq,aK,aP,hg]
      refine hKr _ _ ?_
      simp (config:=KF) (disch:=omega) only [bZ,aI,retI,↓reduceIte]
      exact hQ _
  · obtain rfl:i = l.length:=by omega
    rw [List.take_length] at h2
    rw [h2] at hQ
    simp (config:=KF) (disch:=omega) only [bZ,aU,bK,lenI,↓reduceIte,Nat.reduceEqDiff,reduceCtorEq]
    refine hKe _ _ _ ?_
    simp (config:=KF) (disch:=omega) only [bZ,aA,retI,↓reduceIte]
    exact hQ _

/-! What iL of two subscribers of a topic. -/
abbrev Ms:=List (List UInt8)
/-- What a subscriber has read, has and has lost, of what was published. -/
def Got (P r:Ms) (S:Sb):Prop:=(r++S.msgs).Sublist P∧r.length + S.msgs.length + S.lost = P.length
def gy (other:Nat) (P:Ms):Nat:=(P.filter fun p=>decide (other < p.length + 2)).length
theorem nx (other:Nat) (P:Ms) (p:List UInt8):gy other (P++[p]) = gy other P + if other < p.length + 2 then 1 else 0:=by
  unfold gy
  rw [List.filter_append,List.length_append]
  by_cases h:other < p.length + 2
  · simp [h]
  · simp [h]
theorem Got.give {P r:Ms} {S:Sb} (h:Got P r S) (p:List UInt8):Got (P++[p]) r (dt p S):=by
  obtain ⟨h1,h2⟩:=h
  have ht:(dt p S).lost + (dt p S).msgs.length = S.lost + S.msgs.length + 1:=(dQ p S).2.2.2.2
  refine ⟨?_,by rw [List.length_append,List.length_cons,List.length_nil]; omega⟩
  unfold dt
  split
  · simp only
    rw [← List.append_assoc]
    exact h1.append (List.Sublist.refl _)
  · split
    · rename_i hc
      obtain ⟨_,_,pre,hp⟩:=eL hc.1 S.msgs S.lost
      simp only
      rw [← List.append_assoc]
      refine List.Sublist.append (List.Sublist.trans (List.Sublist.append (List.Sublist.refl r) ?_) h1) (List.Sublist.refl _)
      conv=>rhs; rw [hp]
      exact List.sublist_append_right _ _
    · exact h1.trans (List.sublist_append_left _ _)
theorem give_block {S:Sb} {p:List UInt8} (hp:S.pol = 3) (hc:¬ (p.length + 2≤S.room∧¬ used S.msgs + (p.length + 2)≤S.room)):(dt p S).lost = S.lost + if S.room < p.length + 2 then 1 else 0:=by
  unfold dt
  split
  · rename_i h
    rw [if_neg (by omega)]; rfl
  · rename_i h
    rw [if_neg (by rw [hp]; omega),if_pos (by omega)]

structure HG (R:HR) (P r0 r1:Ms) (other:Nat):Prop where
  ex:∃ S0 S1,R.subs = [S0,S1]∧S0.num = 0∧S1.num = 1∧S0.topic = 3∧S1.topic = 3∧S1.pol = 3∧S1.room = other∧Got P r0 S0∧Got P r1 S1∧S1.lost = gy other P
  ws:∀ w ∈ R.ws,w.2.1 = 3
theorem HG.pub {R:HR} {P r0 r1:Ms} {other:Nat} (h:HG R P r0 r1 other) {p:List UInt8} (hc:canR 3 p.length R.subs = true) {ws:List WW} (hw:∀ w ∈ ws,w.2.1 = 3):HG ⟨pubR 3 p R.subs,ws⟩ (P++[p]) r0 r1 other:=by
  obtain ⟨S0,S1,h1,h2,h3,h4,h5,h6,h7,h8,h9,h10⟩:=h.ex
  refine ⟨⟨dt p S0,dt p S1,?_,?_,?_,?_,?_,?_,?_,h8.give p,h9.give p,?_⟩,hw⟩
  · unfold pubR
    rw [h1]
    simp [h4,h5]
  · rw [(dQ p S0).1,h2]
  · rw [(dQ p S1).1,h3]
  · rw [(dQ p S0).2.1,h4]
  · rw [(dQ p S1).2.1,h5]
  · rw [(dQ p S1).2.2.2.1,h6]
  · rw [(dQ p S1).2.2.1,h7]
  · unfold canR at hc
    rw [h1] at hc
    simp only [List.all_cons,List.all_nil,Bool.and_true,Bool.and_eq_true,h5,h6] at hc
    have hc:=hc.2
    rw [give_block h6,h10,nx,h7]
    rintro ⟨a,b⟩
    simp [a,b] at hc
theorem HG.on {r0 r1:Ms} {other:Nat} (wt:Nat→List UInt8):∀ (k:Nat) {R:HR} {P:Ms},HG R P r0 r1 other→(∀ w ∈ R.ws,wt w.1 = w.2.2)→HG (onR 3 k R).1 (P++(onR 3 k R).2.map wt) r0 r1 other∧∀ w ∈ (onR 3 k R).1.ws,w ∈ R.ws
  | 0,R,P,h,_=>by simpa [onR] using h
  | k + 1, R, P, h, hw => by
    have popm:∀ {l:List WW} {w:WW} {s:List WW},popR 3 l = some (w,s)→w ∈ l∧∀ x ∈ s,x ∈ l:=by
      intro l
      induction l with
      | nil=>intro w s q; cases q
      | cons x r ih =>
        intro w s q
        simp only [popR] at q
        split at q
        · simp only [Option.some.injEq,Prod.mk.injEq] at q
          obtain ⟨rfl,rfl⟩:=q
          exact ⟨by simp,fun y hy=>by simp [hy]⟩
        · cases hp:popR 3 r with
          | none=>rw [hp] at q; cases q
          | some z =>
            obtain ⟨y,u⟩:=z
            rw [hp] at q
            simp only [Option.some.injEq,Prod.mk.injEq] at q
            obtain ⟨rfl,rfl⟩:=q
            obtain ⟨q1,q2⟩:=ih hp
            refine ⟨by simp [q1],fun a ha=>?_⟩
            rcases List.mem_cons.1 ha with ha | ha
            · simp [ha]
            · simp [q2 a ha]
    unfold onR
    cases hp:popR 3 R.ws with
    | none=>simpa using h
    | some z =>
      obtain ⟨w,rest⟩:=z
      obtain ⟨m1,m2⟩:=popm hp
      simp only
      by_cases hc:canR 3 w.2.2.length R.subs = true
      · rw [if_pos hc]
        have hp1:=h.pub hc (ws:=rest) fun x hx=>h.ws x (m2 x hx)
        obtain ⟨a1,a2⟩:=HG.on wt k (R:=⟨pubR 3 w.2.2 R.subs,rest⟩) (P:=P++[w.2.2]) hp1 fun x hx=>hw x (m2 x hx)
        refine ⟨?_,fun x hx=>m2 x (a2 x hx)⟩
        rw [List.map_cons,hw w m1]
        rw [List.append_assoc] at a1
        exact a1
      · rw [if_neg hc]
        simpa using h
end Go.Fx.YtbdjfccgkdgbfaaFx

namespace Go.Fx.YtbdjfccgkdgbfaaFx
open Go Go.Fx
attribute [local irreducible] aC runI au aH

set_option maxRecDepth 100000
set_option maxHeartbeats 4000000

/-! One call of the law Holds. -/
theorem popR_mem {t:Int}:∀ {l:List WW} {w:WW} {s:List WW},popR t l = some (w,s)→w ∈ l∧∀ x ∈ s,x ∈ l
  | [],_,_,q=>by cases q
  | x :: r, w, s, q => by
    simp only [popR] at q
    split at q
    · simp only [Option.some.injEq,Prod.mk.injEq] at q
      obtain ⟨rfl,rfl⟩:=q
      exact ⟨by simp,fun y hy=>by simp [hy]⟩
    · cases hp:popR t r with
      | none=>rw [hp] at q; cases q
      | some z =>
        obtain ⟨y,u⟩:=z
        rw [hp] at q
        simp only [Option.some.injEq,Prod.mk.injEq] at q
        obtain ⟨rfl,rfl⟩:=q
        obtain ⟨q1,q2⟩:=popR_mem hp
        refine ⟨by simp [q1],fun a ha=>?_⟩
        rcases List.mem_cons.1 ha with ha | ha
        · simp [ha]
        · simp [q2 a ha]
theorem delT_mem {t:Int}:∀ {l:List WW} {w:WW} {s:List WW},delT t l = some (w,s)→w ∈ l∧∀ x ∈ s,x ∈ l
  | [],_,_,q=>by cases q
  | x :: r, w, s, q => by
    simp only [delT] at q
    split at q
    · simp only [Option.some.injEq,Prod.mk.injEq] at q
      obtain ⟨rfl,rfl⟩:=q
      exact ⟨by simp,fun y hy=>by simp [hy]⟩
    · cases hp:delT t r with
      | none=>rw [hp] at q; cases q
      | some z =>
        obtain ⟨y,u⟩:=z
        rw [hp] at q
        simp only [Option.some.injEq,Prod.mk.injEq] at q
        obtain ⟨rfl,rfl⟩:=q
        obtain ⟨q1,q2⟩:=delT_mem hp
        refine ⟨by simp [q1],fun a ha=>?_⟩
        rcases List.mem_cons.1 ha with ha | ha
        · simp [ha]
        · simp [q2 a ha]
theorem oO {t:Int}:∀ {l:List WW},¬ ((delT t l).isSome = true)→∀ w ∈ l,(w.1:Int)≠t
  | [],_,w,hw=>by cases hw
  | x :: r, h, w, hw => by
    simp only [delT] at h
    split at h
    · simp at h
    · rename_i hne
      rcases List.mem_cons.1 hw with rfl | hw
      · exact hne
      · refine oO (l:=r) ?_ w hw
        cases hd:delT t r with
        | none=>simp
        | some z=>rw [hd] at h; simp at h
theorem onR_mem (t:Int):∀ (k:Nat) (R:HR),∀ i ∈ (onR t k R).2,∃ w ∈ R.ws,w.1 = i
  | 0,R,i,h=>by cases h
  | k + 1, R, i, h => by
    unfold onR at h
    cases hp:popR t R.ws with
    | none=>rw [hp] at h; cases h
    | some z =>
      obtain ⟨w,rest⟩:=z
      obtain ⟨m1,m2⟩:=popR_mem hp
      rw [hp] at h
      simp only at h
      split at h
      · rcases List.mem_cons.1 h with rfl | h
        · exact ⟨w,m1,rfl⟩
        · obtain ⟨x,hx,hxi⟩:=onR_mem t k _ i h
          exact ⟨x,m2 x hx,hxi⟩
      · cases h

abbrev WT:=Nat→Option (List UInt8)
def upd (wt:WT) (k:Nat) (d:List UInt8):WT:=fun i=>if i = k then some d else wt i
def gt (wt:WT) (i:Nat):List UInt8:=(wt i).getD []
structure HW (R:HR) (P r0 r1:Ms) (other:Nat) (wt:WT):Prop where
  g:HG R P r0 r1 other
  w:∀ w ∈ R.ws,wt w.1 = some w.2.2∧w.1 < 64
theorem HW.on {R:HR} {P r0 r1:Ms} {other:Nat} {wt:WT} (h:HW R P r0 r1 other wt) (k:Nat):HW (onR 3 k R).1 (P++(onR 3 k R).2.map (gt wt)) r0 r1 other wt∧∀ i ∈ (onR 3 k R).2,i < 64∧(wt i).isSome = true:=by
  obtain ⟨a1,a2⟩:=HG.on (gt wt) k h.g fun w hw=>by unfold gt; rw [(h.w w hw).1]; rfl
  refine ⟨⟨a1,fun w hw=>h.w w (a2 w hw)⟩,fun i hi=>?_⟩
  obtain ⟨w,hw,rfl⟩:=onR_mem 3 k R i hi
  exact ⟨(h.w w hw).2,by rw [(h.w w hw).1]; rfl⟩
def rd1 (n j:Int) (r:Ms) (x:RO) (w:Int):Ms:=if w = 3∧n = j then r++[x.data] else r
theorem HW.step {R:HR} {P r0 r1:Ms} {other:Nat} {wt:WT} (h:HW R P r0 r1 other wt) (w t n o:Int) (d:List UInt8) (hw:1≤w∧w≠4) (hn:w = 3→n = 0∨n = 1) :
    ((rDo w t 3 n o d R).2.err≠0→(rDo w t 3 n o d R).1 = R) ∧
    ((rDo w t 3 n o d R).2.err = 0 → (w = 2 ∧ (rDo w t 3 n o d R).2.done = false → 0 ≤ t ∧ t < 64) ∧ (∀ i ∈ (rDo w t 3 n o d R).2.items, i < 64 ∧ (wt i).isSome = true) ∧
      HW (rDo w t 3 n o d R).1 ((P++if w = 1∨(w = 2∧(rDo w t 3 n o d R).2.done = true) then [d] else [])++(rDo w t 3 n o d R).2.items.map (gt wt)) (rd1 n 0 r0 (rDo w t 3 n o d R).2 w) (rd1 n 1 r1 (rDo w t 3 n o d R).2 w) other
        (if w = 2∧(rDo w t 3 n o d R).2.done = false then upd wt t.toNat d else wt)):=by
  have pubOk:(rPub 3 d R).2 = 0→HW (rPub 3 d R).1 (P++[d]) r0 r1 other wt∧(rPub 3 d R).1.ws = R.ws:=by
    intro hz
    unfold rPub at hz ⊢
    split
    · rename_i q; omega
    · split
      · rename_i q1 q2; rw [if_neg q1,if_pos q2] at hz; cases hz
      · split
        · rename_i q1 q2 q3; rw [if_neg q1,if_neg q2,if_pos q3] at hz; cases hz
        · rename_i q3
          have hc:canR 3 d.length R.subs = true:=by
            cases hc:canR 3 d.length R.subs with
            | true=>rfl
            | false=>exact absurd (.inr hc) q3
          exact ⟨⟨h.g.pub hc h.g.ws,h.w⟩,rfl⟩
  unfold rDo
  rw [if_neg (by omega)]
  by_cases w1:w = 1
  · subst w1
    rw [if_pos rfl]
    refine ⟨fun q=>rPub_ne q,fun q=>⟨fun q=>absurd q.1 (by omega),fun i hi=>(by cases hi),?_⟩⟩
    simp only at q ⊢
    unfold rd1
    simpa using (pubOk q).1
  rw [if_neg w1]
  by_cases w2:w = 2
  · subst w2
    rw [if_pos rfl]
    unfold dl
    by_cases c1:(3:Int) < 0∨(16:Int)≤3∨t < 0∨64≤t
    · rw [if_pos c1]; exact ⟨fun _=>rfl,fun q=>by cases q⟩
    rw [if_neg c1]
    by_cases c2:1024 < d.length
    · rw [if_pos c2]; exact ⟨fun _=>rfl,fun q=>by cases q⟩
    rw [if_neg c2]
    by_cases c3:(delT t R.ws).isSome = true
    · rw [if_pos c3]; exact ⟨fun _=>rfl,fun q=>by cases q⟩
    rw [if_neg c3]
    by_cases c4:(rPub 3 d R).2 = 0
    · rw [if_pos c4]
      refine ⟨fun q=>absurd rfl q,fun _=>⟨fun q=>(by cases q.2),fun i hi=>(by cases hi),?_⟩⟩
      unfold rd1
      simpa using (pubOk c4).1
    · rw [if_neg c4]
      refine ⟨fun q=>absurd rfl q,fun _=>⟨fun q=>by omega,fun i hi=>(by cases hi),?_⟩⟩
      have hne:=oO c3
      unfold rd1
      simp only [List.map_nil,List.append_nil,true_and,and_self,if_true]
      rw [if_neg (by decide),if_neg (by omega),if_neg (by omega),List.append_nil]
      refine ⟨⟨h.g.ex,fun x hx=>?_⟩,fun x hx=>?_⟩
      · rcases List.mem_append.1 hx with hx | hx
        · exact h.g.ws x hx
        · simp only [List.mem_singleton] at hx; subst hx; rfl
      · rcases List.mem_append.1 hx with hx | hx
        · obtain ⟨a1,a2⟩:=h.w x hx
          have:=hne x hx
          unfold upd
          rw [if_neg (by omega)]
          exact ⟨a1,a2⟩
        · simp only [List.mem_singleton] at hx; subst hx
          unfold upd
          exact ⟨if_pos rfl,by simp only; omega⟩
  rw [if_neg w2]
  by_cases w3:w = 3
  · subst w3
    rw [if_pos rfl]
    obtain ⟨S0,S1,h1,h2,h3,h4,h5,h6,h7,h8,h9,h10⟩:=h.g.ex
    unfold bD
    have hat:∀ S:Sb,atR n R.subs = some S→S.topic = 3:=by
      intro S hS
      rw [h1] at hS
      rcases hn rfl with rfl | rfl
      · simp [atR,h2] at hS; rw [← hS]; exact h4
      · simp [atR,h2,h3] at hS; rw [← hS]; exact h5
    cases hS:atR n R.subs with
    | none=>exact ⟨fun _=>rfl,fun q=>by cases q⟩
    | some S =>
      simp only
      cases hm:S.msgs with
      | nil=>exact ⟨fun _=>rfl,fun q=>by cases q⟩
      | cons m ms =>
        rw [hat S hS]
        refine ⟨fun q=>absurd rfl q,fun _=>⟨fun q=>absurd q.1 (by omega),?_⟩⟩
        have hgot:∀ (r:Ms) (T:Sb),T = S→Got P r T→Got P (r++[m]) (fY T):=fun r T e hg=>by
          subst e
          obtain ⟨g1,g2⟩:=hg
          rw [hm] at g1 g2
          refine ⟨?_,?_⟩
          · unfold fY
            rw [hm,List.tail_cons,List.append_assoc]
            exact g1
          · unfold fY
            rw [hm]
            simp only [List.length_append,List.length_cons,List.length_nil,List.tail_cons] at g2 ⊢
            omega
        have key:HW ⟨modR n fY R.subs,R.ws⟩ P (rd1 n 0 r0 ⟨0,false,m,[],0⟩ 3) (rd1 n 1 r1 ⟨0,false,m,[],0⟩ 3) other wt:=by
          refine ⟨⟨?_,h.g.ws⟩,h.w⟩
          rw [h1] at hS
          rcases hn rfl with rfl | rfl
          · have e:S0 = S:=by simpa [atR,h2] using hS
            refine ⟨fY S0,S1,?_,h2,h3,h4,h5,h6,h7,?_,?_,h10⟩
            · simp only [h1,modR]; rw [if_pos (by rw [h2]; rfl)]
            · unfold rd1; rw [if_pos ⟨rfl,rfl⟩]; exact hgot r0 S0 e h8
            · unfold rd1; rw [if_neg (by omega)]; exact h9
          · have e:S1 = S:=by simpa [atR,h2,h3] using hS
            refine ⟨S0,fY S1,?_,h2,h3,h4,h5,h6,h7,?_,?_,h10⟩
            · simp only [h1,modR]; rw [if_neg (by rw [h2]; decide),if_pos (by rw [h3]; rfl)]
            · unfold rd1; rw [if_neg (by omega)]; exact h8
            · unfold rd1; rw [if_pos ⟨rfl,rfl⟩]; exact hgot r1 S1 e h9
        obtain ⟨k1,k2⟩:=key.on R.ws.length
        refine ⟨k2,?_⟩
        unfold rd1 at k1 ⊢
        simpa using k1
  rw [if_neg w3,if_neg hw.2]
  unfold cY
  by_cases c1:t < 0∨64≤t
  · rw [if_pos c1]; exact ⟨fun _=>rfl,fun q=>by cases q⟩
  rw [if_neg c1]
  cases hd:delT t R.ws with
  | none=>exact ⟨fun _=>rfl,fun q=>by cases q⟩
  | some z =>
    obtain ⟨x,rest⟩:=z
    obtain ⟨m1,m2⟩:=delT_mem hd
    simp only
    rw [h.g.ws x m1]
    have key:HW ⟨R.subs,rest⟩ P r0 r1 other wt:=⟨⟨h.g.ex,fun y hy=>h.g.ws y (m2 y hy)⟩,fun y hy=>h.w y (m2 y hy)⟩
    obtain ⟨k1,k2⟩:=key.on rest.length
    refine ⟨fun q=>absurd rfl q,fun _=>⟨fun q=>absurd q.1 w2,k2,?_⟩⟩
    unfold rd1
    rw [if_neg (by omega),if_neg (by omega),if_neg (by omega),if_neg (by omega),List.append_nil]
    exact k1
end Go.Fx.YtbdjfccgkdgbfaaFx

