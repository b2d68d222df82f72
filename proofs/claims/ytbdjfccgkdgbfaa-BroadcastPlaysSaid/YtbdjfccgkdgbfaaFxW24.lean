/- What the functions that the statement reaches compute: part 24. -/
import Derived.Test.YtbdjfccgkdgbfaaFxW23
namespace Go.Fx.YtbdjfccgkdgbfaaFx
open Go Go.Fx
attribute [local irreducible] aC runI az aA

set_option maxRecDepth 100000
set_option maxHeartbeats 4000000

/-! Calls as values; few. -/
structure Act where
  w:Int
  t:Int
  p:Int
  n:Int
  o:Int
  d:List UInt8
def dV (d:List UInt8):AV:=.sl false 1 (BB d)
def actV (a:Act):AV:=actA a.w a.t a.p a.n a.o (dV a.d)
def fewB (l:List Act):Bool:=l.all fun a=>decide (a.d.length≤1030)
theorem act_getD {l:List Act} {i:Nat} (h:i < l.length):(l.map actV).getD i .any = .agg [.lit (.int .i64 l[i].w),.lit (.int .i64 l[i].t),.lit (.int .i64 l[i].p),.lit (.int .i64 l[i].n),.lit (.int .i64 l[i].o),.sl false 1 (BB l[i].d)]:=by
  rw [List.getD_eq_getElem?_getD,List.getElem?_map,List.getElem?_eq_getElem h]; rfl
theorem few_pure (l:List Act) (hl:l.length≤60) (st:St):aB Go.Proofs.Try.prog n_f12 [.sl false 6 (l.map actV)] st (.lit (.bool (fewB l))):=by
  refine aE hmix k_f12 rfl rfl fun Q hQ=>?_
  unfold aFun c_f12
  simp (config:=KF) (disch:=omega) only [bZ,↓reduceIte,reduceCtorEq]
  rw [f12_7w]
  refine bf (A:=Nat) (fun i=>l.length - i) (fun i=>⟨[(0,.sl false 6 (l.map actV)),(3,.lit (.int .i64 (i:Nat)))],[]⟩) (fun _=>st)
    (fun i=>i≤l.length∧fewB (l.take i) = true) 0 ⟨Nat.zero_le _,rfl⟩ (Sf.le_refl _) rfl ?_
  rintro i ⟨h1,h2⟩ K hK hKe hKr
  by_cases h3:i < l.length
  · have hg:=act_getD h3
    have htk:fewB (l.take (i + 1)) = decide (l[i].d.length≤1030):=by
      rw [List.take_succ_eq_append_getElem h3]
      unfold fewB at h2 ⊢
      rw [List.all_append,h2]; simp
    by_cases h4:l[i].d.length≤1030
    · rw [decide_eq_true h4] at htk
      simp (config:=KF) (disch:=omega) only [bZ,ixSV,lenI,addA,aa,↓reduceIte,Nat.reduceEqDiff,reduceCtorEq,aJ,hg]
      exact hK (i + 1) _ ⟨h3,htk⟩ (by omega) (Sf.le_refl _)
    · have hf:fewB l = false:=by
        unfold fewB
        rw [List.all_eq_false]
        exact ⟨l[i],List.getElem_mem h3,by simpa using h4⟩
      rw [hf] at hQ
      simp (config:=KF) (disch:=omega) only [bZ,ixSV,lenI,addA,aa,↓reduceIte,Nat.reduceEqDiff,reduceCtorEq,aJ,hg]
      refine hKr _ _ ?_
      simp (config:=KF) (disch:=omega) only [bZ,retI,↓reduceIte]
      exact hQ _
  · obtain rfl:i = l.length:=by omega
    rw [List.take_length] at h2
    rw [h2] at hQ
    simp (config:=KF) (disch:=omega) only [bZ,lenI,↓reduceIte,Nat.reduceEqDiff,reduceCtorEq]
    refine hKe _ _ _ ?_
    simp (config:=KF) (disch:=omega) only [bZ,retI,↓reduceIte]
    exact hQ _

/-! What iR of two subscribers of a topic. -/
abbrev Ms:=List (List UInt8)
/-- What a subscriber has read, has and has lost, of what was published. -/
def Got (P r:Ms) (S:Sb):Prop:=(r++S.msgs).Sublist P∧r.length + S.msgs.length + S.lost = P.length
def large (other:Nat) (P:Ms):Nat:=(P.filter fun p=>decide (other < p.length + 2)).length
theorem large_snoc (other:Nat) (P:Ms) (p:List UInt8):large other (P++[p]) = large other P + if other < p.length + 2 then 1 else 0:=by
  unfold large
  rw [List.filter_append,List.length_append]
  by_cases h:other < p.length + 2
  · simp [h]
  · simp [h]
theorem Got.give {P r:Ms} {S:Sb} (h:Got P r S) (p:List UInt8):Got (P++[p]) r (bX p S):=by
  obtain ⟨h1,h2⟩:=h
  have ht:(bX p S).lost + (bX p S).msgs.length = S.lost + S.msgs.length + 1:=(dy p S).2.2.2.2
  refine ⟨?_,by rw [List.length_append,List.length_cons,List.length_nil]; omega⟩
  unfold bX
  split
  · simp only
    rw [← List.append_assoc]
    exact h1.append (List.Sublist.refl _)
  · split
    · rename_i hc
      obtain ⟨_,_,pre,hp⟩:=eu hc.1 S.msgs S.lost
      simp only
      rw [← List.append_assoc]
      refine List.Sublist.append (List.Sublist.trans (List.Sublist.append (List.Sublist.refl r) ?_) h1) (List.Sublist.refl _)
      conv=>rhs; rw [hp]
      exact List.sublist_append_right _ _
    · exact h1.trans (List.sublist_append_left _ _)
theorem give_block {S:Sb} {p:List UInt8} (hp:S.pol = 3) (hc:¬ (p.length + 2≤S.room∧¬ used S.msgs + (p.length + 2)≤S.room)):(bX p S).lost = S.lost + if S.room < p.length + 2 then 1 else 0:=by
  unfold bX
  split
  · rename_i h
    rw [if_neg (by omega)]; rfl
  · rename_i h
    rw [if_neg (by rw [hp]; omega),if_pos (by omega)]

structure HG (R:HR) (P r0 r1:Ms) (other:Nat):Prop where
  ex:∃ S0 S1,R.subs = [S0,S1]∧S0.num = 0∧S1.num = 1∧S0.topic = 3∧S1.topic = 3∧S1.pol = 3∧S1.room = other∧Got P r0 S0∧Got P r1 S1∧S1.lost = large other P
  ws:∀ w ∈ R.ws,w.2.1 = 3
theorem HG.pub {R:HR} {P r0 r1:Ms} {other:Nat} (h:HG R P r0 r1 other) {p:List UInt8} (hc:canR 3 p.length R.subs = true) {ws:List WW} (hw:∀ w ∈ ws,w.2.1 = 3):HG ⟨pubR 3 p R.subs,ws⟩ (P++[p]) r0 r1 other:=by
  obtain ⟨S0,S1,h1,h2,h3,h4,h5,h6,h7,h8,h9,h10⟩:=h.ex
  refine ⟨⟨bX p S0,bX p S1,?_,?_,?_,?_,?_,?_,?_,h8.give p,h9.give p,?_⟩,hw⟩
  · unfold pubR
    rw [h1]
    simp [h4,h5]
  · rw [(dy p S0).1,h2]
  · rw [(dy p S1).1,h3]
  · rw [(dy p S0).2.1,h4]
  · rw [(dy p S1).2.1,h5]
  · rw [(dy p S1).2.2.2.1,h6]
  · rw [(dy p S1).2.2.1,h7]
  · unfold canR at hc
    rw [h1] at hc
    simp only [List.all_cons,List.all_nil,Bool.and_true,Bool.and_eq_true,h5,h6] at hc
    have hc:=hc.2
    rw [give_block h6,h10,large_snoc,h7]
    rintro ⟨a,b⟩
    simp [a,b] at hc
theorem HG.on {r0 r1:Ms} {other:Nat} (wt:Nat→List UInt8):∀ (k:Nat) {R:HR} {P:Ms},HG R P r0 r1 other→(∀ w ∈ R.ws,wt w.1 = w.2.2)→HG (onR 3 k R).1 (P++(onR 3 k R).2.map wt) r0 r1 other∧∀ w ∈ (onR 3 k R).1.ws,w ∈ R.ws
  | 0,R,P,h,_=>by simpa [onR] using h
  | k + 1, R, P, h, hw => by
    have popm:∀ {l:List WW} {w:WW} {s:List WW},popR 3 l = some (w,s)→w ∈ l∧∀ x ∈ s,x ∈ l:=by
      intro l
      induction l with
      | nil=>intro w s q; cases q
      | cons x r ih =>
        intro w s q
        simp only [popR] at q
        split at q
        · simp only [Option.some.injEq,Prod.mk.injEq] at q
          obtain ⟨rfl,rfl⟩:=q
          exact ⟨by simp,fun y hy=>by simp [hy]⟩
        · cases hp:popR 3 r with
          | none=>rw [hp] at q; cases q
          | some z =>
            obtain ⟨y,u⟩:=z
            rw [hp] at q
            simp only [Option.some.injEq,Prod.mk.injEq] at q
            obtain ⟨rfl,rfl⟩:=q
            obtain ⟨q1,q2⟩:=ih hp
            refine ⟨by simp [q1],fun a ha=>?_⟩
            rcases List.mem_cons.1 ha with ha | ha
            · simp [ha]
            · simp [q2 a ha]
    unfold onR
    cases hp:popR 3 R.ws with
    | none=>simpa using h
    | some z =>
      obtain ⟨w,rest⟩:=z
      obtain ⟨m1,m2⟩:=popm hp
      simp only
      by_cases hc:canR 3 w.2.2.length R.subs = true
      · rw [if_pos hc]
        have hp1:=h.pub hc (ws:=rest) fun x hx=>h.ws x (m2 x hx)
        obtain ⟨a1,a2⟩:=HG.on wt k (R:=⟨pubR 3 w.2.2 R.subs,rest⟩) (P:=P++[w.2.2]) hp1 fun x hx=>hw x (m2 x hx)
        refine ⟨?_,fun x hx=>m2 x (a2 x hx)⟩
        rw [List.map_cons,hw w m1]
        rw [List.append_assoc] at a1
        exact a1
      · rw [if_neg hc]
        simpa using h
end Go.Fx.YtbdjfccgkdgbfaaFx

