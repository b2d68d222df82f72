/- What the functions that the statement reaches compute: part 9. -/
import Derived.Test.YtbdjfccgkdgbfaaFxW8
namespace Go.Fx.YtbdjfccgkdgbfaaFx
open Go Go.Fx
attribute [local irreducible] aC runI az ar

set_option maxRecDepth 100000
set_option maxHeartbeats 4000000

/-! The hub as it is seen: its subscribers, its waiting tasks. -/
abbrev WW:=Nat×Int×List UInt8
structure HR where
 subs:List Sb
 ws:List WW
def canR (topic:Int) (n:Nat) (subs:List Sb):Bool:=subs.all fun S=>!(decide (S.topic = topic) && (decide (S.pol = 3) && (decide (n + 2≤S.room) && !decide (used S.msgs + (n + 2)≤S.room))))
def pubR (topic:Int) (p:List UInt8) (subs:List Sb):List Sb:=subs.map fun S=>if S.topic = topic then cf p S else S
def popR (topic:Int):List WW→Option (WW×List WW)
 | []=>none
 | w :: r => if w.2.1 = topic then some (w, r) else match popR topic r with
   | none=>none
   | some (x,s)=>some (x,w::s)
def onR (topic:Int):Nat→HR→HR×List Nat
 | 0,R=>(R,[])
 | k + 1, R => match popR topic R.ws with
   | none=>(R,[])
   | some (w,rest)=>if canR topic w.2.2.length R.subs then ((onR topic k ⟨pubR topic w.2.2 R.subs,rest⟩).1,w.1::(onR topic k ⟨pubR topic w.2.2 R.subs,rest⟩).2) else (R,[])

def oneS (o:Option Sb):List Sb:=match o with | none=>[] | some S=>[S]
def bz (LS:List (Option Sb)):List Sb:=LS.flatMap oneS
theorem qR (topic:Int) (n:Nat):∀ L:List (Option SL),canL topic n L = canR topic n (bz (L.map sbO))
 | []=>rfl
 | none :: r => by
   have:=qR topic n r
   unfold canL canR bz at this ⊢
   rw [List.all_cons,this]
   rfl
 | some x :: r => by
   have:=qR topic n r
   unfold canL canR bz at this ⊢
   rw [List.all_cons,this]
   rfl
theorem pub_of (topic:Int) (p:List UInt8):∀ LS:List (Option Sb),bz (LS.map (pubO topic p)) = pubR topic p (bz LS)
 | []=>rfl
 | none :: r => by
   have:=pub_of topic p r
   unfold bz pubR at this ⊢
   rw [List.map_cons,List.flatMap_cons,this]
   rfl
 | some x :: r => by
   have:=pub_of topic p r
   unfold bz pubR at this ⊢
   rw [List.map_cons,List.flatMap_cons,this]
   rfl

theorem dM (p:List UInt8) (S:Sb):(cf p S).num = S.num∧(cf p S).topic = S.topic∧(cf p S).room = S.room∧(cf p S).pol = S.pol∧(cf p S).lost + (cf p S).msgs.length = S.lost + S.msgs.length + 1:=by
 unfold cf
 split
 ·exact ⟨rfl,rfl,rfl,rfl,by simp; omega⟩
 ·split
  ·rename_i h
   have:=(eB h.1 S.msgs S.lost).2.1
   exact ⟨rfl,rfl,rfl,rfl,by simp; omega⟩
  ·exact ⟨rfl,rfl,rfl,rfl,by simp; omega⟩

structure SubR (LS:List (Option Sb)) (subs:List Sb) (n:Nat):Prop where
 eq:bz LS = subs
 ok:∀ (i:Nat) S,LS[i]? = some (some S)→S.num = i∧S.lost + S.msgs.length≤n∧0≤S.topic∧S.topic < 16∧1≤S.pol∧S.pol≤3∧3≤S.room∧S.room≤4096
theorem SubR.mono {LS:List (Option Sb)} {subs:List Sb} {n m:Nat} (h:SubR LS subs n) (hm:n≤m):SubR LS subs m :=
 ⟨h.eq,fun i S hi=>by obtain ⟨a,b,c⟩:=h.ok i S hi; exact ⟨a,by omega,c⟩⟩
theorem SubR.pub {LS:List (Option Sb)} {subs:List Sb} {n:Nat} (h:SubR LS subs n) (topic:Int) (p:List UInt8):SubR (LS.map (pubO topic p)) (pubR topic p subs) (n + 1):=by
 refine ⟨by rw [pub_of,h.eq],fun i S hi=>?_⟩
 rw [List.getElem?_map] at hi
 obtain ⟨o,ho,e⟩:=Option.map_eq_some_iff.1 hi
 cases o with
 | none=>cases e
 | some T =>
   obtain ⟨a,b,c⟩:=h.ok i T ho
   simp only [pubO,Option.some.injEq] at e
   subst e
   split
   ·obtain ⟨g1,g2,g3,g4,g5⟩:=dM p T
    rw [g1,g2,g3,g4,g5]
    exact ⟨a,by omega,c⟩
   ·exact ⟨a,by omega,c⟩

/-! Waiting tasks. -/
abbrev WL:=List (Nat×WE)
def cJ (t:Int):WL→Option WE
 | []=>none
 | e::r=>if (e.1:Int) = t then some e.2 else cJ t r
def qOf (i:Int) (W:WL):Qu:=W.flatMap fun e=>if e.2.topic = i then [(e.2.tick,(e.1:Int))] else []
def cz (e:Nat×WE):WW:=(e.1,e.2.topic,e.2.data)
theorem f8 (i:Int) (A B:WL):qOf i (A++B) = qOf i A++qOf i B:=by simp [qOf]
theorem c9 (i:Int) (e:Nat×WE) (B:WL):qOf i (e::B) = (if e.2.topic = i then [(e.2.tick,(e.1:Int))] else [])++qOf i B:=rfl
theorem qS (i:Int):∀ W:WL,(qOf i W).length≤W.length
 | []=>Nat.le_refl _
 | e :: r => by
   have:=qS i r
   rw [c9,List.length_append,List.length_cons]
   split <;> simp <;> omega
theorem gF (t:Int) (B:WL):∀ A:WL,cJ t (A++B) = match cJ t A with | some x=>some x | none=>cJ t B
 | []=>rfl
 | e :: r => by
   simp only [List.cons_append,cJ]
   split
   ·rfl
   ·exact gF t B r
theorem jU {t:Int}:∀ {A:WL},(∀ a ∈ A,(a.1:Int)≠t)→cJ t A = none
 | [],_=>rfl
 | e :: r, h => by
   unfold cJ
   rw [if_neg (h e (by simp))]
   exact jU fun a ha=>h a (by simp [ha])
theorem ol {t:Int}:∀ {A:WL} {w:WE},cJ t A = some w→∃ (B C:WL) (k:Nat),A = B++(k,w)::C∧(k:Int) = t
 | [],_,h=>by cases h
 | e :: r, w, h => by
   unfold cJ at h
   split at h
   ·rename_i he
    cases h
    exact ⟨[],r,e.1,rfl,he⟩
   ·obtain ⟨B,C,k,h1,h2⟩:=ol h
    exact ⟨e::B,C,k,by rw [h1]; rfl,h2⟩

structure WaitR (Qs:List QL) (M:List (Int×WE)) (W:WL) (n:Nat):Prop where
 que:∀ (i:Nat) x,Qs[i]? = some x→x.L = qOf i W∧x.g≤n
 mp:∀ t:Int,aR t M = cJ t W
 kn:(bO M).Nodup
 nd:(W.map Prod.fst).Nodup
 ok:∀ e ∈ W,e.1 < 64∧0≤e.2.topic∧e.2.topic < 16∧e.2.data.length≤1024∧(e.2.nl = true→e.2.data = [])
theorem WaitR.mono {Qs:List QL} {M:List (Int×WE)} {W:WL} {n m:Nat} (h:WaitR Qs M W n) (hm:n≤m):WaitR Qs M W m :=
 ⟨fun i x hx=>⟨(h.que i x hx).1,by have:=(h.que i x hx).2; omega⟩,h.mp,h.kn,h.nd,h.ok⟩
theorem om:∀ (k:Nat) {l:List Nat},l.Nodup→(∀ x ∈ l,x < k)→l.length≤k
 | 0, l, _, h => by
   cases l with
   | nil=>exact Nat.le_refl _
   | cons x r=>have:=h x (by simp); omega
 | k + 1, l, hn, h => by
   have h1:(l.erase k).length≤k:=om k (hn.erase k) fun x hx=>by
    have h2:=(hn.mem_erase_iff).1 hx
    have:=h x h2.2
    have:=h2.1
    omega
   by_cases hk:k ∈ l
   ·rw [List.length_erase_of_mem hk] at h1
    omega
   ·rw [List.erase_of_not_mem hk] at h1
    omega
theorem WaitR.len {Qs:List QL} {M:List (Int×WE)} {W:WL} {n:Nat} (h:WaitR Qs M W n):W.length≤64:=by
 have:=om 64 h.nd fun x hx=>by
  obtain ⟨e,he,rfl⟩:=List.mem_map.1 hx
  exact (h.ok e he).1
 simpa using this
theorem WaitR.del {Qs:List QL} {M:List (Int×WE)} {A B:WL} {e:Nat×WE} {n i:Nat} {x y:QL} (h:WaitR Qs M (A++e::B) n) (he:e.2.topic = (i:Int)) (hx:Qs[i]? = some x) (hy:y.L = qOf i A++qOf i B) (hg:y.g = x.g) :
  WaitR (Qs.set i y) (delP (e.1:Int) M) (A++B) n:=by
 have hnd:=h.nd
 rw [List.map_append,List.map_cons,List.nodup_append] at hnd
 obtain ⟨n1,n2,n3⟩:=hnd
 have hno:∀ a ∈ A++B,a.1≠e.1:=by
  intro a ha q
  rcases List.mem_append.1 ha with ha | ha
  ·exact n3 a.1 (List.mem_map_of_mem ha) e.1 (by simp) q
  ·exact (List.nodup_cons.1 n2).1 (by rw [← q]; exact List.mem_map_of_mem ha)
 refine ⟨fun j z hz=>?_,fun t=>?_,lw h.kn,?_,fun a ha=>h.ok a ?_⟩
 ·rw [List.getElem?_set] at hz
  by_cases hj:i = j
  ·subst hj
   rw [if_pos rfl,if_pos (List.getElem?_eq_some_iff.1 hx).1] at hz
   cases hz
   exact ⟨by rw [hy,f8],by rw [hg]; exact (h.que i x hx).2⟩
  ·rw [if_neg hj] at hz
   obtain ⟨q1,q2⟩:=h.que j z hz
   refine ⟨?_,q2⟩
   rw [q1,f8,f8,c9,if_neg (by rw [he]; omega),List.nil_append]
 ·rw [nW _ _ h.kn]
  by_cases ht:t = (e.1:Int)
  ·rw [if_pos ht,jU]
   intro a ha q
   exact hno a ha (by omega)
  ·rw [if_neg ht,h.mp,gF,gF]
   conv=>lhs; rw [cJ,if_neg (fun q=>ht q.symm)]
 ·rw [List.map_append]
  exact List.nodup_append.2 ⟨n1,(List.nodup_cons.1 n2).2,fun a ha b hb=>n3 a ha b (List.mem_cons_of_mem _ hb)⟩
 ·rcases List.mem_append.1 ha with ha | ha
  ·exact List.mem_append_left _ ha
  ·exact List.mem_append_right _ (List.mem_cons_of_mem _ ha)
theorem WaitR.add {Qs:List QL} {M:List (Int×WE)} {W:WL} {k:Nat} {w:WE} {n i:Nat} {x y:QL} (h:WaitR Qs M W n) (hno:cJ (k:Int) W = none) (hk:k < 64) (hw:w.topic = (i:Int)) (hi:i < 16) (hd:w.data.length≤1024) (hnl:w.nl = true→w.data = []) (hx:Qs[i]? = some x) (ht:w.tick = x.g + 1) (hy:y.L = x.L++[(x.g + 1,(k:Int))]) (hg:y.g = x.g + 1) :
  WaitR (Qs.set i y) (updP (k:Int) w M) (W++[(k,w)]) (n + 1):=by
 have hnk:k ∉ W.map Prod.fst:=by
  have:∀ W:WL,cJ (k:Int) W = none→k ∉ W.map Prod.fst:=by
   intro W
   induction W with
   | nil=>intro _ q; cases q
   | cons e r ih =>
     intro h q
     unfold cJ at h
     split at h
     ·cases h
     ·rename_i hne
      simp only [List.map_cons,List.mem_cons] at q
      rcases q with q | q
      ·omega
      ·exact ih h q
  exact this W hno
 refine ⟨fun j z hz=>?_,fun t=>?_,lu h.kn,?_,fun a ha=>?_⟩
 ·rw [List.getElem?_set] at hz
  by_cases hj:i = j
  ·subst hj
   rw [if_pos rfl,if_pos (List.getElem?_eq_some_iff.1 hx).1] at hz
   cases hz
   obtain ⟨q1,q2⟩:=h.que i x hx
   refine ⟨?_,by omega⟩
   rw [hy,f8,q1,c9,if_pos hw,ht]; rfl
  ·rw [if_neg hj] at hz
   obtain ⟨q1,q2⟩:=h.que j z hz
   refine ⟨?_,by omega⟩
   rw [q1,f8,c9,if_neg (by rw [hw]; omega)]; simp [qOf]
 ·rw [cZ,gF,h.mp]
  by_cases htk:t = (k:Int)
  ·rw [if_pos htk,htk,hno]; simp [cJ]
  ·rw [if_neg htk]
   cases cJ t W with
   | some _=>rfl
   | none=>simp only [cJ]; rw [if_neg (fun q=>htk q.symm)]
 ·rw [List.map_append]
  refine List.nodup_append.2 ⟨h.nd,by simp,fun a ha b hb q=>?_⟩
  simp only [List.map_cons,List.map_nil,List.mem_singleton] at hb
  subst hb; subst q
  exact hnk ha
 ·rcases List.mem_append.1 ha with ha | ha
  ·exact h.ok a ha
  ·simp only [List.mem_singleton] at ha
   subst ha
   exact ⟨hk,by simp only; omega,by simp only; omega,hd,hnl⟩

def popW (topic:Int):WL→Option ((Nat×WE)×WL)
 | []=>none
 | w :: r => if w.2.topic = topic then some (w, r) else match popW topic r with
   | none=>none
   | some (x,s)=>some (x,w::s)
theorem jV (topic:Int):∀ W:WL,popR topic (W.map cz) = match popW topic W with | none=>none | some (e,r)=>some (cz e,r.map cz)
 | []=>rfl
 | w :: r => by
   simp only [List.map_cons,popR,popW]
   have:(cz w).2.1 = w.2.topic:=rfl
   rw [this]
   split
   ·rfl
   ·rw [jV topic r]
    cases popW topic r with
    | none=>rfl
    | some q=>rfl
theorem lG (topic:Int):∀ {W:WL},popW topic W = none→qOf topic W = []
 | [],_=>rfl
 | w :: r, h => by
   simp only [popW] at h
   split at h
   ·cases h
   ·rename_i hne
    rw [c9,if_neg hne,List.nil_append]
    refine lG topic ?_
    cases hp:popW topic r with
    | none=>rfl
    | some q=>rw [hp] at h; cases h
theorem lH (topic:Int):∀ {W:WL} {e:Nat×WE} {r:WL},popW topic W = some (e,r)→∃ A B:WL,W = A++e::B∧r = A++B∧e.2.topic = topic∧qOf topic A = []
 | [],_,_,h=>by cases h
 | w :: s, e, r, h => by
   simp only [popW] at h
   split at h
   ·rename_i ht
    simp only [Option.some.injEq,Prod.mk.injEq] at h
    obtain ⟨rfl,rfl⟩:=h
    exact ⟨[],_,rfl,rfl,ht,rfl⟩
   ·rename_i hne
    cases hp:popW topic s with
    | none=>rw [hp] at h; cases h
    | some q =>
      obtain ⟨x,t⟩:=q
      rw [hp] at h
      simp only [Option.some.injEq,Prod.mk.injEq] at h
      obtain ⟨rfl,rfl⟩:=h
      obtain ⟨A,B,h1,h2,h3,h4⟩:=lH topic hp
      exact ⟨w::A,B,by rw [h1]; rfl,by rw [h2]; rfl,h3,by rw [c9,if_neg hne,h4]; rfl⟩
end Go.Fx.YtbdjfccgkdgbfaaFx

