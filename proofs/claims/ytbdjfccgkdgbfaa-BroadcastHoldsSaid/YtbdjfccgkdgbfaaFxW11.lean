/- What the functions that the statement reaches compute: part 11. -/
import Derived.Test.YtbdjfccgkdgbfaaFxW10
namespace Go.Fx.YtbdjfccgkdgbfaaFx
open Go Go.Fx
attribute [local irreducible] aC runI au aH

set_option maxRecDepth 100000
set_option maxHeartbeats 4000000

/-! What the calls do. -/
def hasN (k:Nat) (subs:List Sb):Bool:=subs.any fun S=>decide (S.num = k)
def oL:Nat→Nat→List Sb→Nat
  | 0,k,_=>k
  | f + 1,k,subs=>if hasN k subs = true then oL f (k + 1) subs else k
def insR (S:Sb) (subs:List Sb):List Sb:=subs.filter (fun T=>decide (T.num < S.num))++S::subs.filter (fun T=>decide (S.num < T.num))
def rSub (topic room pol:Int) (R:HR):HR×Int×Int :=
  if topic < 0∨16≤topic∨room < 3∨4096 < room∨pol < 1∨3 < pol then (R,0,2)
  else if 64≤R.subs.length then (R,0,7)
  else (⟨insR ⟨oL 64 0 R.subs,topic,room.toNat,pol,[],0⟩ R.subs,R.ws⟩,(oL 64 0 R.subs:Nat),0)
def rPub (topic:Int) (p:List UInt8) (R:HR):HR×Int :=
  if topic < 0∨16≤topic then (R,2)
  else if 1024 < p.length then (R,5)
  else if (popR topic R.ws).isSome = true∨canR topic p.length R.subs = false then (R,16)
  else (⟨pubR topic p R.subs,R.ws⟩,0)
def delT (t:Int):List WW→Option (WW×List WW)
  | []=>none
  | w :: r => if (w.1 : Int) = t then some (w, r) else match delT t r with
    | none=>none
    | some (x,s)=>some (x,w::s)
def dl (task topic:Int) (p:List UInt8) (R:HR):HR×Bool×Int :=
  if topic < 0∨16≤topic∨task < 0∨64≤task then (R,false,2)
  else if 1024 < p.length then (R,false,5)
  else if (delT task R.ws).isSome = true then (R,false,11)
  else if (rPub topic p R).2 = 0 then ((rPub topic p R).1,true,0)
  else (⟨R.subs,R.ws++[(task.toNat,topic,p)]⟩,false,0)
def atR (n:Int):List Sb→Option Sb
  | []=>none
  | S::r=>if (S.num:Int) = n then some S else atR n r
def modR (n:Int) (f:Sb→Sb):List Sb→List Sb
  | []=>[]
  | S::r=>if (S.num:Int) = n then f S::r else S::modR n f r
def gx (n:Int):List Sb→List Sb
  | []=>[]
  | S::r=>if (S.num:Int) = n then r else S::gx n r
def fY (S:Sb):Sb:={ S with msgs:=S.msgs.tail }
def bD (n:Int) (R:HR):HR×List UInt8×List Nat×Int :=
  match atR n R.subs with
  | none=>(R,[],[],9)
  | some S => match S.msgs with
    | []=>(R,[],[],16)
    | m::_=>((onR S.topic R.ws.length ⟨modR n fY R.subs,R.ws⟩).1,m,(onR S.topic R.ws.length ⟨modR n fY R.subs,R.ws⟩).2,0)
def eB (n:Int) (R:HR):HR×List Nat×Int :=
  match atR n R.subs with
  | none=>(R,[],9)
  | some S=>((onR S.topic R.ws.length ⟨gx n R.subs,R.ws⟩).1,(onR S.topic R.ws.length ⟨gx n R.subs,R.ws⟩).2,0)
def cY (task:Int) (R:HR):HR×List Nat×Int :=
  if task < 0∨64≤task then (R,[],2)
  else match delT task R.ws with
    | none=>(R,[],9)
    | some (w,r)=>((onR w.2.1 r.length ⟨R.subs,r⟩).1,(onR w.2.1 r.length ⟨R.subs,r⟩).2,0)

/-! Subscribers by their numbers. -/
theorem ey (A B:List (Option Sb)):ca (A++B) = ca A++ca B:=by simp [ca]
theorem eQ (S:Sb) (B:List (Option Sb)):ca (some S::B) = S::ca B:=rfl
theorem iD (B:List (Option Sb)):ca (none::B) = ca B:=rfl
theorem g7 {S:Sb} {LS:List (Option Sb)}:S ∈ ca LS↔∃ i:Nat,LS[i]? = some (some S):=by
  unfold ca
  rw [List.mem_flatMap]
  constructor
  · rintro ⟨o,ho,hs⟩
    cases o with
    | none=>cases hs
    | some T =>
      simp only [oneS,List.mem_singleton] at hs
      subst hs
      exact List.mem_iff_getElem?.1 ho
  · rintro ⟨i,hi⟩
    exact ⟨some S,List.mem_of_getElem? hi,by simp [oneS]⟩
theorem pJ {n:Int} (B:List Sb):∀ {A:List Sb},(∀ S ∈ A,(S.num:Int)≠n)→atR n (A++B) = atR n B
  | [],_=>rfl
  | S :: r, h => by
    rw [List.cons_append,atR,if_neg (h S (by simp))]
    exact pJ B fun T hT=>h T (by simp [hT])
theorem modR_app {n:Int} (f:Sb→Sb) (B:List Sb):∀ {A:List Sb},(∀ S ∈ A,(S.num:Int)≠n)→modR n f (A++B) = A++modR n f B
  | [],_=>rfl
  | S :: r, h => by
    rw [List.cons_append,modR,if_neg (h S (by simp)),modR_app f B fun T hT=>h T (by simp [hT])]; rfl
theorem oM {n:Int} (B:List Sb):∀ {A:List Sb},(∀ S ∈ A,(S.num:Int)≠n)→gx n (A++B) = A++gx n B
  | [],_=>rfl
  | S :: r, h => by
    rw [List.cons_append,gx,if_neg (h S (by simp)),oM B fun T hT=>h T (by simp [hT])]; rfl
theorem atR_none {n:Int} {A:List Sb} (h:∀ S ∈ A,(S.num:Int)≠n):atR n A = none:=by
  have:=pJ [] h
  simpa [atR] using this

section
variable {LS:List (Option Sb)} {subs:List Sb} {n:Nat}
theorem g8 {o:Option Sb} {k:Nat} (h:LS[k]? = some o):LS = LS.take k++o::LS.drop (k + 1)∧(LS.take k).length = k:=by
  obtain ⟨h1,h2⟩:=List.getElem?_eq_some_iff.1 h
  refine ⟨?_,by rw [List.length_take]; omega⟩
  conv=>lhs; rw [← List.take_append_drop k LS,List.drop_eq_getElem_cons h1,h2]
theorem SubR.before (h:SubR LS subs n) (k:Nat):∀ S ∈ ca (LS.take k),S.num < k:=by
  intro S hS
  obtain ⟨i,hi⟩:=g7.1 hS
  rw [List.getElem?_take] at hi
  split at hi
  · rw [(h.ok i S hi).1]; assumption
  · cases hi
theorem SubR.after (h:SubR LS subs n) (k:Nat):∀ S ∈ ca (LS.drop (k + 1)),k < S.num:=by
  intro S hS
  obtain ⟨i,hi⟩:=g7.1 hS
  rw [List.getElem?_drop] at hi
  rw [(h.ok _ S hi).1]; omega
theorem SubR.at_none (h:SubR LS subs n) {k:Nat} (hk:LS[k]? = some none):atR (k:Nat) subs = none:=by
  obtain ⟨e,_⟩:=g8 hk
  refine atR_none fun S hS=>?_
  rw [← h.eq,e,ey,iD] at hS
  rcases List.mem_append.1 hS with hS | hS
  · have:=h.before k S hS; omega
  · have:=h.after k S hS; omega
theorem SubR.at_out (h:SubR LS subs n) {k:Int} (hk:k < 0∨(LS.length:Int)≤k):atR k subs = none:=by
  refine atR_none fun S hS=>?_
  rw [← h.eq] at hS
  obtain ⟨i,hi⟩:=g7.1 hS
  have:=(List.getElem?_eq_some_iff.1 hi).1
  rw [(h.ok i S hi).1]
  omega
theorem SubR.at_some (h:SubR LS subs n) {k:Nat} {S:Sb} (hk:LS[k]? = some (some S)):atR (k:Nat) subs = some S:=by
  obtain ⟨e,_⟩:=g8 hk
  rw [← h.eq,e,ey,eQ,pJ,atR,if_pos (by rw [(h.ok k S hk).1])]
  intro T hT
  have:=h.before k T hT; omega
theorem SubR.set (h:SubR LS subs n) {k:Nat} {S T:Sb} (hk:LS[k]? = some (some S)) {f:Sb→Sb} (hf:f S = T) (hT:T.num = S.num∧T.lost + T.msgs.length≤n∧T.topic = S.topic∧T.pol = S.pol∧T.room = S.room):SubR (LS.set k (some T)) (modR (k:Nat) f subs) n:=by
  obtain ⟨e,hl⟩:=g8 hk
  have hkl:=(List.getElem?_eq_some_iff.1 hk).1
  refine ⟨?_,fun i U hi=>?_⟩
  · rw [← h.eq]
    conv=>rhs; rw [e]
    rw [ey,eQ,modR_app,modR,if_pos (by rw [(h.ok k S hk).1]),hf,List.set_eq_take_append_cons_drop,if_pos hkl,ey,eQ]
    intro T hT
    have:=h.before k T hT; omega
  · rw [List.getElem?_set] at hi
    by_cases hik:k = i
    · subst hik
      rw [if_pos rfl,if_pos hkl] at hi
      cases hi
      obtain ⟨a1,a2,a3,a4,a5⟩:=hT
      obtain ⟨b1,b2,b3⟩:=h.ok k S hk
      rw [a1,a3,a4,a5]
      exact ⟨b1,a2,b3⟩
    · rw [if_neg hik] at hi
      exact h.ok i U hi
theorem SubR.drop (h:SubR LS subs n) {k:Nat} {S:Sb} (hk:LS[k]? = some (some S)):SubR (LS.set k none) (gx (k:Nat) subs) n:=by
  obtain ⟨e,hl⟩:=g8 hk
  have hkl:=(List.getElem?_eq_some_iff.1 hk).1
  refine ⟨?_,fun i U hi=>?_⟩
  · rw [← h.eq]
    conv=>rhs; rw [e]
    rw [ey,eQ,oM,gx,if_pos (by rw [(h.ok k S hk).1]),List.set_eq_take_append_cons_drop,if_pos hkl,ey,iD]
    intro T hT
    have:=h.before k T hT; omega
  · rw [List.getElem?_set] at hi
    by_cases hik:k = i
    · subst hik
      rw [if_pos rfl,if_pos hkl] at hi
      cases hi
    · rw [if_neg hik] at hi
      exact h.ok i U hi
theorem SubR.ins (h:SubR LS subs n) {k:Nat} (hk:LS[k]? = some none) {S:Sb} (hn:S.num = k) (hS:S.lost + S.msgs.length≤n∧0≤S.topic∧S.topic < 16∧1≤S.pol∧S.pol≤3∧3≤S.room∧S.room≤4096):SubR (LS.set k (some S)) (insR S subs) n:=by
  obtain ⟨e,hl⟩:=g8 hk
  have hkl:=(List.getElem?_eq_some_iff.1 hk).1
  refine ⟨?_,fun i U hi=>?_⟩
  · rw [← h.eq]
    conv=>rhs; rw [e]
    rw [ey,iD,List.set_eq_take_append_cons_drop,if_pos hkl,ey,eQ]
    unfold insR
    rw [List.filter_append,List.filter_append,hn]
    have b:=h.before k
    have a:=h.after k
    rw [List.filter_eq_self.2 (fun T hT=>decide_eq_true (b T hT)),List.filter_eq_nil_iff.2 (fun T hT=>by have:=a T hT; simp; omega),List.filter_eq_nil_iff.2 (fun T hT=>by have:=b T hT; simp; omega),List.filter_eq_self.2 (fun T hT=>decide_eq_true (a T hT)),List.append_nil,List.nil_append]
  · rw [List.getElem?_set] at hi
    by_cases hik:k = i
    · subst hik
      rw [if_pos rfl,if_pos hkl] at hi
      cases hi
      exact ⟨hn,hS⟩
    · rw [if_neg hik] at hi
      exact h.ok i U hi

/-- The first free place. -/
def fstN:List (Option Sb)→Nat
  | []=>0
  | none::_=>0
  | some _::r=>fstN r + 1
theorem lN:∀ LS:List (Option Sb),fstN LS≤LS.length∧(∀ i,i < fstN LS→∃ S,LS[i]? = some (some S))∧(fstN LS < LS.length→LS[fstN LS]? = some none)
  | []=>⟨Nat.le_refl _,fun i (h:i < 0)=>absurd h (Nat.not_lt_zero _),fun h=>absurd h (Nat.not_lt_zero _)⟩
  | none::r=>⟨Nat.zero_le _,fun i (h:i < 0)=>absurd h (Nat.not_lt_zero _),fun _=>rfl⟩
  | some S :: r => by
    obtain ⟨h1,h2,h3⟩:=lN r
    refine ⟨Nat.succ_le_succ h1,fun i hi=>?_,fun h=>?_⟩
    · cases i with
      | zero=>exact ⟨S,rfl⟩
      | succ i=>exact h2 i (Nat.lt_of_succ_lt_succ hi)
    · exact h3 (Nat.lt_of_succ_lt_succ h)
theorem SubR.has (h:SubR LS subs n) (k:Nat):hasN k subs = true↔∃ S,LS[k]? = some (some S):=by
  unfold hasN
  rw [List.any_eq_true,← h.eq]
  constructor
  · rintro ⟨S,hS,hk⟩
    obtain ⟨i,hi⟩:=g7.1 hS
    have:=(h.ok i S hi).1
    have hk:=of_decide_eq_true hk
    exact ⟨S,by rw [← hk,this]; exact hi⟩
  · rintro ⟨S,hS⟩
    exact ⟨S,g7.2 ⟨k,hS⟩,decide_eq_true (h.ok k S hS).1⟩
theorem SubR.free (h:SubR LS subs n):∀ (f k:Nat),k≤fstN LS→fstN LS≤k + f→fstN LS < LS.length→oL f k subs = fstN LS
  | 0,k,h1,h2,_=>by unfold oL; omega
  | f + 1, k, h1, h2, h3 => by
    unfold oL
    obtain ⟨_,q1,q2⟩:=lN LS
    by_cases hk:k = fstN LS
    · rw [if_neg]
      · exact hk
      · rw [h.has]
        rintro ⟨S,hS⟩
        rw [hk,q2 h3] at hS
        cases hS
    · rw [if_pos ((h.has k).2 (q1 k (by omega)))]
      exact h.free f (k + 1) (by omega) (by omega) h3
theorem nt:∀ LS:List (Option Sb),(ca LS).length≤LS.length∧((ca LS).length = LS.length↔fstN LS = LS.length)
  | []=>⟨Nat.le_refl _,by simp [ca,fstN]⟩
  | none :: r => by
    obtain ⟨h1,h2⟩:=nt r
    rw [iD,List.length_cons]
    refine ⟨by omega,by simp only [fstN]; omega⟩
  | some S :: r => by
    obtain ⟨h1,h2⟩:=nt r
    rw [eQ,List.length_cons,List.length_cons]
    refine ⟨by omega,by simp only [fstN]; omega⟩
end
end Go.Fx.YtbdjfccgkdgbfaaFx

