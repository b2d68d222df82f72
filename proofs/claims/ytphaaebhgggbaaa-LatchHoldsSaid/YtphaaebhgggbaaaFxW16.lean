/- What the functions that the statement reaches compute: part 16. -/
import Derived.Test.YtphaaebhgggbaaaFxW15
namespace Go.Fx.YtphaaebhgggbaaaFx
open Go Go.Fx
attribute [local irreducible] aC runI bD cS

set_option maxRecDepth 100000
set_option maxHeartbeats 8000000

/-! What LatchHolds asks of the condition. -/
theorem owNext_W {o:Int} {T W:List Int} (hT:∀ t ∈ T,0≤t) (nd:T.Nodup) (hW:W.Sublist T) :
    ((bk o T).1.2≠[]→0≤(bk o T).1.1)∧(((bk o T).2 = []∧W.Sublist (bk o T).1.2)∨∃ m,(bk o T).2 = [m]∧(bk o T).1.1 = m∧0≤m∧(m ∈ W→W.head? = some m)∧(W.filter (·≠m)).Sublist (bk o T).1.2):=by
  unfold bk
  by_cases h0:0≤o
  · rw [if_pos h0]; exact ⟨fun _=>h0,.inl ⟨rfl,hW⟩⟩
  rw [if_neg h0]
  cases T with
  | nil=>exact ⟨fun h=>absurd rfl h,.inl ⟨rfl,hW⟩⟩
  | cons t B =>
    have ht:=hT t (by simp)
    obtain ⟨n1,n2⟩:=List.nodup_cons.1 nd
    refine ⟨fun _=>ht,.inr ⟨t,rfl,rfl,ht,?_,?_⟩⟩
    · intro hm
      cases W with
      | nil=>simp at hm
      | cons a W =>
        cases hW with
        | cons _ h=>exact absurd (h.mem hm) n1
        | cons_cons _ h=>rfl
    · simp only
      cases W with
      | nil=>simp
      | cons a W =>
        cases hW with
        | cons _ h =>
          rw [List.filter_eq_self.2]
          · exact h
          · intro v hv
            have:v≠t:=fun e=>n1 (e ▸ h.mem hv)
            simpa using this
        | cons_cons _ h =>
          rw [List.filter_cons_of_neg (by simp)]
          exact List.filter_sublist.trans h
theorem coDo_facts {o:Int} {T U W:List Int} (a:Ac) (hi:CInv o T U) (hp:∀ t ∈ T++U,0≤t) (ho:T≠[]→0≤o) (hW:W.Sublist T) :
    (a.1 = 0→(coDo o T U a).2.2.2.1 = []∧((coDo o T U a).1.2.1≠[]→0≤(coDo o T U a).1.1)∧(if (coDo o T U a).2.2.2.2 = 0∧(coDo o T U a).2.2.1 = false then W++[a.2.1] else W).Sublist (coDo o T U a).1.2.1) ∧
    (1≤a.1→a.1≤4→((coDo o T U a).1.2.1≠[]→0≤(coDo o T U a).1.1)∧(((coDo o T U a).2.2.2.1 = []∧W.Sublist (coDo o T U a).1.2.1)∨∃ m,(coDo o T U a).2.2.2.1 = [m]∧(coDo o T U a).1.1 = m∧0≤m∧(m ∈ W→W.head? = some m)∧(W.filter (·≠m)).Sublist (coDo o T U a).1.2.1)):=by
  obtain ⟨w,t,n,s⟩:=a
  have hpT:∀ t ∈ T,0≤t:=fun t h=>hp t (by simp [h])
  have ndT:T.Nodup:=(List.nodup_append.1 hi.1).1
  refine ⟨fun h0=>?_,fun h1 h4=>?_⟩
  · simp only at h0
    subst h0
    unfold coDo cY
    simp only [if_true]
    by_cases c1:chk (U++T) t = 0
    case neg=>rw [if_pos c1]; exact ⟨trivial,ho,by simpa [c1] using hW⟩
    rw [if_neg (by simpa using c1)]
    obtain ⟨⟨t0,_⟩,_⟩:=jb c1
    by_cases c2:o = t
    · rw [if_pos c2]; exact ⟨trivial,ho,by simpa using hW⟩
    rw [if_neg c2]
    by_cases c3:o < 0
    · rw [if_pos c3]; exact ⟨trivial,fun _=>t0,by simpa using hW⟩
    · rw [if_neg c3]; exact ⟨trivial,fun _=>by simp only; omega,by simpa using hW.append (List.Sublist.refl [t])⟩
  · simp only at h1 h4
    have hu:∀ X:List Int,((cp o T t).1.2≠[]→0≤(cp o T t).1.1)∧(((cp o T t).2.1 = []∧W.Sublist (cp o T t).1.2)∨∃ m,(cp o T t).2.1 = [m]∧(cp o T t).1.1 = m∧0≤m∧(m ∈ W→W.head? = some m)∧(W.filter (·≠m)).Sublist (cp o T t).1.2):=fun _=>by
      unfold cp
      by_cases h2:(bV o t).2 = 0
      case neg =>
        have hl:(bV o t).1 = o:=by
          unfold bV at h2 ⊢
          split
          · rfl
          split
          · rfl
          · rename_i a b; rw [if_neg a,if_neg b] at h2; simp at h2
        rw [if_pos h2,hl]
        exact ⟨ho,.inl ⟨rfl,hW⟩⟩
      rw [if_neg (by simpa using h2)]
      exact owNext_W hpT ndT hW
    have hn:∀ k,((bk o (T++U.take k)).1.2≠[]→0≤(bk o (T++U.take k)).1.1)∧(((bk o (T++U.take k)).2 = []∧W.Sublist (bk o (T++U.take k)).1.2)∨∃ m,(bk o (T++U.take k)).2 = [m]∧(bk o (T++U.take k)).1.1 = m∧0≤m∧(m ∈ W→W.head? = some m)∧(W.filter (·≠m)).Sublist (bk o (T++U.take k)).1.2):=fun k =>
      owNext_W (fun t h=>hp t (by
        rcases List.mem_append.1 h with h | h
        · simp [h]
        · simp [List.mem_of_mem_take h])) (hi.1.sublist ((List.Sublist.refl T).append (List.take_sublist k U))) (hW.trans (List.sublist_append_left _ _))
    unfold coDo
    by_cases c0:w = 0
    · omega
    by_cases c1:w = 1
    · subst c1; exact hu []
    by_cases c2:w = 2
    · subst c2; exact hu []
    by_cases c3:w = 3
    · subst c3; exact hn 1
    have c4:w = 4:=by omega
    subst c4
    have:=hn U.length
    rw [List.take_length] at this
    exact this
end Go.Fx.YtphaaebhgggbaaaFx

