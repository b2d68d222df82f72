/- What the functions that the statement reaches compute: part 7. -/
import Derived.Test.YtddifejdkiemgaaFxW6
namespace Go.Fx.YtddifejdkiemgaaFx
open Go Go.Fx
attribute [local irreducible] aC runI dg ep

set_option maxRecDepth 100000
set_option maxHeartbeats 4000000

/-! Lists of grants that are grown in a box. -/
abbrev Gt:=Int×Int
def grC (l:List Gt):List AV:=l.flatMap fun x=>[.lit (.int .i64 x.1),.lit (.int .i64 x.2)]
def GB (v:AV) (st:St) (l:List Gt):Prop:=(v = .lit (.slice none 0 0)∧l = [])∨∃ id cap r,v = .bs id 2 0 l.length cap∧st.get id = some (grC l++r)∧l.length≤cap∧cap * 2≤(grC l++r).length
theorem o9 (l:List Gt):(grC l).length = l.length * 2:=by
  induction l with
  | nil=>rfl
  | cons x l ih=>simp only [grC,List.flatMap_cons,List.length_append,List.length_cons,List.length_nil] at ih ⊢; omega
theorem sB (l k:List Gt):grC (l++k) = grC l++grC k:=by simp [grC]
theorem grC_own (l:List Gt):(grC l).map AV.own1 = grC l:=by
  induction l with
  | nil=>rfl
  | cons x l ih=>simp only [grC,List.flatMap_cons,List.map_append] at ih ⊢; rw [ih]; rfl

/-- All boxes but some are as they were; there may be new ones. -/
def GFr (st st':St) (S:List Nat):Prop:=st.boxes.length≤st'.boxes.length∧∀ i,i < st.boxes.length→i ∉ S→st'.boxes[i]? = st.boxes[i]?
theorem GFr.refl (st:St) (S:List Nat):GFr st st S:=⟨Nat.le_refl _,fun _ _ _=>rfl⟩
theorem GFr.oth {st st':St} {S S':List Nat} (h:Oth st st' S) (hs:∀ x ∈ S,x ∈ S'):GFr st st' S':=⟨Nat.le_of_eq h.1.symm,fun i _ hn=>h.2 i fun e=>hn (hs i e)⟩
theorem GFr.trans {a b c:St} {S S':List Nat} (h:GFr a b S) (k:GFr b c S') (hs:∀ x ∈ S',x ∈ S∨a.boxes.length≤x):GFr a c S:=⟨Nat.le_trans h.1 k.1,fun i hi hn=>(k.2 i (Nat.lt_of_lt_of_le hi h.1) fun e=>(hs i e).elim hn fun q=>by omega).trans (h.2 i hi hn)⟩
theorem GFr.mono {a b:St} {S S':List Nat} (h:GFr a b S) (hs:∀ x ∈ S,x ∈ S'):GFr a b S':=⟨h.1,fun i hi hn=>h.2 i hi fun e=>hn (hs i e)⟩

theorem GB.cases {v:AV} {st:St} {l:List Gt} (h:GB v st l):(v = .lit (.slice none 0 0)∧l = [])∨∃ ib ln cap,v = .bs ib 2 0 ln cap∧ln = l.length:=by
  rcases h with h | ⟨id,cap,r,h,_⟩
  · exact .inl h
  · exact .inr ⟨id,_,cap,h,rfl⟩
theorem GB.at {v:AV} {st st':St} {l:List Gt} (h:GB v st l) (he:∀ i ∈ cL v,st'.boxes[i]? = st.boxes[i]?):GB v st' l:=by
  rcases h with h | ⟨id,cap,r,rfl,h1,h2,h3⟩
  · exact .inl h
  · exact .inr ⟨id,cap,r,rfl,(iB (he id (by simp [cL]))).trans h1,h2,h3⟩
theorem GB.lt {v:AV} {st:St} {l:List Gt} (h:GB v st l):∀ i ∈ cL v,i < st.boxes.length:=by
  intro i hi
  rcases h with ⟨rfl,_⟩ | ⟨id,cap,r,rfl,h1,_⟩
  · simp [cL] at hi
  · simp [cL] at hi; subst hi; exact fA h1

theorem GB.app {v:AV} {st:St} {l:List Gt} (h:GB v st l) (hl:l.length≤100000) (a c:Int) {C:AV→St→Prop}
    (hC:∀ v' st',GB v' st' (l++[(a,c)])→GFr st st' (cL v)→(∀ i ∈ cL v',i ∈ cL v∨st.boxes.length≤i)→C v' st'):appX false 2 16 v C st [.agg [.lit (.int .i64 a),.lit (.int .i64 c)]]:=by
  have hnew:cellsD [.agg [.lit (.int .i64 a),.lit (.int .i64 c)]] = grC [(a,c)]:=rfl
  rcases h with ⟨rfl,rfl⟩ | ⟨id,cap,r,rfl,hg,h1,h2⟩
  · refine ⟨rfl,show lI 1 16 = true by decide,?_⟩
    simp only [List.isEmpty_cons,Bool.false_eq_true,if_false]
    intro k hk
    simp only [List.length_cons,List.length_nil] at hk
    refine hC _ _ (.inr ⟨st.boxes.length,k,List.replicate ((k - 1) * 2) .any,by simp,?_,by simpa using hk,by simp [grC]; omega⟩) ⟨by simp [St.push],fun i hi _=>e9 hi⟩ (fun i hi=>by simp [cL] at hi; subst hi; exact .inr (Nat.le_refl _))
    rw [hnew]; exact gp st _
  · have hid:=fA hg
    have hcl:=o9 l
    refine ⟨rfl,rfl,?_,?_⟩
    · simp only [lI,List.length_cons,List.length_nil,decide_eq_true_eq,Bool.and_eq_true]
      omega
    rw [hg]
    show (Res.ok _).wp _
    rw [rq,hnew]
    split
    · rename_i hc
      simp only [List.length_cons,List.length_nil] at hc ⊢
      have h2':=h2
      simp only [List.length_append] at h2'
      refine ⟨by simp only [List.length_append]; omega,hC _ _ (.inr ⟨id,cap,r.drop 2,by simp,?_,by simp; omega,?_⟩) ⟨by simp [St.set],fun i hi hn=>lg (by simpa [cL] using hn)⟩ (fun i hi=>.inl hi)⟩
      · rw [el hid,Nat.zero_add,p8 hcl.symm (by simp [grC]; omega),sB]
        simp [grC]
      · simp only [List.length_append,o9,List.length_drop,List.length_cons,List.length_nil]; omega
    · rename_i hc
      simp only [List.length_cons,List.length_nil] at hc ⊢
      have e:List.map AV.own1 (List.take (l.length * 2) (List.drop 0 (grC l++r))) = grC l:=by
        rw [List.drop_zero,← hcl,List.take_left,grC_own]
      rw [e]
      refine ⟨by simp only [List.length_append]; omega,fun k hk=>hC _ _ (.inr ⟨st.boxes.length,k,List.replicate ((k - (l.length + 1)) * 2) .any,by simp,?_,by simpa using hk,?_⟩) ⟨by simp [St.push],fun i hi _=>e9 hi⟩ (fun i hi=>by simp [cL] at hi; subst hi; exact .inr (Nat.le_refl _))⟩
      · rw [sB]
        exact gp st _
      · simp only [List.length_append,o9,List.length_replicate,List.length_cons,List.length_nil]; omega
end Go.Fx.YtddifejdkiemgaaFx

