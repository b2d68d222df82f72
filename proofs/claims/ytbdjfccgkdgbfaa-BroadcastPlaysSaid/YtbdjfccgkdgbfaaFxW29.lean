/- What the functions that the statement reaches compute: part 29. -/
import Derived.Test.YtbdjfccgkdgbfaaFxW28
namespace Go.Fx.YtbdjfccgkdgbfaaFx
open Go Go.Fx
attribute [local irreducible] aC runI az aA

set_option maxRecDepth 100000
set_option maxHeartbeats 4000000

/-! Subscribers, in a row or in a buffer. -/
def sc6 (e:AV):Prop:=∃ a b c d r l,e = .agg [a,b,c,d,r,l]∧a.own1 = a∧b.own1 = b∧c.own1 = c∧d.own1 = d∧r.own1 = r∧l.own1 = l
theorem SubE.sc {e:AV} {S:Sb} (h:SubE e S):sc6 e:=by
  obtain ⟨rv,hr,rfl⟩:=h
  exact ⟨_,_,_,_,_,_,rfl,rfl,rfl,rfl,rfl,hr.facts.2.1,rfl⟩
theorem Es.sc {es:List AV} {subs:List Sb} (h:Es es subs):∀ e ∈ es,sc6 e:=by
  intro e he
  obtain ⟨i,hi⟩:=List.mem_iff_getElem?.1 he
  have hl:=(List.getElem?_eq_some_iff.1 hi).1
  exact (h.2 i e (subs[i]'(h.1 ▸ hl)) hi (List.getElem?_eq_getElem (h.1 ▸ hl))).sc
theorem dg:∀ {es:List AV},(∀ e ∈ es,sc6 e)→(es.flatMap AV.cells).length = es.length * 6
  | [],_=>rfl
  | e :: r, h => by
    obtain ⟨a,b,c,d,x,l,rfl,_⟩:=h e (by simp)
    have:=dg (es:=r) fun e he=>h e (by simp [he])
    rw [List.flatMap_cons,List.length_append,this,List.length_cons]
    show 6 + _ = _
    omega
theorem jq:∀ {es:List AV},(∀ e ∈ es,sc6 e)→es.map AV.dis = es
  | [],_=>rfl
  | e :: r, h => by
    obtain ⟨a,b,c,d,x,l,rfl,h1,h2,h3,h4,h5,h6⟩:=h e (by simp)
    rw [List.map_cons,jq (es:=r) fun e he=>h e (by simp [he])]
    show AV.agg [a.own1,b.own1,c.own1,d.own1,x.own1,l.own1]::r = _
    rw [h1,h2,h3,h4,h5,h6]
theorem lU:∀ {es:List AV},(∀ e ∈ es,sc6 e)→∀ {i:Nat} (_:i < es.length) (q:List AV),(es.flatMap AV.cells++q).drop (i * 6) = (es.getD i .any).cells++((es.drop (i + 1)).flatMap AV.cells++q)
  | [],_,_,h,_=>by simp at h
  | e::r,h,0,_,q=>by simp
  | e :: r, h, i + 1, hi, q => by
    obtain ⟨a,b,c,d,x,l,rfl,_⟩:=h e (by simp)
    have:=lU (es:=r) (fun e he=>h e (by simp [he])) (i:=i) (by simpa using hi) q
    rw [List.flatMap_cons,List.append_assoc,show (i + 1) * 6 = i * 6 + 6 by omega]
    show (a::b::c::d::x::l::(r.flatMap AV.cells++q)).drop (i * 6 + 6) = _
    rw [show i * 6 + 6 = i * 6 + 1 + 1 + 1 + 1 + 1 + 1 by omega]
    simp only [List.drop_succ_cons,List.getD_cons_succ]
    exact this
theorem sc_set {es:List AV} (hs:∀ e ∈ es,sc6 e) {i:Nat} (hi:i < es.length) {e:AV} (he:sc6 e) (q:List AV):aY (es.flatMap AV.cells++q) (i * 6) e.cells = (es.set i e).flatMap AV.cells++q:=by
  have h1:es = es.take i++es[i]::es.drop (i + 1):=by
    conv=>lhs; rw [← List.take_append_drop i es,List.drop_eq_getElem_cons hi]
  have hl:((es.take i).flatMap AV.cells).length = i * 6:=by
    rw [dg fun e he=>hs e (List.mem_of_mem_take he),List.length_take]; congr 1; omega
  have h6:es[i].cells.length = 6:=by
    obtain ⟨a,b,c,d,x,l,h,_⟩:=hs es[i] (List.getElem_mem hi)
    rw [h]; rfl
  have h6':e.cells.length = 6:=by
    obtain ⟨a,b,c,d,x,l,h,_⟩:=he
    rw [h]; rfl
  conv=>lhs; rw [h1]
  rw [List.flatMap_append,List.flatMap_cons,List.append_assoc,List.append_assoc,List.set_eq_take_append_cons_drop,if_pos hi,List.flatMap_append,List.flatMap_cons,gk hl.symm (by rw [List.length_append]; omega),List.drop_append,h6',← h6,List.drop_length]
  simp
def SV (v:AV) (st:St) (es:List AV):Prop:=(v = .lit (.slice none 0 0)∧es = [])∨v = .sl false 6 es∨∃ id cap r,v = .bs id 6 0 es.length cap∧st.get id = some (es.flatMap AV.cells++r)∧es.length≤cap∧cap * 6≤(es.flatMap AV.cells++r).length∧∀ c ∈ r,c.NB
theorem SV.facts {v:AV} {st:St} {es:List AV} (h:SV v st es):v.dis = v∧v.own1 = v∧v.own2 = v∧v.solid1 = true∧v.noL = true∧v.cells = [v]∧(∀ s,kill s v = v)∧∀ st',lenI .sl st' v = .ok (.lit (.int .i64 (es.length:Nat))):=by
  rcases h with ⟨rfl,rfl⟩ | rfl | ⟨id,cap,r,rfl,_⟩
  · exact ⟨rfl,rfl,rfl,rfl,rfl,rfl,fun _=>rfl,fun _=>rfl⟩
  · exact ⟨rfl,rfl,rfl,rfl,rfl,rfl,fun _=>rfl,fun _=>rfl⟩
  · exact ⟨rfl,rfl,rfl,rfl,rfl,rfl,fun _=>rfl,fun _=>rfl⟩
theorem SV.at {v:AV} {st st':St} {es:List AV} (h:SV v st es) (hb:∀ x ∈ ap v,st'.boxes[x]? = st.boxes[x]?):SV v st' es:=by
  rcases h with h | h | ⟨id,cap,r,rfl,hg,h1⟩
  · exact .inl h
  · exact .inr (.inl h)
  · exact .inr (.inr ⟨id,cap,r,rfl,(cE (hb id (by simp [ap]))).trans hg,h1⟩)
theorem qh:∀ {es:List AV},(∀ e ∈ es,sc6 e)→∀ q,grp 6 es.length (es.flatMap AV.cells++q) = es
  | [],_,q=>rfl
  | e :: r, h, q => by
    obtain ⟨a,b,c,d,x,l,rfl,_⟩:=h e (by simp)
    have:=qh (es:=r) (fun e he=>h e (by simp [he])) q
    rw [List.flatMap_cons,List.append_assoc,List.length_cons]
    show AV.agg [a,b,c,d,x,l]::grp 6 r.length (r.flatMap AV.cells++q) = _
    rw [this]
theorem SV.src {v:AV} {st:St} {es:List AV} (h:SV v st es) (hs:∀ e ∈ es,sc6 e) {K:List AV→Prop} (hK:K es):(srcA st 6 v).wp K:=by
  rcases h with ⟨rfl,rfl⟩ | rfl | ⟨id,cap,r,rfl,hg,h1⟩
  · exact hK
  · exact hK
  · show (cF st id 6 0 es.length).wp K
    unfold cF
    rw [hg]
    refine ⟨by simp [dg hs],?_⟩
    rw [List.drop_zero,qh hs]
    exact hK

def isBs:AV→Bool
  | .bs _ _ _ _ _=>true
  | _=>false
/-- A new buffer. -/
theorem appB_new {es:List AV} (hs:∀ e ∈ es,sc6 e) (hl:es.length≤1000) {st:St} {C:AV→St→Prop} (hC:∀ v st',SV v st' es→(es = []∧v = .lit (.slice none 0 0)∨isBs v = true)→Kp st st' []→(∀ x ∈ ap v,st.boxes.length≤x)→C v st'):appX false 6 64 (.lit (.slice none 0 0)) C st es:=by
  have hcl:=dg hs
  have hcd:cellsD es = es.flatMap AV.cells:=by unfold cellsD; rw [jq hs]
  refine ⟨rfl,by simp [gJ]; omega,?_⟩
  split
  · rename_i h
    have:es = []:=by simpa using h
    subst this
    exact hC _ _ (.inl ⟨rfl,rfl⟩) (.inl ⟨rfl,rfl⟩) (Kp.refl _ _) (by simp [ap])
  · intro c hc
    refine hC _ _ (.inr (.inr ⟨st.boxes.length,c,List.replicate ((c - es.length) * 6) .any,rfl,?_,hc,?_,fun x hx=>by rw [(List.mem_replicate.1 hx).2]; exact .any⟩)) (.inr rfl) ⟨by simp [St.push],fun id hid _=>b9 hid⟩ (by simp [ap])
    · rw [List.nil_append,hcd]; exact bI st _
    · rw [List.length_append,hcl,List.length_replicate,← Nat.add_mul]
      exact Nat.mul_le_mul_right _ (by omega)
end Go.Fx.YtbdjfccgkdgbfaaFx

