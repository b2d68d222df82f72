/- What the functions that the statement reaches compute: part 28. -/
import Derived.Test.YtbdjfccgkdgbfaaFxW27
namespace Go.Fx.YtbdjfccgkdgbfaaFx
open Go Go.Fx
attribute [local irreducible] aC runI az ar

set_option maxRecDepth 100000
set_option maxHeartbeats 4000000

/-! Functions that build their answer in a buffer are closed off: the answer is a row of a fixed form. -/
theorem qL:∀ {a b c d:List AV},leL a b→leL c d→leL (a++c) (b++d)
 | [],[],_,_,_,h=>h
 | [],_::_,_,_,h,_=>h.elim
 | _::_,[],_,_,h,_=>h.elim
 | _::_,_::_,_,_,⟨h1,h2⟩,h=>⟨h1,qL h2 h⟩
def RLe (v v':AV):Prop:=∀ (g:Gh) (u:Value),R g v u→R g v' u
theorem RLe.le {v v':AV} (h:AV.le v v'):RLe v v':=fun _ _ hr=>h.r hr
theorem RLe.sl {k:Nat} {es ds:List AV} (hl:ds.length = es.length) (hk:∀ e ∈ ds,e.cells.length = k) (hc:leL (es.flatMap AV.cells) (ds.flatMap AV.cells)):RLe (.sl false k es) (.sl false k ds):=by
 intro g u h
 obtain ⟨q1,q2⟩:=eF hc
 have hat:∀ (i:Nat) x,(ds.flatMap AV.cells)[i]? = some x→∃ y,(es.flatMap AV.cells)[i]? = some y∧AV.le y x:=fun i x hx=>by
  have hlt:=(List.getElem?_eq_some_iff.1 hx).1
  have hy:(es.flatMap AV.cells)[i]? = some ((es.flatMap AV.cells)[i]'(by omega)):=List.getElem?_eq_getElem (by omega)
  exact ⟨_,hy,q2 i _ x hy hx⟩
 cases h with
 | sl _ _ _ us b o c hcc hkk h1 h2 h3 =>
   rw [← hl]
   refine .sl false k ds us b o c (by omega) hk (fun i x hx=>?_) (fun i x hx=>?_) (fun i x hx=>?_)
   ·obtain ⟨y,hy,_⟩:=hat i x hx; exact h1 i y hy
   ·obtain ⟨y,hy,hle⟩:=hat i x hx; exact hle.r (h2 i y hy)
   ·obtain ⟨y,hy,_⟩:=hat i x hx; exact h3 i y hy
 | slE _ _ a c =>
   have:ds = []:=by simpa using hl
   subst this; exact .slE false k a c
 | slN =>
   have:ds = []:=by simpa using hl
   subst this; exact .slN false k
theorem RLe.hub {a a' w:AV} {r:List AV} (h:RLe a a'):RLe (.tup (.agg [a,w]::r)) (.tup (.agg [a',w]::r)):=by
 intro g u hr
 cases hr with
 | tup _ us hu hx =>
   refine .tup _ us hu fun i x u hi hu'=>?_
   cases i with
   | zero =>
     simp only [List.getElem?_cons_zero,Option.some.injEq] at hi
     subst hi
     have:=hx 0 _ u rfl hu'
     cases this with
     | agg _ us2 hu2 hx2 =>
       refine .agg _ us2 hu2 fun j x u hj hu3=>?_
       cases j with
       | zero =>
         simp only [List.getElem?_cons_zero,Option.some.injEq] at hj
         subst hj
         exact h g u (hx2 0 a u rfl hu3)
       | succ j=>exact hx2 (j + 1) x u (by simpa using hj) hu3
   | succ i=>exact hx (i + 1) x u (by simpa using hi) hu'
theorem monoR {P:Program} {f:FuncId} {vs:List AV} {st:St} {Q Q':AV→St→Prop} (h:am P f vs st Q) (hq:∀ v st',Q v st'→∃ cs ds,v = .tup cs∧RLe (.tup cs) (.tup ds)∧Q' (.tup ds) st'):am P f vs st Q' :=
 fun D g w us L hg hb ha=>(h D g w us L hg hb ha).mono fun _ _ ⟨u,v,st',g',he,hQ,h1,h2,h3,h4⟩=>by
  obtain ⟨cs,ds,rfl,hv,hQ'⟩:=hq v st' hQ
  exact ⟨u,.tup ds,st',g',he,hQ',h1,h2,hv g' u h3,fun i c x hc hx=>by
   cases i with
   | succ i=>simp [AV.cells] at hc
   | zero=>simp [AV.cells] at hc; subst hc; exact Own.of_no trivial⟩

def sbC (S:Sb):AV:=sbV S (.sl false 1 (S.msgs.map msgV))
def rV (R:HR):AV:=.agg [.sl false 6 (R.subs.map sbC),wsV R.ws]
theorem Es.canon (subs:List Sb):Es (subs.map sbC) subs:=by
 refine ⟨List.length_map ..,fun i e S he hS=>?_⟩
 rw [List.getElem?_map,hS] at he
 cases he
 exact ⟨_,.inl rfl,rfl⟩
theorem Es.tail {e:AV} {S:Sb} {es:List AV} {subs:List Sb} (h:Es (e::es) (S::subs)):SubE e S∧Es es subs :=
 ⟨h.2 0 e S rfl rfl,by have:=h.1; simpa using this,fun i x T hx hT=>h.2 (i + 1) x T (by simpa using hx) (by simpa using hT)⟩
theorem Es.le:∀ {es:List AV} {subs:List Sb},Es es subs→leL (es.flatMap AV.cells) ((subs.map sbC).flatMap AV.cells)
 | [],[],_=>trivial
 | [],_::_,h=>by have:=h.1; simp at this
 | _::_,[],h=>by have:=h.1; simp at this
 | e :: es, S :: subs, h => by
   obtain ⟨⟨rv,hr,rfl⟩,h2⟩:=h.tail
   rw [List.flatMap_cons,List.map_cons,List.flatMap_cons]
   refine qL ?_ h2.le
   have hle:AV.le rv (.sl false 1 (S.msgs.map msgV)):=by
    rcases hr with rfl | ⟨rfl,hm⟩
    ·exact .refl _
    ·rw [hm]; exact .nil false 1
   exact ⟨.refl _,.refl _,.refl _,.refl _,hle,.refl _,trivial⟩
theorem canon_k (subs:List Sb):∀ e ∈ subs.map sbC,e.cells.length = 6:=fun e he=>by
 obtain ⟨S,_,rfl⟩:=List.mem_map.1 he
 rfl

/-- Only one box is kept. -/
def St.lone (st:St) (id:Nat) (ds:List AV):St:=⟨st.boxes.mapIdx fun i _=>if i = id then some (.cells ds) else none⟩
theorem qM:∀ {l k:List (Option Box)},k.length = l.length→(∀ (i:Nat) (c d:Option Box),l[i]? = some c→k[i]? = some d→boxLe c d)→leSt l k
 | [],[],_,_=>trivial
 | [],_::_,h,_=>by simp at h
 | _::_,[],h,_=>by simp at h
 | a::l,b::k,h,hf=>⟨hf 0 a b rfl rfl,qM (by simpa using h) fun i c d hc hd=>hf (i + 1) c d (by simpa using hc) (by simpa using hd)⟩
theorem lone_le {st:St} {id:Nat} {cs ds:List AV} (hg:st.get id = some cs) (h:leL cs ds):St.le st (St.lone st id ds):=by
 refine qM (by simp [St.lone]) fun i c d hc hd=>?_
 simp only [St.lone,List.getElem?_mapIdx,hc,Option.map_some,Option.some.injEq] at hd
 subst hd
 split
 ·rename_i e
  subst e
  unfold St.get at hg
  split at hg
  ·rename_i cs' hb
   cases hg
   rw [hc] at hb
   cases hb
   exact h
  ·cases hg
 ·cases c <;> trivial
theorem lone_get {st:St} {id:Nat} {ds:List AV} (h:id < st.boxes.length):(St.lone st id ds).get id = some ds:=by
 have:(St.lone st id ds).boxes[id]? = some (some (.cells ds)):=by simp [St.lone,h]
 unfold St.get
 rw [this]
theorem lE {st:St}:∀ {l:List AV},(∀ x ∈ l,x.NB)→frzL st l l
 | [],_=>trivial
 | x::r,h=>⟨dU (h x (by simp)),lE fun y hy=>h y (by simp [hy])⟩
theorem close_off {f:FuncId} {vs:List AV} {R':HR} {rest:List AV} (h:am Go.Proofs.Try.prog f vs ⟨[]⟩ (fun r st'=>∃ v',r = .tup (.agg [v',wsV R'.ws]::rest)∧∃ es,SV v' st' es∧Es es R'.subs)) (hvs:∀ v ∈ vs,v.NB) (hrest:∀ x ∈ rest,x.NB) (st:St):aB Go.Proofs.Try.prog f vs st (.tup (rV R'::rest)):=by
 refine qb (am.monoW (monoR (Q':=fun r st'=>∃ v',r = .tup (.agg [v',wsV R'.ws]::rest)∧(v' = .sl false 6 (R'.subs.map sbC)∨∃ es id cap q,Es es R'.subs∧v' = .bs id 6 0 es.length cap∧st'.get id = some (es.flatMap AV.cells++q)∧es.length≤cap∧cap * 6≤(es.flatMap AV.cells++q).length∧∀ c ∈ q,c.NB)) h ?_) ?_) hvs st
 ·rintro r st' ⟨v',rfl,es,hv,he⟩
  rcases hv with ⟨rfl,rfl⟩ | rfl | ⟨id,cap,q,rfl,h1,h2,h3,h4⟩
  ·have hs:R'.subs = []:=by have:=he.1; simpa using this.symm
   refine ⟨_,_,rfl,RLe.hub (RLe.le (.nil false 6)),_,rfl,.inl ?_⟩
   rw [hs]; rfl
  ·exact ⟨_,_,rfl,RLe.hub (RLe.sl (by rw [List.length_map,he.1]) (canon_k _) he.le),_,rfl,.inl rfl⟩
  ·exact ⟨_,_,rfl,fun _ _ h=>h,_,rfl,.inr ⟨es,id,cap,q,he,rfl,h1,h2,h3,h4⟩⟩
 ·rintro r st' ⟨v',rfl,hv⟩
  have hno:∀ d ∈ [AV.sl false 6 (R'.subs.map sbC),wsV R'.ws],d.noOwn:=by
   intro d hd
   simp only [List.mem_cons,List.not_mem_nil,or_false] at hd
   rcases hd with rfl | rfl
   ·trivial
   ·unfold wsV; split <;> trivial
  have hnb:∀ c ∈ R'.subs.map sbC,c.NB:=fun c hc=>by
   obtain ⟨S,_,rfl⟩:=List.mem_map.1 hc
   refine .agg _ fun x hx=>?_
   simp only [List.mem_cons,List.not_mem_nil,or_false] at hx
   rcases hx with rfl | rfl | rfl | rfl | rfl | rfl
   ·exact .lit _
   ·exact .lit _
   ·exact .lit _
   ·exact .lit _
   ·exact row_nb (.inl rfl)
   ·exact .lit _
  rcases hv with rfl | ⟨es,id,cap,q,he,rfl,h1,h2,h3,h4⟩
  ·refine ⟨_,St.lone st' st'.boxes.length [],.refl _,qM (by simp [St.lone]) fun i c d hc hd=>?_,?_⟩
   ·simp only [St.lone,List.getElem?_mapIdx,hc,Option.map_some,Option.some.injEq] at hd
    subst hd
    have:=(List.getElem?_eq_some_iff.1 hc).1
    rw [if_neg (by omega)]
    cases c <;> trivial
   ·exact Frz.tupL ⟨Frz.aggL ⟨dU (.sl _ _ _ hnb),dU (ws_nb _),trivial⟩ hno,lE hrest⟩
  ·have hle:leL (es.flatMap AV.cells++q) ((R'.subs.map sbC).flatMap AV.cells++q):=qL he.le (kj q)
   refine ⟨_,St.lone st' id _,.refl _,lone_le h1 hle,?_⟩
   have hcl:((R'.subs.map sbC).flatMap AV.cells).length = es.length * 6:=by
    rw [dB (Es.canon _).sc,List.length_map,he.1]
   have hce:(es.flatMap AV.cells).length = es.length * 6:=dB he.sc
   have:=Frz.bs (st:=St.lone st' id ((R'.subs.map sbC).flatMap AV.cells++q)) id 6 0 es.length cap _ (lone_get (bw h1)) (by rw [List.length_append]; omega) h2 (fun c hc=>by
    rw [List.drop_zero] at hc
    rcases List.mem_append.1 hc with hc | hc
    ·exact (Es.canon _).cnb c hc
    ·exact h4 c hc)
   rw [List.drop_zero,show es.length = (R'.subs.map sbC).length by rw [List.length_map,he.1],qE (Es.canon _).sc] at this
   rw [show es.length = (R'.subs.map sbC).length by rw [List.length_map,he.1]]
   exact Frz.tupL ⟨Frz.aggL ⟨this,dU (ws_nb _),trivial⟩ hno,lE hrest⟩
end Go.Fx.YtbdjfccgkdgbfaaFx

