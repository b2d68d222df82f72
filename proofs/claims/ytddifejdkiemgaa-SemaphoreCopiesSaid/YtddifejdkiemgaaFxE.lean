/- An evaluator for resolved code, proved against the model: part 5. -/
import Derived.Test.YtddifejdkiemgaaFxD
import Derived.ProofKit
import Derived.IntWalk
/- Functions, resolved: from what the resolved code does to a contract. -/
namespace Go.Fx
def msOf:List (Nat×List Nat×List Nat)→Nat→List Nat×List Nat
  | [],_=>([],[])
  | (q,r)::l,p=>if q = p then r else msOf l p
open Go Go.RowKit Go.Lib
section
variable {P:Program} {X:Cx} {f:FuncId} {fn':AFun} {vs:List AV} {st:St}
theorem n5 (h:bT P X f = some fn'):∃ fn c b rs,P.funcs[f]? = some fn∧fn.body = some c∧X.n = fn.ntmps∧dB P X 1 c = some b∧gA P X.n fn.results.toList = some rs∧fn' = ⟨X.n,rs,b⟩:=by
  unfold bT at h
  split at h
  case h_2=>cases h
  rename_i fn hf
  split at h
  case h_2=>cases h
  rename_i c hc
  split at h
  case isFalse=>cases h
  rename_i hn
  split at h
  case h_2=>cases h
  rename_i b rs hb hr
  cases h
  exact ⟨fn,c,b,rs,hf,hc,hn.1,hb,hr,rfl⟩
theorem Ok.toE {m:Bool} {E E':Ent} {g:Gh} {w:World} {fr:Fr} {st:St} {a:Act} (h:Ok false E' g w fr st a) (hE:Ext false E E'):Ok false E g w fr st { a with defers:=[] }:=by
  have hmv:=hE.mvE h.mv
  have h1:=hE.dd
  have h2:=hE.NN
  obtain ⟨d,N,g0,w0,st0,lo⟩:=E
  obtain ⟨d',N',g0',w0',st0',lo'⟩:=E'
  simp only at h1 h2
  subst h1; subst h2
  exact ⟨h.size,h.slots,h.ctx,DefsR.nil _,hmv,fun e=>(by cases e),h.hN,h.hm⟩
theorem n6 {P:Program} {fn:Func} {R:Ending→World→Prop} {E:Ent} {g:Gh} {fr:Fr} {st:St} {a:Act} (hE:∀ D c,E.g.cls D = some c→D < E.lo) (hlo:E.g.base≤E.lo)
    (hfin:∀ w,Ok false E g w fr st a→∃ v,(results fn a.tmps).run P w = .ok v w∧R (.returned v) w):∀ (ds:List Deferred) (w:World),(∀ x ∈ ds,∃ D dd s,x = { target:=.collected D,args:=#[] }∧E.lo≤D∧g.cls D = some (.loc dd s)∧dd < E.d∧w.heap[D]? = some (.deferred (some []))) →
      (ds.map fun x=>x.target).Nodup→Ok false E g w fr st a→LeavesInM (FW none) 0 P fn a.tmps R ds .returning w
  | [],w,_,_,h=>hfin w h
  | x :: ds, w, ha, hn, h => by
    obtain ⟨D,dd,s,rfl,h1,h2,h3,h4⟩:=ha x (by simp)
    simp only [List.map_cons,List.nodup_cons] at hn
    refine ⟨by simp,.inl ⟨D,_,rfl,run_takeDeferred h4,?_⟩⟩
    have hnone:E.g.cls D = none:=by
      cases hc:E.g.cls D with
      | none=>rfl
      | some c=>have:=hE D c hc; omega
    refine n6 hE hlo hfin ds _ (fun y hy=>?_) hn.2 (h.putD h2 (by omega) hnone (Nat.le_trans hlo h1) _)
    obtain ⟨D',dd',s',rfl,k1,k2,k3,k4⟩:=ha y (by simp [hy])
    have hne:D'≠D:=by
      rintro rfl
      exact hn.1 (List.mem_map.2 ⟨_,hy,rfl⟩)
    exact ⟨D',dd',s',rfl,k1,k2,k3,by rw [World.putObj_heap_other hne]; exact k4⟩
theorem acalls_of (hmix:P.follows .mixedOrders = true) (hf:bT P X f = some fn') (hlen:vs.length≤fn'.n) {K:AV→St→Prop} (h:aFun P X.F false fn' vs st K):bz P f vs st K:=by
  obtain ⟨fn,c,b,rs,hfn,hc,hn,hb,hr,rfl⟩:=n5 hf
  intro D g w us L hg hbx ha
  have hus:us.size≤X.n:=by rw [ha.1]; exact hlen
  refine jr.1 (callsIn_of_wp_marks (F:=FW none) (n:=0) hfn hc trivial ?_)
  have h0:=ok_start (m:=false) (d:=D + 1) (N:=0) (n:=X.n) (st:=st) hg hbx ha (Nat.zero_le _) (fun _=>rfl) hus
  rw [← hn]
  have key:∀ (sf:Sf) (st':St) (g':Gh) (w':World) (a':Act),Ok false ⟨D + 1,0,g,w,st,w.heap.size⟩ g' w' (sp X.n sf) st' a'→((retI rs sf st').wp fun v=>v.noL = true∧K v st') →
      ∃ v,(results fn a'.tmps).run P w' = .ok v w'∧∃ u v' st' g',Ending.returned v = .returned u∧K v' st'∧Mv false 0 D g w g' w'∧BoxR g' w' st'∧R g' v' u∧OwnV g' w' 0 L v' u:=by
    intro sf st' g' w' a' hok hret
    obtain ⟨v,u,hK,hnl,hrun,hR,hown⟩:=n4 (K:=fun v=>K v st') hok hr hret
    refine ⟨u,hrun,u,v,st',?_⟩
    rcases hown with hno | ⟨t,ht,rfl,rfl⟩
    · exact ⟨g',rfl,hK,hok.mv.inner (Nat.le_succ _),hok.ctx.box,la hnl hR,fun i c x hc _=>Own.of_no (hno i c hc)⟩
    · obtain ⟨h1,h2,h3⟩:=hok.steal t L
      rw [dZ ht] at h2 h3
      exact ⟨_,rfl,hK,h1.mv.inner (Nat.le_succ _),h1.ctx.box,la hnl h2,h3⟩
  have key2:∀ (E':Ent) (sf:Sf) (st':St) (g':Gh) (w':World) (a':Act),Ext false ⟨D + 1,0,g,w,st,w.heap.size⟩ E'→Ok false E' g' w' (sp X.n sf) st' a'→((retI rs sf st').wp fun v=>v.noL = true∧K v st') →
      LeavesInM (FW none) 0 P fn a'.tmps (fun e w'=>∃ u v st' g',e = .returned u∧K v st'∧Mv false 0 D g w g' w'∧BoxR g' w' st'∧R g' v u∧OwnV g' w' 0 L v u) a'.defers .returning w':=by
    intro E' sf st' g' w' a' hE hok hret
    have hok0:=hok.toE (m:=false) hE
    refine n6 (E:=⟨D + 1,0,g,w,st,w.heap.size⟩) (a:={ a' with defers:=[] }) (fun b c hc=>(hg.cls b c hc).2) hg.base (fun w2 hok2=>key sf st' g' w2 _ hok2 hret) a'.defers w' (fun x hx=>?_) hok.defers.nd hok0
    obtain ⟨b,dd,s,h1,h2,h3,h4,h5⟩:=hok.defers.all x hx
    obtain ⟨q1,q2,_⟩:=hok.mv.outer b _ h3 h4
    have hd:=hE.dd
    have hl:=hE.lolo
    simp only at hd hl
    exact ⟨b,dd,s,h1,by rw [← hl]; exact h2,q1,by rw [← hd]; exact h4,by rw [q2]; exact h5⟩
  refine aC_sound hmix c 1 b hb (.inl ⟨rfl,by simp,Nat.le_refl _⟩) h0 h fun E' e sf st' g' w' a' hE hok hq=>?_
  cases e with
  | normal=>exact key2 E' sf st' g' w' a' hE hok hq
  | ret=>exact key2 E' sf st' g' w' a' hE hok hq
  | exit id=>exact hq.elim
  | goto l=>exact hq.elim
  | panic ch=>exact hq.elim
  | outgrown=>exact hq.elim
theorem pcalls_of (hmix:P.follows .mixedOrders = true) (hf:bT P X f = some fn') (hlen:vs.length≤fn'.n) {v0:AV} (h:aFun P X.F true fn' vs st fun v st'=>v = v0):bF P f vs st v0:=by
  obtain ⟨fn,c,b,rs,hfn,hc,hn,hb,hr,rfl⟩:=n5 hf
  intro g w us L hg hbx ha
  have hus:us.size≤X.n:=by rw [ha.1]; exact hlen
  refine calls_of_wp hfn hc ?_
  have h0:=ok_start (m:=true) (d:=1) (N:=w.heap.size) (n:=X.n) (st:=st) hg hbx ha (Nat.le_refl _) (fun e=>by cases e) hus
  rw [← hn]
  have fin:∀ (g':Gh) (w':World),Mv true w.heap.size 1 g w g' w'→LeP g w { g' with lb:=g.lb } w':=by
    intro g' w' hm
    obtain ⟨h1,h2⟩:=hm.pure rfl
    exact ⟨⟨hm.os,hm.tape,hm.output,hm.size,fun k hk=>(h1 k hk).1⟩,fun b hb=>(h1 b hb).2.1,fun b hb=>(h1 b hb).2.2,h2,rfl,hm.base,fun _=>⟨hm.good.imm,hm.good.immc,hm.good.cls,hm.good.base⟩⟩
  have hle:∀ g':Gh,GhLe g' { g' with lb:=g.lb }:=fun g'=>⟨fun _ _ _ h=>h,fun _ _ h=>h⟩
  have key:∀ (sf:Sf) (st':St) (g':Gh) (w':World) (a':Act),Ok true ⟨1,w.heap.size,g,w,st,w.heap.size⟩ g' w' (sp X.n sf) st' a'→((retI rs sf st').wp fun v=>v.noL = true∧v = v0) →
      a'.defers = []∧∃ v,(results fn a'.tmps).run P w' = .ok v w'∧∃ u g',Ending.returned v = .returned u∧LeP g w g' w'∧R g' v0 u∧OwnV g' w' w.heap.size L v0 u:=by
    intro sf st' g' w' a' hok hret
    obtain ⟨v,u,hK,hnl,hrun,hR,hown⟩:=n4 (K:=fun v=>v = v0) hok hr hret
    subst hK
    have hdf:a'.defers = []:=by
      cases hds:a'.defers with
      | nil=>rfl
      | cons x r =>
        obtain ⟨b,dd,s,h1,h2,h3,h4,h5⟩:=hok.defers.all x (by rw [hds]; simp)
        have:=(hg.cls b _ h3).2
        simp only at h2
        omega
    refine ⟨hdf,u,hrun,u,?_⟩
    rcases hown with hno | ⟨t,ht,rfl,rfl⟩
    · exact ⟨_,rfl,fin g' w' hok.mv,(la hnl hR).mono (hle g'),fun i c x hc _=>Own.of_no (hno i c hc)⟩
    · obtain ⟨h1,h2,h3⟩:=hok.steal t L
      rw [dZ ht] at h2 h3
      exact ⟨_,rfl,fin _ w' h1.mv,(la hnl h2).mono (hle _),fun i c x hc hx=>h3 i c x hc hx⟩
  refine (wpIn_wide (n:=0)).1 (aC_sound hmix c 1 b hb (.inl ⟨rfl,by simp,Nat.le_refl _⟩) h0 h fun E' e sf st' g' w' a' hE hok hq=>?_)
  rcases hE with rfl | ⟨hE,_⟩
  case inr=>cases hE
  cases e with
  | normal=>exact key sf st' g' w' a' hok hq
  | ret=>exact key sf st' g' w' a' hok hq
  | exit id=>exact hq.elim
  | goto l=>exact hq.elim
  | panic ch=>exact hq.elim
  | outgrown=>exact hq.elim
end
end Go.Fx
/- A function that keeps what it makes to itself leaves all alone. -/
namespace Go.Fx
open Go Go.RowKit Go.Lib
inductive AV.NB:AV→Prop where
  | any:AV.NB .any
  | lit (v:Value):AV.NB (.lit v)
  | cptr (cs:List AV) (h:∀ c ∈ cs,AV.NB c):AV.NB (.cptr cs)
  | sl (o:Bool) (k:Nat) (es:List AV) (h:∀ c ∈ es,AV.NB c):AV.NB (.sl o k es)
  | fn (f:Fn) (fs cs:List AV) (h1:∀ c ∈ fs,AV.NB c) (h2:∀ c ∈ cs,AV.NB c):AV.NB (.fn f fs cs)
  | agg (cs:List AV) (h:∀ c ∈ cs,AV.NB c):AV.NB (.agg cs)
  | tup (cs:List AV) (h:∀ c ∈ cs,AV.NB c):AV.NB (.tup cs)
  | ifc (t:Nat) (v:AV) (h:AV.NB v):AV.NB (.ifc t v)
section
variable {g g':Gh} {w w':World} {N:Nat}
theorem nb_cells {e:AV} (h:e.NB):∀ c ∈ e.cells,c.NB:=by
  cases h with
  | agg cs h=>exact h
  | any=>intro c hc; simp [AV.cells] at hc; subst hc; exact .any
  | lit v=>intro c hc; simp [AV.cells] at hc; subst hc; exact .lit v
  | cptr cs h=>intro c hc; simp [AV.cells] at hc; subst hc; exact .cptr cs h
  | sl o k es h=>intro c hc; simp [AV.cells] at hc; subst hc; exact .sl o k es h
  | fn f fs cs h1 h2=>intro c hc; simp [AV.cells] at hc; subst hc; exact .fn f fs cs h1 h2
  | tup cs h=>intro c hc; simp [AV.cells] at hc; subst hc; exact .tup cs h
  | ifc t v h=>intro c hc; simp [AV.cells] at hc; subst hc; exact .ifc t v h
theorem R.nb (hi:∀ b o u,g.imm b o = some u→g'.imm b o = some u) {v:AV} {u:Value} (h:R g v u):v.NB→R g' v u:=by
  induction h with
  | any u=>exact fun _=>.any u
  | lit v h=>exact fun _=>.lit v h
  | ptr id off b h=>exact fun h=>by cases h
  | cptr cs us b o h1 _ ih =>
    intro hn
    cases hn with
    | cptr _ hn=>exact .cptr cs us b o (fun i c hc=>hi _ _ _ (h1 i c hc)) (fun i c hc=>ih i c hc (hn c (List.mem_of_getElem? hc)))
  | sl own k es us b o c hc hk h1 _ h3 ih =>
    intro hn
    cases hn with
    | sl _ _ _ hn =>
      refine .sl own k es us b o c hc hk (fun i x hx=>hi _ _ _ (h1 i x hx)) (fun i x hx=>ih i x hx ?_) h3
      have:=List.mem_of_getElem? hx
      simp only [List.mem_flatMap] at this
      obtain ⟨e,he,hxe⟩:=this
      exact nb_cells (hn e he) x hxe
  | slE own k a c=>exact fun _=>.slE own k a c
  | slN own k=>exact fun _=>.slN own k
  | bs id k off len cap b h=>exact fun h=>by cases h
  | mit id s l p b=>exact fun h=>by cases h
  | yld id b h=>exact fun h=>by cases h
  | ifc t v u _ ih =>
    intro hn
    cases hn with | ifc _ _ hn=>exact .ifc t v u (ih hn)
  | map id b h=>exact fun h=>by cases h
  | fn f fs cs us vs hu hv _ _ ih1 ih2 =>
    intro hn
    cases hn with
    | fn _ _ _ n1 n2=>exact .fn f fs cs us vs hu hv (fun i x u hx hu=>ih1 i x u hx hu (n1 x (List.mem_of_getElem? hx))) (fun i x u hx hu=>ih2 i x u hx hu (n2 x (List.mem_of_getElem? hx)))
  | agg cs us hu _ ih =>
    intro hn
    cases hn with | agg _ hn=>exact .agg cs us hu (fun i x u hx hu=>ih i x u hx hu (hn x (List.mem_of_getElem? hx)))
  | tup cs us hu _ ih =>
    intro hn
    cases hn with | tup _ hn=>exact .tup cs us hu (fun i x u hx hu=>ih i x u hx hu (hn x (List.mem_of_getElem? hx)))
inductive Frz (st:St):AV→AV→Prop where
  | le (v v0:AV) (h:AV.le v v0) (hn:v0.NB):Frz st v v0
  | bs (id k off len cap:Nat) (cs:List AV) (hg:st.get id = some cs) (hl:off + len * k≤cs.length) (hcap:len≤cap) (hk:∀ c ∈ cs.drop off,c.NB):Frz st (.bs id k off len cap) (.sl false k (grp k len (cs.drop off)))
  | agg (cs ds:List AV) (hl:ds.length = cs.length) (h:∀ (i:Nat) (c d:AV),cs[i]? = some c→ds[i]? = some d→Frz st c d) (hn:∀ d ∈ ds,d.noOwn):Frz st (.agg cs) (.agg ds)
  | tup (cs ds:List AV) (hl:ds.length = cs.length) (h:∀ (i:Nat) (c d:AV),cs[i]? = some c→ds[i]? = some d→Frz st c d):Frz st (.tup cs) (.tup ds)
def frzL (st:St):List AV→List AV→Prop
  | [],[]=>True
  | c::r,d::q=>Frz st c d∧frzL st r q
  | _,_=>False
theorem frzL_facts {st:St}:∀ {l k:List AV},frzL st l k→k.length = l.length∧∀ (i:Nat) (c d:AV),l[i]? = some c→k[i]? = some d→Frz st c d
  | [],[],_=>⟨rfl,fun i c d h=>by simp at h⟩
  | [],_::_,h=>h.elim
  | _::_,[],h=>h.elim
  | v :: r, u :: s, ⟨h1, h2⟩ => by
    obtain ⟨q1,q2⟩:=frzL_facts h2
    refine ⟨by simp [q1],fun i c d hc hd=>?_⟩
    cases i with
    | zero=>simp at hc hd; subst hc; subst hd; exact h1
    | succ i=>exact q2 i c d (by simpa using hc) (by simpa using hd)
def Gh.hide (g:Gh) (n:Nat):Gh:={ base:=0,imm:=g.imm,bx:=fun _=>none,lb:=g.lb,cls:=fun b=>if b < n then some (.arr (.slot 0 0 0)) else none }
theorem hide_good (h:Good g w):Good (g.hide w.heap.size) w:=by
  refine ⟨h.imm,fun b o u hi=>.inr ⟨_,by simp [Gh.hide,h.lt hi]; rfl⟩,fun b c hc=>?_,Nat.zero_le _⟩
  simp only [Gh.hide] at hc
  split at hc
  · rename_i hl; exact ⟨Nat.zero_le _,hl⟩
  · cases hc
def Gh.show (g g1:Gh) (n:Nat) (L:Nat→Loc) (fb:Nat→Option (Array Value)):Gh :=
  { base:=g.base,bx:=g.bx,lb:=g.lb
    imm:=fun b o=>if b < n then g.imm b o else match fb b with
      | some us=>us[o]?
      | none=>g1.imm b o
    cls:=fun b=>if b < n then g.cls b else match g1.cls b with
      | some (.arr (.slot 5 0 k))=>some (.arr (L k))
      | _=>none }
def frzB (g1:Gh) (w:World) (n:Nat) (b:Nat):Option (Array Value) :=
  if n≤b then (match g1.cls b,w.heap[b]? with
    | some (.box _),some (.cells us _ (0,0))=>some us
    | _,_=>none) else none
def Fzn (g1 gs:Gh) (st:St):Prop:=∀ id cs,st.get id = some cs→∃ (b:Nat) (us:Array Value),g1.bx id = some b∧(∀ o:Nat,gs.imm b o = us[o]?)∧us.size = cs.length ∧
  (∀ (i:Nat) (c:AV) (x:Value),cs[i]? = some c→us[i]? = some x→R g1 c x)∧∀ x ∈ us,x.oneCell' = true
theorem fzn_of {g1 gs:Gh} {w:World} {st:St} {n:Nat} (hb1:BoxR g1 w st) (hbn:∀ id b,g1.bx id = some b→g1.cls b = some (.box id)→n≤b) (kf:∀ b us,frzB g1 w n b = some us→∀ o:Nat,gs.imm b o = us[o]?):Fzn g1 gs st:=by
  intro id cs hgt
  obtain ⟨b,us',T,a1,a2,a3,a4,a5,a6⟩:=hb1.2.1 id cs (by unfold St.get at hgt; split at hgt <;> first | (cases hgt; assumption) | cases hgt)
  have hge:=hbn id b a1 a2
  have hfz:frzB g1 w n b = some us':=by simp [frzB,hge,a2,a3]
  exact ⟨b,us',a1,kf b us' hfz,a4,fun i c x hc hx=>(a5 i c x hc hx).1,a6⟩
theorem frz_R {g1 gs:Gh} {st:St} (hf:Fzn g1 gs st) (k2:∀ b o u,g1.imm b o = some u→gs.imm b o = some u) {v v0:AV} (h:Frz st v v0):∀ {u:Value},R g1 v u→R gs v0 u:=by
  induction h with
  | le v v0 hle hn=>exact fun hR=>(hle.r hR).nb k2 hn
  | agg cs ds hl h hn ih =>
    intro u hR
    obtain ⟨us,rfl,hr⟩:=hR.agg_inv
    refine .agg ds us (by have:=hr.1; simp at this; omega) fun i x u hx hu=>?_
    have hlt:i < cs.length:=by rw [← hl]; exact (List.getElem?_eq_some_iff.1 hx).1
    exact ih i cs[i] x (by simp [hlt]) hx (hr.2 i cs[i] u (by simp [hlt]) (by simpa using hu))
  | tup cs ds hl h ih =>
    intro u hR
    cases hR with
    | tup _ us hu hR =>
      refine .tup ds us (by omega) fun i x u hx hu'=>?_
      have hlt:i < cs.length:=by rw [← hl]; exact (List.getElem?_eq_some_iff.1 hx).1
      exact ih i cs[i] x (by simp [hlt]) hx (hR i cs[i] u (by simp [hlt]) hu')
  | bs id k off len cap cs hgt hl hcap hk =>
    intro u hR
    obtain ⟨b,us',a1,kf,a4,a5,a6⟩:=hf id cs hgt
    cases hR with
    | bs _ _ _ _ _ b' hb' =>
      have:b' = b:=Option.some.inj (hb'.symm.trans a1)
      subst this
      have hone:∀ c ∈ cs.drop off,c.cells = [c]:=by
        intro c hc
        obtain ⟨i,hi⟩:=List.mem_iff_getElem?.1 (List.mem_of_mem_drop hc)
        have hlt:i < us'.size:=by rw [a4]; exact (List.getElem?_eq_some_iff.1 hi).1
        have hx:us'[i]? = some us'[i]:=Array.getElem?_eq_getElem hlt
        exact nF (a5 i c _ hi hx) (a6 _ (Array.getElem_mem hlt))
      obtain ⟨q1,q2,q3⟩:=kn (k:=k) len (cs.drop off) hone (by simp; omega)
      have hcell:∀ (i:Nat) (x:AV),((grp k len (cs.drop off)).flatMap AV.cells)[i]? = some x→i < len * k∧cs[off + i]? = some x:=by
        intro i x hx
        rw [q3,List.getElem?_take] at hx
        split at hx
        · rename_i hil; exact ⟨hil,by simpa using hx⟩
        · cases hx
      have:=R.sl (g:=gs) false k (grp k len (cs.drop off)) (fun i=>us'.getD (off + i) undef) b' off cap (by rw [q1]; exact hcap) q2 (fun i x hx=>?_) (fun i x hx=>?_) (fun i x hx=>?_)
      · rw [q1] at this; exact this
      · obtain ⟨hi,hc⟩:=hcell i x hx
        have hlt:off + i < us'.size:=by omega
        rw [kf]
        simp [hlt]
      · obtain ⟨hi,hc⟩:=hcell i x hx
        have hlt:off + i < us'.size:=by omega
        have e1:us'.getD (off + i) undef = us'[off + i]:=by simp [hlt]
        rw [e1]
        exact (a5 (off + i) x _ hc (Array.getElem?_eq_getElem hlt)).nb k2 (hk x (by rw [List.mem_iff_getElem?]; exact ⟨i,by simpa using hc⟩))
      · obtain ⟨hi,hc⟩:=hcell i x hx
        have hlt:off + i < us'.size:=by omega
        have e1:us'.getD (off + i) undef = us'[off + i]:=by simp [hlt]
        rw [e1]
        exact a6 _ (Array.getElem_mem hlt)
theorem pure_of {P:Program} {f:FuncId} {vs:List AV} {v0:AV} (h:bz P f vs ⟨[]⟩ fun v st'=>Frz st' v v0) (hvs:∀ v ∈ vs,v.NB) (st:St):bF P f vs st v0:=by
  intro g w us L hg hbx ha
  have ha0:gu (g.hide w.heap.size) vs us:=⟨ha.1,fun i x u hx hu=>R.nb (g:=g) (g':=g.hide w.heap.size) (fun _ _ _ h=>h) (ha.2 i x u hx hu) (hvs x (List.mem_of_getElem? hx))⟩
  have hb0:BoxR (g.hide w.heap.size) w ⟨[]⟩:=⟨fun _ _=>rfl,fun id cs hc=>by simp at hc,fun id bx hc=>by simp at hc⟩
  refine (h 1 _ w us (fun k=>.slot 5 0 k) (hide_good hg) hb0 ha0).mono fun e w' ⟨u,v,st',g1,he,hF,hmv,hb1,hR,hO⟩=>?_
  have hout:∀ b,b < w.heap.size→g1.cls b = some (.arr (.slot 0 0 0))∧w'.heap[b]? = w.heap[b]?∧g1.imm b = g.imm b:=fun b hb =>
    hmv.outer b (.arr (.slot 0 0 0)) (by simp [Gh.hide,hb]) (Nat.zero_lt_one)
  have hbel:Below w.heap.size w w':=⟨hmv.os,hmv.tape,hmv.output,hmv.size,fun k hk=>(hout k hk).2.1⟩
  have hfz:∀ b us,frzB g1 w' w.heap.size b = some us→w.heap.size≤b∧b < w'.heap.size∧(∃ id,g1.cls b = some (.box id))∧∃ T,w'.heap[b]? = some (.cells us T (0,0)):=by
    intro b us h
    unfold frzB at h
    split at h
    · rename_i hge
      split at h
      · rename_i id us' T h1 h2
        cases h
        exact ⟨hge,(Array.getElem?_eq_some_iff.1 h2).1,⟨id,h1⟩,T,h2⟩
      · cases h
    · cases h
  have himm:∀ b o u,g1.imm b o = some u→(g.show g1 w.heap.size L (frzB g1 w' w.heap.size)).imm b o = some u:=by
    intro b o u hi
    simp only [Gh.show]
    split
    · rename_i hl; rw [← (hout b hl).2.2]; exact hi
    · split
      · rename_i us e
        obtain ⟨_,_,⟨id,hid⟩,_⟩:=hfz b us e
        rcases hmv.good.immc b o u hi with h1 | ⟨L',h1⟩ <;> rw [hid] at h1 <;> cases h1
      · exact hi
  have k1:LeP g w (g.show g1 w.heap.size L (frzB g1 w' w.heap.size)) w':=by
    refine ⟨hbel,fun b hb=>by funext o; simp [Gh.show,hb],fun b hb=>by simp [Gh.show,hb],rfl,rfl,rfl,fun _=>?_⟩
    refine ⟨fun b o u hi=>?_,fun b o u hi=>?_,fun b c hc=>?_,?_⟩
    · simp only [Gh.show] at hi
      split at hi
      · rename_i hl
        have:=hg.imm b o u hi
        unfold World.cell? at this ⊢
        rw [(hout b hl).2.1]; exact this
      · split at hi
        · rename_i us e
          obtain ⟨_,_,_,T,hT⟩:=hfz b us e
          rw [cell_of_row w' b o us T (0,0) hT]; exact hi
        · exact hmv.good.imm b o u hi
    · simp only [Gh.show] at hi ⊢
      split at hi
      · rename_i hl; simp only [hl,if_true]; exact hg.immc b o u hi
      · rename_i hl
        simp only [hl,if_false]
        split
        · exact .inr ⟨_,rfl⟩
        · exact .inl rfl
    · simp only [Gh.show] at hc
      split at hc
      · rename_i hl
        have:=hg.cls b c hc
        exact ⟨this.1,Nat.lt_of_lt_of_le hl hmv.size⟩
      · rename_i hl
        split at hc
        · rename_i k hk
          have:=(hmv.good.cls b _ hk).2
          have hb:=hg.base
          exact ⟨by simp only [Gh.show]; omega,this⟩
        · cases hc
    · have:=hg.base
      have:=hmv.size
      simp only [Gh.show]; omega
  have hbn:∀ id b,g1.bx id = some b→g1.cls b = some (.box id)→w.heap.size≤b:=by
    intro id b _ h2
    refine Nat.le_of_not_lt fun hlt=>?_
    rw [(hout b hlt).1] at h2; cases h2
  have kf:∀ b us,frzB g1 w' w.heap.size b = some us→∀ o:Nat,(g.show g1 w.heap.size L (frzB g1 w' w.heap.size)).imm b o = us[o]?:=by
    intro b us h o
    have hge:=(hfz b us h).1
    have hnl:¬ b < w.heap.size:=by omega
    simp only [Gh.show,hnl,if_false,h]
  have hRR:=frz_R (fzn_of hb1 hbn kf) himm hF hR
  cases hF with
  | le _ _ hle hn =>
    have hO0:OwnV g1 w' 0 (fun k=>.slot 5 0 k) v0 u:=hle.ownV (d:=0) (RS.of hR) hO
    refine ⟨u,_,he,k1,hRR,fun i c x hc hx=>⟨fun k es e=>?_,fun id s l stp e=>?_⟩⟩
    · rcases (hO0 i c x hc hx).1 k es e with h0 | ⟨b,o,c',cur,T,q1,_,q2,q3,q4,q5,q6⟩
      · exact .inl h0
      · have hge:w.heap.size≤b:=by
          refine Nat.le_of_not_lt fun hl=>?_
          rw [(hout b hl).1] at q2; cases q2
        have hnl:¬ b < w.heap.size:=by omega
        have hf0:frzB g1 w' w.heap.size b = none:=by simp [frzB,q2]
        exact .inr ⟨b,o,c',cur,T,q1,hge,by simp [Gh.show,hnl,q2],q3,q4,q5,fun j hj hj'=>by simp [Gh.show,hnl,hf0,q6 j hj hj']⟩
    · subst e
      have:=nb_cells hn _ (List.mem_of_getElem? hc)
      cases this
  | bs id k off len cap cs hgt hl hcap hk =>
    exact ⟨_,_,he,k1,hRR,fun i c x hc hx=>by
      cases i with
      | succ i=>simp [AV.cells] at hc
      | zero=>simp [AV.cells] at hc; subst hc; exact Own.of_no trivial⟩
  | agg cs ds hl h hn=>exact ⟨_,_,he,k1,hRR,fun i c x hc hx=>Own.of_no (hn c (List.mem_of_getElem? hc))⟩
  | tup cs ds hl h =>
    exact ⟨_,_,he,k1,hRR,fun i c x hc hx=>by
      cases i with
      | succ i=>simp [AV.cells] at hc
      | zero=>simp [AV.cells] at hc; subst hc; exact Own.of_no trivial⟩
end
end Go.Fx
/- Equations for evaluation: each with all its arguments, so that nothing is opened ahead of its turn. -/
namespace Go.Fx
open Go
section
variable (P:Program) (F:Nat→FuncId) (m:Bool) (sf:Sf) (st:St) (Q:Exit→Sf→St→Prop) (K:Sf→St→Prop)
theorem aC_skip:aC P F m .skip sf st Q = Q .normal sf st:=rfl
theorem cL (lv ll:List Nat) (id:Nat):aC P F m (.exit lv ll id) sf st Q = Q (.exit id) (sf.mask lv ll) st:=rfl
theorem aC_ret:aC P F m .ret sf st Q = Q .ret sf st:=rfl
theorem lk (C:Sf→St→(Exit→Sf→St→Prop)→Prop):seqQ C Q .normal sf st = C sf st Q:=rfl
theorem seqQ_ret (C:Sf→St→(Exit→Sf→St→Prop)→Prop):seqQ C Q .ret sf st = Q .ret sf st:=rfl
theorem b8 (C:Sf→St→(Exit→Sf→St→Prop)→Prop) (id:Nat):seqQ C Q (.exit id) sf st = Q (.exit id) sf st:=rfl
theorem aJ (id:Nat):fF id Q .normal sf st = Q .normal sf st:=rfl
theorem ca (id:Nat):fF id Q .ret sf st = Q .ret sf st:=rfl
theorem bM (id id':Nat):fF id Q (.exit id') sf st = if id' = id then Q .normal sf st else Q (.exit id') sf st:=rfl
theorem opsK_eq (lv ll:List Nat):opsK lv ll Q sf st = Q .normal (sf.mask lv ll) st:=rfl
theorem retQ_ret (rs:List RI) (C:AV→St→Prop):retQ rs C .ret sf st = (retI rs sf st).wp (fun v=>v.noL = true∧C v st):=rfl
theorem iE (rs:List RI) (C:AV→St→Prop):retQ rs C .normal sf st = (retI rs sf st).wp (fun v=>v.noL = true∧C v st):=rfl
theorem condI_eq (x:Opd) (b:Bool) (A B:Sf→St→(Exit→Sf→St→Prop)→Prop):j1 x (.lit (.bool b)) A B sf st Q = ((b = true→A (x.setB sf true) st Q)∧(b = false→B (x.setB sf false) st Q)):=rfl
theorem runI_nil:runI P F m [] K sf st = K sf st:=rfl
theorem n7 (i:AI) (r:List GI):runI P F m (⟨none,i⟩::r) K sf st = oneI P F m i (runI P F m r K) sf st:=rfl
theorem ao (t:Nat) (want:Bool) (i:AI) (r:List GI):runI P F m (⟨some (t,want),i⟩::r) K sf st = gh t want (sf.reg t) (oneI P F m i (runI P F m r K)) (skipI i.dst (runI P F m r K)) sf st:=rfl
theorem n8 (t:Nat) (want b:Bool) (Y N:Sf→St→Prop):gh t want (.lit (.bool b)) Y N sf st = ((b = want→Y (sf.set t (.lit (.bool want))) st)∧(b = (!want)→N (sf.set t (.lit (.bool (!want)))) st)):=by
  unfold gh
  refine propext ⟨fun h=>⟨fun e=>?_,fun e=>?_⟩,fun ⟨h1,h2⟩ c hc=>?_⟩
  · have:=h want e; simpa using this
  · have:=h (!want) e
    rw [if_neg (by cases want <;> simp)] at this
    exact this
  · subst hc
    by_cases hw:b = want
    · subst hw; rw [if_pos rfl]; exact h1 rfl
    · rw [if_neg hw]
      have:b = !want:=by cases b <;> cases want <;> simp_all
      subst this
      exact h2 rfl
theorem bY (d:Option Nat):skipI d K sf st = K (sf.put d (.tup [])) st:=rfl
theorem putP_eq (d:Option Nat) (v:AV):putP K d sf st v = K (sf.put d v) st:=rfl
theorem fd (d:Option Nat) (v:AV):putK K d sf v st = K (sf.put d v) st:=rfl
theorem cS (i:AI) (h1:oneI P F m i K sf st = (cW F m i sf st).wp (gy K)) (h2:cW F m i sf st = vI i.dst sf st (popI F i sf st)):oneI P F m i K sf st = (popI F i sf st).wp (putP K i.dst sf st):=by
  rw [h1,h2]
  unfold vI
  exact propext Res.wp_bind
def pickV (c a b:AV):Res AV:=match c with
  | .lit (.bool t)=>.ok (if t then a.dis else b.dis)
  | _=>.fail
def extV (v:AV) (i:Nat):Res AV:=match v with
  | .tup vs=>(Res.ofOpt vs[i]?).bind fun v=>.ok v.dis
  | _=>.fail
def iF (v:AV) (off:Nat) (k:Option Nat):Res AV:=match v with
  | .agg cs=>(jN k (cs.drop off)).bind fun v=>.ok v.dis
  | _=>.fail
def ixSV (v i:AV) (k:Nat):Res AV:=match v with
  | .sl _ k' es=>if k' = k then (ixA i es.length).bind fun j=>.ok (.cptr (es.getD j .any).cells) else .fail
  | .bs id k' off len _=>if k' = k then (ixA i len).bind fun j=>.ok (.ptr id (off + j * k)) else .fail
  | _=>.fail
def aq (sf:Sf) (st:St) (v:AV) (k:Option Nat):Res AV:=(aj sf st v).bind fun cs=>(jN k cs).bind fun v=>.ok v.dis
def bg (v:AV):Res AV:=match v with
  | .ptr a b=>.ok (.ptr a b)
  | .lptr a b=>.ok (.lptr a b)
  | .cptr cs=>.ok (.cptr cs)
  | _=>.fail
def sliSV (v:AV) (lo hi:Option AV) (k:Nat):Res AV:=match v with
  | .sl _ k' es=>if k' = k then (ixTo hi es.length es.length).bind fun h=>(ixTo lo 0 h).bind fun l=>.ok (.sl false k ((es.take h).drop l)) else .fail
  | .lit (.slice none 0 0)=>(ixTo hi 0 0).bind fun h=>(ixTo lo 0 h).bind fun _=>.ok (.lit (.slice none 0 0))
  | .bs id k' off len cap=>if k' = k then sliB none hi lo id k off len cap else .fail
  | _=>.fail
def sli3V (v:AV) (lo hi:Option AV) (mx:AV) (k:Nat):Res AV:=match v with
  | .bs id k' off len cap=>if k' = k then sliB (some mx) hi lo id k off len cap else .fail
  | .sl _ k' es=>if k' = k then sl3 (some mx) hi lo es.length es.length fun l h m=>if m = l then .ok (.sl true k []) else .ok (.sl false k ((es.take h).drop l)) else .fail
  | _=>.fail
def tasV (v:AV) (t:Nat):Res AV:=match v with
  | .ifc t' v=>if t' = t then .ok v.dis else .fail
  | _=>.fail
def mkfnV (q:FuncId) (fs cs:List AV):Res AV:=if (fs++cs).all AV.solid1 = true then .ok (.fn (.func q) fs cs) else .fail
def mkifV (v:AV) (t:Nat):Res AV:=if v.solid1 = true then .ok (.ifc t v.dis) else .fail
def bslV (k len:Nat) (z:AV) (parts:List (Nat×AV)):Res AV:=(d7 k parts (List.replicate len z)).bind fun es=>.ok (.sl true k es)
def bstV (places:List (Nat×Nat)) (z:AV) (parts:List (Nat×AV)):Res AV:=(cu (fun i=>places[i]?) parts z.cells).bind fun cs=>.ok (.agg cs)
section
variable (d:Option Nat) (x y i:Opd)
theorem o_mv:oneI P F m (.mv d x) K sf st = K (sf.put d (sf.ev F x).dis) st:=cS P F m sf st K (.mv d x) rfl rfl
theorem aI (c a b:Opd):oneI P F m (.pick d c a b) K sf st = (pickV (sf.ev F c) (sf.ev F a) (sf.ev F b)).wp (putP K d sf st):=cS P F m sf st K (.pick d c a b) rfl rfl
theorem o_bin (k:BinK) (op:BinOp):oneI P F m (.bin d k op x y) K sf st = (binI k op (sf.ev F x) (sf.ev F y)).wp (putP K d sf st):=cS P F m sf st K (.bin d k op x y) rfl rfl
theorem o_un (op:UnOp):oneI P F m (.un d op x) K sf st = (unA op (sf.ev F x)).wp (putP K d sf st):=cS P F m sf st K (.un d op x) rfl rfl
theorem cy (j:Nat):oneI P F m (.ext d x j) K sf st = (extV (sf.ev F x) j).wp (putP K d sf st):=cS P F m sf st K (.ext d x j) rfl rfl
theorem lC (off:Nat) (k:Option Nat):oneI P F m (.field d x off k) K sf st = (iF (sf.ev F x) off k).wp (putP K d sf st):=cS P F m sf st K (.field d x off k) rfl rfl
theorem az (off:Nat):oneI P F m (.addr d x off) K sf st = (addA (sf.ev F x) off).wp (putP K d sf st):=cS P F m sf st K (.addr d x off) rfl rfl
theorem gB (k:Nat):oneI P F m (.ixS d x i k) K sf st = (ixSV (sf.ev F x) (sf.ev F i) k).wp (putP K d sf st):=cS P F m sf st K (.ixS d x i k) rfl rfl
theorem jk (n k:Nat):oneI P F m (.ixA d x i n k) K sf st = ((Fx.ixA (sf.ev F i) n).bind fun j=>addA (sf.ev F x) (j * k)).wp (putP K d sf st):=cS P F m sf st K (.ixA d x i n k) rfl rfl
theorem ap (k:Option Nat):oneI P F m (.load d x k) K sf st = (aq sf st (sf.ev F x) k).wp (putP K d sf st):=cS P F m sf st K (.load d x k) rfl rfl
theorem a7:oneI P F m (.nilck d x) K sf st = (bg (sf.ev F x)).wp (putP K d sf st):=cS P F m sf st K (.nilck d x) rfl rfl
theorem o_sli3 (lo hi:Option Opd) (mx:Opd) (k:Nat):oneI P F m (.sli3 d x lo hi mx k) K sf st = (sli3V (sf.ev F x) (lo.map (sf.ev F)) (hi.map (sf.ev F)) (sf.ev F mx) k).wp (putP K d sf st):=cS P F m sf st K (.sli3 d x lo hi mx k) rfl rfl
theorem o_mkif (t:Nat):oneI P F m (.mkif d t x) K sf st = (mkifV (sf.ev F x) t).wp (putP K d sf st):=cS P F m sf st K (.mkif d t x) rfl rfl
theorem o_tas (t:Nat):oneI P F m (.tas d t x) K sf st = (tasV (sf.ev F x) t).wp (putP K d sf st):=cS P F m sf st K (.tas d t x) rfl rfl
theorem gC (k len:Nat) (z:AV) (parts:List (Nat×Opd)):oneI P F m (.bsl d k len z parts) K sf st = (bslV k len z (parts.map fun p=>(p.1,sf.ev F p.2))).wp (putP K d sf st):=cS P F m sf st K (.bsl d k len z parts) rfl rfl
theorem eZ (places:List (Nat×Nat)) (z:AV) (parts:List (Nat×Opd)):oneI P F m (.bst d places z parts) K sf st = (bstV places z (parts.map fun p=>(p.1,sf.ev F p.2))).wp (putP K d sf st):=cS P F m sf st K (.bst d places z parts) rfl rfl
theorem dW (k:KeyK) (z:AV) (ok:Bool) (mp key:Opd):oneI P F m (.lookup d k z ok mp key) K sf st = (dg k z ok st (sf.ev F mp) (sf.ev F key)).wp (putP K d sf st):=cS P F m sf st K (.lookup d k z ok mp key) rfl rfl
theorem o_mkfn (g:Nat) (first cap:List Opd):oneI P F m (.mkfn d g first cap) K sf st = (mkfnV (F g) (first.map (sf.ev F)) (cap.map (sf.ev F))).wp (putP K d sf st):=cS P F m sf st K (.mkfn d g first cap) rfl rfl
theorem ce (k:LenK):oneI P F m (.len d k x) K sf st = (lenI k st (sf.ev F x)).wp (putP K d sf st):=cS P F m sf st K (.len d k x) rfl rfl
theorem o_mn (lt:Bool):oneI P F m (.mn d lt x y) K sf st = (fU lt (sf.ev F x) (sf.ev F y)).wp (putP K d sf st):=cS P F m sf st K (.mn d lt x y) rfl rfl
theorem o_app (k bytes:Nat):oneI P F m (.app d k bytes x y) K sf st = (dt st k bytes (sf.ev F x) (sf.ev F y)).wp (putP K d sf st):=cS P F m sf st K (.app d k bytes x y) rfl rfl
end
def j4 (m:Bool) (d:Nat) (v:AV) (K:Sf→St→Prop) (sf:Sf) (st:St):Prop :=
  match v with
  | .lptr s off=>(Res.ofOpt (look s sf.locs)).wp fun cs=>match cs[off]? with
      | some (.sl true k es)=>K ((sf.setLoc s (cs.set off (.sl false k es))).set d (.sl true k es)) st
      | _=>(aq sf st (.lptr s off) none).wp (putP K (some d) sf st)
  | .ptr id off=>if m then (aq sf st (.ptr id off) none).wp (putP K (some d) sf st) else (Res.ofOpt (st.get id)).wp fun cs=>match cs[off]? with
      | some (.sl true k es)=>K (sf.set d (.sl true k es)) (st.set id (cs.set off (.sl false k es)))
      | _=>(aq sf st (.ptr id off) none).wp (putP K (some d) sf st)
  | v=>(aq sf st v none).wp (putP K (some d) sf st)
theorem jl (d:Option Nat) (r:Res AV):(vI d sf st r).wp (gy K) = r.wp (putP K d sf st):=by
  unfold vI
  exact propext Res.wp_bind
theorem n9 (d:Nat) (x:Opd):oneI P F m (.loadOwn d x) K sf st = j4 m d (sf.ev F x) K sf st:=by
  show (cW F m (.loadOwn d x) sf st).wp (gy K) = _
  have hld:(popI F (.load (some d) x none) sf st) = aq sf st (sf.ev F x) none:=rfl
  simp only [cW,hld]
  generalize sf.ev F x = v
  unfold j4
  cases v with
  | lptr s off =>
    simp only
    cases hl:look s sf.locs with
    | none=>rfl
    | some cs =>
      simp only [Res.ofOpt,Res.bind,Res.wp]
      cases hc:cs[off]? with
      | none=>exact jl sf st K (some d) _
      | some c =>
        cases c with
        | sl o k es=>cases o <;> first | rfl | exact jl sf st K (some d) _
        | _=>exact jl sf st K (some d) _
  | ptr id off =>
    simp only
    cases m
    · simp only [Bool.false_eq_true,if_false]
      cases hl:st.get id with
      | none=>rfl
      | some cs =>
        simp only [Res.ofOpt,Res.bind,Res.wp]
        cases hc:cs[off]? with
        | none=>exact jl sf st K (some d) _
        | some c =>
          cases c with
          | sl o k es=>cases o <;> first | rfl | exact jl sf st K (some d) _
          | _=>exact jl sf st K (some d) _
    · simp only [if_true]
      exact jl sf st K (some d) _
  | _=>exact jl sf st K (some d) _
theorem aw (d s:Nat):oneI P F m (.own d s) K sf st = K ((sf.disAt s).set d (sf.reg s)) st:=rfl
def iG (d s k bytes:Nat) (v y:AV) (K:Sf→St→Prop) (sf:Sf) (st:St):Prop :=
  match v with
  | .sl true k' es=>(eO st k bytes (.sl true k' es) y).wp fun v=>K ((sf.disAt s).set d v) st
  | v=>(dt st k bytes v y).wp (putP K (some d) sf st)
theorem gX (d s k bytes:Nat) (y:Opd):oneI P F m (.appS d s k bytes y) K sf st = iG d s k bytes (sf.reg s) (sf.ev F y) K sf st:=by
  show (cW F m (.appS d s k bytes y) sf st).wp (gy K) = _
  have hld:(popI F (.app (some d) k bytes (.r s) y) sf st) = dt st k bytes (sf.reg s) (sf.ev F y):=rfl
  simp only [cW,hld]
  unfold iG
  generalize sf.reg s = v
  cases v with
  | sl o k' es =>
    cases o
    · exact jl sf st K (some d) _
    · exact propext Res.wp_bind
  | _=>exact jl sf st K (some d) _
theorem bA (d:Nat) (cs:List AV):oneI P F m (.newL d cs) K sf st = K (sf.newLoc d cs) st:=rfl
theorem o_newB (d:Nat) (cs:List AV):oneI P F m (.newB d cs) K sf st = (m = false∧K (sf.set d (.ptr st.boxes.length 0)) (st.push (.cells cs))):=by
  cases m
  · exact propext ⟨fun h=>⟨rfl,h⟩,fun h=>h.2⟩
  · exact propext ⟨fun h=>h.elim,fun h=>by cases h.1⟩
def boxX (n:Nat) (v:AV) (C:Prop):Prop:=v.solid = true∧v.cells.length = n∧C
theorem bR (d n:Nat) (x:Opd):oneI P F m (.boxL d n x) K sf st = boxX n (sf.evOwn F x) (K (sf.newLoc d (sf.evOwn F x).dis.cells) st):=by
  show (cW F m (.boxL d n x) sf st).wp (gy K) = _
  unfold boxX
  simp only [cW]
  split
  · rename_i h; exact propext ⟨fun q=>⟨h.1,h.2,q⟩,fun q=>q.2.2⟩
  · rename_i h; exact propext ⟨fun q=>q.elim,fun q=>h ⟨q.1,q.2.1⟩⟩
theorem o_boxB (d n:Nat) (x:Opd):oneI P F m (.boxB d n x) K sf st = boxX n (sf.evOwn F x) (m = false∧K ((sf.disOp x).set d (.ptr st.boxes.length 0)) (st.push (.cells (sf.evOwn F x).cells))):=by
  show (cW F m (.boxB d n x) sf st).wp (gy K) = _
  unfold boxX
  simp only [cW]
  split
  · rename_i h; exact propext ⟨fun q=>⟨h.1,h.2.1,h.2.2,q⟩,fun q=>q.2.2.2⟩
  · rename_i h; exact propext ⟨fun q=>q.elim,fun q=>h ⟨q.1,q.2.1,q.2.2.1⟩⟩
def aU (m:Bool) (a:AV) (vs:List AV) (K:Sf→St→Prop) (sf:Sf) (st:St):Prop :=
  match a with
  | .lptr s off=>(Res.ofOpt (look s sf.locs)).wp fun cs=>off + vs.length≤cs.length∧K (sf.setLoc s (cG cs off vs)) st
  | .ptr id off=>m = false∧(Res.ofOpt (st.get id)).wp fun cs=>off + vs.length≤cs.length∧K sf (st.set id (cG cs off vs))
  | _=>False
theorem aH (n:Nat) (a x:Opd):oneI P F m (.store n a x) K sf st = boxX n (sf.evOwn F x) (aU m (sf.ev F a) (sf.evOwn F x).cells K (sf.disOp x) st):=by
  show (cW F m (.store n a x) sf st).wp (gy K) = _
  have hw:(oJ m (sf.disOp x) st (sf.ev F a) (sf.evOwn F x).cells).wp (gy K) = aU m (sf.ev F a) (sf.evOwn F x).cells K (sf.disOp x) st:=by
    generalize (sf.evOwn F x).cells = vs
    generalize sf.disOp x = sf1
    unfold oJ aU
    generalize sf.ev F a = v
    have hif:∀ (c:Prop) [Decidable c] (r:Sf×St),(if c then Res.ok r else Res.fail).wp (gy K) = (c∧K r.1 r.2):=by
      intro c _ r
      by_cases hc:c
      · rw [if_pos hc]; exact propext ⟨fun q=>⟨hc,q⟩,fun q=>q.2⟩
      · rw [if_neg hc]; exact propext ⟨fun q=>q.elim,fun q=>hc q.1⟩
    cases v with
    | lptr s off =>
      simp only
      cases hl:look s sf1.locs with
      | none=>rfl
      | some cs=>exact hif _ _
    | ptr id off =>
      simp only
      cases m
      · simp only [Bool.false_eq_true,if_false,true_and]
        cases hl:st.get id with
        | none=>rfl
        | some cs=>exact hif _ _
      · exact propext ⟨fun q=>q.elim,fun q=>by cases q.1⟩
    | _=>rfl
  unfold boxX
  simp only [cW]
  split
  · rename_i h; rw [hw]; exact propext ⟨fun q=>⟨h.1,h.2,q⟩,fun q=>q.2.2⟩
  · rename_i h; exact propext ⟨fun q=>q.elim,fun q=>h ⟨q.1,q.2.1⟩⟩
def delX (m:Bool) (k:KeyK) (mp key:AV) (K:Sf→St→Prop) (sf:Sf) (st:St):Prop :=
  keyI k key = true∧m = false∧match mp with
  | .map id=>(Res.ofOpt (st.getM id)).wp fun es=>(dU key es 0).wp fun r=>match r with
      | some (i,_)=>K sf (st.delM id es i)
      | none=>K sf st
  | _=>False
theorem o_del (k:KeyK) (mp key:Opd):oneI P F m (.del k mp key) K sf st = delX m k (sf.ev F mp) (sf.ev F key) K sf st:=by
  show (cW F m (.del k mp key) sf st).wp (gy K) = _
  simp only [cW]
  unfold delX
  generalize sf.ev F key = kv
  generalize sf.ev F mp = v
  by_cases h:keyI k kv = true∧m = false
  · have:∀ A:Prop,(keyI k kv = true∧m = false∧A) = A:=fun A=>propext ⟨fun q=>q.2.2,fun q=>⟨h.1,h.2,q⟩⟩
    rw [if_pos h,this]
    cases v with
    | map id =>
      simp only
      cases hl:st.getM id with
      | none=>rfl
      | some es =>
        refine propext ((Res.wp_bind (r:=dU kv es 0)).trans ?_)
        refine ⟨fun q=>Res.wp_mono (r:=dU kv es 0) q fun r hr=>?_,fun q=>Res.wp_mono (r:=dU kv es 0) q fun r hr=>?_⟩ <;> (cases r <;> exact hr)
    | _=>rfl
  · rw [if_neg h]
    exact propext ⟨fun q=>q.elim,fun q=>h ⟨q.1,q.2.1⟩⟩
theorem oU (d:Nat):oneI P F m (.mkmap d) K sf st = (m = false∧K (sf.set d (.map st.boxes.length)) (st.push (.mp [] [] 0))):=by
  cases m
  · exact propext ⟨fun h=>⟨rfl,h⟩,fun h=>h.2⟩
  · exact propext ⟨fun h=>h.elim,fun h=>by cases h.1⟩
def updX (m:Bool) (k:KeyK) (mp key x:AV) (K:Sf→St→Prop) (sf:Sf) (st:St):Prop :=
  keyI k key = true∧m = false∧x.solid = true∧match mp with
  | .map id=>(Res.ofOpt (st.getM id)).wp fun es=>(dU key es 0).wp fun r=>K sf (st.updM id es key x.dis r)
  | _=>False
theorem j5 (k:KeyK) (mp key x:Opd):oneI P F m (.upd k mp key x) K sf st = updX m k (sf.ev F mp) (sf.ev F key) (sf.ev F x) K sf st:=by
  show (cW F m (.upd k mp key x) sf st).wp (gy K) = _
  simp only [cW]
  unfold updX
  generalize sf.ev F key = kv
  generalize sf.ev F mp = v
  generalize sf.ev F x = xv
  by_cases h:keyI k kv = true∧m = false∧xv.solid = true
  · have:∀ A:Prop,(keyI k kv = true∧m = false∧xv.solid = true∧A) = A:=fun A=>propext ⟨fun q=>q.2.2.2,fun q=>⟨h.1,h.2.1,h.2.2,q⟩⟩
    rw [if_pos h,this]
    cases v with
    | map id =>
      simp only
      cases hl:st.getM id with
      | none=>rfl
      | some es=>exact propext (Res.wp_bind (r:=dU kv es 0))
    | _=>rfl
  · rw [if_neg h]
    exact propext ⟨fun q=>q.elim,fun q=>h ⟨q.1,q.2.1,q.2.2.1⟩⟩
theorem o_x (d:Option Nat) (i:XI):oneI P F m (.x d i) K sf st = cv F m i d K sf st:=rfl
theorem au (d:Option Nat) (p:Bool) (f:Opd) (args:List Opd):oneI P F m (.call d p f args) K sf st = ji P m p d (sf.ev F f) (args.map (sf.ev F)) K sf st:=rfl
theorem callI_eq (p:Bool) (d:Option Nat) (q:FuncId) (fs cs args:List AV):ji P m p d (.fn (.func q) fs cs) args K sf st =
    (args.all AV.noL = true∧(if (p || m) = true then CallP P q (fs++args.map AV.dis++cs) st (putP K d sf st) else CallA P q (fs++args.map AV.dis++cs) st (putK K d sf))):=rfl
theorem wp_ok {A:Type} (a:A) (C:A→Prop):(Res.ok a).wp C = C a:=rfl
theorem wp_req {A:Type} (b:Bool) (r:Res A) (C:A→Prop):(Res.req b r).wp C = (b = true∧r.wp C):=rfl
theorem wp_fail {A:Type} (C:A→Prop):(Res.fail:Res A).wp C = False:=rfl
theorem bind_ok {A B:Type} (a:A) (f:A→Res B):(Res.ok a).bind f = f a:=rfl
theorem ak {A B:Type} (b:Bool) (r:Res A) (f:A→Res B):(Res.req b r).bind f = .req b (r.bind f):=rfl
theorem mD {A:Type} (a:A):Res.ofOpt (some a) = .ok a:=rfl
end
section
variable {P:Program} {m:Bool} {d:Option Nat} {q:FuncId} {fs cs args vs:List AV} {sf:Sf} {st:St} {K:Sf→St→Prop} {v:AV}
theorem aL {p:Bool} (hvs:fs++args.map AV.dis++cs = vs) (hent:aX P q = true) (h:bF P q vs st v) (hn:args.all AV.noL = true) (hK:K (sf.put d v) st):ji P m p d (.fn (.func q) fs cs) args K sf st:=by
  rw [callI_eq,hvs]
  refine ⟨hn,?_⟩
  split
  · exact ⟨hent,v,h,hK⟩
  · exact ⟨hent,_,h.acalls,fun v' st' e=>by obtain ⟨rfl,rfl⟩:=e; exact hK⟩
theorem bE {Q:AV→St→Prop} (hvs:fs++args.map AV.dis++cs = vs) (hent:aX P q = true) (h:bz P q vs st Q) (hn:args.all AV.noL = true) (hK:∀ v st',Q v st'→K (sf.put d v) st'):ji P false false d (.fn (.func q) fs cs) args K sf st:=by
  rw [callI_eq,hvs]
  exact ⟨hn,hent,Q,h,hK⟩
theorem call_y {id:Nat} {Q:Bool→St→Prop} (hvs:args.map AV.dis = vs) (h:gU P id vs st Q) (hn:args.all AV.noL = true) (hK:∀ t st',Q t st'→K (sf.put d (.lit (.bool t))) st'):ji P false false d (.yld id) args K sf st:=by
  subst hvs
  exact ⟨hn,rfl,Q,h,hK⟩
end
theorem range_a {P:Program} {CA CB:Sf→St→(Exit→Sf→St→Prop)→Prop} {ps lb lv ll:List Nat} {q:FuncId} {fs cs:List AV} {sf:Sf} {st:St} {Q:Exit→Sf→St→Prop} (hent:aX P q = true)
    (h:∀ r:Loop,(∀ vs st' Q',oT CA CB ps st.boxes.length r (fY lb sf) vs st' Q'→gU P st.boxes.length vs st' Q') →
      ∃ Qc,bz P q (fs++[.yld st.boxes.length]++cs) (st.push (.lp r (fY lb sf))) Qc∧∀ v st',Qc v st'→behindI lv ll st.boxes.length r (fY lb sf) sf st' Q):kI P CA CB ps lb lv ll (.fn (.func q) fs cs) sf st Q:=⟨hent,h⟩
end Go.Fx
/- From the readings of a row to abstract values, and back. -/
namespace Go.Fx
open Go Go.RowKit Go.ChangeShapes
inductive Sh where
  | bool
  | int (k:IntKind)
  | str
  | sl (e:Sh)
  | unit
  | pair (a r:Sh)
@[reducible] def Sh.T:Sh→Type
  | .bool=>Bool
  | .int _=>Int
  | .str=>ByteArray
  | .sl e=>List e.T
  | .unit=>Unit
  | .pair a r=>a.T×r.T
def Sh.size:Sh→Nat
  | .unit=>0
  | .pair a r=>a.size + r.size
  | _=>1
def Sh.isSt:Sh→Bool
  | .unit=>true
  | .pair _ _=>true
  | _=>false
def iH:Bool→List AV→AV
  | true,cs=>.agg cs
  | false,cs=>cs.headD .any
def Sh.cells:(s:Sh)→s.T→List AV
  | .bool,b=>[.lit (.bool b)]
  | .int k,n=>[.lit (.int k n)]
  | .str,s=>[.lit (.string s)]
  | .sl e,l=>[.sl false e.size (List.map (fun x=>iH e.isSt (e.cells x)) l)]
  | .unit,_=>[]
  | .pair a r,x=>a.cells x.1++r.cells x.2
def Sh.av (s:Sh) (x:s.T):AV:=iH s.isSt (s.cells x)
def Sh.ok:(s:Sh)→s.T→Prop
  | .bool,_=>True
  | .int k,n=>k.min≤n∧n≤k.max
  | .str,s=>s.size≤maxLen
  | .sl e,l=>l.length≤maxLen∧∀ x ∈ l,e.ok x
  | .unit,_=>True
  | .pair a r,x=>a.ok x.1∧r.ok x.2
theorem Sh.cells_len:∀ (s:Sh) (x:s.T),(s.cells x).length = s.size
  | .bool,_=>rfl
  | .int _,_=>rfl
  | .str,_=>rfl
  | .sl _,_=>rfl
  | .unit,_=>rfl
  | .pair a r,x=>by simp [Sh.cells,Sh.size,Sh.cells_len a,Sh.cells_len r]
theorem Sh.av_cells (s:Sh) (x:s.T):(s.av x).cells = s.cells x:=by
  cases s <;> rfl
section
variable (P:Program)
mutual
def j6:Nat→TypeId→Option Sh
  | 0,_=>none
  | n + 1, t => match P.underlying t with
    | some .bool=>some .bool
    | some (.int k)=>some (.int k)
    | some .string=>some .str
    | some (.slice e)=>(j6 n e).bind fun s=>if s.size = P.cellsOf e∧0 < s.size then some (.sl s) else none
    | some (.struct fs)=>(gj n 0 fs.toList).bind fun s=>if s.size = P.cellsOf t then some s else none
    | _=>none
def gj:Nat→Nat→List Field→Option Sh
  | 0,_,_=>none
  | _ + 1,_,[]=>some .unit
  | n + 1,off,f::r=>if f.offset = off then (j6 n f.type).bind fun a=>if a.size = P.cellsOf f.type then (gj n (off + a.size) r).map (.pair a ·) else none else none
end
end
theorem shapeF_st {P:Program}:∀ {n off:Nat} {l:List Field} {s:Sh},gj P n off l = some s→s.isSt = true
  | 0,_,_,_,h=>by simp [gj] at h
  | n + 1,off,[],s,h=>by simp [gj] at h; subst h; rfl
  | n + 1, off, f :: r, s, h => by
    simp only [gj] at h
    split at h
    · rw [Option.bind_eq_some_iff] at h
      obtain ⟨a,_,h⟩:=h
      split at h
      · obtain ⟨q,_,rfl⟩:=map_some h; rfl
      · cases h
    · cases h
section
variable {H:Type} {enc:TypeId×Value→H} {P:Program} {w:World} {base:Nat} {spare:Nat→Bool} {held:Bool} {g:Gh}
theorem oa {a:Addr} {q:Nat} {cs:List Value} (h:w.cells? base a q = some cs):cs.length = q∧∀ (i:Nat) (u:Value),cs[i]? = some u→w.cell? (a.add i) = some u:=by
  unfold World.cells? at h
  split at h
  · have key:∀ (l:List Nat) (cs:List Value),l.mapM (fun i=>w.cell? (a.add i)) = some cs→cs.length = l.length∧∀ (i j:Nat) (u:Value),l[i]? = some j→cs[i]? = some u→w.cell? (a.add j) = some u:=by
      intro l
      induction l with
      | nil=>intro cs h; simp at h; subst h; exact ⟨rfl,fun i j u h=>by simp at h⟩
      | cons x r ih =>
        intro cs h
        simp only [List.mapM_cons,bind,Option.bind_eq_some_iff,pure,Option.some.injEq] at h
        obtain ⟨v,hv,l',hl,rfl⟩:=h
        obtain ⟨h1,h2⟩:=ih l' hl
        refine ⟨by simp [h1],fun i j u hi hu=>?_⟩
        cases i with
        | zero=>simp at hi hu; subst hi; subst hu; exact hv
        | succ i=>exact h2 i j u (by simpa using hi) (by simpa using hu)
    obtain ⟨h1,h2⟩:=key _ _ h
    simp at h1
    refine ⟨h1,fun i u hu=>h2 i i u ?_ hu⟩
    have:i < q:=by rw [← h1]; exact (List.getElem?_eq_some_iff.1 hu).1
    simp [this]
  · cases h
theorem add_spot {a:Addr} {i:Nat} {u:Value} (h:w.cell? (a.add i) = some u):i = 0→a.spot = none:=by
  intro e
  subst e
  simp only [Addr.add,if_true] at h
  unfold World.cell? at h
  split at h
  · split at h
    · cases h
    · rename_i hs; simpa using hs
  · cases h
theorem gD {x:AV} {u:Value} (h:R g x u):RL g [x] [u]:=⟨rfl,fun i a b ha hb=>by cases i <;> simp at ha hb; subst ha; subst hb; exact h⟩
def Reads (g:Gh) (s:Sh) (cs:List Value):Prop:=∃ x:s.T,s.ok x∧RL g (s.cells x) cs∧∀ u ∈ cs,u.oneCell' = true
theorem shape_R (hi:∀ b o u,w.cell? ⟨b,o,none⟩ = some u→g.imm b o = some u):∀ (n:Nat),
    (∀ (t:TypeId) (s:Sh) (fuel:Nat) (cs:List Value) (x:DataW H×List MemPlace),j6 P n t = some s→DataW.trod enc P w base spare held fuel t cs = some x→Reads g s cs) ∧
    (∀ (off:Nat) (l:List Field) (s:Sh) (fuel:Nat) (cs:List Value) (xs:List (DataW H×List MemPlace)),gj P n off l = some s→cs.length = off + s.size →
      (l.mapM fun f=>DataW.trod enc P w base spare held fuel f.type ((cs.drop f.offset).take (P.cellsOf f.type))) = some xs→Reads g s (cs.drop off)):=by
  intro n
  induction n with
  | zero=>exact ⟨fun t s fuel cs x h=>by simp [j6] at h,fun off l s fuel cs xs h=>by simp [gj] at h⟩
  | succ n ih =>
    obtain ⟨ih1,ih2⟩:=ih
    constructor
    · intro t s fuel cs x hs ht
      cases fuel with
      | zero=>simp [DataW.trod] at ht
      | succ fuel =>
      simp only [j6] at hs
      split at hs
      · rename_i hu
        cases hs
        have:∃ b,cs = [.bool b]:=by
          simp only [DataW.trod,hu] at ht
          split at ht <;> simp_all
        obtain ⟨b,rfl⟩:=this
        exact ⟨b,trivial,gD (R.lit _ rfl),by simp [Value.oneCell']⟩
      · rename_i k hu
        cases hs
        have:∃ m,cs = [.int k m]∧(Lit.int k m).wf = true:=by
          simp only [DataW.trod,hu] at ht
          split at ht <;> simp_all
        obtain ⟨m,rfl,hwf⟩:=this
        simp only [Lit.wf,Bool.and_eq_true,decide_eq_true_eq] at hwf
        exact ⟨m,hwf,gD (R.lit _ rfl),by simp [Value.oneCell']⟩
      · rename_i hu
        cases hs
        have:∃ q,cs = [.string q]∧q.size≤maxLen:=by
          simp only [DataW.trod,hu] at ht
          split at ht <;> simp_all
        obtain ⟨q,rfl,hwf⟩:=this
        exact ⟨q,hwf,gD (R.lit _ rfl),by simp [Value.oneCell']⟩
      · rename_i e hu
        rw [Option.bind_eq_some_iff] at hs
        obtain ⟨se,hse,hs⟩:=hs
        split at hs
        case isFalse=>cases hs
        rename_i hsz
        cases hs
        have:cs = [.slice none 0 0]∨∃ a len cap elems,cs = [.slice (some a) len cap]∧len≤cap∧cap≤maxLen ∧
            (List.range len).mapM (fun i=>(w.cells? base (a.add (i * P.cellsOf e)) (P.cellsOf e)).bind (DataW.trod enc P w base spare held fuel e)) = some elems:=by
          simp only [DataW.trod,hu] at ht
          split at ht
          all_goals try (exfalso; simp_all; done)
          · rename_i e1 h1
            exact .inl rfl
          · rename_i e1 a len cap h1
            cases h1
            split at ht
            · rename_i hc
              rw [Option.bind_eq_some_iff] at ht
              obtain ⟨elems,hm,_⟩:=ht
              exact .inr ⟨a,len,cap,elems,rfl,hc.2.1,hc.2.2,hm⟩
            · cases ht
        rcases this with rfl | ⟨a,len,cap,elems,rfl,hlc,hcm,hm⟩
        · exact ⟨[],⟨Nat.zero_le _,by simp⟩,gD (R.slN _ _),by simp [Value.oneCell']⟩
        · have key:∀ (l:List Nat) (es:List (DataW H×List MemPlace)),l.mapM (fun i=>(w.cells? base (a.add (i * P.cellsOf e)) (P.cellsOf e)).bind (DataW.trod enc P w base spare held fuel e)) = some es →
              ∃ ys:List se.T,ys.length = l.length∧∀ (q j:Nat) (y:se.T),l[q]? = some j→ys[q]? = some y→se.ok y∧∃ cj,w.cells? base (a.add (j * P.cellsOf e)) (P.cellsOf e) = some cj∧RL g (se.cells y) cj∧∀ u ∈ cj,u.oneCell' = true:=by
            intro l
            induction l with
            | nil=>intro es _; exact ⟨[],rfl,fun q j y h=>by simp at h⟩
            | cons z r ihl =>
              intro es h
              simp only [List.mapM_cons,bind,Option.bind_eq_some_iff,pure,Option.some.injEq] at h
              obtain ⟨v,⟨cj,hcj,hv⟩,l',hl,rfl⟩:=h
              obtain ⟨ys,h1,h2⟩:=ihl l' hl
              obtain ⟨y,hy1,hy2,hy3⟩:=ih1 e se fuel cj v hse hv
              refine ⟨y::ys,by simp [h1],fun q j y' hq hy=>?_⟩
              cases q with
              | zero=>simp at hq hy; subst hq; subst hy; exact ⟨hy1,cj,hcj,hy2,hy3⟩
              | succ q=>exact h2 q j y' (by simpa using hq) (by simpa using hy)
          obtain ⟨ys,hyl,hys⟩:=key _ _ hm
          simp at hyl
          have hsz1:=hsz.1
          refine ⟨ys,⟨by rw [hyl]; omega,fun y hy=>?_⟩,gD ?_,by simp [Value.oneCell']⟩
          · obtain ⟨q,hq⟩:=List.mem_iff_getElem?.1 hy
            have hql:q < len:=by rw [← hyl]; exact (List.getElem?_eq_some_iff.1 hq).1
            exact (hys q q y (by simp [hql]) hq).1
          · have hel:(List.map (fun x=>iH se.isSt (se.cells x)) ys).length = len:=by simp [hyl]
            rcases Nat.eq_zero_or_pos len with h0 | h0
            · subst h0
              have:ys = []:=List.eq_nil_of_length_eq_zero hyl
              subst this
              exact R.slE false _ a cap
            · have hsp:a.spot = none:=by
                obtain ⟨y0,hy0⟩:∃ y0,ys[0]? = some y0:=⟨ys[0],by simp⟩
                obtain ⟨_,cj,hcj,hrl,_⟩:=hys 0 0 y0 (by simp [h0]) hy0
                obtain ⟨hl0,hc0⟩:=oa hcj
                have hpos:0 < cj.length:=by rw [hl0,← hsz1]; exact hsz.2
                have:=hc0 0 cj[0] (by simp [hpos])
                simp only [Nat.zero_mul] at this
                have ha0:(a.add 0).add 0 = a.add 0:=by simp [Addr.add]
                rw [ha0] at this
                exact add_spot this rfl
              obtain ⟨b,o,sp⟩:=a
              simp only at hsp
              subst hsp
              have hcl:∀ x ∈ (List.map (fun x=>iH se.isSt (se.cells x)) ys),x.cells.length = se.size:=by
                intro x hx
                obtain ⟨y,_,rfl⟩:=List.mem_map.1 hx
                have:=Sh.av_cells se y
                unfold Sh.av at this
                rw [this]; exact Sh.cells_len se y
              have hget:∀ (i:Nat) (x:AV),((List.map (fun x=>iH se.isSt (se.cells x)) ys).flatMap AV.cells)[i]? = some x→∃ u,w.cell? ⟨b,o + i,none⟩ = some u∧R g x u∧u.oneCell' = true:=by
                intro i x hx
                obtain ⟨q,r,e',rfl,h2,h3⟩:=fw hcl hx
                simp only [List.getElem?_map,Option.map_eq_some_iff] at h2
                obtain ⟨y,hy,rfl⟩:=h2
                have hql:q < len:=by rw [← hyl]; exact (List.getElem?_eq_some_iff.1 hy).1
                obtain ⟨_,cj,hcj,hrl,hone⟩:=hys q q y (by simp [hql]) hy
                have hav:=Sh.av_cells se y
                unfold Sh.av at hav
                rw [hav] at h3
                obtain ⟨hl0,hc0⟩:=oa hcj
                have hr:r < cj.length:=by rw [hrl.1]; exact (List.getElem?_eq_some_iff.1 h3).1
                have h4:=hc0 r cj[r] (by simp [hr])
                rw [cT,cT,← hsz1] at h4
                refine ⟨cj[r],?_,hrl.2 r x _ h3 (by simp [hr]),hone _ (List.getElem_mem hr)⟩
                rw [← Nat.add_assoc]; exact h4
              have:=R.sl (g:=g) false se.size _ (fun i=>(w.cell? ⟨b,o + i,none⟩).getD undef) b o cap (by rw [hel]; exact hlc) hcl (fun i x hx=>?_) (fun i x hx=>?_) (fun i x hx=>?_)
              · rw [hel] at this; exact this
              · obtain ⟨u,h1,h2,h3⟩:=hget i x hx
                rw [h1]; exact hi _ _ _ h1
              · obtain ⟨u,h1,h2,h3⟩:=hget i x hx
                rw [h1]; exact h2
              · obtain ⟨u,h1,h2,h3⟩:=hget i x hx
                rw [h1]; exact h3
      · rename_i fs hu
        rw [Option.bind_eq_some_iff] at hs
        obtain ⟨s',hs',hs⟩:=hs
        split at hs
        case isFalse=>cases hs
        rename_i hsz
        have hss:s' = s:=Option.some.inj hs
        subst hss
        have:cs.length = P.cellsOf t∧∃ xs,(fs.toList.mapM fun f=>DataW.trod enc P w base spare held fuel f.type ((cs.drop f.offset).take (P.cellsOf f.type))) = some xs:=by
          simp only [DataW.trod,hu] at ht
          split at ht
          all_goals try (exfalso; simp_all; done)
          rename_i hc
          obtain ⟨xs,hxs,_⟩:=map_some ht
          exact ⟨hc,xs,hxs⟩
        obtain ⟨hlen,xs,hxs⟩:=this
        have:=ih2 0 fs.toList s' fuel cs xs hs' (by rw [hlen,hsz]; simp) hxs
        simpa using this
      · cases hs
    · intro off l s fuel cs xs hs hlen hm
      cases l with
      | nil =>
        simp only [gj] at hs
        cases hs
        refine ⟨(),trivial,?_,?_⟩
        · have:cs.drop off = []:=by apply List.drop_eq_nil_of_le; simp [Sh.size] at hlen; omega
          rw [this]; exact RL.nil
        · have:cs.drop off = []:=by apply List.drop_eq_nil_of_le; simp [Sh.size] at hlen; omega
          rw [this]; simp
      | cons f r =>
        simp only [gj] at hs
        split at hs
        case isFalse=>cases hs
        rename_i hoff
        rw [Option.bind_eq_some_iff] at hs
        obtain ⟨a,ha,hs⟩:=hs
        split at hs
        case isFalse=>cases hs
        rename_i hsz
        obtain ⟨q,hq,rfl⟩:=map_some hs
        simp only [List.mapM_cons,bind,Option.bind_eq_some_iff,pure,Option.some.injEq] at hm
        obtain ⟨x0,hx0,xr,hxr,rfl⟩:=hm
        obtain ⟨y,hy1,hy2,hy3⟩:=ih1 f.type a fuel _ x0 ha hx0
        obtain ⟨z,hz1,hz2,hz3⟩:=ih2 (off + a.size) r q fuel cs xr hq (by rw [hlen]; simp [Sh.size]; omega) hxr
        have hsplit:cs.drop off = (cs.drop f.offset).take (P.cellsOf f.type)++cs.drop (off + a.size):=by
          rw [hoff,← hsz,← List.drop_drop]
          exact (List.take_append_drop a.size (cs.drop off)).symm
        rw [hsplit]
        exact ⟨(y,z),⟨hy1,hz1⟩,hy2.append hz2,fun u hu=>(List.mem_append.1 hu).elim (hy3 u) (hz3 u)⟩
theorem cell_plain {r:Reach} {b0:Nat} {t:TypeId} {v:Value} {s:Sh} {n:Nat} (hs:j6 P (n + 1) t = some s) (hv:Value.okWide P w r b0 t v):(s.isSt = true∧∃ cs,v = .agg cs)∨(s.isSt = false∧v.cells = #[v]):=by
  simp only [j6] at hs
  unfold Value.okWide at hv
  split at hs
  · rename_i hu
    cases hs
    simp only [hu,Cell.okWide,Cell.ok] at hv
    right
    refine ⟨rfl,?_⟩
    cases v <;> first | rfl | (simp at hv; done)
  · rename_i k hu
    cases hs
    simp only [hu,Cell.okWide,Cell.ok] at hv
    right
    refine ⟨rfl,?_⟩
    cases v <;> first | rfl | (simp at hv; done)
  · rename_i hu
    cases hs
    simp only [hu,Cell.okWide,Cell.ok] at hv
    right
    refine ⟨rfl,?_⟩
    cases v <;> first | rfl | (simp at hv; done)
  · rename_i e hu
    rw [Option.bind_eq_some_iff] at hs
    obtain ⟨se,hse,hs⟩:=hs
    split at hs
    case isFalse=>cases hs
    cases hs
    simp only [hu,Cell.okWide,Cell.ok] at hv
    right
    refine ⟨rfl,?_⟩
    cases v <;> first | rfl | (simp at hv; done)
  · rename_i fs hu
    rw [Option.bind_eq_some_iff] at hs
    obtain ⟨s',hs',hs⟩:=hs
    split at hs
    case isFalse=>cases hs
    have hss:s' = s:=Option.some.inj hs
    subst hss
    simp only [hu] at hv
    obtain ⟨cs,rfl,_⟩:=hv
    exact .inl ⟨shapeF_st hs',cs,rfl⟩
  · cases hs
theorem trod_sh (hi:∀ b o u,w.cell? ⟨b,o,none⟩ = some u→g.imm b o = some u) {n:Nat} {t:TypeId} {s:Sh} {v:Value} {d:DataW H} {ps:List MemPlace} {r:Reach} {b0:Nat} (hs:j6 P (n + 1) t = some s) (h:DataW.Trod enc P w base spare held t v d ps)
    (hv:Value.okWide P w r b0 t v):∃ x:s.T,s.ok x∧R g (s.av x) v:=by
  obtain ⟨fuel,hf⟩:=h
  obtain ⟨x,h1,h2,h3⟩:=(shape_R (enc:=enc) (base:=base) (spare:=spare) (held:=held) hi (n + 1)).1 t s fuel _ _ hs hf
  refine ⟨x,h1,?_⟩
  rcases cell_plain hs hv with ⟨hst,cs,rfl⟩ | ⟨hst,hc⟩
  · unfold Sh.av
    rw [hst]
    have:=RL.agg h2
    simpa [iH,Value.cells] using this
  · rw [hc] at h2
    unfold Sh.av
    rw [hst]
    simp only [iH]
    have hl:=h2.1
    match hcs:s.cells x,hl with
    | [c], _ =>
      rw [hcs] at h2
      exact h2.2 0 c v rfl rfl
def parS (P:Program):List TypeId→Option Sh
  | []=>some .unit
  | t :: r => match j6 P 20 t, parS P r with
    | some s,some q=>some (.pair s q)
    | _,_=>none
def fG:(s:Sh)→s.T→List AV
  | .pair a r,x=>a.av x.1::fG r x.2
  | .bool,_=>[]
  | .int _,_=>[]
  | .str,_=>[]
  | .sl _,_=>[]
  | .unit,_=>[]
theorem args_R (hi:∀ b o u,w.cell? ⟨b,o,none⟩ = some u→g.imm b o = some u) {b0:Nat}:∀ {ts:List TypeId} {vs:List Value} {ds:List (DataW H)} {ps:List MemPlace} {S:Sh},parS P ts = some S→DataW.TrodAll enc P w base spare held ts vs ds ps →
    (∀ (j:Nat) t v,ts[j]? = some t→vs[j]? = some v→Value.okWide P w .any b0 t v)→∃ x:S.T,S.ok x∧gu g (fG S x) vs.toArray
  | [], vs, ds, ps, S, hS, h, _ => by
    simp only [parS] at hS
    cases hS
    cases vs with
    | nil=>exact ⟨(),trivial,rfl,fun i x u hx=>by simp [fG] at hx⟩
    | cons v r=>cases ds <;> exact h.elim
  | t :: ts, vs, ds, ps, S, hS, h, hok => by
    simp only [parS] at hS
    split at hS
    · rename_i s q hs hq
      cases hS
      cases vs with
      | nil=>cases ds <;> exact h.elim
      | cons v vs =>
        cases ds with
        | nil=>exact h.elim
        | cons d ds =>
          obtain ⟨p1,p2,h1,h2,_⟩:=h
          obtain ⟨x,hx1,hx2⟩:=trod_sh hi (n:=19) hs h1 (hok 0 t v rfl rfl)
          obtain ⟨y,hy1,hy2⟩:=args_R hi hq h2 (fun j t v ht hv=>hok (j + 1) t v (by simpa using ht) (by simpa using hv))
          refine ⟨(x,y),⟨hx1,hy1⟩,by simpa [fG] using hy2.1,fun i a u ha hu=>?_⟩
          cases i with
          | zero=>simp [fG] at ha hu; subst ha; subst hu; exact hx2
          | succ i=>exact hy2.2 i a u (by simpa [fG] using ha) (by simpa using hu)
    · cases hS
theorem jm (hl:laidOutB P = true) {W W':World} {sp':Nat→Bool}:∀ {ts:List TypeId} {vs:List Value} {ds:List (DataW H)} {ps:List MemPlace},(∀ t ∈ ts,P.readableRec t = true∧t < P.types.size) →
    DataW.TrodAll enc P W base (fun _=>true) true ts vs ds ps→(∀ p ∈ ps,W.sameAt W' p)→(∀ p ∈ ps,sp' p.block = true)→DataW.TrodAll enc P W' base sp' true ts vs ds ps
  | [],[],[],ps,_,h,_,_=>h
  | [],[],_::_,_,_,h,_,_=>h.elim
  | [],_::_,[],_,_,h,_,_=>h.elim
  | [],_::_,_::_,_,_,h,_,_=>h.elim
  | _::_,[],[],_,_,h,_,_=>h.elim
  | _::_,[],_::_,_,_,h,_,_=>h.elim
  | _::_,_::_,[],_,_,h,_,_=>h.elim
  | t :: ts, v :: vs, d :: ds, ps, ht, h, hs, hp => by
    obtain ⟨p,q,h1,h2,rfl⟩:=h
    exact ⟨p,q,WideElems.Trod_stays hl (ht t (by simp)).1 (ht t (by simp)).2 h1 (fun x hx=>hs x (by simp [hx])) (fun x hx=>hp x (by simp [hx])),
      jm hl (fun t h=>ht t (by simp [h])) h2 (fun x hx=>hs x (by simp [hx])) (fun x hx=>hp x (by simp [hx])),rfl⟩
theorem nz {W W':World} {may:MemPlace→Prop} (hb:Below W.heap.size W W'):W.keptBut W' may:=by
  refine ⟨hb.os,hb.output,fun i hi=>?_⟩
  rw [hb.block i hi]
  cases hh:W.heap[i]? with
  | none=>rfl
  | some o=>cases o <;> first | rfl | exact ⟨rfl,rfl,rfl,fun _ _=>rfl⟩ | exact .inr ⟨rfl,rfl⟩
theorem post_law {f:Func} {s:ChangeSpec} {apart fresh handsOn again:Bool} {W W':World} {args:Array Value} {ds gs:List (DataW H)} {before:List MemPlace} {tb:TypeId} (hl:laidOutB P = true) (ht:∀ t ∈ f.params.toList,P.readableRec t = true∧t < P.types.size)
    (hres:f.resultTypes = #[tb]) (htb:P.underlying tb = some .bool) (hvars:s.vars = []) (hfn:∀ ds:List (DataW H),ds.length = f.params.size→(s.fn H ds).results = [.lit (.bool true)]∧(s.fn H ds).args = ds∧(s.fn H ds).vars = [])
    (hW:DataW.Whole enc P f.params.toList s.vars apart W args.toList ds gs before) (hb:Below W.heap.size W W'):s.post enc P f apart fresh handsOn again W args (.bool true) W':=by
  have hW0:=hW
  obtain ⟨p,q,hA,hV,hpq,hz,hn⟩:=hW
  rw [hvars] at hV
  obtain ⟨rfl,rfl⟩:=trodVars_none hV
  simp only [List.append_nil] at hpq
  subst hpq
  have hlen:ds.length = f.params.size:=by
    have key:∀ {ts:List TypeId} {vs:List Value} {ds:List (DataW H)} {ps:List MemPlace},DataW.TrodAll enc P W 0 (fun _=>true) true ts vs ds ps→ds.length = ts.length:=by
      intro ts
      induction ts with
      | nil=>intro vs ds ps h; cases vs <;> cases ds <;> first | rfl | exact h.elim
      | cons t ts ih =>
        intro vs ds ps h
        cases vs <;> cases ds <;> first | exact h.elim | skip
        obtain ⟨_,_,_,h2,_⟩:=h
        simp [ih h2]
    have:=key hA
    simpa using this
  obtain ⟨hr1,hr2,hr3⟩:=hfn (ds++[]) (by simpa using hlen)
  have hlt:∀ x ∈ before,x.block < W.heap.size:=fun x hx=>by simpa using hW0.lt x hx
  have hsame:∀ x ∈ before,W.sameAt W' x:=fun x hx=>hb.same (hlt x hx)
  have hret:∀ (b:Nat) (sp:Nat→Bool) (hd:Bool),DataW.TrodAll enc P W' b sp hd f.resultTypes.toList ((Value.bool true).resultList f.resultTypes.size) (s.fn H (ds++[])).results []:=by
    intro b sp hd
    rw [hr1,hres]
    refine ⟨[],[],⟨1,?_⟩,rfl,rfl⟩
    simp [DataW.trod,htb,Value.cells]
  have hargs:∀ sp:Nat→Bool,(∀ p ∈ before,sp p.block = true)→DataW.TrodAll enc P W' 0 sp true f.params.toList args.toList (s.fn H (ds++[])).args before:=by
    intro sp hsp
    rw [hr2,List.append_nil]
    exact jm hl ht hA hsame hsp
  have hvs:∀ sp:Nat→Bool,DataW.TrodVars enc P W' sp s.vars (s.fn H (ds++[])).vars []:=by
    intro sp
    rw [hvars,hr3]
    rfl
  refine ⟨ds,[],before,[],before,[],hW0,hret _ _ _,hargs _ (fun x hx=>by simpa using hlt x hx),hvs _,nz hb,fun _=>?_⟩
  refine ⟨fun j t r hj hr=>?_,_,_,([]++before)++[],⟨[]++before,[],trodAll_append (hargs _ (fun _ _=>rfl)) (hret _ _ _),hvs _,rfl,?_,?_⟩,?_⟩
  · rw [hres] at hj hr
    match j with
    | 0 =>
      simp [Value.resultList] at hj hr
      subst hj; subst hr
      simp [Value.okWide,htb,Cell.okWide,Cell.ok]
    | j + 1=>simp at hj
  · intro b off hp
    have hp':(MemPlace.cell b off) ∈ before:=by simpa using hp
    have h1:=hz b off hp'
    have h2:=hlt _ hp'
    unfold World.frozen? at h1 ⊢
    rw [hb.block b h2]; exact h1
  · intro ha
    have:=hn ha
    simpa using this
  · intro x hx _
    simpa using hx
theorem wrap_nb {b:Bool} {l:List AV} (h:∀ c ∈ l,c.NB):(iH b l).NB:=by
  cases b
  · cases l with
    | nil=>exact .any
    | cons c r=>exact h c (List.mem_cons_self ..)
  · exact .agg _ h
theorem j7:∀ (s:Sh) (x:s.T),∀ c ∈ s.cells x,c.NB
  | .bool,b,c,h=>by simp only [Sh.cells,List.mem_singleton] at h; subst h; exact .lit _
  | .int _,b,c,h=>by simp only [Sh.cells,List.mem_singleton] at h; subst h; exact .lit _
  | .str,b,c,h=>by simp only [Sh.cells,List.mem_singleton] at h; subst h; exact .lit _
  | .sl e, l, c, h => by
    simp only [Sh.cells,List.mem_singleton] at h; subst h
    refine .sl _ _ _ fun v hv=>?_
    obtain ⟨y,_,rfl⟩:=List.mem_map.1 hv
    exact wrap_nb (j7 e y)
  | .unit,_,c,h=>by simp [Sh.cells] at h
  | .pair a r, x, c, h => by
    simp only [Sh.cells,List.mem_append] at h
    exact h.elim (j7 a x.1 c) (j7 r x.2 c)
theorem avsOf_nb:∀ (s:Sh) (x:s.T),∀ c ∈ fG s x,c.NB
  | .pair a r, x, c, h => by
    simp only [fG,List.mem_cons] at h
    rcases h with rfl | h
    · exact wrap_nb (j7 a x.1)
    · exact avsOf_nb r x.2 c h
  | .bool,_,c,h=>by simp [fG] at h
  | .int _,_,c,h=>by simp [fG] at h
  | .str,_,c,h=>by simp [fG] at h
  | .sl _,_,c,h=>by simp [fG] at h
  | .unit,_,c,h=>by simp [fG] at h
theorem law_calls {f:FuncId} {fn:Func} {s:ChangeSpec} {apart fresh handsOn again:Bool} {tb:TypeId} {S:Sh} (hl:laidOutB P = true) (ht:∀ t ∈ fn.params.toList,P.readableRec t = true∧t < P.types.size)
    (hS:parS P fn.params.toList = some S) (hres:fn.resultTypes = #[tb]) (htb:P.underlying tb = some .bool) (hvars:s.vars = []) (hfn:∀ ds:List (DataW H),ds.length = fn.params.size→(s.fn H ds).results = [.lit (.bool true)]∧(s.fn H ds).args = ds∧(s.fn H ds).vars = [])
    (hlaw:∀ x:S.T,S.ok x→bF P f (fG S x) ⟨[]⟩ (.lit (.bool true)))
    (W:World) (b0:Nat) (args:Array Value) (ds gs:List (DataW H)) (before:List MemPlace) (hval:∀ (j:Nat) t v,fn.params[j]? = some t→args[j]? = some v→Value.okWide P W .any b0 t v)
    (hW:DataW.Whole enc P fn.params.toList s.vars apart W args.toList ds gs before):Calls P f args W fun e W'=>∃ v,e = .returned v∧s.post enc P fn apart fresh handsOn again W args v W':=by
  have hW0:=hW
  obtain ⟨p,q,hA,_⟩:=hW
  let g0:Gh:=⟨W.heap.size,fun b o=>W.cell? ⟨b,o,none⟩,fun _=>none,fun _ _=>none,fun _=>none⟩
  have hg:Good g0 W:=⟨fun _ _ _ h=>h,fun _ _ _ _=>.inl rfl,(fun b c hc=>by cases hc),Nat.le_refl _⟩
  have hbx:BoxR g0 W ⟨[]⟩:=⟨fun _ _=>rfl,fun id cs hc=>by simp at hc,fun id bx hc=>by simp at hc⟩
  obtain ⟨x,hx,hargs⟩:=args_R (g:=g0) (b0:=b0) (fun b o u h=>h) hS hA (fun j t v ht hv=>hval j t v (by simpa using ht) (by simpa using hv))
  refine (hlaw x hx g0 W args (fun _=>.box 0 0) hg hbx (by simpa using hargs)).mono fun e W' ⟨u,g',he,hle,hR,_⟩=>?_
  have hu:=hR.lit_inv.1
  subst hu
  exact ⟨_,he,post_law hl ht hres htb hvars hfn hW0 hle.below⟩
theorem law_top {f:FuncId} {fn:Func} {s:ChangeSpec} {apart fresh handsOn again:Bool} {tb:TypeId} {S:Sh} (hl:laidOutB P = true) (ht:(fn.params.toList.all fun t=>P.readableRec t && decide (t < P.types.size)) = true)
    (hS:parS P fn.params.toList = some S) (hres:fn.resultTypes = #[tb]) (htb:P.underlying tb = some .bool) (hvars:s.vars = []) (hfn:∀ ds:List (DataW H),ds.length = fn.params.size→(s.fn H ds).results = [.lit (.bool true)]∧(s.fn H ds).args = ds∧(s.fn H ds).vars = [])
    (hlaw:∀ x:S.T,S.ok x→bz P f (fG S x) ⟨[]⟩ fun v _=>v = .lit (.bool true))
    (W:World) (b0:Nat) (args:Array Value) (ds gs:List (DataW H)) (before:List MemPlace) (hval:∀ (j:Nat) t v,fn.params[j]? = some t→args[j]? = some v→Value.okWide P W .any b0 t v)
    (hW:DataW.Whole enc P fn.params.toList s.vars apart W args.toList ds gs before):Calls P f args W fun e W'=>∃ v,e = .returned v∧s.post enc P fn apart fresh handsOn again W args v W':=by
  refine law_calls hl (fun t h=>by have:=List.all_eq_true.1 ht t h; simpa using this) hS hres htb hvars hfn (fun x hx=>?_) W b0 args ds gs before hval hW
  refine pure_of ((hlaw x hx).mono fun v st e=>by subst e; exact .le _ _ (.refl _) (.lit _)) (fun v hv=>avsOf_nb S x v hv) _
end
end Go.Fx
/- Code that is carried out: an evaluator, and that it is right. -/
namespace Go.Fx
open Go
section
variable (F:Nat→FuncId) (call:FuncId→List AV→St→Option (AV×St)) (pc:FuncId→List AV→Option AV)
end
section
variable {P:Program} {F:Nat→FuncId} {call:FuncId→List AV→St→Option (AV×St)} {pc:FuncId→List AV→Option AV}
def TabOk (P:Program) (F:Nat→FuncId) (T:FuncId→Option AFun):Prop:=∀ q fn,T q = some fn→aX P q = true∧∃ X:Cx,X.F = F∧bT P X q = some fn
end
end Go.Fx
/- Evaluation by rewriting: small equations, and steps at branches. -/
namespace Go.Fx
open Go
section
variable (v:Value) (vs cs:List AV) (i o k s t n l c:Nat) (b:Bool) (x:AV) (f:Fn) (w:Option Nat)
theorem dis_any:AV.any.dis = .any:=rfl
theorem bH:(AV.lit v).dis = .lit v:=rfl
theorem eP:(AV.ptr i o).dis = .ptr i o:=rfl
theorem br:(AV.sl b k cs).dis = .sl false k cs:=rfl
theorem b7:(AV.map i).dis = .map i:=rfl
theorem dis_yld (i:Nat):(AV.yld i).dis = .yld i:=rfl
theorem dis_fn:(AV.fn f vs cs).dis = .fn f vs cs:=rfl
theorem ah:(AV.agg cs).dis = .agg (cs.map AV.own1):=rfl
theorem bS:(AV.tup cs).dis = .tup (cs.map AV.own2):=rfl
theorem b4:(AV.bs i k o l c).dis = .bs i k o l c:=rfl
theorem aa:(AV.lit v).own1 = .lit v:=rfl
theorem own1_ptr:(AV.ptr i o).own1 = .ptr i o:=rfl
theorem mE:(AV.map i).own1 = .map i:=rfl
theorem bC:(AV.lit v).own2 = .lit v:=rfl
theorem own2_ptr:(AV.ptr i o).own2 = .ptr i o:=rfl
theorem cq:(AV.agg cs).own2 = .agg (cs.map AV.own1):=rfl
theorem d5:(AV.bs i k o l c).own2 = .bs i k o l c:=rfl
theorem aZ:(AV.lit v).cells = [.lit v]:=rfl
theorem kL:(AV.ptr i o).cells = [.ptr i o]:=rfl
theorem gE:(AV.sl b k cs).cells = [.sl b k cs]:=rfl
theorem iU:(AV.map i).cells = [.map i]:=rfl
theorem ag:(AV.agg cs).cells = cs:=rfl
theorem af:(AV.lit v).solid1 = true:=rfl
theorem jy:(AV.ptr i o).solid1 = true:=rfl
theorem fo:(AV.sl b k cs).solid1 = true:=rfl
theorem fH:(AV.map i).solid1 = true:=rfl
theorem al:x.solid = x.cells.all AV.solid1:=rfl
theorem noL_any:AV.any.noL = true:=rfl
theorem noL_lit:(AV.lit v).noL = true:=rfl
theorem iV:(AV.ptr i o).noL = true:=rfl
theorem kM:(AV.sl b k cs).noL = true:=rfl
theorem noL_map:(AV.map i).noL = true:=rfl
theorem noL_fn:(AV.fn f vs cs).noL = true:=rfl
theorem bO:(AV.agg cs).noL = true:=rfl
theorem aR:(AV.tup cs).noL = true:=rfl
theorem gk:(AV.bs i k o l c).noL = true:=rfl
theorem iI:kill s .any = .any:=rfl
theorem aF:kill s (.lit v) = .lit v:=rfl
theorem cb:kill s (.ptr i o) = .ptr i o:=rfl
theorem aV:kill s (.lptr t o) = if t = s then .any else .lptr t o:=rfl
theorem ob:kill s (.cptr cs) = .cptr cs:=rfl
theorem eQ:kill s (.sl b k cs) = .sl b k cs:=rfl
theorem dX:kill s (.map i) = .map i:=rfl
theorem aB:kill s (.agg cs) = .agg cs:=rfl
theorem cC:kill s (.tup cs) = .tup cs:=rfl
theorem gY:kill s (.bs i k o l c) = .bs i k o l c:=rfl
end
section
variable (F:Nat→FuncId) (sf:Sf) (t g:Nat) (v:AV) (st:St)
theorem ev_r:sf.ev F (.r t) = sf.reg t:=rfl
theorem ev_c:sf.ev F (.c v) = v:=rfl
theorem ev_f:sf.ev F (.f g) = .fn (.func (F g)) [] []:=rfl
theorem ar:sf.evOwn F (.r t) = sf.reg t:=rfl
theorem aG:sf.disOp (.r t) = sf.disAt t:=rfl
theorem setB_r (b:Bool):(Opd.r t).setB sf b = sf.set t (.lit (.bool b)):=rfl
theorem putS (d:Nat):sf.put (some d) v = sf.set d v:=rfl
theorem putN:sf.put none v = sf:=rfl
variable (k k':IntKind) (a b:Int) (p q:Bool) (sa sb:ByteArray)
theorem cZ:binI .num .add (.lit (.int k a)) (.lit (.int k b)) = .ok (.lit (.int k (k.wrap (a + b)))):=by cases k <;> rfl
theorem n_sub:binI .num .sub (.lit (.int k a)) (.lit (.int k b)) = .ok (.lit (.int k (k.wrap (a - b)))):=by cases k <;> rfl
theorem ci:binI .num .eql (.lit (.int k a)) (.lit (.int k b)) = .ok (.lit (.bool (decide (a = b)))):=by cases k <;> rfl
theorem cA:binI .num .neq (.lit (.int k a)) (.lit (.int k b)) = .ok (.lit (.bool (decide (¬ a = b)))):=by
  have h:(a != b) = decide (¬ a = b):=by rw [bne_eq,decide_not]; rfl
  rw [← h]
  cases k <;> rfl
theorem bd:binI .num .lss (.lit (.int k a)) (.lit (.int k b)) = .ok (.lit (.bool (decide (a < b)))):=by cases k <;> rfl
theorem fI:binI .num .leq (.lit (.int k a)) (.lit (.int k b)) = .ok (.lit (.bool (decide (a≤b)))):=by cases k <;> rfl
theorem cr:binI .num .gtr (.lit (.int k a)) (.lit (.int k b)) = .ok (.lit (.bool (decide (a > b)))):=by cases k <;> rfl
theorem c8:binI .num .geq (.lit (.int k a)) (.lit (.int k b)) = .ok (.lit (.bool (decide (a ≥ b)))):=by cases k <;> rfl
end
theorem bD {A:Type} {p:Prop} [Decidable p] {r:Res A} {K:A→Prop} (h:p):(Res.req (decide p) r).wp K = r.wp K:=by
  rw [wp_req,decide_eq_true h]
  exact propext ⟨fun q=>q.2,fun q=>⟨rfl,q⟩⟩
theorem aA {A:Type} {r:Res A} {K:A→Prop}:(Res.req true r).wp K = r.wp K:=propext ⟨fun q=>q.2,fun q=>⟨rfl,q⟩⟩
section
variable {x:Opd} {p:Prop} [Decidable p] {A B:Sf→St→(Exit→Sf→St→Prop)→Prop} {sf:Sf} {st:St} {Q:Exit→Sf→St→Prop} {t:Nat} {b:Bool} {Y N:Sf→St→Prop}
theorem oV:j1 x (.lit (.bool true)) A B sf st Q = A (x.setB sf true) st Q:=by
  rw [condI_eq]; exact propext ⟨fun h=>h.1 rfl,fun h=>⟨fun _=>h,fun e=>by cases e⟩⟩
theorem oW:j1 x (.lit (.bool false)) A B sf st Q = B (x.setB sf false) st Q:=by
  rw [condI_eq]; exact propext ⟨fun h=>h.2 rfl,fun h=>⟨fun e=>(by cases e),fun _=>h⟩⟩
theorem aS (h:p):j1 x (.lit (.bool (decide p))) A B sf st Q = A (x.setB sf true) st Q:=by
  rw [decide_eq_true h,oV]
theorem a8 (h:¬ p):j1 x (.lit (.bool (decide p))) A B sf st Q = B (x.setB sf false) st Q:=by
  rw [decide_eq_false h,oW]
theorem bj {want:Bool}:gh t want (.lit (.bool true)) Y N sf st = if want = true then Y (sf.set t (.lit (.bool true))) st else N (sf.set t (.lit (.bool true))) st:=by
  rw [n8]
  cases want
  · exact propext ⟨fun h=>h.2 rfl,fun h=>⟨fun e=>(by cases e),fun _=>h⟩⟩
  · exact propext ⟨fun h=>h.1 rfl,fun h=>⟨fun _=>h,fun e=>(by cases e)⟩⟩
theorem aD {want:Bool}:gh t want (.lit (.bool false)) Y N sf st = if want = true then N (sf.set t (.lit (.bool false))) st else Y (sf.set t (.lit (.bool false))) st:=by
  rw [n8]
  cases want
  · exact propext ⟨fun h=>h.1 rfl,fun h=>⟨fun _=>h,fun e=>(by cases e)⟩⟩
  · exact propext ⟨fun h=>h.2 rfl,fun h=>⟨fun e=>(by cases e),fun _=>h⟩⟩
theorem cc (h:p) {want:Bool}:gh t want (.lit (.bool (decide p))) Y N sf st = if want = true then Y (sf.set t (.lit (.bool true))) st else N (sf.set t (.lit (.bool true))) st:=by
  rw [decide_eq_true h,bj]
theorem bk (h:¬ p) {want:Bool}:gh t want (.lit (.bool (decide p))) Y N sf st = if want = true then N (sf.set t (.lit (.bool false))) st else Y (sf.set t (.lit (.bool false))) st:=by
  rw [decide_eq_false h,aD]
end
def mF:List Nat→List (Nat×AV)→List (Nat×AV)
  | [],_=>[]
  | t::r,l=>(t,getR l t)::mF r l
theorem oc (l:List (Nat×AV)):mF [] l = []:=rfl
theorem mG (t:Nat) (r:List Nat) (l:List (Nat×AV)):mF (t::r) l = (t,getR l t)::mF r l:=rfl
theorem mask_eq (sf:Sf) (lv ll:List Nat):sf.mask lv ll = ⟨mF lv sf.regs,ae ll sf.locs⟩:=by
  have:∀ lv:List Nat,(lv.map fun t=>(t,sf.reg t)) = mF lv sf.regs:=by
    intro lv
    induction lv with
    | nil=>rfl
    | cons t r ih=>simp only [List.map_cons,mF,ih]; rfl
  unfold Sf.mask
  rw [this]
theorem bK {p q:Prop} (h:p):(p∧q) = q:=propext ⟨fun a=>a.2,fun a=>⟨h,a⟩⟩
theorem fZ {n bytes:Nat} (h:n * bytes≤140737488355328∧n≤1000000000000000):je n bytes = true:=decide_eq_true h
theorem gZ (k:NilK) (x y:AV):binI (.nil k) .eql x y = (Res.ofOpt (ez k x y)).bind fun b=>.ok (.lit (.bool b)):=rfl
theorem b_eql (a b:Bool):binI .bool .eql (.lit (.bool a)) (.lit (.bool b)) = .ok (.lit (.bool (a == b))):=rfl
theorem mH (c:AV) (r:List AV):jN none (c::r) = .ok c:=rfl
theorem ai (n:Nat) (r:List AV):jN (some n) r = .req (decide (n≤r.length)) (.ok (.agg (r.take n))):=rfl
section
variable (c a b:AV) (q:Bool) (vs:List AV) (i:Nat)
theorem ba:pickV (.lit (.bool true)) a b = .ok a.dis:=rfl
theorem aW:pickV (.lit (.bool false)) a b = .ok b.dis:=rfl
end
end Go.Fx
/- What lI of weaker demands; loops that are carried out round by round. -/
namespace Go.Fx
open Go
section
variable {P:Program} {F:Nat→FuncId} {m:Bool}
theorem callI_mono {p:Bool} {d:Option Nat} {f:AV} {args:List AV} {K K':Sf→St→Prop} {sf:Sf} {st:St} (h:∀ sf st,K sf st→K' sf st):ji P m p d f args K sf st→ji P m p d f args K' sf st:=by
  unfold ji
  split
  · rintro ⟨h1,h2⟩
    refine ⟨h1,?_⟩
    split
    · rename_i e; rw [if_pos e] at h2; obtain ⟨a,v,b,c⟩:=h2; exact ⟨a,v,b,h _ _ c⟩
    · rename_i e; rw [if_neg e] at h2; obtain ⟨a,Q,b,c⟩:=h2; exact ⟨a,Q,b,fun v st' q=>h _ _ (c v st' q)⟩
  · rintro ⟨h1,h2,Q,h3,h4⟩; exact ⟨h1,h2,Q,h3,fun t st' q=>h _ _ (h4 t st' q)⟩
  · exact id
theorem appX_mono {m:Bool} {k bytes:Nat} {b:AV} {C C':AV→St→Prop} {st:St} {new:List AV} (h:∀ v st,C v st→C' v st):appX m k bytes b C st new→appX m k bytes b C' st new:=by
  unfold appX
  split
  · rintro ⟨h1,h2,h3,h4⟩
    refine ⟨h1,h2,h3,Res.wp_mono h4 fun cs hc=>?_⟩
    split
    · rename_i e; rw [if_pos e] at hc; exact ⟨hc.1,h _ _ hc.2⟩
    · rename_i e; rw [if_neg e] at hc; exact ⟨hc.1,fun c hc'=>h _ _ (hc.2 c hc')⟩
  · rintro ⟨h1,h2,h3⟩
    refine ⟨h1,h2,?_⟩
    split
    · rename_i e; rw [if_pos e] at h3; exact h _ _ h3
    · rename_i e; rw [if_neg e] at h3; exact fun c hc=>h _ _ (h3 c hc)
  · exact id
theorem stepX_mono {i:XI} {d:Option Nat} {K K':Sf→St→Prop} {sf:Sf} {st:St} (h:∀ sf st,K sf st→K' sf st):cv F m i d K sf st→cv F m i d K' sf st:=by
  have hk:∀ v st,putK K d sf v st→putK K' d sf v st:=fun v st=>h _ _
  cases i with
  | bad=>exact id
  | nilU op x y =>
    simp only [cv,nilX]
    split
    · exact fun q b=>hk _ _ (q b)
    · exact fun q=>Res.wp_mono q fun v=>hk v st
  | appB s k bytes y=>exact fun q=>Res.wp_mono q fun es=>appX_mono hk
  | copyB k x y =>
    refine fun q=>Res.wp_mono q fun es=>?_
    unfold copyX
    split
    · rintro ⟨h1,h2,h3,h4⟩; exact ⟨h1,h2,h3,Res.wp_mono h4 fun cs hc=>⟨hc.1,hk _ _ hc.2⟩⟩
    · exact fun q=>⟨q.1,hk _ _ q.2⟩
    · exact fun q=>⟨q.1,hk _ _ q.2⟩
    · exact id
  | clrB k z x =>
    simp only [cv,clrX]
    split
    · rintro ⟨h1,h2,h4⟩; exact ⟨h1,h2,Res.wp_mono h4 fun cs hc=>⟨hc.1,hk _ _ hc.2⟩⟩
    · exact hk _ _
    · exact id
  | clrM x =>
    simp only [cv,clrMX]
    split
    · rintro ⟨h1,h4⟩; exact ⟨h1,Res.wp_mono h4 fun cs hc=>hk _ _ hc⟩
    · exact hk _ _
    · exact id
  | mksB k bytes z l c =>
    simp only [cv,mksBX]
    split
    · rintro ⟨h1,h2,h3,h4,h5,h6⟩; exact ⟨h1,h2,h3,h4,h5,hk _ _ h6⟩
    · exact id
  | mks k bytes z l c =>
    simp only [cv,mksX]
    split
    · rintro ⟨h2,h3,h4,h5,h6⟩; exact ⟨h2,h3,h4,h5,hk _ _ h6⟩
    · exact id
  | mknz x =>
    simp only [cv,mknzX]
    split
    · rintro ⟨h2,h3,h4,h5⟩; exact ⟨h2,h3,h4,fun c hc=>hk _ _ (h5 c hc)⟩
    · exact id
  | slA n k x lo hi mx =>
    simp only [cv,slAX]
    split
    · exact fun q=>Res.wp_mono q fun v=>hk v st
    · exact id
  | rng x =>
    simp only [cv,rngX]
    split
    · exact fun q=>Res.wp_mono q fun _=>hk _ _
    · exact hk _ _
    · exact id
  | nxt s =>
    simp only [cv,nxtX]
    split
    · exact h _ _
    · refine fun q=>Res.wp_mono q fun es ⟨h1,h2,h3,h4⟩=>⟨h1,h2,fun i k x b a1 a2 a3=>h _ _ (h3 i k x b a1 a2 a3),fun a=>h _ _ (h4 a)⟩
    · exact id
  | ent s =>
    simp only [cv,entX]
    split
    · exact fun q=>Res.wp_mono q fun es ⟨h1,i,k,x,b,h2,h3,h4,h5⟩=>⟨h1,i,k,x,b,h2,h3,h4,hk _ _ h5⟩
    · exact id
  | mclone x =>
    simp only [cv,jT]
    split
    · rintro ⟨h1,h4⟩; exact ⟨h1,Res.wp_mono h4 fun cs hc=>hk _ _ hc⟩
    · exact id
  | bstO places z parts=>exact fun q=>Res.wp_mono q fun v=>h _ _
theorem kN {i:AI} {K K':Sf→St→Prop} {sf:Sf} {st:St} (h:∀ sf st,K sf st→K' sf st):oneI P F m i K sf st→oneI P F m i K' sf st:=by
  unfold oneI
  split
  · exact callI_mono h
  · exact stepX_mono h
  · exact fun q=>Res.wp_mono q fun r=>h r.1 r.2
theorem dJ:∀ {l:List GI} {K K':Sf→St→Prop} {sf:Sf} {st:St},(∀ sf st,K sf st→K' sf st)→runI P F m l K sf st→runI P F m l K' sf st
  | [],K,K',sf,st,h=>h _ _
  | ⟨none, i⟩ :: r, K, K', sf, st, h => by
    simp only [runI]
    exact kN fun sf st=>dJ h
  | ⟨some (t, want), i⟩ :: r, K, K', sf, st, h => by
    simp only [runI,gh]
    split
    · intro q c hc
      have q:=q c hc
      split
      · rename_i e; rw [if_pos e] at q; exact kN (fun sf st=>dJ h) q
      · rename_i e; rw [if_neg e] at q; exact dJ h q
    · exact fun ⟨a,b⟩=>⟨kN (fun sf st=>dJ h) a,dJ h b⟩
    · exact dJ h
    · exact id
theorem j8 {locs0:List (Nat×List AV)} {st:St} {i:AI} {C C':PK→Sf→Prop} {sf:Sf} (h:∀ k sf,C k sf→C' k sf):cg P F locs0 st i C sf→cg P F locs0 st i C' sf:=by
  unfold cg
  split
  · unfold iA
    split
    · rintro ⟨h1,h2,v,h3,h4⟩; exact ⟨h1,h2,v,h3,h _ _ h4⟩
    · exact id
  · exact h _ _
  · unfold ef
    split
    · unfold eJ
      split
      · rintro ⟨h1,h2,h3,h4⟩; exact ⟨h1,h2,h3,h _ _ h4⟩
      · exact id
    · unfold jZ
      split
      · rintro ⟨h1,h2,h3⟩; exact ⟨h1,h2,h _ _ h3⟩
      · exact id
    · exact id
  · unfold oO
    split
    · exact fun q=>Res.wp_mono q fun v=>h _ _
    · exact fun q=>Res.wp_mono q fun v=>h _ _
  · exact fun q=>Res.wp_mono q fun v=>h _ _
theorem fJ {locs0:List (Nat×List AV)} {st:St}:∀ {l:List GI} {K K':List PK→Sf→Prop} {ks:List PK} {sf:Sf},(∀ ks sf,K ks sf→K' ks sf)→a9 P F locs0 st l K ks sf→a9 P F locs0 st l K' ks sf
  | [],K,K',ks,sf,h=>h _ _
  | ⟨none, i⟩ :: r, K, K', ks, sf, h => by
    simp only [a9]
    exact j8 fun k sf=>fJ h
  | ⟨some (t, want), i⟩ :: r, K, K', ks, sf, h => by
    simp only [a9,di]
    split
    · intro q c hc
      have q:=q c hc
      split
      · rename_i e; rw [if_pos e] at q; exact j8 (fun k sf=>fJ h) q
      · rename_i e; rw [if_neg e] at q; exact fJ h q
    · exact fJ h
    · exact id
theorem gF {locs0:List (Nat×List AV)} {ρ:St} {i:AI} {C C':PK→Sf→Prop} {sf:Sf} (h:∀ k sf,C k sf→C' k sf):oneM P F locs0 ρ i C sf→oneM P F locs0 ρ i C' sf:=by
  unfold oneM
  split
  · unfold mq
    split
    · rintro ⟨h1,h2,v,h3,h4⟩; exact ⟨h1,h2,v,h3,h _ _ h4⟩
    · exact id
  · exact h _ _
  · unfold ef
    split
    · unfold eJ
      split
      · rintro ⟨h1,h2,h3,h4⟩; exact ⟨h1,h2,h3,h _ _ h4⟩
      · exact id
    · unfold jZ
      split
      · rintro ⟨h1,h2,h3⟩; exact ⟨h1,h2,h _ _ h3⟩
      · exact id
    · exact id
  · exact fun q=>Res.wp_mono q fun v=>h _ _
theorem iJ {t:Nat} {want:Bool} {v:AV} {Y Y' N N':Sf→Prop} {sf:Sf} (hy:∀ sf,Y sf→Y' sf) (hn:∀ sf,N sf→N' sf):di t want v Y N sf→di t want v Y' N' sf:=by
  unfold di
  split
  · intro q c hc
    have q:=q c hc
    split
    · rename_i e; rw [if_pos e] at q; exact hy _ q
    · rename_i e; rw [if_neg e] at q; exact hn _ q
  · exact hn _
  · exact id
theorem gG {locs0:List (Nat×List AV)} {ρ:St}:∀ {l:List GI} {K K':List PK→Sf→Prop} {ks:List PK} {sf:Sf},(∀ ks sf,K ks sf→K' ks sf)→preM P F locs0 ρ l K ks sf→preM P F locs0 ρ l K' ks sf
  | [],K,K',ks,sf,h=>h _ _
  | ⟨none, i⟩ :: r, K, K', ks, sf, h => by
    simp only [preM]
    exact gF fun v sf=>gG h
  | ⟨some (t, want), i⟩ :: r, K, K', ks, sf, h => by
    simp only [preM]
    exact iJ (fun sf=>gF fun v sf=>gG h) fun sf=>gG h
theorem fK {locs0:List (Nat×List AV)} {ρ:St}:∀ {l:List (Bool×GI)} {K K':List PK→Prop} {ks:List PK} {sf:Sf},(∀ ks,K ks→K' ks)→dA P F locs0 ρ l K ks sf→dA P F locs0 ρ l K' ks sf
  | [],K,K',ks,sf,h=>h _
  | (true, g) :: r, K, K', ks, sf, h => by
    simp only [dA]
    exact fK h
  | (false, ⟨none, i⟩) :: r, K, K', ks, sf, h => by
    simp only [dA]
    exact gF fun v sf=>fK h
  | (false, ⟨some (t, want), i⟩) :: r, K, K', ks, sf, h => by
    simp only [dA]
    exact iJ (fun sf=>gF fun v sf=>fK h) fun sf=>fK h
theorem callM_mono {locs0:List (Nat×List AV)} {ρ st:St} {d:Option Nat} {f:AV} {args:List AV} {post:List (Bool×GI)} {drop:List Nat} {T T':St→Sf→Prop} {ks1:List PK} {sf:Sf} (h:∀ st sf,T st sf→T' st sf):mr P F locs0 ρ st d f args post drop T ks1 sf→mr P F locs0 ρ st d f args post drop T' ks1 sf:=by
  unfold mr
  split
  · rintro ⟨h1,h2,Qc,h3,h4⟩
    exact ⟨h1,h2,Qc,h3,fK (fun ks hk=>⟨hk.1,fun v s hq=>⟨(hk.2 v s hq).1,gG (fun ks sf hp=>⟨hp.1,hp.2.1,h _ _ hp.2.2⟩) (hk.2 v s hq).2⟩⟩) h4⟩
  · exact id
theorem oneG1_mono {ρ:St} {i:AI} {C C':PK→Sf→Prop} {sf:Sf} (h:∀ k sf,C k sf→C' k sf):li P F ρ i C sf→li P F ρ i C' sf:=by
  unfold li
  split
  · unfold mw
    split
    · rintro ⟨h1,h2,v,h3,h4⟩; exact ⟨h1,h2,v,h3,h _ _ h4⟩
    · exact id
  · exact id
theorem od {locs0:List (Nat×List AV)} {ρ:St} {b:Bool} {i:AI} {C C':PK→Sf→Prop} {sf:Sf} (h:∀ k sf,C k sf→C' k sf):oneB P F locs0 ρ b i C sf→oneB P F locs0 ρ b i C' sf:=by
  cases b
  · exact gF h
  · exact oneG1_mono h
theorem iW {locs0:List (Nat×List AV)} {ρ:St}:∀ {l:List (Bool×GI)} {K K':List PK→Sf→Prop} {ks:List PK} {sf:Sf},(∀ ks sf,K ks sf→K' ks sf)→preG P F locs0 ρ l K ks sf→preG P F locs0 ρ l K' ks sf
  | [],K,K',ks,sf,h=>h _ _
  | (b, ⟨none, i⟩) :: r, K, K', ks, sf, h => by
    simp only [preG]
    exact od fun v sf=>iW h
  | (b, ⟨some (t, want), i⟩) :: r, K, K', ks, sf, h => by
    simp only [preG]
    exact iJ (fun sf=>od fun v sf=>iW h) fun sf=>iW h
theorem aC_mono:∀ {c:AC} {Q Q':Exit→Sf→St→Prop} {sf:Sf} {st:St},(∀ e sf st,Q e sf st→Q' e sf st)→aC P F m c sf st Q→aC P F m c sf st Q':=by
  intro c
  induction c with
  | skip=>intro Q Q' sf st h; exact h _ _ _
  | ops lv ll l=>intro Q Q' sf st h; exact dJ fun sf st=>h _ _ _
  | draw lv ll dr hl tl=>intro Q Q' sf st h; exact fJ fun ks sf ⟨h1,h2⟩=>⟨h1,dJ (fun sf st=>h _ _ _) h2⟩
  | drawM lv ll pre d f args post tl =>
    intro Q Q' sf st h
    rintro ⟨hm,ρ,hs,hp⟩
    exact ⟨hm,ρ,hs,gG (fun ks sf=>callM_mono fun st sf=>dJ fun sf st=>h _ _ _) hp⟩
  | drawG lv ll dr fl tl=>intro Q Q' sf st h; exact fun ⟨hm,q⟩=>⟨hm,iW (fun ks sf ⟨h1,h2⟩=>⟨h1,fun s a b=>dJ (fun sf st=>h _ _ _) (h2 s a b)⟩) q⟩
  | seq a b iha ihb =>
    intro Q Q' sf st h
    exact iha fun e sf st=>by
      cases e with
      | normal=>exact ihb h
      | _=>exact h _ _ _
  | cond x a b iha ihb =>
    intro Q Q' sf st h
    simp only [aC,j1]
    split
    · exact fun q=>⟨fun e=>iha h (q.1 e),fun e=>ihb h (q.2 e)⟩
    · exact id
  | block id b ih =>
    intro Q Q' sf st h
    exact ih fun e sf st=>by
      cases e with
      | exit i =>
        simp only [fF]
        split
        · exact h _ _ _
        · exact h _ _ _
      | _=>exact h _ _ _
  | loop lv ll b ih =>
    intro Q Q' sf st h
    rintro ⟨I,h0,hr⟩
    exact ⟨I,h0,fun k sf st hi=>ih (fun e sf st=>by
      cases e with
      | normal=>exact fun q=>q
      | _=>exact h _ _ _) (hr k sf st hi)⟩
  | exit lv ll id=>intro Q Q' sf st h; exact h _ _ _
  | scope b ih =>
    intro Q Q' sf st h
    exact ih fun e sf st=>by
      cases e with
      | goto l=>exact fun q=>q
      | _=>exact h _ _ _
  | rangeF lv ll x ps lb a b _ _ =>
    intro Q Q' sf st h
    rintro ⟨hm,hr⟩
    refine ⟨hm,?_⟩
    unfold kI at hr ⊢
    split at hr
    · obtain ⟨h1,h2⟩:=hr
      refine ⟨h1,fun r hy=>?_⟩
      obtain ⟨Qc,h3,h4⟩:=h2 r hy
      refine ⟨Qc,h3,fun v st' q=>?_⟩
      rcases h4 v st' q with ⟨a,b⟩ | ⟨a,b⟩ | ⟨k,a,b⟩
      · exact .inl ⟨a,h _ _ _ b⟩
      · exact .inr (.inl ⟨a,h _ _ _ b⟩)
      · exact .inr (.inr ⟨k,a,h _ _ _ b⟩)
    · exact hr.elim
  | ret=>intro Q Q' sf st h; exact h _ _ _
  | bad=>intro Q Q' sf st h; exact fun q=>q
end
theorem tabOk_nil {P:Program} {F:Nat→FuncId}:TabOk P F (fun _=>none):=fun q fn h=>by cases h
theorem aE {P:Program} {F:Nat→FuncId} {T:FuncId→Option AFun} {n:FuncId} {X:Cx} {c:AFun} (h1:aX P n = true) (h2:bT P X n = some c) (h3:X.F = F) (hT:TabOk P F T):TabOk P F (fun q=>if q = n then some c else T q):=by
  intro q fn h
  by_cases e:q = n
  · subst e
    simp only [if_true,Option.some.injEq] at h
    subst h
    exact ⟨h1,X,h3,h2⟩
  · simp only [e,if_false] at h
    exact hT q fn h
def unrQ (L:Sf→St→Prop) (Q:Exit→Sf→St→Prop):Exit→Sf→St→Prop
  | .normal,sf,st=>L sf st
  | e,sf,st=>Q e sf st
section
variable {P:Program} {F:Nat→FuncId} {m:Bool} {b:AC} {lv ll:List Nat} {Q:Exit→Sf→St→Prop}
def loopN (P:Program) (F:Nat→FuncId) (m:Bool) (b:AC) (lv ll:List Nat) (Q:Exit→Sf→St→Prop):Nat→Sf→St→Prop
  | 0,_,_=>False
  | n + 1,sf,st=>aC P F m b (sf.mask lv ll) st (unrQ (loopN P F m b lv ll Q n) Q)
theorem loop_rounds (n:Nat) {sf:Sf} {st:St} (h:loopN P F m b lv ll Q n sf st):cd (aC P F m b) lv ll sf st Q:=by
  cases n with
  | zero=>exact h.elim
  | succ n =>
    refine ⟨fun k sf st=>aC P F m b sf st (unrQ (loopN P F m b lv ll Q k) Q),⟨n,_,Sf.le_refl _,h⟩,fun k sf st hk=>aC_mono (fun e sf st=>?_) hk⟩
    cases e with
    | normal =>
      cases k with
      | zero=>exact fun q=>q.elim
      | succ k=>exact fun q=>⟨k,Nat.lt_succ_self k,_,Sf.le_refl _,q⟩
    | _=>exact fun q=>q
variable (sf:Sf) (st:St) (L:Sf→St→Prop) (n:Nat)
theorem mI:loopN P F m b lv ll Q (n + 1) sf st = aC P F m b (sf.mask lv ll) st (unrQ (loopN P F m b lv ll Q n) Q):=rfl
theorem unrQ_normal:unrQ L Q .normal sf st = L sf st:=rfl
theorem unrQ_exit (id:Nat):unrQ L Q (.exit id) sf st = Q (.exit id) sf st:=rfl
end
end Go.Fx
/- Lists of cells, boxes and numbers: small laws for evaluation. -/
namespace Go.Fx
open Go
theorem cP (a k:Nat):(a:Int) + (no_index (OfNat.ofNat k)) = ((a + OfNat.ofNat k:Nat):Int):=by exact id rfl
theorem bh:∀ (vs cs:List AV) (i:Nat),(cG cs i vs).length = cs.length
  | [],cs,i=>rfl
  | v::vs,cs,i=>by simp only [cG]; rw [bh vs]; simp
theorem aQ (cs:List AV) (i:Nat):cG cs i [] = cs:=by cases cs <;> rfl
theorem oe:∀ (vs xs rs:List AV),vs.length≤rs.length→cG (xs++rs) xs.length vs = xs++(vs++rs.drop vs.length)
  | [],xs,rs,_=>by simp [cG]
  | v::vs,xs,[],h=>by simp at h
  | v :: vs, xs, r :: rs, h => by
    simp only [cG]
    have h1:(xs++r::rs).set xs.length v = (xs++[v])++rs:=by simp
    have h2:xs.length + 1 = (xs++[v]).length:=by simp
    rw [h1,h2,oe vs (xs++[v]) rs (by simpa using h)]
    simp
theorem gH {vs xs rs:List AV} {n:Nat} (hn:n = xs.length) (h:vs.length≤rs.length):cG (xs++rs) n vs = xs++(vs++rs.drop vs.length):=by subst hn; exact oe vs xs rs h
def Lits (l:List AV):Prop:=∀ x ∈ l,∃ v,x = .lit v
theorem Lits.nil:Lits []:=fun _ h=>by cases h
theorem Lits.app {l l':List AV} (h:Lits l) (h':Lits l'):Lits (l++l'):=fun x hx=>(List.mem_append.1 hx).elim (h x) (h' x)
theorem Lits.drop {l:List AV} (h:Lits l) (n:Nat):Lits (l.drop n):=fun x hx=>h x (List.mem_of_mem_drop hx)
theorem Lits.take {l:List AV} (h:Lits l) (n:Nat):Lits (l.take n):=fun x hx=>h x (List.mem_of_mem_take hx)
theorem Lits.map {A:Type} (f:A→Value) (l:List A):Lits (l.map fun a=>.lit (f a)):=fun x hx=>by
  obtain ⟨a,_,rfl⟩:=List.mem_map.1 hx; exact ⟨_,rfl⟩
theorem Lits.dis {l:List AV} (h:Lits l):l.map AV.dis = l:=by
  induction l with
  | nil=>rfl
  | cons x r ih =>
    obtain ⟨v,rfl⟩:=h x (List.mem_cons_self ..)
    simp only [List.map_cons,bH]
    rw [ih fun y hy=>h y (List.mem_cons_of_mem _ hy)]
theorem Lits.own {l:List AV} (h:Lits l):l.map AV.own1 = l:=by
  induction l with
  | nil=>rfl
  | cons x r ih =>
    obtain ⟨v,rfl⟩:=h x (List.mem_cons_self ..)
    simp only [List.map_cons,aa]
    rw [ih fun y hy=>h y (List.mem_cons_of_mem _ hy)]
theorem Lits.cells {l:List AV} (h:Lits l):l.flatMap AV.cells = l:=by
  induction l with
  | nil=>rfl
  | cons x r ih =>
    obtain ⟨v,rfl⟩:=h x (List.mem_cons_self ..)
    simp only [List.flatMap_cons,aZ]
    rw [ih fun y hy=>h y (List.mem_cons_of_mem _ hy)]
    rfl
theorem Lits.cellsD {l:List AV} (h:Lits l):Fx.cellsD l = l:=by unfold Fx.cellsD; rw [h.dis,h.cells]
theorem Lits.nb {l:List AV} (h:Lits l):∀ x ∈ l,x.NB:=fun x hx=>by obtain ⟨v,rfl⟩:=h x hx; exact .lit v
theorem acalls_id {P:Program} {X:Cx} {f:FuncId} {fn:AFun} {vs:List AV} {st:St} (hmix:P.follows .mixedOrders = true) (hf:bT P X f = some fn) (hX:X.F = id) (hlen:Nat.ble vs.length fn.n = true) {K:AV→St→Prop} (h:aFun P id false fn vs st K):bz P f vs st K:=by
  refine acalls_of hmix hf (Nat.le_of_ble_eq_true hlen) ?_
  rw [hX]; exact h
theorem dw (st:St) (cs:List AV):(st.push (.cells cs)).get st.boxes.length = some cs:=by simp [St.push,St.get]
theorem og (st:St) (es:List (AV×AV)) (bs:List Nat) (k:Nat):(st.push (.mp es bs k)).getM st.boxes.length = some es:=by simp [St.push,St.getM]
theorem oh (st:St) (es:List (AV×AV)) (bs:List Nat) (k:Nat):(st.push (.mp es bs k)).getB st.boxes.length = (bs,k):=by simp [St.push,St.getB]
theorem set_push (st:St) (b:Box) (cs:List AV):(st.push b).set st.boxes.length cs = st.push (.cells cs):=by simp [St.push,St.set]
theorem cM (st:St) (b:Box):(st.push b).boxes.length = st.boxes.length + 1:=by simp [St.push]
theorem f0 (st:St) (id:Nat) (cs:List AV):(st.set id cs).boxes.length = st.boxes.length:=by simp [St.set]
theorem eB {st:St} {b:Box} {id:Nat} (h:id < st.boxes.length):(st.push b).get id = st.get id:=by simp [St.push,St.get,List.getElem?_append_left h]
theorem dx {st:St} {id:Nat} {cs:List AV} (h:st.get id = some cs):id < st.boxes.length:=by
  rcases Nat.lt_or_ge id st.boxes.length with hl | hl
  · exact hl
  · simp [St.get,List.getElem?_eq_none hl] at h
theorem cE {st:St} {id:Nat} {cs:List AV} (h:id < st.boxes.length):(st.set id cs).get id = some cs:=by simp [St.set,St.get,h]
theorem mJ {st:St} {id id':Nat} {cs:List AV} (h:id≠id'):(st.set id cs).get id' = st.get id':=by simp [St.set,St.get,List.getElem?_set_ne h]
theorem j9 (st:St) (id:Nat) (cs ds:List AV):(st.set id cs).set id ds = st.set id ds:=by simp [St.set]
theorem am (cs:List AV) (i:Nat) (v:AV) (vs:List AV):cG cs i (v::vs) = cG (cs.set i v) (i + 1) vs:=rfl
end Go.Fx
/- Loops with states that are told; lists of bytes. -/
namespace Go.Fx
open Go
section
variable {P:Program} {F:Nat→FuncId} {m:Bool} {b:AC} {lv ll:List Nat} {Q:Exit→Sf→St→Prop}
def stepQ {A:Type} (S:A→Sf) (T:A→St) (R:A→Prop) (lv ll:List Nat) (Q:Exit→Sf→St→Prop):Exit→Sf→St→Prop
  | .normal,sf,st=>∃ a,R a∧Sf.le (sf.mask lv ll) (S a)∧st = T a
  | e,sf,st=>Q e sf st
theorem loop_for {A:Type} (μ:A→Nat) (S:A→Sf) (T:A→St) (I:A→Prop) (a0:A) {sf:Sf} {st:St} (h0:I a0) (hs:Sf.le (sf.mask lv ll) (S a0)) (ht:st = T a0)
    (step:∀ a,I a→aC P F m b (S a) (T a) (stepQ S T (fun a'=>I a'∧μ a' < μ a) lv ll Q)):cd (aC P F m b) lv ll sf st Q:=by
  refine ⟨fun k sf st=>∃ a,I a∧μ a = k∧sf = S a∧st = T a,⟨μ a0,_,hs,a0,h0,rfl,rfl,ht⟩,?_⟩
  rintro k sf st ⟨a,ha,rfl,rfl,rfl⟩
  refine aC_mono (fun e sf st=>?_) (step a ha)
  cases e with
  | normal=>exact fun ⟨a',⟨h1,h2⟩,h3,h4⟩=>⟨μ a',h2,S a',h3,a',h1,rfl,rfl,h4⟩
  | _=>exact fun q=>q
variable {A:Type} (S:A→Sf) (T:A→St) (R:A→Prop) (sf:Sf) (st:St)
end
section
variable {CB:Sf→St→(Exit→Sf→St→Prop)→Prop} {id:Nat} {r:Loop} {rs:List (Nat×AV)} {Q:Bool→St→Prop} {sf:Sf} {st:St}
theorem keep_eq (v:AV):v.keep = if v.noL = true then v.dis else .any:=rfl
theorem ol (sf:Sf):fY [] sf = []:=rfl
theorem mK (t:Nat) (l:List Nat) (sf:Sf):fY (t::l) sf = (t,(getR sf.regs t).keep)::fY l sf:=rfl
theorem setRs_nil (rg:List (Nat×AV)) (vs:List AV):il rg [] vs = rg:=by cases vs <;> rfl
theorem setRs_cons (rg:List (Nat×AV)) (p:Nat) (ps:List Nat) (v:AV) (vs:List AV):il rg (p::ps) (v::vs) = il (setR rg p v.dis) ps vs:=rfl
theorem iK:oS CB id r rs Q .normal sf st = (st.isLp id r rs∧CB sf (st.setL id (dD r) rs) (endI id r rs Q)):=rfl
theorem lu:endI id r rs Q .normal sf st = (st.isLp id (dD r) rs∧Q true (st.setL id r rs)):=rfl
theorem round_a {P:Program} {CA CB:Sf→St→(Exit→Sf→St→Prop)→Prop} {ps:List Nat} (hy:∀ vs st' Q',oT CA CB ps id r rs vs st' Q'→gU P id vs st' Q') {vs:List AV} (hl:st.isLp id r rs) (hn:vs.length = ps.length)
    (h:CA ⟨il rs ps vs,[]⟩ st (oS CB id r rs Q)):gU P id vs st Q:=hy _ _ _ ⟨hl,hn,h⟩
end
theorem ka {st:St} {id q:Nat} {r:Loop} {rs:List (Nat×AV)} (h:q≠id):(st.setL id r rs).boxes[q]? = st.boxes[q]?:=by
  simp only [St.setL]; rw [List.getElem?_set_ne (fun e=>h e.symm)]
theorem om {st:St} {id:Nat} {r r':Loop} {rs rs':List (Nat×AV)} (h:st.isLp id r' rs'):(st.setL id r rs).isLp id r rs:=by
  have hl:id < st.boxes.length:=(List.getElem?_eq_some_iff.1 h).1
  simp [St.isLp,St.setL,hl]
theorem lx {st:St} {id q:Nat} (h:q≠id):(st.drop id).boxes[q]? = st.boxes[q]?:=by
  simp only [St.drop]; rw [List.getElem?_set_ne (fun e=>h e.symm)]
theorem push_isLp (st:St) (r:Loop) (rs:List (Nat×AV)):(st.push (.lp r rs)).isLp st.boxes.length r rs:=by simp [St.isLp,St.push]
theorem isLp_at {st st':St} {id:Nat} {r:Loop} {rs:List (Nat×AV)} (h:st.isLp id r rs) (hb:st'.boxes[id]? = st.boxes[id]?):st'.isLp id r rs:=hb.trans h
theorem pure_eq {P:Program} {f:FuncId} {vs:List AV} {x:AV} (h:bz P f vs ⟨[]⟩ (fun v _=>AV.le v x)) (hx:x.NB) (hvs:∀ v ∈ vs,v.NB) (st:St):bF P f vs st x :=
  pure_of (h.mono fun _ _ h=>.le _ _ h hx) hvs st
end Go.Fx
/- Regions that draw their order: evaluation. -/
namespace Go.Fx
open Go
section
variable (P:Program) (F:Nat→FuncId) (m:Bool) (locs0:List (Nat×List AV)) (st:St) (C:PK→Sf→Prop) (sf:Sf) (d:Option Nat) (x y i:Opd) (K:List PK→Sf→Prop) (ks:List PK)
theorem cO:a9 P F locs0 st [] K ks sf = K ks sf:=rfl
theorem b5 (i:AI) (r:List GI):a9 P F locs0 st (⟨none,i⟩::r) K ks sf = cg P F locs0 st i (iz (a9 P F locs0 st r K) ks) sf:=rfl
theorem kP (t:Nat) (want:Bool) (i:AI) (r:List GI):a9 P F locs0 st (⟨some (t,want),i⟩::r) K ks sf = di t want (sf.reg t) (cg P F locs0 st i (iz (a9 P F locs0 st r K) ks)) (lh (a9 P F locs0 st r K) ks i.dst) sf:=rfl
theorem cB:cg P F locs0 st (.mv d x) C sf = valH C d sf (sf.ev F x).dis:=rfl
theorem oX (c a b:Opd):cg P F locs0 st (.pick d c a b) C sf = (pickV (sf.ev F c) (sf.ev F a) (sf.ev F b)).wp (valH C d sf):=rfl
theorem dR (k:BinK) (op:BinOp):cg P F locs0 st (.bin d k op x y) C sf = (binI k op (sf.ev F x) (sf.ev F y)).wp (valH C d sf):=rfl
theorem hh_field (off:Nat) (k:Option Nat):cg P F locs0 st (.field d x off k) C sf = (iF (sf.ev F x) off k).wp (valH C d sf):=rfl
theorem cw (off:Nat):cg P F locs0 st (.addr d x off) C sf = (addA (sf.ev F x) off).wp (valH C d sf):=rfl
theorem eY (k:Nat):cg P F locs0 st (.ixS d x i k) C sf = (ixSV (sf.ev F x) (sf.ev F i) k).wp (valH C d sf):=rfl
theorem gm (n k:Nat):cg P F locs0 st (.ixA d x i n k) C sf = ((Fx.ixA (sf.ev F i) n).bind fun j=>addA (sf.ev F x) (j * k)).wp (valH C d sf):=rfl
theorem bQ (k:Option Nat):cg P F locs0 st (.load d x k) C sf = (aq sf st (sf.ev F x) k).wp (valH C d sf):=rfl
theorem da:cg P F locs0 st (.nilck d x) C sf = (bg (sf.ev F x)).wp (valH C d sf):=rfl
theorem oY (lo hi:Option Opd) (k:Nat):cg P F locs0 st (.sliS d x lo hi k) C sf = (sliSV (sf.ev F x) (lo.map (sf.ev F)) (hi.map (sf.ev F)) k).wp (valH C d sf):=rfl
theorem hh_bst (places:List (Nat×Nat)) (z:AV) (parts:List (Nat×Opd)):cg P F locs0 st (.bst d places z parts) C sf = (bstV places z (parts.map fun p=>(p.1,sf.ev F p.2))).wp (valH C d sf):=rfl
theorem fp (k:KeyK) (z:AV) (ok:Bool) (mp key:Opd):cg P F locs0 st (.lookup d k z ok mp key) C sf = (dg k z ok st (sf.ev F mp) (sf.ev F key)).wp (valH C d sf):=rfl
theorem hh_len (k:LenK):cg P F locs0 st (.len d k x) C sf = (lenI k st (sf.ev F x)).wp (valH C d sf):=rfl
theorem hh_app (k bytes:Nat):cg P F locs0 st (.app d k bytes x y) C sf = (dt st k bytes (sf.ev F x) (sf.ev F y)).wp (valH C d sf):=rfl
theorem iX (p:Bool) (f:Opd) (args:List Opd):cg P F locs0 st (.call d p f args) C sf = iA P st d (sf.ev F f) (args.map (sf.ev F)) C sf:=rfl
theorem lD (s:Nat) (cs:List AV):cg P F locs0 st (.newL s cs) C sf = C (.new s cs) (sf.set s .any):=rfl
theorem mL (k:Nat):cg P F locs0 st (.store k x y) C sf = ef locs0 x (sf.ev F x) (sf.ev F y) k C sf:=rfl
theorem ga (a:Opd) (s:Nat) (v:AV) (k:Nat):ef locs0 a (.lptr s 0) v k C sf = eJ v k s C sf (look s locs0):=rfl
theorem headNst_eq (s:Nat) (v:AV) (k:Nat):ef locs0 (.r s) .any v k C sf = (v.dis.solid = true∧v.dis.cells.length = k∧C (.nst s v.dis.cells) sf):=rfl
theorem ff (s:Nat) (v:AV) (k:Nat) (cs:List AV):eJ v k s C sf (some cs) = (cs.length = k∧v.dis.solid = true∧v.dis.cells.length = k∧C (.store s v.dis.cells) sf):=rfl
theorem cN (t:Nat) (want:Bool) (Y N:Sf→Prop):di t want (.lit (.bool true)) Y N sf = if true = want then Y (sf.set t (.lit (.bool true))) else N (sf.set t (.lit (.bool true))):=by
  unfold di
  exact propext ⟨fun h=>h true rfl,fun h c e=>by subst e; exact h⟩
theorem oo (t:Nat) (want:Bool) (Y N:Sf→Prop):di t want (.lit (.bool false)) Y N sf = if false = want then Y (sf.set t (.lit (.bool false))) else N (sf.set t (.lit (.bool false))):=by
  unfold di
  exact propext ⟨fun h=>h false rfl,fun h c e=>by subst e; exact h⟩
end
def PK.keep:PK→Bool
  | .val _=>false
  | .skip=>false
  | _=>true
theorem df:∀ ks:List PK,b6 (ks.filter PK.keep) = b6 ks
  | []=>rfl
  | .val _::r=>df r
  | .skip::r=>df r
  | .mk _ _::r=>df r
  | .hole::r=>df r
  | .chole _ _::r=>df r
  | .nst _ _::r=>df r
  | .new _ _::r=>df r
  | .app _ _::r=>df r
  | .store s _::r=>congrArg (s::·) (df r)
theorem dK:∀ ks:List PK,cF (ks.filter PK.keep) = cF ks
  | []=>rfl
  | .val _::r=>dK r
  | .skip::r=>dK r
  | .mk _ _::r=>dK r
  | .hole::r=>dK r
  | .chole _ _::r=>dK r
  | .nst _ _::r=>dK r
  | .store _ _::r=>dK r
  | .app _ _::r=>dK r
  | .new s _::r=>congrArg (s::·) (dK r)
theorem dL:∀ ks:List PK,cU (ks.filter PK.keep) = cU ks
  | []=>rfl
  | .val _::r=>dL r
  | .skip::r=>dL r
  | .mk _ _::r=>dL r
  | .hole::r=>dL r
  | .chole _ _::r=>dL r
  | .nst _ _::r=>dL r
  | .store _ _::r=>dL r
  | .new _ _::r=>dL r
  | .app s _::r=>congrArg (s::·) (dL r)
theorem dM:∀ (ks:List PK) (sf:Sf),dq (ks.filter PK.keep) sf = dq ks sf
  | [],_=>rfl
  | .val _::r,sf=>dM r sf
  | .skip::r,sf=>dM r sf
  | .mk _ _::r,sf=>dM r sf
  | .hole::r,sf=>dM r sf
  | .chole _ _::r,sf=>dM r sf
  | .nst _ _::r,sf=>dM r sf
  | .new _ _::r,sf=>dM r sf
  | .app _ _::r,sf=>dM r sf
  | .store _ _::r,_=>dM r _
theorem nst_beq (a b c d:Nat):((a,b) == (c,d)) = ((a == c) && (b == d)):=rfl
theorem dp (t:Nat):∀ ks:List PK,de t (ks.filter PK.keep) = de t ks
  | []=>rfl
  | .val _::r=>dp t r
  | .skip::r=>dp t r
  | .mk _ _::r=>dp t r
  | .hole::r=>dp t r
  | .chole _ _::r=>dp t r
  | .store _ _::r=>dp t r
  | .app _ _::r=>dp t r
  | .new _ _::r=>dp t r
  | .nst s cs :: r => by
    show (if s = t then some cs else de t (r.filter PK.keep)) = if s = t then some cs else de t r
    rw [dp t r]
theorem dN:∀ ks:List PK,cV (ks.filter PK.keep) = cV ks
  | []=>rfl
  | .val _::r=>dN r
  | .skip::r=>dN r
  | .mk _ _::r=>dN r
  | .hole::r=>dN r
  | .chole _ _::r=>dN r
  | .store _ _::r=>dN r
  | .new _ _::r=>dN r
  | .app _ _::r=>dN r
  | .nst s _::r=>congrArg (s::·) (dN r)
theorem dO:∀ (ks:List PK) (seen:List (Nat×Nat)),nstB seen (ks.filter PK.keep) = nstB seen ks
  | [],_=>rfl
  | .val _::r,s=>dO r s
  | .skip::r,s=>dO r s
  | .mk _ _::r,s=>dO r s
  | .hole::r,s=>dO r s
  | .chole _ _::r,s=>dO r s
  | .store _ _::r,s=>dO r s
  | .app _ _::r,s=>dO r s
  | .new _ _::r,s=>dO r _
  | .nst _ _::r,s=>congrArg (_ && ·) (dO r s)
theorem dP (all:List PK):∀ (ks:List PK) (sf:Sf),cX (all.filter PK.keep) (ks.filter PK.keep) sf = cX all ks sf
  | [],_=>rfl
  | .val _::r,sf=>dP all r sf
  | .skip::r,sf=>dP all r sf
  | .mk _ _::r,sf=>dP all r sf
  | .hole::r,sf=>dP all r sf
  | .chole _ _::r,sf=>dP all r sf
  | .store _ _::r,sf=>dP all r sf
  | .app _ _::r,sf=>dP all r sf
  | .nst _ _::r,sf=>dP all r sf
  | .new s cs :: r, sf => by
    show cX (all.filter PK.keep) (r.filter PK.keep) (sf.newLoc s ((de s (all.filter PK.keep)).getD cs)) = cX all r (sf.newLoc s ((de s all).getD cs))
    rw [dp,dP all r]
section
variable {P:Program} {F:Nat→FuncId} {m:Bool} {locs0:List (Nat×List AV)} {st st2:St} {drop lv ll:List Nat} {tl:List GI} {Q:Exit→Sf→St→Prop}
theorem tail_keep (ks:List PK) (sf:Sf):cx P F m drop lv ll tl Q st (ks.filter PK.keep) sf = cx P F m drop lv ll tl Q st ks sf:=by
  unfold cx ksB
  rw [df,dK,dL,dN,dO,dM,dP]
theorem fq:∀ (r:List GI) (ks:List PK) (sf:Sf),a9 P F locs0 st r (cx P F m drop lv ll tl Q st) (ks.filter PK.keep) sf = a9 P F locs0 st r (cx P F m drop lv ll tl Q st) ks sf
  | [],ks,sf=>tail_keep ks sf
  | ⟨g, i⟩ :: r, ks, sf => by
    have h1:iz (a9 P F locs0 st r (cx P F m drop lv ll tl Q st)) (ks.filter PK.keep) = iz (a9 P F locs0 st r (cx P F m drop lv ll tl Q st)) ks:=by
      funext k sf
      simp only [iz]
      rw [← fq r (ks++[k]) sf,← fq r (ks.filter PK.keep++[k]) sf]
      simp
    have h2:∀ d,lh (a9 P F locs0 st r (cx P F m drop lv ll tl Q st)) (ks.filter PK.keep) d = lh (a9 P F locs0 st r (cx P F m drop lv ll tl Q st)) ks d:=by
      intro d
      funext sf
      exact congrFun (congrFun h1 .skip) (sf.put d (.tup []))
    cases g with
    | none=>simp only [a9,h1]
    | some g=>obtain ⟨t,w⟩:=g; simp only [a9,h1,h2]
variable (ks:List PK) (sf:Sf) (r:List GI) (v:AV) (d:Option Nat)
theorem fL:iz (a9 P F locs0 st r (cx P F m drop lv ll tl Q st)) ks (.val v) sf = a9 P F locs0 st r (cx P F m drop lv ll tl Q st) ks sf:=by
  show a9 P F locs0 st r _ (ks++[.val v]) sf = _
  exact (fq r (ks++[PK.val v]) sf).symm.trans ((congrArg (fun q=>a9 P F locs0 st r (cx P F m drop lv ll tl Q st) q sf) (by simp [PK.keep])).trans (fq r ks sf))
theorem cons_skip:lh (a9 P F locs0 st r (cx P F m drop lv ll tl Q st)) ks d sf = a9 P F locs0 st r (cx P F m drop lv ll tl Q st) ks (sf.put d (.tup [])):=by
  show a9 P F locs0 st r _ (ks++[.skip]) (sf.put d (.tup [])) = _
  exact (fq r (ks++[PK.skip]) _).symm.trans ((congrArg (fun q=>a9 P F locs0 st r (cx P F m drop lv ll tl Q st) q (sf.put d (.tup []))) (by simp [PK.keep])).trans (fq r ks _))
theorem bp:valH (iz (a9 P F locs0 st r (cx P F m drop lv ll tl Q st)) ks) d sf v = a9 P F locs0 st r (cx P F m drop lv ll tl Q st) ks (sf.put d v):=fL ks (sf.put d v) r v
theorem bG:cx P F m drop lv ll tl Q st [] sf = runI P F m tl (opsK lv ll Q) sf st:=propext ⟨fun h=>h.2,fun h=>⟨rfl,h⟩⟩
theorem g9 (k:PK):cx P F m drop lv ll tl Q st (k::ks) sf = (ksB drop (k::ks) = true∧runI P F m tl (opsK lv ll Q) (cX (k::ks) (k::ks) (dq (k::ks) sf)) st):=rfl
end
section
variable (H:List PK→Sf→Prop) (ks:List PK) (sf:Sf) (s:Nat) (cs:List AV) (v:AV)
theorem kb:iz H ks (.new s cs) sf = H (ks++[.new s cs]) sf:=rfl
theorem jz:iz H ks (.store s cs) sf = H (ks++[.store s cs]) sf:=rfl
end
theorem kQ {P:Program} {d:Option Nat} {q:FuncId} {fs cs args vs:List AV} {sf:Sf} {st:St} {C:PK→Sf→Prop} {v:AV} (hvs:fs++args.map AV.dis++cs = vs) (hent:aX P q = true) (h:bF P q vs st v) (hn:args.all AV.noL = true) (hK:C (.val v) (sf.put d v)):iA P st d (.fn (.func q) fs cs) args C sf:=by
  subst hvs
  exact ⟨hn,hent,v,h,hK⟩
section
variable (P:Program) (F:Nat→FuncId) (L0:List (Nat×List AV)) (ρ:St) (C:PK→Sf→Prop) (sf:Sf) (d:Option Nat) (x y i:Opd) (K:List PK→Sf→Prop) (ks:List PK)
theorem oq:preM P F L0 ρ [] K ks sf = K ks sf:=rfl
theorem mM (i:AI) (r:List GI):preM P F L0 ρ (⟨none,i⟩::r) K ks sf = oneM P F L0 ρ i (fX (preM P F L0 ρ r K) ks) sf:=rfl
theorem m_val (v:AV) (r:List GI):valM (fX (preM P F L0 ρ r K) ks) d sf v = preM P F L0 ρ r K (ks++[.val v]) (sf.put d v):=rfl
theorem fg (p:Bool) (f:Opd) (args:List Opd):oneM P F L0 ρ (.call d p f args) C sf = mq P ρ d (sf.ev F f) (args.map (sf.ev F)) C sf:=rfl
theorem im:oneM P F L0 ρ (.mv d x) C sf = valM C d sf (sf.ev F x).dis:=rfl
theorem lE (c a b:Opd):oneM P F L0 ρ (.pick d c a b) C sf = (pickV (sf.ev F c) (sf.ev F a) (sf.ev F b)).wp (valM C d sf):=rfl
theorem mN (k:BinK) (op:BinOp):oneM P F L0 ρ (.bin d k op x y) C sf = (binI k op (sf.ev F x) (sf.ev F y)).wp (valM C d sf):=rfl
theorem mm_ext (j:Nat):oneM P F L0 ρ (.ext d x j) C sf = (extV (sf.ev F x) j).wp (valM C d sf):=rfl
theorem oZ (off:Nat):oneM P F L0 ρ (.addr d x off) C sf = (addA (sf.ev F x) off).wp (valM C d sf):=rfl
theorem mm_ixS (k:Nat):oneM P F L0 ρ (.ixS d x i k) C sf = (ixSV (sf.ev F x) (sf.ev F i) k).wp (valM C d sf):=rfl
theorem ia (k:Option Nat):oneM P F L0 ρ (.load d x k) C sf = (aq sf ρ (sf.ev F x) k).wp (valM C d sf):=rfl
theorem mm_nilck:oneM P F L0 ρ (.nilck d x) C sf = (bg (sf.ev F x)).wp (valM C d sf):=rfl
variable (KH:List PK→Prop) (st:St) (post:List (Bool×GI)) (T:St→Sf→Prop) (T1:Sf→Prop)
theorem hm_nil:dA P F L0 ρ [] KH ks sf = KH ks:=rfl
theorem hm_hole (g:GI) (r:List (Bool×GI)):dA P F L0 ρ ((true,g)::r) KH ks sf = dA P F L0 ρ r KH (ks++[.hole]) (sf.put g.i.dst .any):=by simp only [dA]
theorem hm_none (i:AI) (r:List (Bool×GI)):dA P F L0 ρ ((false,⟨none,i⟩)::r) KH ks sf = oneM P F L0 ρ i (fX (dA P F L0 ρ r KH) ks) sf:=rfl
theorem hm_val (v:AV) (r:List (Bool×GI)):valM (fX (dA P F L0 ρ r KH) ks) d sf v = dA P F L0 ρ r KH (ks++[.val v]) (sf.put d v):=rfl
theorem m_new (s:Nat) (cs:List AV) (r:List GI):fX (preM P F L0 ρ r K) ks (.new s cs) sf = preM P F L0 ρ r K (ks++[.new s cs]) sf:=rfl
theorem m_nst (s:Nat) (cs:List AV) (r:List GI):fX (preM P F L0 ρ r K) ks (.nst s cs) sf = preM P F L0 ρ r K (ks++[.nst s cs]) sf:=rfl
theorem m_store (s:Nat) (cs:List AV) (r:List GI):fX (preM P F L0 ρ r K) ks (.store s cs) sf = preM P F L0 ρ r K (ks++[.store s cs]) sf:=rfl
theorem hm_new (s:Nat) (cs:List AV) (r:List (Bool×GI)):fX (dA P F L0 ρ r KH) ks (.new s cs) sf = dA P F L0 ρ r KH (ks++[.new s cs]) sf:=rfl
theorem mm_newL (s:Nat) (cs:List AV):oneM P F L0 ρ (.newL s cs) C sf = C (.new s cs) (sf.set s .any):=rfl
theorem mm_store (k:Nat):oneM P F L0 ρ (.store k x y) C sf = ef L0 x (sf.ev F x) (sf.ev F y) k C sf:=rfl
variable (drop:List Nat) (ks1:List PK)
theorem atM_eq (f:Opd) (args:List Opd):atM P F L0 ρ st d f args post drop T ks1 sf = mr P F L0 ρ st d (sf.ev F f) (args.map (sf.ev F)) post drop T ks1 sf:=rfl
theorem mO (ksh:List PK):postM post drop ks1 ksh T1 ks sf = (eF post ksh ks∧finK drop T1 (ks1++ks) sf):=rfl
theorem o0:finK drop T1 ks sf = (ksB drop ks = true∧T1 (cX ks ks (dq ks sf))):=rfl
theorem mP (A:List PK→Prop):holeK drop ks1 A ks = (ksB drop (ks1++ks) = true∧A ks):=rfl
theorem kR:eF [] [] [] = True:=rfl
theorem compM_t (g:GI) (r:List (Bool×GI)) (a:PK) (v:AV) (h k:List PK):eF ((true,g)::r) (a::h) (.val v::k) = eF r h k:=rfl
theorem compM_tn (g:GI) (r:List (Bool×GI)) (a:PK) (s:Nat) (cs:List AV) (h k:List PK):eF ((true,g)::r) (a::h) (.nst s cs::k) = eF r h k:=rfl
theorem compM_tt (g:GI) (r:List (Bool×GI)) (a:PK) (s:Nat) (cs:List AV) (h k:List PK):eF ((true,g)::r) (a::h) (.store s cs::k) = eF r h k:=rfl
theorem compM_f (g:GI) (r:List (Bool×GI)) (a b:PK) (h k:List PK):eF ((false,g)::r) (a::h) (b::k) = (b = a∧eF r h k):=rfl
theorem mQ (m:Bool) (lv ll:List Nat) (tl:List GI) (Q:Exit→Sf→St→Prop):nY P F m lv ll tl Q st sf = runI P F m tl (opsK lv ll Q) sf st:=rfl
end
section
variable {P:Program} {F:Nat→FuncId} {L0:List (Nat×List AV)} {ρ st:St}
theorem draw_m {pre:List GI} {d:Option Nat} {f:Opd} {args:List Opd} {post:List (Bool×GI)} {sf:Sf} {T:St→Sf→Prop} (ρ:St) (hs:St.sub ρ st) (h:preM P F sf.locs ρ pre (atM P F sf.locs ρ st d f args post (jj pre post) T) [] ⟨sf.regs,bu (jj pre post) sf.locs⟩):drawM P F pre d f args post sf st T:=⟨ρ,hs,h⟩
theorem draw_s {pre:List GI} {d:Option Nat} {f:Opd} {args:List Opd} {post:List (Bool×GI)} {sf:Sf} {T:St→Sf→Prop} (h:preM P F sf.locs st pre (atM P F sf.locs st st d f args post (jj pre post) T) [] ⟨sf.regs,bu (jj pre post) sf.locs⟩):drawM P F pre d f args post sf st T:=⟨st,St.sub_refl st,h⟩
theorem call_m {q:FuncId} {fs cs args vs:List AV} {d:Option Nat} {post:List (Bool×GI)} {drop:List Nat} {T:St→Sf→Prop} {ks1:List PK} {sf:Sf} {Qc:AV→St→Prop} (hvs:fs++args.map AV.dis++cs = vs) (hent:aX P q = true) (hA:bz P q vs st Qc) (hn:args.all AV.noL = true)
    (hK:dA P F L0 ρ post (holeK drop ks1 (afterM P F L0 ρ post Qc d sf drop T ks1)) [] (sf.put d .any)):mr P F L0 ρ st d (.fn (.func q) fs cs) args post drop T ks1 sf:=by
  subst hvs
  exact ⟨hn,hent,Qc,hA,hK⟩
end
section
variable (P:Program) (F:Nat→FuncId) (L0:List (Nat×List AV)) (ρ:St) (C:PK→Sf→Prop) (sf:Sf) (d:Option Nat) (K H:List PK→Sf→Prop) (ks:List PK)
theorem g_nil:preG P F L0 ρ [] K ks sf = K ks sf:=rfl
theorem gI (i:AI) (r:List (Bool×GI)):preG P F L0 ρ ((false,⟨none,i⟩)::r) K ks sf = oneM P F L0 ρ i (iC (preG P F L0 ρ r K) ks) sf:=rfl
theorem eg (t:Nat) (want:Bool) (i:AI) (r:List (Bool×GI)):preG P F L0 ρ ((false,⟨some (t,want),i⟩)::r) K ks sf = di t want (sf.reg t) (oneM P F L0 ρ i (iC (preG P F L0 ρ r K) ks)) (nV (preG P F L0 ρ r K) ks i.dst) sf:=rfl
theorem g_some_t (t:Nat) (want:Bool) (i:AI) (r:List (Bool×GI)):preG P F L0 ρ ((true,⟨some (t,want),i⟩)::r) K ks sf = di t want (sf.reg t) (li P F ρ i (iC (preG P F L0 ρ r K) ks)) (nV (preG P F L0 ρ r K) ks i.dst) sf:=rfl
theorem iL (v:AV):valM (iC H ks) d sf v = H ks (sf.put d v):=rfl
theorem g_mkv (v:AV):valG ρ (iC H ks) d sf v = H ks (sf.put d v):=rfl
theorem g_call (p:Bool) (f:Opd) (args:List Opd):li P F ρ (.call d p f args) C sf = mw P ρ d (sf.ev F f) (args.map (sf.ev F)) C sf:=rfl
theorem tailG_nil (m:Bool) (st:St) (drop lv ll:List Nat) (tl:List GI) (Q:Exit→Sf→St→Prop):tailG P F m drop lv ll tl Q st [] sf = ∀ s,St.sub st s→st.boxes.length≤s.boxes.length→runI P F m tl (opsK lv ll Q) sf s:=propext ⟨fun h=>h.2,fun h=>⟨rfl,h⟩⟩
end
theorem call_g {P:Program} {ρ:St} {q:FuncId} {fs cs args vs:List AV} {d:Option Nat} {sf:Sf} {C:PK→Sf→Prop} {v:AV} (hvs:fs++args.map AV.dis++cs = vs) (hent:aX P q = true) (h:∀ s,St.sub ρ s→ρ.boxes.length≤s.boxes.length→bz P q vs s (Grow v s)) (hn:args.all AV.noL = true) (hK:valG ρ C d sf v):mw P ρ d (.fn (.func q) fs cs) args C sf:=by
  subst hvs
  exact ⟨hn,hent,v,h,hK⟩
theorem ic {P:Program} {ρ:St} {q:FuncId} {fs cs args vs:List AV} {d:Option Nat} {sf:Sf} {C:PK→Sf→Prop} {v:AV} (hvs:fs++args.map AV.dis++cs = vs) (hent:aX P q = true) (h:∀ s,St.sub ρ s→bF P q vs s v) (hn:args.all AV.noL = true) (hK:valM C d sf v):mq P ρ d (.fn (.func q) fs cs) args C sf:=by
  subst hvs
  exact ⟨hn,hent,v,h,hK⟩
end Go.Fx
/- Numbers of bytes: shifts and the like. -/
namespace Go.Fx
open Go
theorem dh {P:Program} {F:Nat→FuncId} {m:Bool} {b:AC} {lv ll:List Nat} {Q:Exit→Sf→St→Prop} {A:Type} (μ:A→Nat) (S:A→Sf) (T:A→St) (I:A→Prop) (a0:A) {sf:Sf} {st:St} (h0:I a0) (hs:Sf.le (sf.mask lv ll) (S a0)) (ht:st = T a0)
    (step:∀ a,I a→∀ K:Exit→Sf→St→Prop,(∀ a' sf',I a'→μ a' < μ a→Sf.le (sf'.mask lv ll) (S a')→K .normal sf' (T a'))→(∀ id sf st,Q (.exit id) sf st→K (.exit id) sf st)→(∀ sf st,Q .ret sf st→K .ret sf st)→aC P F m b (S a) (T a) K):cd (aC P F m b) lv ll sf st Q :=
  loop_for μ S T I a0 h0 hs ht fun a ha=>step a ha _ (fun a' _ h1 h2 h3=>⟨a',⟨h1,h2⟩,h3,rfl⟩) (fun _ _ _ h=>h) (fun _ _ h=>h)
theorem mR {p:Prop} [Decidable p] (h:p) {t:Nat} {want:Bool} {Y N:Sf→Prop} {sf:Sf}:di t want (.lit (.bool (decide p))) Y N sf = if true = want then Y (sf.set t (.lit (.bool true))) else N (sf.set t (.lit (.bool true))):=by
  rw [decide_eq_true h,cN]
theorem guardH_no {p:Prop} [Decidable p] (h:¬ p) {t:Nat} {want:Bool} {Y N:Sf→Prop} {sf:Sf}:di t want (.lit (.bool (decide p))) Y N sf = if false = want then Y (sf.set t (.lit (.bool false))) else N (sf.set t (.lit (.bool false))):=by
  rw [decide_eq_false h,oo]
theorem bB {P:Program} {X:Cx} {f:FuncId} {fn:AFun} {vs:List AV} {st:St} (hmix:P.follows .mixedOrders = true) (hf:bT P X f = some fn) (hX:X.F = id) (hlen:Nat.ble vs.length fn.n = true) {K:AV→St→Prop} (h:∀ Q:AV→St→Prop,(∀ v st',K v st'→Q v st')→aFun P id false fn vs st Q):bz P f vs st K :=
  acalls_id hmix hf hX hlen (h K fun _ _ h=>h)
theorem pure_lev {P:Program} {X:Cx} {f:FuncId} {fn:AFun} {vs:List AV} {x:AV} (hmix:P.follows .mixedOrders = true) (hf:bT P X f = some fn) (hX:X.F = id) (hlen:Nat.ble vs.length fn.n = true) (hx:x.NB) (hvs:∀ v ∈ vs,v.NB)
    (h:∀ Q:AV→St→Prop,(∀ v st',v.le x→Q v st')→aFun P id false fn vs ⟨[]⟩ Q) (st:St):bF P f vs st x :=
  pure_eq (bB hmix hf hX hlen fun Q hQ=>h Q fun v st' hv=>hQ v st' hv) hx hvs st
end Go.Fx
/- Slices of plain cells that are written to and appended to. -/
namespace Go.Fx
open Go
def MB (v:AV) (st:St) (l:List AV):Prop:=(v = .lit (.slice none 0 0)∧l = [])∨∃ id cap r,v = .bs id 1 0 l.length cap∧st.get id = some (l++r)∧l.length≤cap∧cap≤(l++r).length
def Kept (st st':St) (v:AV):Prop:=st.boxes.length≤st'.boxes.length∧∀ id cs,st.get id = some cs→(∀ k o l c,v≠.bs id k o l c)→st'.get id = some cs
theorem Kept.refl (st:St) (v:AV):Kept st st v:=⟨Nat.le_refl _,fun _ _ h _=>h⟩
def NBs (st:St):Prop:=∀ id cs,st.get id = some cs→∀ c ∈ cs,c.NB
theorem NBs.nil:NBs ⟨[]⟩:=fun id cs h=>by simp [St.get] at h
theorem NBs.push {st:St} {cs:List AV} (h:NBs st) (hc:∀ c ∈ cs,c.NB):NBs (st.push (.cells cs)):=by
  intro id ds hg
  by_cases e:id < st.boxes.length
  · rw [eB e] at hg
    exact h id ds hg
  · by_cases e2:id = st.boxes.length
    · subst e2
      rw [dw] at hg
      cases hg
      exact hc
    · have:=dx hg
      rw [cM] at this
      omega
theorem NBs.set {st:St} {id:Nat} {cs:List AV} (h:NBs st) (hid:id < st.boxes.length) (hc:∀ c ∈ cs,c.NB):NBs (st.set id cs):=by
  intro id' ds hg
  by_cases e:id = id'
  · subst e
    rw [cE hid] at hg
    cases hg
    exact hc
  · rw [mJ e] at hg
    exact h id' ds hg
theorem MB.app {v:AV} {st:St} {l new:List AV} {bytes:Nat} {C:AV→St→Prop} (h:MB v st l) (hl:Lits l) (hn:Lits new) (hr:je (l.length + new.length) bytes = true)
    (hC:∀ v' st',MB v' st' (l++new)→Kept st st' v→(NBs st→NBs st')→C v' st'):appX false 1 bytes v C st new:=by
  rcases h with ⟨rfl,rfl⟩ | ⟨id,cap,r,rfl,hg,h1,h2⟩
  · refine ⟨rfl,by simpa using hr,?_⟩
    split
    · rename_i h
      have:new = []:=by simpa using h
      subst this
      exact hC _ _ (.inl ⟨rfl,rfl⟩) (Kept.refl _ _) id
    · intro c hc
      refine hC _ _ (.inr ⟨st.boxes.length,c,List.replicate (c - new.length) .any,by simp,?_,by simpa using hc,by simp; omega⟩) ⟨by simp [St.push],fun id cs hg _=>by rw [eB (dx hg)]; exact hg⟩ (fun h=>h.push fun x hx=>?_)
      · rw [hn.cellsD]
        simp only [List.nil_append,Nat.mul_one]
        exact dw st _
      · rw [hn.cellsD] at hx
        simp only [List.nil_append,Nat.mul_one,List.mem_append] at hx
        rcases hx with hx | hx
        · exact hn.nb x hx
        · rw [List.eq_of_mem_replicate hx]; exact .any
  · refine ⟨rfl,rfl,hr,?_⟩
    rw [hg]
    show (Res.ok _).wp _
    rw [wp_ok,hn.cellsD]
    have hid:=dx hg
    split
    · rename_i hc
      refine ⟨by omega,hC _ _ (.inr ⟨id,cap,r.drop new.length,by simp,?_,by simpa using hc,?_⟩) ⟨by simp [St.set],fun id' cs hg' hne=>?_⟩ (fun h=>h.set hid ?_)⟩
      · rw [cE hid,Nat.zero_add,Nat.mul_one,gH rfl (by simp at h2; omega)]
        simp
      · simp at h2 ⊢; omega
      · rw [mJ (fun e=>hne _ _ _ _ (by rw [e])),hg']
      · rw [Nat.zero_add,Nat.mul_one,gH rfl (by simp at h2; omega)]
        have h3:=h id _ hg
        intro x hx
        simp only [List.mem_append] at hx
        rcases hx with hx | hx | hx
        · exact hl.nb x hx
        · exact hn.nb x hx
        · exact h3 x (List.mem_append_right _ (List.mem_of_mem_drop hx))
    · rename_i hc
      have e:List.map AV.own1 (List.take (l.length * 1) (List.drop 0 (l++r))) = l:=by simp [hl.own]
      refine ⟨by simp,fun c hc=>hC _ _ (.inr ⟨st.boxes.length,c,List.replicate (c - (l.length + new.length)) .any,by simp,?_,by simpa using hc,by simp; omega⟩) ⟨by simp [St.push],fun id' cs hg' _=>by rw [eB (dx hg')]; exact hg'⟩ (fun h=>h.push fun x hx=>?_)⟩
      · rw [e]
        simp only [Nat.mul_one]
        exact dw st _
      · rw [e] at hx
        simp only [List.mem_append] at hx
        rcases hx with (hx | hx) | hx
        · exact hl.nb x hx
        · exact hn.nb x hx
        · rw [List.eq_of_mem_replicate hx]; exact .any
end Go.Fx
/- Functions that keep nothing may be handed what lies in boxes. -/
namespace Go.Fx
open Go
def litB1:AV→Bool
  | .lit _=>true
  | _=>false
end Go.Fx
/- Maps with plain keys, as lists; boxes that others are left alone by. -/
namespace Go.Fx
open Go
section
variable {β:Type}
def gb (t:Int):List (Int×β)→Nat→Option (Nat×β)
  | [],_=>none
  | (k,b)::r,i=>if t = k then some (i,b) else gb t r (i + 1)
def bP (t:Int):List (Int×β)→Option β
  | []=>none
  | (k,b)::r=>if t = k then some b else bP t r
def updP (t:Int) (b:β):List (Int×β)→List (Int×β)
  | []=>[(t,b)]
  | (k,c)::r=>if t = k then (t,b)::r else (k,c)::updP t b r
def delP (t:Int):List (Int×β)→List (Int×β)
  | []=>[]
  | (k,c)::r=>if t = k then r else (k,c)::delP t r
def cD (m:List (Int×β)):List Int:=m.map Prod.fst
theorem fM (t:Int):∀ (m:List (Int×β)) (i:Nat),(gb t m i).map Prod.snd = bP t m
  | [],_=>rfl
  | (k, b) :: r, i => by
    simp only [gb,bP]; split; · rfl
    · exact fM t r (i + 1)
theorem kS {γ:Type} (e:Int×β→γ) (t:Int) (b:β):∀ (m:List (Int×β)) (i:Nat),match gb t m i with
    | some (j,_)=>i≤j∧(m.map e).set (j - i) (e (t,b)) = (updP t b m).map e∧(m.map e).eraseIdx (j - i) = (delP t m).map e∧j - i < m.length
    | none=>m.map e++[e (t,b)] = (updP t b m).map e∧delP t m = m
  | [],_=>by simp [gb,updP,delP]
  | (k, c) :: r, i => by
    simp only [gb]
    by_cases h:t = k
    · subst h
      simp [updP,delP]
    · rw [if_neg h]
      have ih:=kS e t b r (i + 1)
      cases hf:gb t r (i + 1) with
      | none=>rw [hf] at ih; simp only at ih; simp [updP,delP,h,ih.1,ih.2]
      | some p =>
        obtain ⟨j,c'⟩:=p
        rw [hf] at ih
        simp only at ih ⊢
        obtain ⟨h1,h2,h3,h4⟩:=ih
        obtain ⟨q,rfl⟩:∃ q,j = i + 1 + q:=⟨j - (i + 1),by omega⟩
        rw [show i + 1 + q - (i + 1) = q by omega] at h2 h3 h4
        rw [show i + 1 + q - i = q + 1 by omega]
        refine ⟨by omega,?_,?_,by simp; omega⟩
        · simp [updP,h,h2]
        · simp [delP,h,h3]
theorem dG (t t':Int) (b:β):∀ m:List (Int×β),bP t' (updP t b m) = if t' = t then some b else bP t' m
  | []=>by simp only [updP,bP]
  | (k, c) :: r => by
    simp only [updP]
    by_cases h:t = k
    · subst h
      rw [if_pos rfl]
      simp only [bP]
      split <;> rfl
    · rw [if_neg h]
      simp only [bP]
      rw [dG t t' b r]
      by_cases h1:t' = k
      · subst h1
        have:¬ t' = t:=fun e=>h e.symm
        simp [this]
      · simp [h1]
theorem iY {t:Int}:∀ {m:List (Int×β)},t ∉ cD m→bP t m = none
  | [],_=>rfl
  | (k, c) :: r, h => by
    simp only [cD,List.map_cons,List.mem_cons,not_or] at h
    simp only [bP]
    rw [if_neg h.1]
    exact iY h.2
theorem mS (t t':Int):∀ {m:List (Int×β)},(cD m).Nodup→bP t' (delP t m) = if t' = t then none else bP t' m
  | [],_=>by simp [delP,bP]
  | (k, c) :: r, hn => by
    simp only [cD,List.map_cons,List.nodup_cons] at hn
    simp only [delP]
    by_cases h:t = k
    · subst h
      rw [if_pos rfl]
      simp only [bP]
      by_cases h1:t' = t
      · subst h1; rw [if_pos rfl]; exact iY hn.1
      · rw [if_neg h1,if_neg h1]
    · rw [if_neg h]
      simp only [bP]
      by_cases h1:t' = k
      · subst h1
        have:¬ t' = t:=fun e=>h e.symm
        simp [this]
      · rw [if_neg h1,if_neg h1]; exact mS t t' hn.2
theorem fh (t:Int) (b:β):∀ m:List (Int×β),(updP t b m).length = if (bP t m).isSome then m.length else m.length + 1
  | []=>by simp [updP,bP]
  | (k, c) :: r => by
    simp only [updP,bP]
    by_cases h:t = k
    · simp [h]
    · simp only [if_neg h,List.length_cons,fh t b r]
      split <;> rfl
theorem o1 (t:Int):∀ m:List (Int×β),(delP t m).length = if (bP t m).isSome then m.length - 1 else m.length
  | []=>by simp [delP,bP]
  | (k, c) :: r => by
    simp only [delP,bP]
    by_cases h:t = k
    · simp [h]
    · simp only [if_neg h,List.length_cons,o1 t r]
      split
      · rename_i q
        have:r≠[]:=by rintro rfl; simp [bP] at q
        have:=List.length_pos_iff.2 this
        omega
      · rfl
theorem keys_upd (t:Int) (b:β):∀ m:List (Int×β),cD (updP t b m) = if (bP t m).isSome then cD m else cD m++[t]
  | []=>by simp [updP,bP,cD]
  | (k, c) :: r => by
    simp only [updP,bP]
    by_cases h:t = k
    · simp [h,cD]
    · have:=keys_upd t b r
      simp only [cD] at this
      simp only [if_neg h,cD,List.map_cons,this]
      split <;> rfl
theorem kc (t x:Int):∀ {m:List (Int×β)},x ∈ cD (delP t m)→x ∈ cD m
  | [],h=>h
  | (k, c) :: r, h => by
    simp only [delP] at h
    simp only [cD,List.map_cons,List.mem_cons]
    split at h
    · exact .inr h
    · simp only [cD,List.map_cons,List.mem_cons] at h
      rcases h with h | h
      · exact .inl h
      · exact .inr (kc t x h)
theorem ot {t:Int} {b:β} {m:List (Int×β)} (h:(cD m).Nodup):(cD (updP t b m)).Nodup:=by
  rw [keys_upd]
  split
  · exact h
  · rename_i hs
    refine List.nodup_append.2 ⟨h,by simp,?_⟩
    intro x hx y hy
    simp only [List.mem_singleton] at hy
    subst hy
    rintro rfl
    have:∀ m:List (Int×β),x ∈ cD m→(bP x m).isSome = true:=by
      intro m
      induction m with
      | nil=>intro h; simp [cD] at h
      | cons p r ih =>
        obtain ⟨k,c⟩:=p
        intro h
        simp only [cD,List.map_cons,List.mem_cons] at h
        simp only [bP]
        split
        · rfl
        · rename_i hne
          rcases h with h | h
          · exact absurd h hne
          · exact ih h
    exact hs (this m hx)
theorem ov {t:Int}:∀ {m:List (Int×β)},(cD m).Nodup→(cD (delP t m)).Nodup
  | [],h=>h
  | (k, c) :: r, h => by
    simp only [cD,List.map_cons,List.nodup_cons] at h
    simp only [delP]
    split
    · exact h.2
    · simp only [cD,List.map_cons,List.nodup_cons]
      exact ⟨fun e=>h.1 (kc t k e),ov h.2⟩
def encE (k:IntKind) (ev:β→AV) (p:Int×β):AV×AV:=(.lit (.int k p.1),ev p.2)
def encM (k:IntKind) (ev:β→AV) (m:List (Int×β)):List (AV×AV):=m.map (encE k ev)
theorem iZ (k:IntKind) (ev:β→AV) (t:Int):∀ (m:List (Int×β)) (i:Nat),dU (.lit (.int k t)) (encM k ev m) i = .ok ((gb t m i).map fun p=>(p.1,ev p.2))
  | [],_=>rfl
  | (q, b) :: r, i => by
    have ih:=iZ k ev t r (i + 1)
    simp only [encM,List.map_cons,encE,dU,fu,if_true,gb] at ih ⊢
    by_cases h:t = q
    · subst h; simp
    · have:(t == q) = false:=by simpa using h
      simp only [this,if_neg h,Bool.false_eq_true,if_false]
      exact ih
end
section
variable {st st':St} {id q:Nat}
theorem getM_lt {es:List (AV×AV)} (h:st.getM id = some es):id < st.boxes.length:=by
  unfold St.getM at h
  split at h
  · rename_i hb
    exact (List.getElem?_eq_some_iff.1 hb).1
  · cases h
theorem dY (h:st'.boxes[id]? = st.boxes[id]?):st'.get id = st.get id:=by unfold St.get; rw [h]
theorem getM_at (h:st'.boxes[id]? = st.boxes[id]?):st'.getM id = st.getM id:=by unfold St.getM; rw [h]
theorem getB_at (h:st'.boxes[id]? = st.boxes[id]?):st'.getB id = st.getB id:=by unfold St.getB; rw [h]
theorem gn {cs:List AV} (h:id≠q):(st.set q cs).boxes[id]? = st.boxes[id]?:=by simp [St.set,List.getElem?_set_ne (fun e=>h e.symm)]
theorem o2 {es:List (AV×AV)} {bs:List Nat} {c:Nat} (h:id≠q):(st.setM q es bs c).boxes[id]? = st.boxes[id]?:=by simp [St.setM,List.getElem?_set_ne (fun e=>h e.symm)]
theorem cY {b:Box} (h:id < st.boxes.length):(st.push b).boxes[id]? = st.boxes[id]?:=by simp [St.push,List.getElem?_append_left h]
theorem kT {es:List (AV×AV)} {bs:List Nat} {c:Nat} (h:id < st.boxes.length):(st.setM id es bs c).getM id = some es:=by simp [St.setM,St.getM,h]
theorem d6 {es:List (AV×AV)} {bs:List Nat} {c:Nat} (h:id < st.boxes.length):(st.setM id es bs c).getB id = (bs,c):=by simp [St.setM,St.getB,h]
theorem get_mt {es:List (AV×AV)} (h:st.getM id = some es):st.get id = none:=by
  unfold St.getM at h; unfold St.get
  split at h
  · rename_i hb; simp [hb]
  · cases h
end
theorem St.sub_push (st:St) (b:Box):St.sub st (st.push b):=fun id x h=>by
  rw [cY (List.getElem?_eq_some_iff.1 h).1]; exact h
theorem St.sub_of {st st':St} (h:∀ id,id < st.boxes.length→st'.boxes[id]? = st.boxes[id]?):St.sub st st':=fun id x hx=>by
  rw [h id (List.getElem?_eq_some_iff.1 hx).1]; exact hx
def Oth (st st':St) (S:List Nat):Prop:=st'.boxes.length = st.boxes.length∧∀ id,id ∉ S→st'.boxes[id]? = st.boxes[id]?
theorem Oth.refl (st:St) (S:List Nat):Oth st st S:=⟨rfl,fun _ _=>rfl⟩
theorem Oth.trans {a b c:St} {S:List Nat} (h:Oth a b S) (k:Oth b c S):Oth a c S:=⟨k.1.trans h.1,fun id hid=>(k.2 id hid).trans (h.2 id hid)⟩
theorem Oth.mono {a b:St} {S S':List Nat} (h:Oth a b S) (hs:∀ x ∈ S,x ∈ S'):Oth a b S':=⟨h.1,fun id hid=>h.2 id fun e=>hid (hs id e)⟩
theorem Oth.set (st:St) (q:Nat) (cs:List AV) {S:List Nat} (h:q ∈ S):Oth st (st.set q cs) S:=⟨f0 ..,fun id hid=>gn fun e=>hid (e ▸ h)⟩
theorem Oth.get {a b:St} {S:List Nat} (h:Oth a b S) {id:Nat} (hid:id ∉ S):b.get id = a.get id:=dY (h.2 id hid)
section
variable {β:Type}
structure MapIs (st:St) (id:Nat) (k:IntKind) (ev:β→AV) (m:List (Int×β)):Prop where
  get:st.getM id = some (encM k ev m)
  nd:(cD m).Nodup
  bl:(st.getB id).1.length = m.length
  bn:(st.getB id).1.Nodup
  bc:∀ b ∈ (st.getB id).1,b < (st.getB id).2
variable {st st':St} {id:Nat} {k:IntKind} {ev:β→AV} {m:List (Int×β)}
theorem MapIs.lt (h:MapIs st id k ev m):id < st.boxes.length:=getM_lt h.get
theorem MapIs.at (h:MapIs st id k ev m) (hb:st'.boxes[id]? = st.boxes[id]?):MapIs st' id k ev m:=by
  refine ⟨(getM_at hb).trans h.get,h.nd,?_,?_,?_⟩ <;> rw [getB_at hb]
  · exact h.bl
  · exact h.bn
  · exact h.bc
theorem MapIs.oth {S:List Nat} (h:MapIs st id k ev m) (ho:Oth st st' S) (hid:id ∉ S):MapIs st' id k ev m:=h.at (ho.2 id hid)
theorem MapIs.set (h:MapIs st id k ev m) {q:Nat} {cs:List AV} (hq:id≠q):MapIs (st.set q cs) id k ev m:=h.at (gn hq)
theorem MapIs.push (h:MapIs st id k ev m) (b:Box):MapIs (st.push b) id k ev m:=h.at (cY h.lt)
theorem MapIs.ne (h:MapIs st id k ev m) {q:Nat} {cs:List AV} (hq:st.get q = some cs):id≠q:=by
  rintro rfl
  rw [get_mt h.get] at hq; cases hq
theorem dy (h:MapIs st id k ev m) {z:AV} {ok:Bool} {t:Int}:dg (.int k) z ok st (.map id) (.lit (.int k t)) = .ok (match bP t m with
    | some b=>if ok then .tup [(ev b).dis,.lit (.bool true)] else (ev b).dis
    | none=>if ok then .tup [z,.lit (.bool false)] else z):=by
  have hk:keyI (.int k) (.lit (.int k t)) = true:=by simp [keyI]
  unfold dg
  rw [if_pos hk]
  simp only [h.get,Res.ofOpt,Res.bind,iZ]
  rw [← fM t m 0]
  cases gb t m 0 <;> rfl
theorem eS (h:MapIs st id k ev m) {t:Int} {b:β} {x:AV} (hx:x.solid = true) (hd:x.dis = ev b) {K:Sf→St→Prop} {sf:Sf}
    (hK:∀ st',MapIs st' id k ev (updP t b m)→Oth st st' [id]→K sf st'):updX false (.int k) (.map id) (.lit (.int k t)) x K sf st:=by
  refine ⟨by simp [keyI],rfl,hx,?_⟩
  have hlt:=h.lt
  simp only [h.get,Res.ofOpt,Res.wp,iZ,hd]
  have hu:=kS (encE k ev) t b m 0
  cases hf:gb t m 0 with
  | none =>
    rw [hf] at hu
    simp only [Option.map_none,St.updM,updA]
    have hno:bP t m = none:=by rw [← fM t m 0,hf]; rfl
    refine hK _ ⟨?_,ot h.nd,?_,?_,?_⟩ ⟨by simp [St.setM],fun q hq=>o2 (by simpa using hq)⟩
    · rw [kT hlt]; exact congrArg some hu.1
    · rw [d6 hlt,fh,hno]; simp [h.bl]
    · rw [d6 hlt]
      refine List.nodup_append.2 ⟨h.bn,by simp,fun x hx y hy e=>?_⟩
      simp only [List.mem_singleton] at hy
      subst hy; subst e
      exact Nat.lt_irrefl _ (h.bc _ hx)
    · rw [d6 hlt]
      intro b hb
      simp only [List.mem_append,List.mem_singleton] at hb
      rcases hb with hb | rfl
      · have:=h.bc b hb; simp only; omega
      · simp
  | some p =>
    obtain ⟨j,c⟩:=p
    rw [hf] at hu
    simp only [Nat.sub_zero] at hu
    simp only [Option.map_some,St.updM,updA]
    have hyes:(bP t m).isSome = true:=by rw [← fM t m 0,hf]; rfl
    refine hK _ ⟨?_,ot h.nd,?_,?_,?_⟩ ⟨by simp [St.setM],fun q hq=>o2 (by simpa using hq)⟩
    · rw [kT hlt]; exact congrArg some hu.2.1
    · rw [d6 hlt,fh,if_pos hyes]; exact h.bl
    · rw [d6 hlt]; exact h.bn
    · rw [d6 hlt]; exact h.bc
theorem del_step (h:MapIs st id k ev m) {t:Int} {K:Sf→St→Prop} {sf:Sf}
    (hK:∀ st',MapIs st' id k ev (delP t m)→Oth st st' [id]→K sf st'):delX false (.int k) (.map id) (.lit (.int k t)) K sf st:=by
  refine ⟨by simp [keyI],rfl,?_⟩
  have hlt:=h.lt
  simp only [h.get,Res.ofOpt,Res.wp,iZ]
  cases hf:gb t m 0 with
  | none =>
    have hu:delP t m = m:=by
      have:∀ (m:List (Int×β)) (i:Nat),gb t m i = none→delP t m = m:=by
        intro m
        induction m with
        | nil=>intro i _; rfl
        | cons p r ih =>
          obtain ⟨k,c⟩:=p
          intro i h
          simp only [gb] at h
          simp only [delP]
          split at h
          · cases h
          · rename_i hne; rw [if_neg hne,ih (i + 1) h]
      exact this m 0 hf
    simp only [Option.map_none]
    exact hK _ (by rw [hu]; exact h) (Oth.refl _ _)
  | some p =>
    obtain ⟨j,c⟩:=p
    have hu:=kS (encE k ev) t c m 0
    rw [hf] at hu
    simp only [Nat.sub_zero] at hu
    simp only [Option.map_some,St.delM]
    have hyes:(bP t m).isSome = true:=by rw [← fM t m 0,hf]; rfl
    refine hK _ ⟨?_,ov h.nd,?_,?_,?_⟩ ⟨by simp [St.setM],fun q hq=>o2 (by simpa using hq)⟩
    · rw [kT hlt]; exact congrArg some hu.2.2.1
    · rw [d6 hlt,o1,if_pos hyes]
      simp only [List.length_eraseIdx,h.bl,if_pos hu.2.2.2]
    · rw [d6 hlt]; exact h.bn.sublist (List.eraseIdx_sublist ..)
    · rw [d6 hlt]; exact fun b hb=>h.bc b (List.mem_of_mem_eraseIdx hb)
theorem mT (h:MapIs st id k ev m):lenI .mp st (.map id) = .ok (.lit (.int .i64 m.length)):=by
  simp only [lenI,h.get,Res.ofOpt,Res.bind,encM,List.length_map]
theorem MapIs.clone (h:MapIs st id k ev m):MapIs (st.push (.mp (encM k ev m) (st.getB id).1 (st.getB id).2)) st.boxes.length k ev m:=by
  refine ⟨og ..,h.nd,?_,?_,?_⟩ <;> rw [oh]
  · exact h.bl
  · exact h.bn
  · exact h.bc
theorem MapIs.new (st:St) (k:IntKind) (ev:β→AV):MapIs (st.push (.mp [] [] 0)) st.boxes.length k ev []:=by
  refine ⟨og ..,by simp [cD],?_,?_,?_⟩ <;> rw [oh] <;> simp
end
theorem bU {P:Program} {X:Cx} {f:FuncId} {fn:AFun} {vs:List AV} {st:St} (hmix:P.follows .mixedOrders = true) (hf:bT P X f = some fn) (hX:X.F = id) (hlen:Nat.ble vs.length fn.n = true) {v0:AV} (h:∀ Q:AV→St→Prop,(∀ st',Q v0 st')→aFun P id true fn vs st Q):bF P f vs st v0:=by
  refine pcalls_of hmix hf (Nat.le_of_ble_eq_true hlen) ?_
  rw [hX]; exact h _ fun _=>rfl
end Go.Fx
/- Linked nodes in a map: a queue (plain lists; no program in sight). -/
namespace Go.Fx
open Go
abbrev Nd:=Int×Nat×Nat
abbrev Qu:=List (Nat×Int)
def bN:Qu→Nat→Nat
  | [],h=>h
  | (x,_)::_,_=>x
def bI:Nat→Qu→Nat
  | p,[]=>p
  | _,(t,_)::r=>bI t r
def cm:Nat→Qu→Nat→Nat→Option Nd
  | _,[],_,_=>none
  | p,(u,v)::r,h,t=>if t = u then some (v,p,bN r h) else cm u r h t
def bX (L:Qu):List Nat:=L.map Prod.fst
theorem gJ (B:Qu) (h t:Nat):∀ (A:Qu) (p:Nat),cm p (A++B) h t = match cm p A (bN B h) t with | some x=>some x | none=>cm (bI p A) B h t
  | [],p=>rfl
  | (u, v) :: A, p => by
    simp only [List.cons_append,cm,bI]
    split
    · cases A <;> rfl
    · exact gJ B h t A u
theorem dE {h t:Nat}:∀ {L:Qu} {p:Nat},t ∉ bX L→cm p L h t = none
  | [],_,_=>rfl
  | (u, v) :: r, p, hn => by
    simp only [bX,List.map_cons,List.mem_cons,not_or] at hn
    simp only [cm]
    rw [if_neg hn.1]
    exact dE hn.2
theorem eT:∀ {L:Qu} {p:Nat},L≠[]→bI p L ∈ bX L
  | [(t,v)],p,_=>by simp [bI,bX]
  | (t, v) :: y :: r, p, _ => by
    have:=eT (L:=y::r) (p:=t) (by simp)
    simp only [bI,bX,List.map_cons,List.mem_cons] at this ⊢
    exact .inr this
theorem gK (B:Qu):∀ (A:Qu) (p:Nat),bI p (A++B) = bI (bI p A) B
  | [],_=>rfl
  | (t,v)::A,p=>gK B A t
theorem last_ne {L:Qu} {p p':Nat} (h:L≠[]):bI p L = bI p' L:=by
  cases L with
  | nil=>exact absurd rfl h
  | cons x r=>rfl
theorem o3 {h h' t:Nat}:∀ {L:Qu} {p:Nat},(bX L).Nodup→L≠[]→cm p L h' t = if t = bI p L then (cm p L h t).map (fun x=>(x.1,x.2.1,h')) else cm p L h t
  | [(u, v)], p, _, _ => by
    simp only [cm,bI,bN]
    by_cases e:t = u
    · simp [e]
    · simp [e]
  | (u, v) :: (u2, v2) :: r, p, hn, _ => by
    have ih:=o3 (h:=h) (h':=h') (t:=t) (L:=(u2,v2)::r) (p:=u) (List.nodup_cons.1 hn).2 (by simp)
    have hl:=eT (L:=(u2,v2)::r) (p:=u) (by simp)
    have hne:u≠bI u ((u2,v2)::r):=fun e=>(List.nodup_cons.1 hn).1 (by rw [e]; exact hl)
    have e0:∀ q,cm p ((u,v)::(u2,v2)::r) q t = if t = u then some (v,p,u2) else cm u ((u2,v2)::r) q t:=fun q=>rfl
    rw [e0,e0,show bI p ((u,v)::(u2,v2)::r) = bI u ((u2,v2)::r) from rfl]
    by_cases e:t = u
    · subst e; rw [if_pos rfl,if_pos rfl,if_neg hne]
    · rw [if_neg e,if_neg e]; exact ih
theorem nodeA_p {h t p p':Nat} {u:Nat} {v:Int} {r:Qu} (hn:(bX ((u,v)::r)).Nodup):cm p' ((u,v)::r) h t = if t = u then (cm p ((u,v)::r) h t).map (fun x=>(x.1,p',x.2.2)) else cm p ((u,v)::r) h t:=by
  simp only [cm]
  by_cases e:t = u
  · simp [e]
  · simp [e]
theorem nodeA_push {L:Qu} {u:Nat} {v:Int} {t:Nat} (hn:(bX L).Nodup) (hu:u ∉ bX L) (hL:L≠[]) :
    cm 0 (L++[(u,v)]) 0 t = if t = bI 0 L then (cm 0 L 0 t).map (fun x=>(x.1,x.2.1,u)) else if t = u then some (v,bI 0 L,0) else cm 0 L 0 t:=by
  rw [gJ]
  simp only [bN,cm]
  have hl:=eT (p:=0) hL
  rw [o3 (h:=0) hn hL]
  by_cases e:t = bI 0 L
  · rw [if_pos e,if_pos e]
    cases hx:cm 0 L 0 t with
    | some x=>rfl
    | none =>
      exfalso
      have:∀ (L:Qu) (p:Nat),t ∈ bX L→cm p L 0 t≠none:=by
        intro L
        induction L with
        | nil=>intro p h; simp [bX] at h
        | cons y r ih =>
          obtain ⟨a,b⟩:=y
          intro p h
          simp only [cm]
          split
          · simp
          · rename_i hne
            simp only [bX,List.map_cons,List.mem_cons] at h
            exact ih a (h.resolve_left hne)
      exact this L 0 (e ▸ hl) hx
  · rw [if_neg e,if_neg e]
    by_cases e2:t = u
    · subst e2; rw [dE hu]
      try simp
    · simp only [if_neg e2]
      cases cm 0 L 0 t <;> rfl
theorem nodeA_del {A B:Qu} {u:Nat} {v:Int} {t:Nat} (hn:(bX (A++(u,v)::B)).Nodup) :
    cm 0 (A++B) 0 t = if t = u then none else
      if A≠[]∧t = bI 0 A then (cm 0 (A++(u,v)::B) 0 t).map (fun x=>(x.1,x.2.1,bN B 0)) else
      if B≠[]∧t = bN B 0 then (cm 0 (A++(u,v)::B) 0 t).map (fun x=>(x.1,bI 0 A,x.2.2)) else cm 0 (A++(u,v)::B) 0 t:=by
  have h1:(bX A).Nodup∧(bX ((u,v)::B)).Nodup∧∀ x ∈ bX A,∀ y ∈ bX ((u,v)::B),x≠y:=by
    simp only [bX,List.map_append] at hn
    exact List.nodup_append.1 hn
  obtain ⟨hA,hB0,hAB⟩:=h1
  have hB:=List.nodup_cons.1 hB0
  have hu:u ∉ bX A:=fun e=>hAB u e u (by simp [bX]) rfl
  rw [gJ,gJ,show bN ((u,v)::B) 0 = u from rfl]
  by_cases e:t = u
  · subst e
    rw [if_pos rfl,dE hu]
    exact dE hB.1
  · rw [if_neg e]
    have e1:cm (bI 0 A) ((u,v)::B) 0 t = cm u B 0 t:=by simp only [cm]; rw [if_neg e]
    rw [e1]
    by_cases hAe:A = []
    · subst hAe
      simp only [cm,bI,ne_eq,not_true_eq_false,false_and,if_false]
      cases B with
      | nil=>simp [cm]
      | cons y r =>
        obtain ⟨w,z⟩:=y
        rw [nodeA_p (p:=u) (p':=0) hB.2]
        simp [show bN ((w,z)::r) 0 = w from rfl]
    · rw [o3 (h:=u) (h':=bN B 0) hA hAe]
      by_cases e2:t = bI 0 A
      · have hin:t ∈ bX A:=e2 ▸ eT hAe
        rw [if_pos e2,if_pos ⟨hAe,e2⟩]
        cases hx:cm 0 A u t with
        | some x=>rfl
        | none =>
          have hnb:t ∉ bX B:=fun hb=>hAB t hin t (by simp only [bX,List.map_cons,List.mem_cons]; exact .inr hb) rfl
          simp only [Option.map_none,dE hnb]
      · rw [if_neg e2,if_neg (fun q=>e2 q.2)]
        cases B with
        | nil=>simp [cm]
        | cons y r =>
          obtain ⟨w,z⟩:=y
          rw [nodeA_p (p:=u) (p':=bI 0 A) hB.2]
          simp only [show bN ((w,z)::r) 0 = w from rfl,ne_eq,reduceCtorEq,not_false_eq_true,true_and]
          by_cases e3:t = w
          · have hna:t ∉ bX A:=fun ha=>hAB t ha t (by simp [bX,e3]) rfl
            rw [if_pos e3,if_pos e3,dE hna]
          · rw [if_neg e3,if_neg e3]
theorem nodeA_at {A B:Qu} {u:Nat} {v:Int} (hu:u ∉ bX A):cm 0 (A++(u,v)::B) 0 u = some (v,bI 0 A,bN B 0):=by
  rw [gJ,dE hu]
  simp [cm]
def ndAV (x:Nd):AV:=.agg [.lit (.int .i64 x.1),.lit (.int .u64 (x.2.1:Nat)),.lit (.int .u64 (x.2.2:Nat))]
theorem ndAV_dis (x:Nd):(ndAV x).dis = ndAV x:=rfl
structure QIs (st:St) (q mid:Nat) (L:Qu) (g:Nat):Prop where
  get:st.get q = some [.lit (.int .u64 (bN L 0:Nat)),.lit (.int .u64 (bI 0 L:Nat)),.lit (.int .u64 (g:Nat)),.map mid]
  mp:∃ m,MapIs st mid .u64 ndAV m∧(∀ t:Nat,bP t m = cm 0 L 0 t)∧m.length = L.length
  srt:(bX L).Pairwise (· < ·)
  pos:∀ t ∈ bX L,0 < t∧t≤g
theorem QIs.nd {st:St} {q mid g:Nat} {L:Qu} (h:QIs st q mid L g):(bX L).Nodup:=h.srt.imp fun h=>Nat.ne_of_lt h
theorem QIs.ne {st:St} {q mid g:Nat} {L:Qu} (h:QIs st q mid L g):mid≠q:=by
  obtain ⟨m,hm,_⟩:=h.mp
  exact hm.ne h.get
theorem QIs.ltq {st:St} {q mid g:Nat} {L:Qu} (h:QIs st q mid L g):q < st.boxes.length:=dx h.get
theorem QIs.ltm {st:St} {q mid g:Nat} {L:Qu} (h:QIs st q mid L g):mid < st.boxes.length:=by
  obtain ⟨m,hm,_⟩:=h.mp
  exact hm.lt
theorem QIs.at {st st':St} {q mid g:Nat} {L:Qu} (h:QIs st q mid L g) (h1:st'.boxes[q]? = st.boxes[q]?) (h2:st'.boxes[mid]? = st.boxes[mid]?):QIs st' q mid L g:=by
  obtain ⟨m,hm,h3,h4⟩:=h.mp
  exact ⟨(dY h1).trans h.get,⟨m,hm.at h2,h3,h4⟩,h.srt,h.pos⟩
theorem QIs.oth {st st':St} {q mid g:Nat} {L:Qu} {S:List Nat} (h:QIs st q mid L g) (ho:Oth st st' S) (h1:q ∉ S) (h2:mid ∉ S):QIs st' q mid L g:=h.at (ho.2 _ h1) (ho.2 _ h2)
theorem QIs.nil_iff {st:St} {q mid g:Nat} {L:Qu} (h:QIs st q mid L g):(bN L 0 = 0↔L = [])∧(bI 0 L = 0↔L = []):=by
  cases L with
  | nil=>simp [bN,bI]
  | cons x r =>
    obtain ⟨t,v⟩:=x
    have h1:=h.pos t (by simp [bX])
    have h2:=h.pos _ (eT (L:=(t,v)::r) (p:=0) (by simp))
    simp only [bN,reduceCtorEq,iff_false]
    omega
theorem fO {t:Nat}:∀ {L:Qu} {p:Nat},t ∈ bX L→∃ x,cm p L 0 t = some x
  | (u, v) :: r, p, h => by
    simp only [cm]
    split
    · exact ⟨_,rfl⟩
    · rename_i hne
      simp only [bX,List.map_cons,List.mem_cons] at h
      exact fO (h.resolve_left hne)
theorem dz (A B:Qu):bX (A++B) = bX A++bX B:=by simp [bX]
theorem QIs.clone {st st':St} {q mid q' mid' g:Nat} {L:Qu} (h:QIs st q mid L g) (hg:st'.get q' = some [.lit (.int .u64 (bN L 0:Nat)),.lit (.int .u64 (bI 0 L:Nat)),.lit (.int .u64 (g:Nat)),.map mid'])
    (hm:∀ m,MapIs st mid .u64 ndAV m→MapIs st' mid' .u64 ndAV m):QIs st' q' mid' L g:=by
  obtain ⟨m,h1,h2,h3⟩:=h.mp
  exact ⟨hg,⟨m,hm m h1,h2,h3⟩,h.srt,h.pos⟩
theorem nodeA_get {L:Qu} (hn:(bX L).Nodup) {i:Nat} (hi:i < L.length):cm 0 L 0 L[i].1 = some (L[i].2,bI 0 (L.take i),bN (L.drop (i + 1)) 0):=by
  have e:L = L.take i++(L[i].1,L[i].2)::L.drop (i + 1):=by
    rw [← List.drop_eq_getElem_cons hi,List.take_append_drop]
  have hno:L[i].1 ∉ bX (L.take i):=by
    intro hm
    have hn':=hn
    rw [e,dz] at hn'
    exact (List.nodup_append.1 hn').2.2 _ hm _ (by simp [bX]) rfl
  have:=nodeA_at (v:=L[i].2) (B:=L.drop (i + 1)) hno
  rw [← e] at this
  exact this
theorem nxt_drop {L:Qu} {i:Nat} (hi:i < L.length):bN (L.drop i) 0 = L[i].1:=by
  rw [List.drop_eq_getElem_cons hi]
  rfl
theorem tick_get {L:Qu} {i:Nat} (hi:i < L.length):L[i].1 ∈ bX L:=List.mem_map.2 ⟨L[i],List.getElem_mem hi,rfl⟩
theorem QIs.push {st st':St} {q mid g:Nat} {L:Qu} {v:Int} (h:QIs st q mid L g) {m':List (Int×Nd)} (hg:st'.get q = some [.lit (.int .u64 (bN (L++[(g + 1,v)]) 0:Nat)),.lit (.int .u64 ((g + 1:Nat))),.lit (.int .u64 ((g + 1:Nat))),.map mid])
    (hm:MapIs st' mid .u64 ndAV m') (hl:∀ t:Nat,bP t m' = cm 0 (L++[(g + 1,v)]) 0 t) (hn:m'.length = L.length + 1):QIs st' q mid (L++[(g + 1,v)]) (g + 1):=by
  refine ⟨by rw [gK]; exact hg,⟨m',hm,hl,by simp [hn]⟩,?_,fun t ht=>?_⟩
  · rw [dz]
    refine List.pairwise_append.2 ⟨h.srt,by simp [bX],fun x hx y hy=>?_⟩
    simp only [bX,List.map_cons,List.map_nil,List.mem_singleton] at hy
    have:=(h.pos x hx).2
    omega
  · rw [dz] at ht
    rcases List.mem_append.1 ht with ht | ht
    · have:=h.pos t ht; omega
    · simp only [bX,List.map_cons,List.map_nil,List.mem_singleton] at ht
      omega
theorem QIs.fresh {st:St} {q mid g:Nat} {L:Qu} (h:QIs st q mid L g):g + 1 ∉ bX L:=fun e=>by have:=(h.pos _ e).2; omega
theorem QIs.del {st st':St} {q mid g:Nat} {A B:Qu} {t:Nat} {v:Int} (h:QIs st q mid (A++(t,v)::B) g) {m':List (Int×Nd)} (hg:st'.get q = some [.lit (.int .u64 (bN (A++B) 0:Nat)),.lit (.int .u64 (bI 0 (A++B):Nat)),.lit (.int .u64 (g:Nat)),.map mid])
    (hm:MapIs st' mid .u64 ndAV m') (hl:∀ t:Nat,bP t m' = cm 0 (A++B) 0 t) (hn:m'.length = (A++B).length):QIs st' q mid (A++B) g:=by
  have hsub:(bX (A++B)).Sublist (bX (A++(t,v)::B)):=by
    simp only [dz]
    exact List.Sublist.append (List.Sublist.refl _) (List.sublist_cons_self _ _)
  exact ⟨hg,⟨m',hm,hl,hn⟩,h.srt.sublist hsub,fun x hx=>h.pos x (hsub.subset hx)⟩
end Go.Fx
/- A channel's state: plain lists, and where they lie. -/
namespace Go.Fx
open Go
abbrev W3:=Nat×Int×Int
structure ChP where
  closed:Bool
  cap:Nat
  buf:List Int
  S:List W3
  V:List W3
  g0:Nat
  g1:Nat
def qOf (l:List W3):Qu:=l.map fun x=>(x.1,x.2.1)
def wEnt (d:Int) (l:List W3):List (Int×(Int×Int×Nat)):=l.map fun x=>(x.2.1,(d,x.2.2,x.1))
def entC (S V:List W3):List (Int×(Int×Int×Nat)):=wEnt 0 S++wEnt 1 V
def wtAV (x:Int×Int×Nat):AV:=.agg [.lit (.int .i64 x.1),.lit (.int .i64 x.2.1),.lit (.int .u64 (x.2.2:Nat))]
def ints (l:List Int):List AV:=l.map fun v=>.lit (.int .i64 v)
theorem ints_lits (l:List Int):Lits (ints l):=fun x hx=>by
  simp only [ints,List.mem_map] at hx
  obtain ⟨v,_,rfl⟩:=hx
  exact ⟨_,rfl⟩
theorem cn (l:List Int):(ints l).length = l.length:=by simp [ints]
theorem ints_app (l k:List Int):ints (l++k) = ints l++ints k:=by simp [ints]
theorem ig {β:Type} {k:Int} {x:β} {B:List (Int×β)}:∀ {A:List (Int×β)},(cD (A++(k,x)::B)).Nodup→bP k (A++(k,x)::B) = some x∧∀ t,bP t (A++B) = if t = k then none else bP t (A++(k,x)::B)
  | [], h => by
    simp only [List.nil_append,cD,List.map_cons,List.nodup_cons] at h
    refine ⟨by simp [bP],fun t=>?_⟩
    by_cases e:t = k
    · subst e; rw [if_pos rfl]; exact iY h.1
    · simp [bP,e]
  | (a, b) :: A, h => by
    simp only [List.cons_append,cD,List.map_cons,List.nodup_cons] at h
    obtain ⟨h1,h2⟩:=ig (A:=A) (B:=B) (k:=k) (x:=x) h.2
    have hne:¬ k = a:=fun e=>h.1 (by rw [← e]; simp)
    refine ⟨by simp only [List.cons_append,bP]; rw [if_neg hne]; exact h1,fun t=>?_⟩
    simp only [List.cons_append,bP]
    by_cases e:t = a
    · have e2:¬ t = k:=fun q=>hne (by rw [← q,e])
      rw [if_pos e,if_neg e2,if_pos e]
    · rw [if_neg e,if_neg e]; exact h2 t
def aY:AV→List Nat
  | .bs id _ _ _ _=>[id]
  | _=>[]
structure ChIs (st:St) (c:Nat) (P:ChP) (q0 m0 q1 m1 wid:Nat) (bv:AV):Prop where
  get:st.get c = some [.lit (.bool true),.lit (.bool P.closed),.lit (.int .i64 (P.cap:Nat)),bv,.ptr q0 0,.ptr q1 0,.map wid]
  buf:MB bv st (ints P.buf)
  s:QIs st q0 m0 (qOf P.S) P.g0
  r:QIs st q1 m1 (qOf P.V) P.g1
  w:∃ W,MapIs st wid .i64 wtAV W∧∀ t,bP t W = bP t (entC P.S P.V)
  ids:[c,q0,q1,m0,m1,wid].Nodup
  bid:∀ x ∈ aY bv,x ∉ [c,q0,q1,m0,m1,wid]
  nd:(cD (entC P.S P.V)).Nodup
  rng:∀ t ∈ cD (entC P.S P.V),0≤t∧t < 64
  zv:∀ x ∈ P.V,x.2.2 = 0
def Kp (st st':St) (F:List Nat):Prop:=st.boxes.length≤st'.boxes.length∧∀ id,id < st.boxes.length→id ∉ F→st'.boxes[id]? = st.boxes[id]?
theorem MB.at {v:AV} {st st':St} {l:List AV} (h:MB v st l) (hb:∀ x ∈ aY v,st'.boxes[x]? = st.boxes[x]?):MB v st' l:=by
  rcases h with ⟨rfl,rfl⟩ | ⟨id,cap,r,rfl,hg,h1,h2⟩
  · exact .inl ⟨rfl,rfl⟩
  · exact .inr ⟨id,cap,r,rfl,(dY (hb id (by simp [aY]))).trans hg,h1,h2⟩
theorem MB.lt {v:AV} {st:St} {l:List AV} (h:MB v st l):∀ x ∈ aY v,x < st.boxes.length:=by
  rcases h with ⟨rfl,rfl⟩ | ⟨id,cap,r,rfl,hg,h1,h2⟩
  · simp [aY]
  · intro x hx
    simp only [aY,List.mem_singleton] at hx
    subst hx
    exact dx hg
section
variable {st st':St} {c q0 m0 q1 m1 wid:Nat} {bv:AV} {P:ChP}
theorem ChIs.lts (h:ChIs st c P q0 m0 q1 m1 wid bv):∀ x ∈ [c,q0,q1,m0,m1,wid]++aY bv,x < st.boxes.length:=by
  obtain ⟨W,hW,_⟩:=h.w
  intro x hx
  simp only [List.mem_append,List.mem_cons,List.not_mem_nil,or_false] at hx
  rcases hx with (rfl | rfl | rfl | rfl | rfl | rfl) | hx
  · exact dx h.get
  · exact h.s.ltq
  · exact h.r.ltq
  · exact h.s.ltm
  · exact h.r.ltm
  · exact hW.lt
  · exact h.buf.lt x hx
end
def foot (c q0 m0 q1 m1 wid:Nat) (bv:AV):List Nat:=[c,q0,q1,m0,m1,wid]++aY bv
def ChPost (st:St) (c:Nat) (P:ChP) (q0 m0 q1 m1 wid:Nat) (bv:AV) (st':St):Prop :=
  ∃ bv',ChIs st' c P q0 m0 q1 m1 wid bv'∧Kp st st' (foot c q0 m0 q1 m1 wid bv)∧∀ x ∈ aY bv',x ∈ aY bv∨st.boxes.length≤x
theorem ChIs.post {st st':St} {c q0 m0 q1 m1 wid:Nat} {bv:AV} {P:ChP} (h:ChIs st' c P q0 m0 q1 m1 wid bv) (hk:Kp st st' (foot c q0 m0 q1 m1 wid bv)):ChPost st c P q0 m0 q1 m1 wid bv st':=⟨bv,h,hk,fun _ h=>.inl h⟩
theorem ChIs.rebufC {st st1:St} {c q0 m0 q1 m1 wid:Nat} {bv bv1:AV} {P:ChP} {cl:Bool} {b':List Int} (h:ChIs st c P q0 m0 q1 m1 wid bv) (hm:MB bv1 st1 (ints b')) (hk:Kp st st1 (aY bv)) (hb:∀ x ∈ aY bv1,x ∈ aY bv∨st.boxes.length≤x) :
    ChIs (st1.set c [.lit (.bool true),.lit (.bool cl),.lit (.int .i64 (P.cap:Nat)),bv1,.ptr q0 0,.ptr q1 0,.map wid]) c { P with buf:=b',closed:=cl } q0 m0 q1 m1 wid bv1 ∧
    Kp st (st1.set c [.lit (.bool true),.lit (.bool cl),.lit (.int .i64 (P.cap:Nat)),bv1,.ptr q0 0,.ptr q1 0,.map wid]) (foot c q0 m0 q1 m1 wid bv):=by
  have hlt:=h.lts
  have hids:=h.ids
  have hbid:=h.bid
  have hcl:c < st1.boxes.length:=Nat.lt_of_lt_of_le (hlt c (by simp)) hk.1
  simp only [List.nodup_cons,List.mem_cons,List.not_mem_nil,or_false,not_or] at hids
  have hat:∀ x ∈ [q0,q1,m0,m1,wid],(st1.set c [.lit (.bool true),.lit (.bool cl),.lit (.int .i64 (P.cap:Nat)),bv1,.ptr q0 0,.ptr q1 0,.map wid]).boxes[x]? = st.boxes[x]?:=by
    intro x hx
    rw [gn (by simp at hx; omega)]
    refine hk.2 x (hlt x (by simp at hx ⊢; omega)) fun e=>?_
    exact hbid x e (by simp at hx ⊢; omega)
  have hbc:∀ x ∈ aY bv1,x ∉ [c,q0,q1,m0,m1,wid]:=by
    intro x hx hin
    rcases hb x hx with e | e
    · exact hbid x e hin
    · have:=hlt x (List.mem_append_left _ hin); omega
  obtain ⟨W,hW,hl⟩:=h.w
  refine ⟨⟨cE hcl,hm.at fun x hx=>gn fun e=>hbc x hx (by simp [e]),h.s.at (hat _ (by simp)) (hat _ (by simp)),h.r.at (hat _ (by simp)) (hat _ (by simp)),⟨W,hW.at (hat _ (by simp)),hl⟩,h.ids,hbc,h.nd,h.rng,h.zv⟩,⟨by rw [f0]; exact hk.1,fun x hx hn=>?_⟩⟩
  simp only [foot,List.mem_append,List.mem_cons,List.not_mem_nil,or_false,not_or] at hn
  rw [gn hn.1.1]
  exact hk.2 x hx hn.2
end Go.Fx
