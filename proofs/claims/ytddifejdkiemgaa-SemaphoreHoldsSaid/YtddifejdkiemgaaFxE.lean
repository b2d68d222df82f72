/- An evaluator for resolved code, proved against the model: part 5. -/
import Derived.Test.YtddifejdkiemgaaFxD
import Derived.ProofKit
import Derived.IntWalk
/- Functions, resolved: from what the resolved code does to a contract. -/
namespace Go.Fx
def msOf:List (Nat×List Nat×List Nat)→Nat→List Nat×List Nat
  | [],_=>([],[])
  | (q,r)::l,p=>if q = p then r else msOf l p
open Go Go.RowKit Go.Lib
section
variable {P:Program} {X:Cx} {f:FuncId} {fn':AFun} {vs:List AV} {st:St}
theorem rj (h:dX P X f = some fn'):∃ fn c b rs,P.funcs[f]? = some fn∧fn.body = some c∧X.n = fn.ntmps∧fF P X 1 c = some b∧jX P X.n fn.results.toList = some rs∧fn' = ⟨X.n,rs,b⟩:=by
  unfold dX at h
  split at h
  case h_2=>cases h
  rename_i fn hf
  split at h
  case h_2=>cases h
  rename_i c hc
  split at h
  case isFalse=>cases h
  rename_i hn
  split at h
  case h_2=>cases h
  rename_i b rs hb hr
  cases h
  exact ⟨fn,c,b,rs,hf,hc,hn.1,hb,hr,rfl⟩
theorem Ok.toE {m:Bool} {E E':Ent} {g:Gh} {w:World} {fr:Fr} {st:St} {a:Act} (h:Ok false E' g w fr st a) (hE:Ext false E E'):Ok false E g w fr st { a with defers:=[] }:=by
  have hmv:=hE.mvE h.mv
  have h1:=hE.dd
  have h2:=hE.NN
  obtain ⟨d,N,g0,w0,st0,lo⟩:=E
  obtain ⟨d',N',g0',w0',st0',lo'⟩:=E'
  simp only at h1 h2
  subst h1; subst h2
  exact ⟨h.size,h.slots,h.ctx,DefsR.nil _,hmv,fun e=>(by cases e),h.hN,h.hm⟩
theorem rk {P:Program} {fn:Func} {R:Ending→World→Prop} {E:Ent} {g:Gh} {fr:Fr} {st:St} {a:Act} (hE:∀ D c,E.g.cls D = some c→D < E.lo) (hlo:E.g.base≤E.lo)
    (hfin:∀ w,Ok false E g w fr st a→∃ v,(results fn a.tmps).run P w = .ok v w∧R (.returned v) w):∀ (ds:List Deferred) (w:World),(∀ x ∈ ds,∃ D dd s,x = { target:=.collected D,args:=#[] }∧E.lo≤D∧g.cls D = some (.loc dd s)∧dd < E.d∧w.heap[D]? = some (.deferred (some []))) →
      (ds.map fun x=>x.target).Nodup→Ok false E g w fr st a→LeavesInM (FW none) 0 P fn a.tmps R ds .returning w
  | [],w,_,_,h=>hfin w h
  | x :: ds, w, ha, hn, h => by
    obtain ⟨D,dd,s,rfl,h1,h2,h3,h4⟩:=ha x (by simp)
    simp only [List.map_cons,List.nodup_cons] at hn
    refine ⟨by simp,.inl ⟨D,_,rfl,run_takeDeferred h4,?_⟩⟩
    have hnone:E.g.cls D = none:=by
      cases hc:E.g.cls D with
      | none=>rfl
      | some c=>have:=hE D c hc; omega
    refine rk hE hlo hfin ds _ (fun y hy=>?_) hn.2 (h.putD h2 (by omega) hnone (Nat.le_trans hlo h1) _)
    obtain ⟨D',dd',s',rfl,k1,k2,k3,k4⟩:=ha y (by simp [hy])
    have hne:D'≠D:=by
      rintro rfl
      exact hn.1 (List.mem_map.2 ⟨_,hy,rfl⟩)
    exact ⟨D',dd',s',rfl,k1,k2,k3,by rw [World.putObj_heap_other hne]; exact k4⟩
theorem acalls_of (hmix:P.follows .mixedOrders = true) (hf:dX P X f = some fn') (hlen:vs.length≤fn'.n) {K:AV→St→Prop} (h:aFun P X.F false fn' vs st K):dt P f vs st K:=by
  obtain ⟨fn,c,b,rs,hfn,hc,hn,hb,hr,rfl⟩:=rj hf
  intro D g w us L hg hbx ha
  have hus:us.size≤X.n:=by rw [ha.1]; exact hlen
  refine lU.1 (callsIn_of_wp_marks (F:=FW none) (n:=0) hfn hc trivial ?_)
  have h0:=ok_start (m:=false) (d:=D + 1) (N:=0) (n:=X.n) (st:=st) hg hbx ha (Nat.zero_le _) (fun _=>rfl) hus
  rw [← hn]
  have key:∀ (sf:Sf) (st':St) (g':Gh) (w':World) (a':Act),Ok false ⟨D + 1,0,g,w,st,w.heap.size⟩ g' w' (sp X.n sf) st' a'→((retI rs sf st').wp fun v=>v.noL = true∧K v st') →
      ∃ v,(results fn a'.tmps).run P w' = .ok v w'∧∃ u v' st' g',Ending.returned v = .returned u∧K v' st'∧Mv false 0 D g w g' w'∧BoxR g' w' st'∧R g' v' u∧OwnV g' w' 0 L v' u:=by
    intro sf st' g' w' a' hok hret
    obtain ⟨v,u,hK,hnl,hrun,hR,hown⟩:=ri (K:=fun v=>K v st') hok hr hret
    refine ⟨u,hrun,u,v,st',?_⟩
    rcases hown with hno | ⟨t,ht,rfl,rfl⟩
    · exact ⟨g',rfl,hK,hok.mv.inner (Nat.le_succ _),hok.ctx.box,ov hnl hR,fun i c x hc _=>Own.of_no (hno i c hc)⟩
    · obtain ⟨h1,h2,h3⟩:=hok.steal t L
      rw [gy ht] at h2 h3
      exact ⟨_,rfl,hK,h1.mv.inner (Nat.le_succ _),h1.ctx.box,ov hnl h2,h3⟩
  have key2:∀ (E':Ent) (sf:Sf) (st':St) (g':Gh) (w':World) (a':Act),Ext false ⟨D + 1,0,g,w,st,w.heap.size⟩ E'→Ok false E' g' w' (sp X.n sf) st' a'→((retI rs sf st').wp fun v=>v.noL = true∧K v st') →
      LeavesInM (FW none) 0 P fn a'.tmps (fun e w'=>∃ u v st' g',e = .returned u∧K v st'∧Mv false 0 D g w g' w'∧BoxR g' w' st'∧R g' v u∧OwnV g' w' 0 L v u) a'.defers .returning w':=by
    intro E' sf st' g' w' a' hE hok hret
    have hok0:=hok.toE (m:=false) hE
    refine rk (E:=⟨D + 1,0,g,w,st,w.heap.size⟩) (a:={ a' with defers:=[] }) (fun b c hc=>(hg.cls b c hc).2) hg.base (fun w2 hok2=>key sf st' g' w2 _ hok2 hret) a'.defers w' (fun x hx=>?_) hok.defers.nd hok0
    obtain ⟨b,dd,s,h1,h2,h3,h4,h5⟩:=hok.defers.all x hx
    obtain ⟨q1,q2,_⟩:=hok.mv.outer b _ h3 h4
    have hd:=hE.dd
    have hl:=hE.lolo
    simp only at hd hl
    exact ⟨b,dd,s,h1,by rw [← hl]; exact h2,q1,by rw [← hd]; exact h4,by rw [q2]; exact h5⟩
  refine aC_sound hmix c 1 b hb (.inl ⟨rfl,by simp,Nat.le_refl _⟩) h0 h fun E' e sf st' g' w' a' hE hok hq=>?_
  cases e with
  | normal=>exact key2 E' sf st' g' w' a' hE hok hq
  | ret=>exact key2 E' sf st' g' w' a' hE hok hq
  | exit id=>exact hq.elim
  | goto l=>exact hq.elim
  | panic ch=>exact hq.elim
  | outgrown=>exact hq.elim
theorem pcalls_of (hmix:P.follows .mixedOrders = true) (hf:dX P X f = some fn') (hlen:vs.length≤fn'.n) {v0:AV} (h:aFun P X.F true fn' vs st fun v st'=>v = v0):dJ P f vs st v0:=by
  obtain ⟨fn,c,b,rs,hfn,hc,hn,hb,hr,rfl⟩:=rj hf
  intro g w us L hg hbx ha
  have hus:us.size≤X.n:=by rw [ha.1]; exact hlen
  refine calls_of_wp hfn hc ?_
  have h0:=ok_start (m:=true) (d:=1) (N:=w.heap.size) (n:=X.n) (st:=st) hg hbx ha (Nat.le_refl _) (fun e=>by cases e) hus
  rw [← hn]
  have fin:∀ (g':Gh) (w':World),Mv true w.heap.size 1 g w g' w'→LeP g w { g' with lb:=g.lb } w':=by
    intro g' w' hm
    obtain ⟨h1,h2⟩:=hm.pure rfl
    exact ⟨⟨hm.os,hm.tape,hm.output,hm.size,fun k hk=>(h1 k hk).1⟩,fun b hb=>(h1 b hb).2.1,fun b hb=>(h1 b hb).2.2,h2,rfl,hm.base,fun _=>⟨hm.good.imm,hm.good.immc,hm.good.cls,hm.good.base⟩⟩
  have hle:∀ g':Gh,GhLe g' { g' with lb:=g.lb }:=fun g'=>⟨fun _ _ _ h=>h,fun _ _ h=>h⟩
  have key:∀ (sf:Sf) (st':St) (g':Gh) (w':World) (a':Act),Ok true ⟨1,w.heap.size,g,w,st,w.heap.size⟩ g' w' (sp X.n sf) st' a'→((retI rs sf st').wp fun v=>v.noL = true∧v = v0) →
      a'.defers = []∧∃ v,(results fn a'.tmps).run P w' = .ok v w'∧∃ u g',Ending.returned v = .returned u∧LeP g w g' w'∧R g' v0 u∧OwnV g' w' w.heap.size L v0 u:=by
    intro sf st' g' w' a' hok hret
    obtain ⟨v,u,hK,hnl,hrun,hR,hown⟩:=ri (K:=fun v=>v = v0) hok hr hret
    subst hK
    have hdf:a'.defers = []:=by
      cases hds:a'.defers with
      | nil=>rfl
      | cons x r =>
        obtain ⟨b,dd,s,h1,h2,h3,h4,h5⟩:=hok.defers.all x (by rw [hds]; simp)
        have:=(hg.cls b _ h3).2
        simp only at h2
        omega
    refine ⟨hdf,u,hrun,u,?_⟩
    rcases hown with hno | ⟨t,ht,rfl,rfl⟩
    · exact ⟨_,rfl,fin g' w' hok.mv,(ov hnl hR).mono (hle g'),fun i c x hc _=>Own.of_no (hno i c hc)⟩
    · obtain ⟨h1,h2,h3⟩:=hok.steal t L
      rw [gy ht] at h2 h3
      exact ⟨_,rfl,fin _ w' h1.mv,(ov hnl h2).mono (hle _),fun i c x hc hx=>h3 i c x hc hx⟩
  refine (wpIn_wide (n:=0)).1 (aC_sound hmix c 1 b hb (.inl ⟨rfl,by simp,Nat.le_refl _⟩) h0 h fun E' e sf st' g' w' a' hE hok hq=>?_)
  rcases hE with rfl | ⟨hE,_⟩
  case inr=>cases hE
  cases e with
  | normal=>exact key sf st' g' w' a' hok hq
  | ret=>exact key sf st' g' w' a' hok hq
  | exit id=>exact hq.elim
  | goto l=>exact hq.elim
  | panic ch=>exact hq.elim
  | outgrown=>exact hq.elim
end
end Go.Fx
/- A function that keeps what it makes to itself leaves all alone. -/
namespace Go.Fx
open Go Go.RowKit Go.Lib
inductive AV.NB:AV→Prop where
  | any:AV.NB .any
  | lit (v:Value):AV.NB (.lit v)
  | cptr (cs:List AV) (h:∀ c ∈ cs,AV.NB c):AV.NB (.cptr cs)
  | sl (o:Bool) (k:Nat) (es:List AV) (h:∀ c ∈ es,AV.NB c):AV.NB (.sl o k es)
  | fn (f:Fn) (fs cs:List AV) (h1:∀ c ∈ fs,AV.NB c) (h2:∀ c ∈ cs,AV.NB c):AV.NB (.fn f fs cs)
  | agg (cs:List AV) (h:∀ c ∈ cs,AV.NB c):AV.NB (.agg cs)
  | tup (cs:List AV) (h:∀ c ∈ cs,AV.NB c):AV.NB (.tup cs)
  | ifc (t:Nat) (v:AV) (h:AV.NB v):AV.NB (.ifc t v)
section
variable {g g':Gh} {w w':World} {N:Nat}
theorem nb_cells {e:AV} (h:e.NB):∀ c ∈ e.cells,c.NB:=by
  cases h with
  | agg cs h=>exact h
  | any=>intro c hc; simp [AV.cells] at hc; subst hc; exact .any
  | lit v=>intro c hc; simp [AV.cells] at hc; subst hc; exact .lit v
  | cptr cs h=>intro c hc; simp [AV.cells] at hc; subst hc; exact .cptr cs h
  | sl o k es h=>intro c hc; simp [AV.cells] at hc; subst hc; exact .sl o k es h
  | fn f fs cs h1 h2=>intro c hc; simp [AV.cells] at hc; subst hc; exact .fn f fs cs h1 h2
  | tup cs h=>intro c hc; simp [AV.cells] at hc; subst hc; exact .tup cs h
  | ifc t v h=>intro c hc; simp [AV.cells] at hc; subst hc; exact .ifc t v h
theorem R.nb (hi:∀ b o u,g.imm b o = some u→g'.imm b o = some u) {v:AV} {u:Value} (h:R g v u):v.NB→R g' v u:=by
  induction h with
  | any u=>exact fun _=>.any u
  | lit v h=>exact fun _=>.lit v h
  | ptr id off b h=>exact fun h=>by cases h
  | cptr cs us b o h1 _ ih =>
    intro hn
    cases hn with
    | cptr _ hn=>exact .cptr cs us b o (fun i c hc=>hi _ _ _ (h1 i c hc)) (fun i c hc=>ih i c hc (hn c (List.mem_of_getElem? hc)))
  | sl own k es us b o c hc hk h1 _ h3 ih =>
    intro hn
    cases hn with
    | sl _ _ _ hn =>
      refine .sl own k es us b o c hc hk (fun i x hx=>hi _ _ _ (h1 i x hx)) (fun i x hx=>ih i x hx ?_) h3
      have:=List.mem_of_getElem? hx
      simp only [List.mem_flatMap] at this
      obtain ⟨e,he,hxe⟩:=this
      exact nb_cells (hn e he) x hxe
  | slE own k a c=>exact fun _=>.slE own k a c
  | slN own k=>exact fun _=>.slN own k
  | bs id k off len cap b h=>exact fun h=>by cases h
  | mit id s l p b=>exact fun h=>by cases h
  | yld id b h=>exact fun h=>by cases h
  | ifc t v u _ ih =>
    intro hn
    cases hn with | ifc _ _ hn=>exact .ifc t v u (ih hn)
  | map id b h=>exact fun h=>by cases h
  | fn f fs cs us vs hu hv _ _ ih1 ih2 =>
    intro hn
    cases hn with
    | fn _ _ _ n1 n2=>exact .fn f fs cs us vs hu hv (fun i x u hx hu=>ih1 i x u hx hu (n1 x (List.mem_of_getElem? hx))) (fun i x u hx hu=>ih2 i x u hx hu (n2 x (List.mem_of_getElem? hx)))
  | agg cs us hu _ ih =>
    intro hn
    cases hn with | agg _ hn=>exact .agg cs us hu (fun i x u hx hu=>ih i x u hx hu (hn x (List.mem_of_getElem? hx)))
  | tup cs us hu _ ih =>
    intro hn
    cases hn with | tup _ hn=>exact .tup cs us hu (fun i x u hx hu=>ih i x u hx hu (hn x (List.mem_of_getElem? hx)))
inductive Frz (st:St):AV→AV→Prop where
  | le (v v0:AV) (h:AV.le v v0) (hn:v0.NB):Frz st v v0
  | bs (id k off len cap:Nat) (cs:List AV) (hg:st.get id = some cs) (hl:off + len * k≤cs.length) (hcap:len≤cap) (hk:∀ c ∈ cs.drop off,c.NB):Frz st (.bs id k off len cap) (.sl false k (grp k len (cs.drop off)))
  | agg (cs ds:List AV) (hl:ds.length = cs.length) (h:∀ (i:Nat) (c d:AV),cs[i]? = some c→ds[i]? = some d→Frz st c d) (hn:∀ d ∈ ds,d.noOwn):Frz st (.agg cs) (.agg ds)
  | tup (cs ds:List AV) (hl:ds.length = cs.length) (h:∀ (i:Nat) (c d:AV),cs[i]? = some c→ds[i]? = some d→Frz st c d):Frz st (.tup cs) (.tup ds)
def frzL (st:St):List AV→List AV→Prop
  | [],[]=>True
  | c::r,d::q=>Frz st c d∧frzL st r q
  | _,_=>False
theorem frzL_facts {st:St}:∀ {l k:List AV},frzL st l k→k.length = l.length∧∀ (i:Nat) (c d:AV),l[i]? = some c→k[i]? = some d→Frz st c d
  | [],[],_=>⟨rfl,fun i c d h=>by simp at h⟩
  | [],_::_,h=>h.elim
  | _::_,[],h=>h.elim
  | v :: r, u :: s, ⟨h1, h2⟩ => by
    obtain ⟨q1,q2⟩:=frzL_facts h2
    refine ⟨by simp [q1],fun i c d hc hd=>?_⟩
    cases i with
    | zero=>simp at hc hd; subst hc; subst hd; exact h1
    | succ i=>exact q2 i c d (by simpa using hc) (by simpa using hd)
def Gh.hide (g:Gh) (n:Nat):Gh:={ base:=0,imm:=g.imm,bx:=fun _=>none,lb:=g.lb,cls:=fun b=>if b < n then some (.arr (.slot 0 0 0)) else none }
theorem hide_good (h:Good g w):Good (g.hide w.heap.size) w:=by
  refine ⟨h.imm,fun b o u hi=>.inr ⟨_,by simp [Gh.hide,h.lt hi]; rfl⟩,fun b c hc=>?_,Nat.zero_le _⟩
  simp only [Gh.hide] at hc
  split at hc
  · rename_i hl; exact ⟨Nat.zero_le _,hl⟩
  · cases hc
def Gh.show (g g1:Gh) (n:Nat) (L:Nat→Loc) (fb:Nat→Option (Array Value)):Gh :=
  { base:=g.base,bx:=g.bx,lb:=g.lb
    imm:=fun b o=>if b < n then g.imm b o else match fb b with
      | some us=>us[o]?
      | none=>g1.imm b o
    cls:=fun b=>if b < n then g.cls b else match g1.cls b with
      | some (.arr (.slot 5 0 k))=>some (.arr (L k))
      | _=>none }
def frzB (g1:Gh) (w:World) (n:Nat) (b:Nat):Option (Array Value) :=
  if n≤b then (match g1.cls b,w.heap[b]? with
    | some (.box _),some (.cells us _ (0,0))=>some us
    | _,_=>none) else none
def Fzn (g1 gs:Gh) (st:St):Prop:=∀ id cs,st.get id = some cs→∃ (b:Nat) (us:Array Value),g1.bx id = some b∧(∀ o:Nat,gs.imm b o = us[o]?)∧us.size = cs.length ∧
  (∀ (i:Nat) (c:AV) (x:Value),cs[i]? = some c→us[i]? = some x→R g1 c x)∧∀ x ∈ us,x.oneCell' = true
theorem fzn_of {g1 gs:Gh} {w:World} {st:St} {n:Nat} (hb1:BoxR g1 w st) (hbn:∀ id b,g1.bx id = some b→g1.cls b = some (.box id)→n≤b) (kf:∀ b us,frzB g1 w n b = some us→∀ o:Nat,gs.imm b o = us[o]?):Fzn g1 gs st:=by
  intro id cs hgt
  obtain ⟨b,us',T,a1,a2,a3,a4,a5,a6⟩:=hb1.2.1 id cs (by unfold St.get at hgt; split at hgt <;> first | (cases hgt; assumption) | cases hgt)
  have hge:=hbn id b a1 a2
  have hfz:frzB g1 w n b = some us':=by simp [frzB,hge,a2,a3]
  exact ⟨b,us',a1,kf b us' hfz,a4,fun i c x hc hx=>(a5 i c x hc hx).1,a6⟩
theorem frz_R {g1 gs:Gh} {st:St} (hf:Fzn g1 gs st) (k2:∀ b o u,g1.imm b o = some u→gs.imm b o = some u) {v v0:AV} (h:Frz st v v0):∀ {u:Value},R g1 v u→R gs v0 u:=by
  induction h with
  | le v v0 hle hn=>exact fun hR=>(hle.r hR).nb k2 hn
  | agg cs ds hl h hn ih =>
    intro u hR
    obtain ⟨us,rfl,hr⟩:=hR.agg_inv
    refine .agg ds us (by have:=hr.1; simp at this; omega) fun i x u hx hu=>?_
    have hlt:i < cs.length:=by rw [← hl]; exact (List.getElem?_eq_some_iff.1 hx).1
    exact ih i cs[i] x (by simp [hlt]) hx (hr.2 i cs[i] u (by simp [hlt]) (by simpa using hu))
  | tup cs ds hl h ih =>
    intro u hR
    cases hR with
    | tup _ us hu hR =>
      refine .tup ds us (by omega) fun i x u hx hu'=>?_
      have hlt:i < cs.length:=by rw [← hl]; exact (List.getElem?_eq_some_iff.1 hx).1
      exact ih i cs[i] x (by simp [hlt]) hx (hR i cs[i] u (by simp [hlt]) hu')
  | bs id k off len cap cs hgt hl hcap hk =>
    intro u hR
    obtain ⟨b,us',a1,kf,a4,a5,a6⟩:=hf id cs hgt
    cases hR with
    | bs _ _ _ _ _ b' hb' =>
      have:b' = b:=Option.some.inj (hb'.symm.trans a1)
      subst this
      have hone:∀ c ∈ cs.drop off,c.cells = [c]:=by
        intro c hc
        obtain ⟨i,hi⟩:=List.mem_iff_getElem?.1 (List.mem_of_mem_drop hc)
        have hlt:i < us'.size:=by rw [a4]; exact (List.getElem?_eq_some_iff.1 hi).1
        have hx:us'[i]? = some us'[i]:=Array.getElem?_eq_getElem hlt
        exact qM (a5 i c _ hi hx) (a6 _ (Array.getElem_mem hlt))
      obtain ⟨q1,q2,q3⟩:=nC (k:=k) len (cs.drop off) hone (by simp; omega)
      have hcell:∀ (i:Nat) (x:AV),((grp k len (cs.drop off)).flatMap AV.cells)[i]? = some x→i < len * k∧cs[off + i]? = some x:=by
        intro i x hx
        rw [q3,List.getElem?_take] at hx
        split at hx
        · rename_i hil; exact ⟨hil,by simpa using hx⟩
        · cases hx
      have:=R.sl (g:=gs) false k (grp k len (cs.drop off)) (fun i=>us'.getD (off + i) undef) b' off cap (by rw [q1]; exact hcap) q2 (fun i x hx=>?_) (fun i x hx=>?_) (fun i x hx=>?_)
      · rw [q1] at this; exact this
      · obtain ⟨hi,hc⟩:=hcell i x hx
        have hlt:off + i < us'.size:=by omega
        rw [kf]
        simp [hlt]
      · obtain ⟨hi,hc⟩:=hcell i x hx
        have hlt:off + i < us'.size:=by omega
        have e1:us'.getD (off + i) undef = us'[off + i]:=by simp [hlt]
        rw [e1]
        exact (a5 (off + i) x _ hc (Array.getElem?_eq_getElem hlt)).nb k2 (hk x (by rw [List.mem_iff_getElem?]; exact ⟨i,by simpa using hc⟩))
      · obtain ⟨hi,hc⟩:=hcell i x hx
        have hlt:off + i < us'.size:=by omega
        have e1:us'.getD (off + i) undef = us'[off + i]:=by simp [hlt]
        rw [e1]
        exact a6 _ (Array.getElem_mem hlt)
theorem pure_of {P:Program} {f:FuncId} {vs:List AV} {v0:AV} (h:dt P f vs ⟨[]⟩ fun v st'=>Frz st' v v0) (hvs:∀ v ∈ vs,v.NB) (st:St):dJ P f vs st v0:=by
  intro g w us L hg hbx ha
  have ha0:jQ (g.hide w.heap.size) vs us:=⟨ha.1,fun i x u hx hu=>R.nb (g:=g) (g':=g.hide w.heap.size) (fun _ _ _ h=>h) (ha.2 i x u hx hu) (hvs x (List.mem_of_getElem? hx))⟩
  have hb0:BoxR (g.hide w.heap.size) w ⟨[]⟩:=⟨fun _ _=>rfl,fun id cs hc=>by simp at hc,fun id bx hc=>by simp at hc⟩
  refine (h 1 _ w us (fun k=>.slot 5 0 k) (hide_good hg) hb0 ha0).mono fun e w' ⟨u,v,st',g1,he,hF,hmv,hb1,hR,hO⟩=>?_
  have hout:∀ b,b < w.heap.size→g1.cls b = some (.arr (.slot 0 0 0))∧w'.heap[b]? = w.heap[b]?∧g1.imm b = g.imm b:=fun b hb =>
    hmv.outer b (.arr (.slot 0 0 0)) (by simp [Gh.hide,hb]) (Nat.zero_lt_one)
  have hbel:Below w.heap.size w w':=⟨hmv.os,hmv.tape,hmv.output,hmv.size,fun k hk=>(hout k hk).2.1⟩
  have hfz:∀ b us,frzB g1 w' w.heap.size b = some us→w.heap.size≤b∧b < w'.heap.size∧(∃ id,g1.cls b = some (.box id))∧∃ T,w'.heap[b]? = some (.cells us T (0,0)):=by
    intro b us h
    unfold frzB at h
    split at h
    · rename_i hge
      split at h
      · rename_i id us' T h1 h2
        cases h
        exact ⟨hge,(Array.getElem?_eq_some_iff.1 h2).1,⟨id,h1⟩,T,h2⟩
      · cases h
    · cases h
  have himm:∀ b o u,g1.imm b o = some u→(g.show g1 w.heap.size L (frzB g1 w' w.heap.size)).imm b o = some u:=by
    intro b o u hi
    simp only [Gh.show]
    split
    · rename_i hl; rw [← (hout b hl).2.2]; exact hi
    · split
      · rename_i us e
        obtain ⟨_,_,⟨id,hid⟩,_⟩:=hfz b us e
        rcases hmv.good.immc b o u hi with h1 | ⟨L',h1⟩ <;> rw [hid] at h1 <;> cases h1
      · exact hi
  have k1:LeP g w (g.show g1 w.heap.size L (frzB g1 w' w.heap.size)) w':=by
    refine ⟨hbel,fun b hb=>by funext o; simp [Gh.show,hb],fun b hb=>by simp [Gh.show,hb],rfl,rfl,rfl,fun _=>?_⟩
    refine ⟨fun b o u hi=>?_,fun b o u hi=>?_,fun b c hc=>?_,?_⟩
    · simp only [Gh.show] at hi
      split at hi
      · rename_i hl
        have:=hg.imm b o u hi
        unfold World.cell? at this ⊢
        rw [(hout b hl).2.1]; exact this
      · split at hi
        · rename_i us e
          obtain ⟨_,_,_,T,hT⟩:=hfz b us e
          rw [cell_of_row w' b o us T (0,0) hT]; exact hi
        · exact hmv.good.imm b o u hi
    · simp only [Gh.show] at hi ⊢
      split at hi
      · rename_i hl; simp only [hl,if_true]; exact hg.immc b o u hi
      · rename_i hl
        simp only [hl,if_false]
        split
        · exact .inr ⟨_,rfl⟩
        · exact .inl rfl
    · simp only [Gh.show] at hc
      split at hc
      · rename_i hl
        have:=hg.cls b c hc
        exact ⟨this.1,Nat.lt_of_lt_of_le hl hmv.size⟩
      · rename_i hl
        split at hc
        · rename_i k hk
          have:=(hmv.good.cls b _ hk).2
          have hb:=hg.base
          exact ⟨by simp only [Gh.show]; omega,this⟩
        · cases hc
    · have:=hg.base
      have:=hmv.size
      simp only [Gh.show]; omega
  have hbn:∀ id b,g1.bx id = some b→g1.cls b = some (.box id)→w.heap.size≤b:=by
    intro id b _ h2
    refine Nat.le_of_not_lt fun hlt=>?_
    rw [(hout b hlt).1] at h2; cases h2
  have kf:∀ b us,frzB g1 w' w.heap.size b = some us→∀ o:Nat,(g.show g1 w.heap.size L (frzB g1 w' w.heap.size)).imm b o = us[o]?:=by
    intro b us h o
    have hge:=(hfz b us h).1
    have hnl:¬ b < w.heap.size:=by omega
    simp only [Gh.show,hnl,if_false,h]
  have hRR:=frz_R (fzn_of hb1 hbn kf) himm hF hR
  cases hF with
  | le _ _ hle hn =>
    have hO0:OwnV g1 w' 0 (fun k=>.slot 5 0 k) v0 u:=hle.ownV (d:=0) (RS.of hR) hO
    refine ⟨u,_,he,k1,hRR,fun i c x hc hx=>⟨fun k es e=>?_,fun id s l stp e=>?_⟩⟩
    · rcases (hO0 i c x hc hx).1 k es e with h0 | ⟨b,o,c',cur,T,q1,_,q2,q3,q4,q5,q6⟩
      · exact .inl h0
      · have hge:w.heap.size≤b:=by
          refine Nat.le_of_not_lt fun hl=>?_
          rw [(hout b hl).1] at q2; cases q2
        have hnl:¬ b < w.heap.size:=by omega
        have hf0:frzB g1 w' w.heap.size b = none:=by simp [frzB,q2]
        exact .inr ⟨b,o,c',cur,T,q1,hge,by simp [Gh.show,hnl,q2],q3,q4,q5,fun j hj hj'=>by simp [Gh.show,hnl,hf0,q6 j hj hj']⟩
    · subst e
      have:=nb_cells hn _ (List.mem_of_getElem? hc)
      cases this
  | bs id k off len cap cs hgt hl hcap hk =>
    exact ⟨_,_,he,k1,hRR,fun i c x hc hx=>by
      cases i with
      | succ i=>simp [AV.cells] at hc
      | zero=>simp [AV.cells] at hc; subst hc; exact Own.of_no trivial⟩
  | agg cs ds hl h hn=>exact ⟨_,_,he,k1,hRR,fun i c x hc hx=>Own.of_no (hn c (List.mem_of_getElem? hc))⟩
  | tup cs ds hl h =>
    exact ⟨_,_,he,k1,hRR,fun i c x hc hx=>by
      cases i with
      | succ i=>simp [AV.cells] at hc
      | zero=>simp [AV.cells] at hc; subst hc; exact Own.of_no trivial⟩
end
end Go.Fx
/- Equations for evaluation: each with all its arguments, so that nothing is opened ahead of its turn. -/
namespace Go.Fx
open Go
section
variable (P:Program) (F:Nat→FuncId) (m:Bool) (sf:Sf) (st:St) (Q:Exit→Sf→St→Prop) (K:Sf→St→Prop)
theorem oS:aC P F m .skip sf st Q = Q .normal sf st:=rfl
theorem fP (lv ll:List Nat) (id:Nat):aC P F m (.exit lv ll id) sf st Q = Q (.exit id) (sf.mask lv ll) st:=rfl
theorem r7:aC P F m .ret sf st Q = Q .ret sf st:=rfl
theorem oE (C:Sf→St→(Exit→Sf→St→Prop)→Prop):seqQ C Q .normal sf st = C sf st Q:=rfl
theorem m6 (C:Sf→St→(Exit→Sf→St→Prop)→Prop):seqQ C Q .ret sf st = Q .ret sf st:=rfl
theorem en (C:Sf→St→(Exit→Sf→St→Prop)→Prop) (id:Nat):seqQ C Q (.exit id) sf st = Q (.exit id) sf st:=rfl
theorem bG (id:Nat):jL id Q .normal sf st = Q .normal sf st:=rfl
theorem eh (id:Nat):jL id Q .ret sf st = Q .ret sf st:=rfl
theorem dV (id id':Nat):jL id Q (.exit id') sf st = if id' = id then Q .normal sf st else Q (.exit id') sf st:=rfl
theorem oT (lv ll:List Nat):opsK lv ll Q sf st = Q .normal (sf.mask lv ll) st:=rfl
theorem m7 (rs:List RI) (C:AV→St→Prop):retQ rs C .ret sf st = (retI rs sf st).wp (fun v=>v.noL = true∧C v st):=rfl
theorem kT (rs:List RI) (C:AV→St→Prop):retQ rs C .normal sf st = (retI rs sf st).wp (fun v=>v.noL = true∧C v st):=rfl
theorem condI_eq (x:Opd) (b:Bool) (A B:Sf→St→(Exit→Sf→St→Prop)→Prop):m4 x (.lit (.bool b)) A B sf st Q = ((b = true→A (x.setB sf true) st Q)∧(b = false→B (x.setB sf false) st Q)):=rfl
theorem m8:runI P F m [] K sf st = K sf st:=rfl
theorem rm (i:AI) (r:List GI):runI P F m (⟨none,i⟩::r) K sf st = oneI P F m i (runI P F m r K) sf st:=rfl
theorem aS (t:Nat) (want:Bool) (i:AI) (r:List GI):runI P F m (⟨some (t,want),i⟩::r) K sf st = jk t want (sf.reg t) (oneI P F m i (runI P F m r K)) (skipI i.dst (runI P F m r K)) sf st:=rfl
theorem rn (t:Nat) (want:Bool) (cs:List AV) (Y N:Sf→St→Prop):jk t want (.tup cs) Y N sf st = N sf st:=rfl
theorem ro (t:Nat) (want b:Bool) (Y N:Sf→St→Prop):jk t want (.lit (.bool b)) Y N sf st = ((b = want→Y (sf.set t (.lit (.bool want))) st)∧(b = (!want)→N (sf.set t (.lit (.bool (!want)))) st)):=by
  unfold jk
  refine propext ⟨fun h=>⟨fun e=>?_,fun e=>?_⟩,fun ⟨h1,h2⟩ c hc=>?_⟩
  · have:=h want e; simpa using this
  · have:=h (!want) e
    rw [if_neg (by cases want <;> simp)] at this
    exact this
  · subst hc
    by_cases hw:b = want
    · subst hw; rw [if_pos rfl]; exact h1 rfl
    · rw [if_neg hw]
      have:b = !want:=by cases b <;> cases want <;> simp_all
      subst this
      exact h2 rfl
theorem eX (d:Option Nat):skipI d K sf st = K (sf.put d (.tup [])) st:=rfl
theorem oX (d:Option Nat) (v:AV):putP K d sf st v = K (sf.put d v) st:=rfl
theorem m9 (d:Option Nat) (v:AV):putK K d sf v st = K (sf.put d v) st:=rfl
theorem eD (i:AI) (h1:oneI P F m i K sf st = (eP F m i sf st).wp (kA K)) (h2:eP F m i sf st = vI i.dst sf st (popI F i sf st)):oneI P F m i K sf st = (popI F i sf st).wp (putP K i.dst sf st):=by
  rw [h1,h2]
  unfold vI
  exact propext Res.wp_bind
def pickV (c a b:AV):Res AV:=match c with
  | .lit (.bool t)=>.ok (if t then a.dis else b.dis)
  | _=>.fail
def extV (v:AV) (i:Nat):Res AV:=match v with
  | .tup vs=>(Res.ofOpt vs[i]?).bind fun v=>.ok v.dis
  | _=>.fail
def kU (v:AV) (off:Nat) (k:Option Nat):Res AV:=match v with
  | .agg cs=>(mo k (cs.drop off)).bind fun v=>.ok v.dis
  | _=>.fail
def ixSV (v i:AV) (k:Nat):Res AV:=match v with
  | .sl _ k' es=>if k' = k then (ixA i es.length).bind fun j=>.ok (.cptr (es.getD j .any).cells) else .fail
  | .bs id k' off len _=>if k' = k then (ixA i len).bind fun j=>.ok (.ptr id (off + j * k)) else .fail
  | _=>.fail
def bK (sf:Sf) (st:St) (v:AV) (k:Option Nat):Res AV:=(a8 sf st v).bind fun cs=>(mo k cs).bind fun v=>.ok v.dis
def cB (v:AV):Res AV:=match v with
  | .ptr a b=>.ok (.ptr a b)
  | .lptr a b=>.ok (.lptr a b)
  | .cptr cs=>.ok (.cptr cs)
  | _=>.fail
def sli3V (v:AV) (lo hi:Option AV) (mx:AV) (k:Nat):Res AV:=match v with
  | .bs id k' off len cap=>if k' = k then sliB (some mx) hi lo id k off len cap else .fail
  | .sl _ k' es=>if k' = k then sl3 (some mx) hi lo es.length es.length fun l h m=>if m = l then .ok (.sl true k []) else .ok (.sl false k ((es.take h).drop l)) else .fail
  | _=>.fail
def tasV (v:AV) (t:Nat):Res AV:=match v with
  | .ifc t' v=>if t' = t then .ok v.dis else .fail
  | _=>.fail
def mkfnV (q:FuncId) (fs cs:List AV):Res AV:=if (fs++cs).all AV.solid1 = true then .ok (.fn (.func q) fs cs) else .fail
def mkifV (v:AV) (t:Nat):Res AV:=if v.solid1 = true then .ok (.ifc t v.dis) else .fail
def bslV (k len:Nat) (z:AV) (parts:List (Nat×AV)):Res AV:=(iL k parts (List.replicate len z)).bind fun es=>.ok (.sl true k es)
def bstV (places:List (Nat×Nat)) (z:AV) (parts:List (Nat×AV)):Res AV:=(eF (fun i=>places[i]?) parts z.cells).bind fun cs=>.ok (.agg cs)
section
variable (d:Option Nat) (x y i:Opd)
theorem o_mv:oneI P F m (.mv d x) K sf st = K (sf.put d (sf.ev F x).dis) st:=eD P F m sf st K (.mv d x) rfl rfl
theorem c8 (c a b:Opd):oneI P F m (.pick d c a b) K sf st = (pickV (sf.ev F c) (sf.ev F a) (sf.ev F b)).wp (putP K d sf st):=eD P F m sf st K (.pick d c a b) rfl rfl
theorem o_bin (k:BinK) (op:BinOp):oneI P F m (.bin d k op x y) K sf st = (binI k op (sf.ev F x) (sf.ev F y)).wp (putP K d sf st):=eD P F m sf st K (.bin d k op x y) rfl rfl
theorem o_un (op:UnOp):oneI P F m (.un d op x) K sf st = (unA op (sf.ev F x)).wp (putP K d sf st):=eD P F m sf st K (.un d op x) rfl rfl
theorem fH (j:Nat):oneI P F m (.ext d x j) K sf st = (extV (sf.ev F x) j).wp (putP K d sf st):=eD P F m sf st K (.ext d x j) rfl rfl
theorem oY (off:Nat) (k:Option Nat):oneI P F m (.field d x off k) K sf st = (kU (sf.ev F x) off k).wp (putP K d sf st):=eD P F m sf st K (.field d x off k) rfl rfl
theorem cf (off:Nat):oneI P F m (.addr d x off) K sf st = (addA (sf.ev F x) off).wp (putP K d sf st):=eD P F m sf st K (.addr d x off) rfl rfl
theorem kV (k:Nat):oneI P F m (.ixS d x i k) K sf st = (ixSV (sf.ev F x) (sf.ev F i) k).wp (putP K d sf st):=eD P F m sf st K (.ixS d x i k) rfl rfl
theorem o_ixA (n k:Nat):oneI P F m (.ixA d x i n k) K sf st = ((Fx.ixA (sf.ev F i) n).bind fun j=>addA (sf.ev F x) (j * k)).wp (putP K d sf st):=eD P F m sf st K (.ixA d x i n k) rfl rfl
theorem ca (k:Option Nat):oneI P F m (.load d x k) K sf st = (bK sf st (sf.ev F x) k).wp (putP K d sf st):=eD P F m sf st K (.load d x k) rfl rfl
theorem ce:oneI P F m (.nilck d x) K sf st = (cB (sf.ev F x)).wp (putP K d sf st):=eD P F m sf st K (.nilck d x) rfl rfl
theorem o_sli3 (lo hi:Option Opd) (mx:Opd) (k:Nat):oneI P F m (.sli3 d x lo hi mx k) K sf st = (sli3V (sf.ev F x) (lo.map (sf.ev F)) (hi.map (sf.ev F)) (sf.ev F mx) k).wp (putP K d sf st):=eD P F m sf st K (.sli3 d x lo hi mx k) rfl rfl
theorem o_mkif (t:Nat):oneI P F m (.mkif d t x) K sf st = (mkifV (sf.ev F x) t).wp (putP K d sf st):=eD P F m sf st K (.mkif d t x) rfl rfl
theorem o_tas (t:Nat):oneI P F m (.tas d t x) K sf st = (tasV (sf.ev F x) t).wp (putP K d sf st):=eD P F m sf st K (.tas d t x) rfl rfl
theorem pW (k len:Nat) (z:AV) (parts:List (Nat×Opd)):oneI P F m (.bsl d k len z parts) K sf st = (bslV k len z (parts.map fun p=>(p.1,sf.ev F p.2))).wp (putP K d sf st):=eD P F m sf st K (.bsl d k len z parts) rfl rfl
theorem oF (places:List (Nat×Nat)) (z:AV) (parts:List (Nat×Opd)):oneI P F m (.bst d places z parts) K sf st = (bstV places z (parts.map fun p=>(p.1,sf.ev F p.2))).wp (putP K d sf st):=eD P F m sf st K (.bst d places z parts) rfl rfl
theorem gm (k:KeyK) (z:AV) (ok:Bool) (mp key:Opd):oneI P F m (.lookup d k z ok mp key) K sf st = (e6 k z ok st (sf.ev F mp) (sf.ev F key)).wp (putP K d sf st):=eD P F m sf st K (.lookup d k z ok mp key) rfl rfl
theorem o_mkfn (g:Nat) (first cap:List Opd):oneI P F m (.mkfn d g first cap) K sf st = (mkfnV (F g) (first.map (sf.ev F)) (cap.map (sf.ev F))).wp (putP K d sf st):=eD P F m sf st K (.mkfn d g first cap) rfl rfl
theorem er (k:LenK):oneI P F m (.len d k x) K sf st = (lenI k st (sf.ev F x)).wp (putP K d sf st):=eD P F m sf st K (.len d k x) rfl rfl
theorem o_mn (lt:Bool):oneI P F m (.mn d lt x y) K sf st = (ke lt (sf.ev F x) (sf.ev F y)).wp (putP K d sf st):=eD P F m sf st K (.mn d lt x y) rfl rfl
end
def na (m:Bool) (d:Nat) (v:AV) (K:Sf→St→Prop) (sf:Sf) (st:St):Prop :=
  match v with
  | .lptr s off=>(Res.ofOpt (look s sf.locs)).wp fun cs=>match cs[off]? with
      | some (.sl true k es)=>K ((sf.setLoc s (cs.set off (.sl false k es))).set d (.sl true k es)) st
      | _=>(bK sf st (.lptr s off) none).wp (putP K (some d) sf st)
  | .ptr id off=>if m then (bK sf st (.ptr id off) none).wp (putP K (some d) sf st) else (Res.ofOpt (st.get id)).wp fun cs=>match cs[off]? with
      | some (.sl true k es)=>K (sf.set d (.sl true k es)) (st.set id (cs.set off (.sl false k es)))
      | _=>(bK sf st (.ptr id off) none).wp (putP K (some d) sf st)
  | v=>(bK sf st v none).wp (putP K (some d) sf st)
theorem lP (d:Option Nat) (r:Res AV):(vI d sf st r).wp (kA K) = r.wp (putP K d sf st):=by
  unfold vI
  exact propext Res.wp_bind
theorem rp (d:Nat) (x:Opd):oneI P F m (.loadOwn d x) K sf st = na m d (sf.ev F x) K sf st:=by
  show (eP F m (.loadOwn d x) sf st).wp (kA K) = _
  have hld:(popI F (.load (some d) x none) sf st) = bK sf st (sf.ev F x) none:=rfl
  simp only [eP,hld]
  generalize sf.ev F x = v
  unfold na
  cases v with
  | lptr s off =>
    simp only
    cases hl:look s sf.locs with
    | none=>rfl
    | some cs =>
      simp only [Res.ofOpt,Res.bind,Res.wp]
      cases hc:cs[off]? with
      | none=>exact lP sf st K (some d) _
      | some c =>
        cases c with
        | sl o k es=>cases o <;> first | rfl | exact lP sf st K (some d) _
        | _=>exact lP sf st K (some d) _
  | ptr id off =>
    simp only
    cases m
    · simp only [Bool.false_eq_true,if_false]
      cases hl:st.get id with
      | none=>rfl
      | some cs =>
        simp only [Res.ofOpt,Res.bind,Res.wp]
        cases hc:cs[off]? with
        | none=>exact lP sf st K (some d) _
        | some c =>
          cases c with
          | sl o k es=>cases o <;> first | rfl | exact lP sf st K (some d) _
          | _=>exact lP sf st K (some d) _
    · simp only [if_true]
      exact lP sf st K (some d) _
  | _=>exact lP sf st K (some d) _
theorem bH (d s:Nat):oneI P F m (.own d s) K sf st = K ((sf.disAt s).set d (sf.reg s)) st:=rfl
def appSX (d s k bytes:Nat) (v y:AV) (K:Sf→St→Prop) (sf:Sf) (st:St):Prop :=
  match v with
  | .sl true k' es=>(ko st k bytes (.sl true k' es) y).wp fun v=>K ((sf.disAt s).set d v) st
  | v=>(jF st k bytes v y).wp (putP K (some d) sf st)
theorem o_appS (d s k bytes:Nat) (y:Opd):oneI P F m (.appS d s k bytes y) K sf st = appSX d s k bytes (sf.reg s) (sf.ev F y) K sf st:=by
  show (eP F m (.appS d s k bytes y) sf st).wp (kA K) = _
  have hld:(popI F (.app (some d) k bytes (.r s) y) sf st) = jF st k bytes (sf.reg s) (sf.ev F y):=rfl
  simp only [eP,hld]
  unfold appSX
  generalize sf.reg s = v
  cases v with
  | sl o k' es =>
    cases o
    · exact lP sf st K (some d) _
    · exact propext Res.wp_bind
  | _=>exact lP sf st K (some d) _
theorem iz (d:Nat) (cs:List AV):oneI P F m (.newL d cs) K sf st = K (sf.newLoc d cs) st:=rfl
theorem o_newB (d:Nat) (cs:List AV):oneI P F m (.newB d cs) K sf st = (m = false∧K (sf.set d (.ptr st.boxes.length 0)) (st.push (.cells cs))):=by
  cases m
  · exact propext ⟨fun h=>⟨rfl,h⟩,fun h=>h.2⟩
  · exact propext ⟨fun h=>h.elim,fun h=>by cases h.1⟩
def boxX (n:Nat) (v:AV) (C:Prop):Prop:=v.solid = true∧v.cells.length = n∧C
theorem o_boxB (d n:Nat) (x:Opd):oneI P F m (.boxB d n x) K sf st = boxX n (sf.evOwn F x) (m = false∧K ((sf.disOp x).set d (.ptr st.boxes.length 0)) (st.push (.cells (sf.evOwn F x).cells))):=by
  show (eP F m (.boxB d n x) sf st).wp (kA K) = _
  unfold boxX
  simp only [eP]
  split
  · rename_i h; exact propext ⟨fun q=>⟨h.1,h.2.1,h.2.2,q⟩,fun q=>q.2.2.2⟩
  · rename_i h; exact propext ⟨fun q=>q.elim,fun q=>h ⟨q.1,q.2.1,q.2.2.1⟩⟩
def d9 (m:Bool) (a:AV) (vs:List AV) (K:Sf→St→Prop) (sf:Sf) (st:St):Prop :=
  match a with
  | .lptr s off=>(Res.ofOpt (look s sf.locs)).wp fun cs=>off + vs.length≤cs.length∧K (sf.setLoc s (eO cs off vs)) st
  | .ptr id off=>m = false∧(Res.ofOpt (st.get id)).wp fun cs=>off + vs.length≤cs.length∧K sf (st.set id (eO cs off vs))
  | _=>False
theorem dT (n:Nat) (a x:Opd):oneI P F m (.store n a x) K sf st = boxX n (sf.evOwn F x) (d9 m (sf.ev F a) (sf.evOwn F x).cells K (sf.disOp x) st):=by
  show (eP F m (.store n a x) sf st).wp (kA K) = _
  have hw:(rT m (sf.disOp x) st (sf.ev F a) (sf.evOwn F x).cells).wp (kA K) = d9 m (sf.ev F a) (sf.evOwn F x).cells K (sf.disOp x) st:=by
    generalize (sf.evOwn F x).cells = vs
    generalize sf.disOp x = sf1
    unfold rT d9
    generalize sf.ev F a = v
    have hif:∀ (c:Prop) [Decidable c] (r:Sf×St),(if c then Res.ok r else Res.fail).wp (kA K) = (c∧K r.1 r.2):=by
      intro c _ r
      by_cases hc:c
      · rw [if_pos hc]; exact propext ⟨fun q=>⟨hc,q⟩,fun q=>q.2⟩
      · rw [if_neg hc]; exact propext ⟨fun q=>q.elim,fun q=>hc q.1⟩
    cases v with
    | lptr s off =>
      simp only
      cases hl:look s sf1.locs with
      | none=>rfl
      | some cs=>exact hif _ _
    | ptr id off =>
      simp only
      cases m
      · simp only [Bool.false_eq_true,if_false,true_and]
        cases hl:st.get id with
        | none=>rfl
        | some cs=>exact hif _ _
      · exact propext ⟨fun q=>q.elim,fun q=>by cases q.1⟩
    | _=>rfl
  unfold boxX
  simp only [eP]
  split
  · rename_i h; rw [hw]; exact propext ⟨fun q=>⟨h.1,h.2,q⟩,fun q=>q.2.2⟩
  · rename_i h; exact propext ⟨fun q=>q.elim,fun q=>h ⟨q.1,q.2.1⟩⟩
def delX (m:Bool) (k:KeyK) (mp key:AV) (K:Sf→St→Prop) (sf:Sf) (st:St):Prop :=
  keyI k key = true∧m = false∧match mp with
  | .map id=>(Res.ofOpt (st.getM id)).wp fun es=>(gg key es 0).wp fun r=>match r with
      | some (i,_)=>K sf (st.delM id es i)
      | none=>K sf st
  | _=>False
theorem o_del (k:KeyK) (mp key:Opd):oneI P F m (.del k mp key) K sf st = delX m k (sf.ev F mp) (sf.ev F key) K sf st:=by
  show (eP F m (.del k mp key) sf st).wp (kA K) = _
  simp only [eP]
  unfold delX
  generalize sf.ev F key = kv
  generalize sf.ev F mp = v
  by_cases h:keyI k kv = true∧m = false
  · have:∀ A:Prop,(keyI k kv = true∧m = false∧A) = A:=fun A=>propext ⟨fun q=>q.2.2,fun q=>⟨h.1,h.2,q⟩⟩
    rw [if_pos h,this]
    cases v with
    | map id =>
      simp only
      cases hl:st.getM id with
      | none=>rfl
      | some es =>
        refine propext ((Res.wp_bind (r:=gg kv es 0)).trans ?_)
        refine ⟨fun q=>Res.wp_mono (r:=gg kv es 0) q fun r hr=>?_,fun q=>Res.wp_mono (r:=gg kv es 0) q fun r hr=>?_⟩ <;> (cases r <;> exact hr)
    | _=>rfl
  · rw [if_neg h]
    exact propext ⟨fun q=>q.elim,fun q=>h ⟨q.1,q.2.1⟩⟩
theorem o_mkmap (d:Nat):oneI P F m (.mkmap d) K sf st = (m = false∧K (sf.set d (.map st.boxes.length)) (st.push (.mp [] [] 0))):=by
  cases m
  · exact propext ⟨fun h=>⟨rfl,h⟩,fun h=>h.2⟩
  · exact propext ⟨fun h=>h.elim,fun h=>by cases h.1⟩
def updX (m:Bool) (k:KeyK) (mp key x:AV) (K:Sf→St→Prop) (sf:Sf) (st:St):Prop :=
  keyI k key = true∧m = false∧x.solid = true∧match mp with
  | .map id=>(Res.ofOpt (st.getM id)).wp fun es=>(gg key es 0).wp fun r=>K sf (st.updM id es key x.dis r)
  | _=>False
theorem oG (k:KeyK) (mp key x:Opd):oneI P F m (.upd k mp key x) K sf st = updX m k (sf.ev F mp) (sf.ev F key) (sf.ev F x) K sf st:=by
  show (eP F m (.upd k mp key x) sf st).wp (kA K) = _
  simp only [eP]
  unfold updX
  generalize sf.ev F key = kv
  generalize sf.ev F mp = v
  generalize sf.ev F x = xv
  by_cases h:keyI k kv = true∧m = false∧xv.solid = true
  · have:∀ A:Prop,(keyI k kv = true∧m = false∧xv.solid = true∧A) = A:=fun A=>propext ⟨fun q=>q.2.2.2,fun q=>⟨h.1,h.2.1,h.2.2,q⟩⟩
    rw [if_pos h,this]
    cases v with
    | map id =>
      simp only
      cases hl:st.getM id with
      | none=>rfl
      | some es=>exact propext (Res.wp_bind (r:=gg kv es 0))
    | _=>rfl
  · rw [if_neg h]
    exact propext ⟨fun q=>q.elim,fun q=>h ⟨q.1,q.2.1,q.2.2.1⟩⟩
theorem o_x (d:Option Nat) (i:XI):oneI P F m (.x d i) K sf st = eg F m i d K sf st:=rfl
theorem aI (d:Option Nat) (p:Bool) (f:Opd) (args:List Opd):oneI P F m (.call d p f args) K sf st = lM P m p d (sf.ev F f) (args.map (sf.ev F)) K sf st:=rfl
theorem callI_eq (p:Bool) (d:Option Nat) (q:FuncId) (fs cs args:List AV):lM P m p d (.fn (.func q) fs cs) args K sf st =
    (args.all AV.noL = true∧(if (p || m) = true then CallP P q (fs++args.map AV.dis++cs) st (putP K d sf st) else CallA P q (fs++args.map AV.dis++cs) st (putK K d sf))):=rfl
theorem rq {A:Type} (a:A) (C:A→Prop):(Res.ok a).wp C = C a:=rfl
theorem wp_req {A:Type} (b:Bool) (r:Res A) (C:A→Prop):(Res.req b r).wp C = (b = true∧r.wp C):=rfl
theorem wp_fail {A:Type} (C:A→Prop):(Res.fail:Res A).wp C = False:=rfl
theorem o0 {A B:Type} (a:A) (f:A→Res B):(Res.ok a).bind f = f a:=rfl
theorem cE {A B:Type} (b:Bool) (r:Res A) (f:A→Res B):(Res.req b r).bind f = .req b (r.bind f):=rfl
theorem pX {A:Type} (a:A):Res.ofOpt (some a) = .ok a:=rfl
end
section
variable {P:Program} {m:Bool} {d:Option Nat} {q:FuncId} {fs cs args vs:List AV} {sf:Sf} {st:St} {K:Sf→St→Prop} {v:AV}
theorem cF {p:Bool} (hvs:fs++args.map AV.dis++cs = vs) (hent:cQ P q = true) (h:dJ P q vs st v) (hn:args.all AV.noL = true) (hK:K (sf.put d v) st):lM P m p d (.fn (.func q) fs cs) args K sf st:=by
  rw [callI_eq,hvs]
  refine ⟨hn,?_⟩
  split
  · exact ⟨hent,v,h,hK⟩
  · exact ⟨hent,_,h.acalls,fun v' st' e=>by obtain ⟨rfl,rfl⟩:=e; exact hK⟩
theorem du {Q:AV→St→Prop} (hvs:fs++args.map AV.dis++cs = vs) (hent:cQ P q = true) (h:dt P q vs st Q) (hn:args.all AV.noL = true) (hK:∀ v st',Q v st'→K (sf.put d v) st'):lM P false false d (.fn (.func q) fs cs) args K sf st:=by
  rw [callI_eq,hvs]
  exact ⟨hn,hent,Q,h,hK⟩
theorem call_y {id:Nat} {Q:Bool→St→Prop} (hvs:args.map AV.dis = vs) (h:km P id vs st Q) (hn:args.all AV.noL = true) (hK:∀ t st',Q t st'→K (sf.put d (.lit (.bool t))) st'):lM P false false d (.yld id) args K sf st:=by
  subst hvs
  exact ⟨hn,rfl,Q,h,hK⟩
end
theorem range_a {P:Program} {CA CB:Sf→St→(Exit→Sf→St→Prop)→Prop} {ps lb lv ll:List Nat} {q:FuncId} {fs cs:List AV} {sf:Sf} {st:St} {Q:Exit→Sf→St→Prop} (hent:cQ P q = true)
    (h:∀ r:Loop,(∀ vs st' Q',r6 CA CB ps st.boxes.length r (jG lb sf) vs st' Q'→km P st.boxes.length vs st' Q') →
      ∃ Qc,dt P q (fs++[.yld st.boxes.length]++cs) (st.push (.lp r (jG lb sf))) Qc∧∀ v st',Qc v st'→behindI lv ll st.boxes.length r (jG lb sf) sf st' Q):nW P CA CB ps lb lv ll (.fn (.func q) fs cs) sf st Q:=⟨hent,h⟩
end Go.Fx
/- From the readings of a row to abstract values, and back. -/
namespace Go.Fx
open Go Go.RowKit Go.ChangeShapes
inductive Sh where
  | bool
  | int (k:IntKind)
  | str
  | sl (e:Sh)
  | unit
  | pair (a r:Sh)
@[reducible] def Sh.T:Sh→Type
  | .bool=>Bool
  | .int _=>Int
  | .str=>ByteArray
  | .sl e=>List e.T
  | .unit=>Unit
  | .pair a r=>a.T×r.T
def Sh.size:Sh→Nat
  | .unit=>0
  | .pair a r=>a.size + r.size
  | _=>1
def Sh.isSt:Sh→Bool
  | .unit=>true
  | .pair _ _=>true
  | _=>false
def kW:Bool→List AV→AV
  | true,cs=>.agg cs
  | false,cs=>cs.headD .any
def Sh.cells:(s:Sh)→s.T→List AV
  | .bool,b=>[.lit (.bool b)]
  | .int k,n=>[.lit (.int k n)]
  | .str,s=>[.lit (.string s)]
  | .sl e,l=>[.sl false e.size (List.map (fun x=>kW e.isSt (e.cells x)) l)]
  | .unit,_=>[]
  | .pair a r,x=>a.cells x.1++r.cells x.2
def Sh.av (s:Sh) (x:s.T):AV:=kW s.isSt (s.cells x)
def Sh.ok:(s:Sh)→s.T→Prop
  | .bool,_=>True
  | .int k,n=>k.min≤n∧n≤k.max
  | .str,s=>s.size≤maxLen
  | .sl e,l=>l.length≤maxLen∧∀ x ∈ l,e.ok x
  | .unit,_=>True
  | .pair a r,x=>a.ok x.1∧r.ok x.2
theorem Sh.cells_len:∀ (s:Sh) (x:s.T),(s.cells x).length = s.size
  | .bool,_=>rfl
  | .int _,_=>rfl
  | .str,_=>rfl
  | .sl _,_=>rfl
  | .unit,_=>rfl
  | .pair a r,x=>by simp [Sh.cells,Sh.size,Sh.cells_len a,Sh.cells_len r]
theorem Sh.av_cells (s:Sh) (x:s.T):(s.av x).cells = s.cells x:=by
  cases s <;> rfl
section
variable (P:Program)
mutual
def nc:Nat→TypeId→Option Sh
  | 0,_=>none
  | n + 1, t => match P.underlying t with
    | some .bool=>some .bool
    | some (.int k)=>some (.int k)
    | some .string=>some .str
    | some (.slice e)=>(nc n e).bind fun s=>if s.size = P.cellsOf e∧0 < s.size then some (.sl s) else none
    | some (.struct fs)=>(jM n 0 fs.toList).bind fun s=>if s.size = P.cellsOf t then some s else none
    | _=>none
def jM:Nat→Nat→List Field→Option Sh
  | 0,_,_=>none
  | _ + 1,_,[]=>some .unit
  | n + 1,off,f::r=>if f.offset = off then (nc n f.type).bind fun a=>if a.size = P.cellsOf f.type then (jM n (off + a.size) r).map (.pair a ·) else none else none
end
end
theorem shapeF_st {P:Program}:∀ {n off:Nat} {l:List Field} {s:Sh},jM P n off l = some s→s.isSt = true
  | 0,_,_,_,h=>by simp [jM] at h
  | n + 1,off,[],s,h=>by simp [jM] at h; subst h; rfl
  | n + 1, off, f :: r, s, h => by
    simp only [jM] at h
    split at h
    · rw [Option.bind_eq_some_iff] at h
      obtain ⟨a,_,h⟩:=h
      split at h
      · obtain ⟨q,_,rfl⟩:=map_some h; rfl
      · cases h
    · cases h
section
variable {H:Type} {enc:TypeId×Value→H} {P:Program} {w:World} {base:Nat} {spare:Nat→Bool} {held:Bool} {g:Gh}
theorem rr {a:Addr} {q:Nat} {cs:List Value} (h:w.cells? base a q = some cs):cs.length = q∧∀ (i:Nat) (u:Value),cs[i]? = some u→w.cell? (a.add i) = some u:=by
  unfold World.cells? at h
  split at h
  · have key:∀ (l:List Nat) (cs:List Value),l.mapM (fun i=>w.cell? (a.add i)) = some cs→cs.length = l.length∧∀ (i j:Nat) (u:Value),l[i]? = some j→cs[i]? = some u→w.cell? (a.add j) = some u:=by
      intro l
      induction l with
      | nil=>intro cs h; simp at h; subst h; exact ⟨rfl,fun i j u h=>by simp at h⟩
      | cons x r ih =>
        intro cs h
        simp only [List.mapM_cons,bind,Option.bind_eq_some_iff,pure,Option.some.injEq] at h
        obtain ⟨v,hv,l',hl,rfl⟩:=h
        obtain ⟨h1,h2⟩:=ih l' hl
        refine ⟨by simp [h1],fun i j u hi hu=>?_⟩
        cases i with
        | zero=>simp at hi hu; subst hi; subst hu; exact hv
        | succ i=>exact h2 i j u (by simpa using hi) (by simpa using hu)
    obtain ⟨h1,h2⟩:=key _ _ h
    simp at h1
    refine ⟨h1,fun i u hu=>h2 i i u ?_ hu⟩
    have:i < q:=by rw [← h1]; exact (List.getElem?_eq_some_iff.1 hu).1
    simp [this]
  · cases h
theorem add_spot {a:Addr} {i:Nat} {u:Value} (h:w.cell? (a.add i) = some u):i = 0→a.spot = none:=by
  intro e
  subst e
  simp only [Addr.add,if_true] at h
  unfold World.cell? at h
  split at h
  · split at h
    · cases h
    · rename_i hs; simpa using hs
  · cases h
theorem jY {x:AV} {u:Value} (h:R g x u):RL g [x] [u]:=⟨rfl,fun i a b ha hb=>by cases i <;> simp at ha hb; subst ha; subst hb; exact h⟩
def Reads (g:Gh) (s:Sh) (cs:List Value):Prop:=∃ x:s.T,s.ok x∧RL g (s.cells x) cs∧∀ u ∈ cs,u.oneCell' = true
theorem shape_R (hi:∀ b o u,w.cell? ⟨b,o,none⟩ = some u→g.imm b o = some u):∀ (n:Nat),
    (∀ (t:TypeId) (s:Sh) (fuel:Nat) (cs:List Value) (x:DataW H×List MemPlace),nc P n t = some s→DataW.trod enc P w base spare held fuel t cs = some x→Reads g s cs) ∧
    (∀ (off:Nat) (l:List Field) (s:Sh) (fuel:Nat) (cs:List Value) (xs:List (DataW H×List MemPlace)),jM P n off l = some s→cs.length = off + s.size →
      (l.mapM fun f=>DataW.trod enc P w base spare held fuel f.type ((cs.drop f.offset).take (P.cellsOf f.type))) = some xs→Reads g s (cs.drop off)):=by
  intro n
  induction n with
  | zero=>exact ⟨fun t s fuel cs x h=>by simp [nc] at h,fun off l s fuel cs xs h=>by simp [jM] at h⟩
  | succ n ih =>
    obtain ⟨ih1,ih2⟩:=ih
    constructor
    · intro t s fuel cs x hs ht
      cases fuel with
      | zero=>simp [DataW.trod] at ht
      | succ fuel =>
      simp only [nc] at hs
      split at hs
      · rename_i hu
        cases hs
        have:∃ b,cs = [.bool b]:=by
          simp only [DataW.trod,hu] at ht
          split at ht <;> simp_all
        obtain ⟨b,rfl⟩:=this
        exact ⟨b,trivial,jY (R.lit _ rfl),by simp [Value.oneCell']⟩
      · rename_i k hu
        cases hs
        have:∃ m,cs = [.int k m]∧(Lit.int k m).wf = true:=by
          simp only [DataW.trod,hu] at ht
          split at ht <;> simp_all
        obtain ⟨m,rfl,hwf⟩:=this
        simp only [Lit.wf,Bool.and_eq_true,decide_eq_true_eq] at hwf
        exact ⟨m,hwf,jY (R.lit _ rfl),by simp [Value.oneCell']⟩
      · rename_i hu
        cases hs
        have:∃ q,cs = [.string q]∧q.size≤maxLen:=by
          simp only [DataW.trod,hu] at ht
          split at ht <;> simp_all
        obtain ⟨q,rfl,hwf⟩:=this
        exact ⟨q,hwf,jY (R.lit _ rfl),by simp [Value.oneCell']⟩
      · rename_i e hu
        rw [Option.bind_eq_some_iff] at hs
        obtain ⟨se,hse,hs⟩:=hs
        split at hs
        case isFalse=>cases hs
        rename_i hsz
        cases hs
        have:cs = [.slice none 0 0]∨∃ a len cap elems,cs = [.slice (some a) len cap]∧len≤cap∧cap≤maxLen ∧
            (List.range len).mapM (fun i=>(w.cells? base (a.add (i * P.cellsOf e)) (P.cellsOf e)).bind (DataW.trod enc P w base spare held fuel e)) = some elems:=by
          simp only [DataW.trod,hu] at ht
          split at ht
          all_goals try (exfalso; simp_all; done)
          · rename_i e1 h1
            exact .inl rfl
          · rename_i e1 a len cap h1
            cases h1
            split at ht
            · rename_i hc
              rw [Option.bind_eq_some_iff] at ht
              obtain ⟨elems,hm,_⟩:=ht
              exact .inr ⟨a,len,cap,elems,rfl,hc.2.1,hc.2.2,hm⟩
            · cases ht
        rcases this with rfl | ⟨a,len,cap,elems,rfl,hlc,hcm,hm⟩
        · exact ⟨[],⟨Nat.zero_le _,by simp⟩,jY (R.slN _ _),by simp [Value.oneCell']⟩
        · have key:∀ (l:List Nat) (es:List (DataW H×List MemPlace)),l.mapM (fun i=>(w.cells? base (a.add (i * P.cellsOf e)) (P.cellsOf e)).bind (DataW.trod enc P w base spare held fuel e)) = some es →
              ∃ ys:List se.T,ys.length = l.length∧∀ (q j:Nat) (y:se.T),l[q]? = some j→ys[q]? = some y→se.ok y∧∃ cj,w.cells? base (a.add (j * P.cellsOf e)) (P.cellsOf e) = some cj∧RL g (se.cells y) cj∧∀ u ∈ cj,u.oneCell' = true:=by
            intro l
            induction l with
            | nil=>intro es _; exact ⟨[],rfl,fun q j y h=>by simp at h⟩
            | cons z r ihl =>
              intro es h
              simp only [List.mapM_cons,bind,Option.bind_eq_some_iff,pure,Option.some.injEq] at h
              obtain ⟨v,⟨cj,hcj,hv⟩,l',hl,rfl⟩:=h
              obtain ⟨ys,h1,h2⟩:=ihl l' hl
              obtain ⟨y,hy1,hy2,hy3⟩:=ih1 e se fuel cj v hse hv
              refine ⟨y::ys,by simp [h1],fun q j y' hq hy=>?_⟩
              cases q with
              | zero=>simp at hq hy; subst hq; subst hy; exact ⟨hy1,cj,hcj,hy2,hy3⟩
              | succ q=>exact h2 q j y' (by simpa using hq) (by simpa using hy)
          obtain ⟨ys,hyl,hys⟩:=key _ _ hm
          simp at hyl
          have hsz1:=hsz.1
          refine ⟨ys,⟨by rw [hyl]; omega,fun y hy=>?_⟩,jY ?_,by simp [Value.oneCell']⟩
          · obtain ⟨q,hq⟩:=List.mem_iff_getElem?.1 hy
            have hql:q < len:=by rw [← hyl]; exact (List.getElem?_eq_some_iff.1 hq).1
            exact (hys q q y (by simp [hql]) hq).1
          · have hel:(List.map (fun x=>kW se.isSt (se.cells x)) ys).length = len:=by simp [hyl]
            rcases Nat.eq_zero_or_pos len with h0 | h0
            · subst h0
              have:ys = []:=List.eq_nil_of_length_eq_zero hyl
              subst this
              exact R.slE false _ a cap
            · have hsp:a.spot = none:=by
                obtain ⟨y0,hy0⟩:∃ y0,ys[0]? = some y0:=⟨ys[0],by simp⟩
                obtain ⟨_,cj,hcj,hrl,_⟩:=hys 0 0 y0 (by simp [h0]) hy0
                obtain ⟨hl0,hc0⟩:=rr hcj
                have hpos:0 < cj.length:=by rw [hl0,← hsz1]; exact hsz.2
                have:=hc0 0 cj[0] (by simp [hpos])
                simp only [Nat.zero_mul] at this
                have ha0:(a.add 0).add 0 = a.add 0:=by simp [Addr.add]
                rw [ha0] at this
                exact add_spot this rfl
              obtain ⟨b,o,sp⟩:=a
              simp only at hsp
              subst hsp
              have hcl:∀ x ∈ (List.map (fun x=>kW se.isSt (se.cells x)) ys),x.cells.length = se.size:=by
                intro x hx
                obtain ⟨y,_,rfl⟩:=List.mem_map.1 hx
                have:=Sh.av_cells se y
                unfold Sh.av at this
                rw [this]; exact Sh.cells_len se y
              have hget:∀ (i:Nat) (x:AV),((List.map (fun x=>kW se.isSt (se.cells x)) ys).flatMap AV.cells)[i]? = some x→∃ u,w.cell? ⟨b,o + i,none⟩ = some u∧R g x u∧u.oneCell' = true:=by
                intro i x hx
                obtain ⟨q,r,e',rfl,h2,h3⟩:=je hcl hx
                simp only [List.getElem?_map,Option.map_eq_some_iff] at h2
                obtain ⟨y,hy,rfl⟩:=h2
                have hql:q < len:=by rw [← hyl]; exact (List.getElem?_eq_some_iff.1 hy).1
                obtain ⟨_,cj,hcj,hrl,hone⟩:=hys q q y (by simp [hql]) hy
                have hav:=Sh.av_cells se y
                unfold Sh.av at hav
                rw [hav] at h3
                obtain ⟨hl0,hc0⟩:=rr hcj
                have hr:r < cj.length:=by rw [hrl.1]; exact (List.getElem?_eq_some_iff.1 h3).1
                have h4:=hc0 r cj[r] (by simp [hr])
                rw [ew,ew,← hsz1] at h4
                refine ⟨cj[r],?_,hrl.2 r x _ h3 (by simp [hr]),hone _ (List.getElem_mem hr)⟩
                rw [← Nat.add_assoc]; exact h4
              have:=R.sl (g:=g) false se.size _ (fun i=>(w.cell? ⟨b,o + i,none⟩).getD undef) b o cap (by rw [hel]; exact hlc) hcl (fun i x hx=>?_) (fun i x hx=>?_) (fun i x hx=>?_)
              · rw [hel] at this; exact this
              · obtain ⟨u,h1,h2,h3⟩:=hget i x hx
                rw [h1]; exact hi _ _ _ h1
              · obtain ⟨u,h1,h2,h3⟩:=hget i x hx
                rw [h1]; exact h2
              · obtain ⟨u,h1,h2,h3⟩:=hget i x hx
                rw [h1]; exact h3
      · rename_i fs hu
        rw [Option.bind_eq_some_iff] at hs
        obtain ⟨s',hs',hs⟩:=hs
        split at hs
        case isFalse=>cases hs
        rename_i hsz
        have hss:s' = s:=Option.some.inj hs
        subst hss
        have:cs.length = P.cellsOf t∧∃ xs,(fs.toList.mapM fun f=>DataW.trod enc P w base spare held fuel f.type ((cs.drop f.offset).take (P.cellsOf f.type))) = some xs:=by
          simp only [DataW.trod,hu] at ht
          split at ht
          all_goals try (exfalso; simp_all; done)
          rename_i hc
          obtain ⟨xs,hxs,_⟩:=map_some ht
          exact ⟨hc,xs,hxs⟩
        obtain ⟨hlen,xs,hxs⟩:=this
        have:=ih2 0 fs.toList s' fuel cs xs hs' (by rw [hlen,hsz]; simp) hxs
        simpa using this
      · cases hs
    · intro off l s fuel cs xs hs hlen hm
      cases l with
      | nil =>
        simp only [jM] at hs
        cases hs
        refine ⟨(),trivial,?_,?_⟩
        · have:cs.drop off = []:=by apply List.drop_eq_nil_of_le; simp [Sh.size] at hlen; omega
          rw [this]; exact RL.nil
        · have:cs.drop off = []:=by apply List.drop_eq_nil_of_le; simp [Sh.size] at hlen; omega
          rw [this]; simp
      | cons f r =>
        simp only [jM] at hs
        split at hs
        case isFalse=>cases hs
        rename_i hoff
        rw [Option.bind_eq_some_iff] at hs
        obtain ⟨a,ha,hs⟩:=hs
        split at hs
        case isFalse=>cases hs
        rename_i hsz
        obtain ⟨q,hq,rfl⟩:=map_some hs
        simp only [List.mapM_cons,bind,Option.bind_eq_some_iff,pure,Option.some.injEq] at hm
        obtain ⟨x0,hx0,xr,hxr,rfl⟩:=hm
        obtain ⟨y,hy1,hy2,hy3⟩:=ih1 f.type a fuel _ x0 ha hx0
        obtain ⟨z,hz1,hz2,hz3⟩:=ih2 (off + a.size) r q fuel cs xr hq (by rw [hlen]; simp [Sh.size]; omega) hxr
        have hsplit:cs.drop off = (cs.drop f.offset).take (P.cellsOf f.type)++cs.drop (off + a.size):=by
          rw [hoff,← hsz,← List.drop_drop]
          exact (List.take_append_drop a.size (cs.drop off)).symm
        rw [hsplit]
        exact ⟨(y,z),⟨hy1,hz1⟩,hy2.append hz2,fun u hu=>(List.mem_append.1 hu).elim (hy3 u) (hz3 u)⟩
theorem cell_plain {r:Reach} {b0:Nat} {t:TypeId} {v:Value} {s:Sh} {n:Nat} (hs:nc P (n + 1) t = some s) (hv:Value.okWide P w r b0 t v):(s.isSt = true∧∃ cs,v = .agg cs)∨(s.isSt = false∧v.cells = #[v]):=by
  simp only [nc] at hs
  unfold Value.okWide at hv
  split at hs
  · rename_i hu
    cases hs
    simp only [hu,Cell.okWide,Cell.ok] at hv
    right
    refine ⟨rfl,?_⟩
    cases v <;> first | rfl | (simp at hv; done)
  · rename_i k hu
    cases hs
    simp only [hu,Cell.okWide,Cell.ok] at hv
    right
    refine ⟨rfl,?_⟩
    cases v <;> first | rfl | (simp at hv; done)
  · rename_i hu
    cases hs
    simp only [hu,Cell.okWide,Cell.ok] at hv
    right
    refine ⟨rfl,?_⟩
    cases v <;> first | rfl | (simp at hv; done)
  · rename_i e hu
    rw [Option.bind_eq_some_iff] at hs
    obtain ⟨se,hse,hs⟩:=hs
    split at hs
    case isFalse=>cases hs
    cases hs
    simp only [hu,Cell.okWide,Cell.ok] at hv
    right
    refine ⟨rfl,?_⟩
    cases v <;> first | rfl | (simp at hv; done)
  · rename_i fs hu
    rw [Option.bind_eq_some_iff] at hs
    obtain ⟨s',hs',hs⟩:=hs
    split at hs
    case isFalse=>cases hs
    have hss:s' = s:=Option.some.inj hs
    subst hss
    simp only [hu] at hv
    obtain ⟨cs,rfl,_⟩:=hv
    exact .inl ⟨shapeF_st hs',cs,rfl⟩
  · cases hs
theorem trod_sh (hi:∀ b o u,w.cell? ⟨b,o,none⟩ = some u→g.imm b o = some u) {n:Nat} {t:TypeId} {s:Sh} {v:Value} {d:DataW H} {ps:List MemPlace} {r:Reach} {b0:Nat} (hs:nc P (n + 1) t = some s) (h:DataW.Trod enc P w base spare held t v d ps)
    (hv:Value.okWide P w r b0 t v):∃ x:s.T,s.ok x∧R g (s.av x) v:=by
  obtain ⟨fuel,hf⟩:=h
  obtain ⟨x,h1,h2,h3⟩:=(shape_R (enc:=enc) (base:=base) (spare:=spare) (held:=held) hi (n + 1)).1 t s fuel _ _ hs hf
  refine ⟨x,h1,?_⟩
  rcases cell_plain hs hv with ⟨hst,cs,rfl⟩ | ⟨hst,hc⟩
  · unfold Sh.av
    rw [hst]
    have:=RL.agg h2
    simpa [kW,Value.cells] using this
  · rw [hc] at h2
    unfold Sh.av
    rw [hst]
    simp only [kW]
    have hl:=h2.1
    match hcs:s.cells x,hl with
    | [c], _ =>
      rw [hcs] at h2
      exact h2.2 0 c v rfl rfl
def parS (P:Program):List TypeId→Option Sh
  | []=>some .unit
  | t :: r => match nc P 20 t, parS P r with
    | some s,some q=>some (.pair s q)
    | _,_=>none
def jl:(s:Sh)→s.T→List AV
  | .pair a r,x=>a.av x.1::jl r x.2
  | .bool,_=>[]
  | .int _,_=>[]
  | .str,_=>[]
  | .sl _,_=>[]
  | .unit,_=>[]
theorem args_R (hi:∀ b o u,w.cell? ⟨b,o,none⟩ = some u→g.imm b o = some u) {b0:Nat}:∀ {ts:List TypeId} {vs:List Value} {ds:List (DataW H)} {ps:List MemPlace} {S:Sh},parS P ts = some S→DataW.TrodAll enc P w base spare held ts vs ds ps →
    (∀ (j:Nat) t v,ts[j]? = some t→vs[j]? = some v→Value.okWide P w .any b0 t v)→∃ x:S.T,S.ok x∧jQ g (jl S x) vs.toArray
  | [], vs, ds, ps, S, hS, h, _ => by
    simp only [parS] at hS
    cases hS
    cases vs with
    | nil=>exact ⟨(),trivial,rfl,fun i x u hx=>by simp [jl] at hx⟩
    | cons v r=>cases ds <;> exact h.elim
  | t :: ts, vs, ds, ps, S, hS, h, hok => by
    simp only [parS] at hS
    split at hS
    · rename_i s q hs hq
      cases hS
      cases vs with
      | nil=>cases ds <;> exact h.elim
      | cons v vs =>
        cases ds with
        | nil=>exact h.elim
        | cons d ds =>
          obtain ⟨p1,p2,h1,h2,_⟩:=h
          obtain ⟨x,hx1,hx2⟩:=trod_sh hi (n:=19) hs h1 (hok 0 t v rfl rfl)
          obtain ⟨y,hy1,hy2⟩:=args_R hi hq h2 (fun j t v ht hv=>hok (j + 1) t v (by simpa using ht) (by simpa using hv))
          refine ⟨(x,y),⟨hx1,hy1⟩,by simpa [jl] using hy2.1,fun i a u ha hu=>?_⟩
          cases i with
          | zero=>simp [jl] at ha hu; subst ha; subst hu; exact hx2
          | succ i=>exact hy2.2 i a u (by simpa [jl] using ha) (by simpa using hu)
    · cases hS
theorem lQ (hl:laidOutB P = true) {W W':World} {sp':Nat→Bool}:∀ {ts:List TypeId} {vs:List Value} {ds:List (DataW H)} {ps:List MemPlace},(∀ t ∈ ts,P.readableRec t = true∧t < P.types.size) →
    DataW.TrodAll enc P W base (fun _=>true) true ts vs ds ps→(∀ p ∈ ps,W.sameAt W' p)→(∀ p ∈ ps,sp' p.block = true)→DataW.TrodAll enc P W' base sp' true ts vs ds ps
  | [],[],[],ps,_,h,_,_=>h
  | [],[],_::_,_,_,h,_,_=>h.elim
  | [],_::_,[],_,_,h,_,_=>h.elim
  | [],_::_,_::_,_,_,h,_,_=>h.elim
  | _::_,[],[],_,_,h,_,_=>h.elim
  | _::_,[],_::_,_,_,h,_,_=>h.elim
  | _::_,_::_,[],_,_,h,_,_=>h.elim
  | t :: ts, v :: vs, d :: ds, ps, ht, h, hs, hp => by
    obtain ⟨p,q,h1,h2,rfl⟩:=h
    exact ⟨p,q,WideElems.Trod_stays hl (ht t (by simp)).1 (ht t (by simp)).2 h1 (fun x hx=>hs x (by simp [hx])) (fun x hx=>hp x (by simp [hx])),
      lQ hl (fun t h=>ht t (by simp [h])) h2 (fun x hx=>hs x (by simp [hx])) (fun x hx=>hp x (by simp [hx])),rfl⟩
theorem qH {W W':World} {may:MemPlace→Prop} (hb:Below W.heap.size W W'):W.keptBut W' may:=by
  refine ⟨hb.os,hb.output,fun i hi=>?_⟩
  rw [hb.block i hi]
  cases hh:W.heap[i]? with
  | none=>rfl
  | some o=>cases o <;> first | rfl | exact ⟨rfl,rfl,rfl,fun _ _=>rfl⟩ | exact .inr ⟨rfl,rfl⟩
theorem post_law {f:Func} {s:ChangeSpec} {apart fresh handsOn again:Bool} {W W':World} {args:Array Value} {ds gs:List (DataW H)} {before:List MemPlace} {tb:TypeId} (hl:laidOutB P = true) (ht:∀ t ∈ f.params.toList,P.readableRec t = true∧t < P.types.size)
    (hres:f.resultTypes = #[tb]) (htb:P.underlying tb = some .bool) (hvars:s.vars = []) (hfn:∀ ds:List (DataW H),ds.length = f.params.size→(s.fn H ds).results = [.lit (.bool true)]∧(s.fn H ds).args = ds∧(s.fn H ds).vars = [])
    (hW:DataW.Whole enc P f.params.toList s.vars apart W args.toList ds gs before) (hb:Below W.heap.size W W'):s.post enc P f apart fresh handsOn again W args (.bool true) W':=by
  have hW0:=hW
  obtain ⟨p,q,hA,hV,hpq,hz,hn⟩:=hW
  rw [hvars] at hV
  obtain ⟨rfl,rfl⟩:=trodVars_none hV
  simp only [List.append_nil] at hpq
  subst hpq
  have hlen:ds.length = f.params.size:=by
    have key:∀ {ts:List TypeId} {vs:List Value} {ds:List (DataW H)} {ps:List MemPlace},DataW.TrodAll enc P W 0 (fun _=>true) true ts vs ds ps→ds.length = ts.length:=by
      intro ts
      induction ts with
      | nil=>intro vs ds ps h; cases vs <;> cases ds <;> first | rfl | exact h.elim
      | cons t ts ih =>
        intro vs ds ps h
        cases vs <;> cases ds <;> first | exact h.elim | skip
        obtain ⟨_,_,_,h2,_⟩:=h
        simp [ih h2]
    have:=key hA
    simpa using this
  obtain ⟨hr1,hr2,hr3⟩:=hfn (ds++[]) (by simpa using hlen)
  have hlt:∀ x ∈ before,x.block < W.heap.size:=fun x hx=>by simpa using hW0.lt x hx
  have hsame:∀ x ∈ before,W.sameAt W' x:=fun x hx=>hb.same (hlt x hx)
  have hret:∀ (b:Nat) (sp:Nat→Bool) (hd:Bool),DataW.TrodAll enc P W' b sp hd f.resultTypes.toList ((Value.bool true).resultList f.resultTypes.size) (s.fn H (ds++[])).results []:=by
    intro b sp hd
    rw [hr1,hres]
    refine ⟨[],[],⟨1,?_⟩,rfl,rfl⟩
    simp [DataW.trod,htb,Value.cells]
  have hargs:∀ sp:Nat→Bool,(∀ p ∈ before,sp p.block = true)→DataW.TrodAll enc P W' 0 sp true f.params.toList args.toList (s.fn H (ds++[])).args before:=by
    intro sp hsp
    rw [hr2,List.append_nil]
    exact lQ hl ht hA hsame hsp
  have hvs:∀ sp:Nat→Bool,DataW.TrodVars enc P W' sp s.vars (s.fn H (ds++[])).vars []:=by
    intro sp
    rw [hvars,hr3]
    rfl
  refine ⟨ds,[],before,[],before,[],hW0,hret _ _ _,hargs _ (fun x hx=>by simpa using hlt x hx),hvs _,qH hb,fun _=>?_⟩
  refine ⟨fun j t r hj hr=>?_,_,_,([]++before)++[],⟨[]++before,[],trodAll_append (hargs _ (fun _ _=>rfl)) (hret _ _ _),hvs _,rfl,?_,?_⟩,?_⟩
  · rw [hres] at hj hr
    match j with
    | 0 =>
      simp [Value.resultList] at hj hr
      subst hj; subst hr
      simp [Value.okWide,htb,Cell.okWide,Cell.ok]
    | j + 1=>simp at hj
  · intro b off hp
    have hp':(MemPlace.cell b off) ∈ before:=by simpa using hp
    have h1:=hz b off hp'
    have h2:=hlt _ hp'
    unfold World.frozen? at h1 ⊢
    rw [hb.block b h2]; exact h1
  · intro ha
    have:=hn ha
    simpa using this
  · intro x hx _
    simpa using hx
theorem wrap_nb {b:Bool} {l:List AV} (h:∀ c ∈ l,c.NB):(kW b l).NB:=by
  cases b
  · cases l with
    | nil=>exact .any
    | cons c r=>exact h c (List.mem_cons_self ..)
  · exact .agg _ h
theorem nf:∀ (s:Sh) (x:s.T),∀ c ∈ s.cells x,c.NB
  | .bool,b,c,h=>by simp only [Sh.cells,List.mem_singleton] at h; subst h; exact .lit _
  | .int _,b,c,h=>by simp only [Sh.cells,List.mem_singleton] at h; subst h; exact .lit _
  | .str,b,c,h=>by simp only [Sh.cells,List.mem_singleton] at h; subst h; exact .lit _
  | .sl e, l, c, h => by
    simp only [Sh.cells,List.mem_singleton] at h; subst h
    refine .sl _ _ _ fun v hv=>?_
    obtain ⟨y,_,rfl⟩:=List.mem_map.1 hv
    exact wrap_nb (nf e y)
  | .unit,_,c,h=>by simp [Sh.cells] at h
  | .pair a r, x, c, h => by
    simp only [Sh.cells,List.mem_append] at h
    exact h.elim (nf a x.1 c) (nf r x.2 c)
theorem avsOf_nb:∀ (s:Sh) (x:s.T),∀ c ∈ jl s x,c.NB
  | .pair a r, x, c, h => by
    simp only [jl,List.mem_cons] at h
    rcases h with rfl | h
    · exact wrap_nb (nf a x.1)
    · exact avsOf_nb r x.2 c h
  | .bool,_,c,h=>by simp [jl] at h
  | .int _,_,c,h=>by simp [jl] at h
  | .str,_,c,h=>by simp [jl] at h
  | .sl _,_,c,h=>by simp [jl] at h
  | .unit,_,c,h=>by simp [jl] at h
theorem law_calls {f:FuncId} {fn:Func} {s:ChangeSpec} {apart fresh handsOn again:Bool} {tb:TypeId} {S:Sh} (hl:laidOutB P = true) (ht:∀ t ∈ fn.params.toList,P.readableRec t = true∧t < P.types.size)
    (hS:parS P fn.params.toList = some S) (hres:fn.resultTypes = #[tb]) (htb:P.underlying tb = some .bool) (hvars:s.vars = []) (hfn:∀ ds:List (DataW H),ds.length = fn.params.size→(s.fn H ds).results = [.lit (.bool true)]∧(s.fn H ds).args = ds∧(s.fn H ds).vars = [])
    (hlaw:∀ x:S.T,S.ok x→dJ P f (jl S x) ⟨[]⟩ (.lit (.bool true)))
    (W:World) (b0:Nat) (args:Array Value) (ds gs:List (DataW H)) (before:List MemPlace) (hval:∀ (j:Nat) t v,fn.params[j]? = some t→args[j]? = some v→Value.okWide P W .any b0 t v)
    (hW:DataW.Whole enc P fn.params.toList s.vars apart W args.toList ds gs before):Calls P f args W fun e W'=>∃ v,e = .returned v∧s.post enc P fn apart fresh handsOn again W args v W':=by
  have hW0:=hW
  obtain ⟨p,q,hA,_⟩:=hW
  let g0:Gh:=⟨W.heap.size,fun b o=>W.cell? ⟨b,o,none⟩,fun _=>none,fun _ _=>none,fun _=>none⟩
  have hg:Good g0 W:=⟨fun _ _ _ h=>h,fun _ _ _ _=>.inl rfl,(fun b c hc=>by cases hc),Nat.le_refl _⟩
  have hbx:BoxR g0 W ⟨[]⟩:=⟨fun _ _=>rfl,fun id cs hc=>by simp at hc,fun id bx hc=>by simp at hc⟩
  obtain ⟨x,hx,hargs⟩:=args_R (g:=g0) (b0:=b0) (fun b o u h=>h) hS hA (fun j t v ht hv=>hval j t v (by simpa using ht) (by simpa using hv))
  refine (hlaw x hx g0 W args (fun _=>.box 0 0) hg hbx (by simpa using hargs)).mono fun e W' ⟨u,g',he,hle,hR,_⟩=>?_
  have hu:=hR.lit_inv.1
  subst hu
  exact ⟨_,he,post_law hl ht hres htb hvars hfn hW0 hle.below⟩
theorem law_top {f:FuncId} {fn:Func} {s:ChangeSpec} {apart fresh handsOn again:Bool} {tb:TypeId} {S:Sh} (hl:laidOutB P = true) (ht:(fn.params.toList.all fun t=>P.readableRec t && decide (t < P.types.size)) = true)
    (hS:parS P fn.params.toList = some S) (hres:fn.resultTypes = #[tb]) (htb:P.underlying tb = some .bool) (hvars:s.vars = []) (hfn:∀ ds:List (DataW H),ds.length = fn.params.size→(s.fn H ds).results = [.lit (.bool true)]∧(s.fn H ds).args = ds∧(s.fn H ds).vars = [])
    (hlaw:∀ x:S.T,S.ok x→dt P f (jl S x) ⟨[]⟩ fun v _=>v = .lit (.bool true))
    (W:World) (b0:Nat) (args:Array Value) (ds gs:List (DataW H)) (before:List MemPlace) (hval:∀ (j:Nat) t v,fn.params[j]? = some t→args[j]? = some v→Value.okWide P W .any b0 t v)
    (hW:DataW.Whole enc P fn.params.toList s.vars apart W args.toList ds gs before):Calls P f args W fun e W'=>∃ v,e = .returned v∧s.post enc P fn apart fresh handsOn again W args v W':=by
  refine law_calls hl (fun t h=>by have:=List.all_eq_true.1 ht t h; simpa using this) hS hres htb hvars hfn (fun x hx=>?_) W b0 args ds gs before hval hW
  refine pure_of ((hlaw x hx).mono fun v st e=>by subst e; exact .le _ _ (.refl _) (.lit _)) (fun v hv=>avsOf_nb S x v hv) _
end
end Go.Fx
/- Code that is carried out: an evaluator, and that it is right. -/
namespace Go.Fx
open Go
section
variable (F:Nat→FuncId) (call:FuncId→List AV→St→Option (AV×St)) (pc:FuncId→List AV→Option AV)
end
section
variable {P:Program} {F:Nat→FuncId} {call:FuncId→List AV→St→Option (AV×St)} {pc:FuncId→List AV→Option AV}
def TabOk (P:Program) (F:Nat→FuncId) (T:FuncId→Option AFun):Prop:=∀ q fn,T q = some fn→cQ P q = true∧∃ X:Cx,X.F = F∧dX P X q = some fn
end
end Go.Fx
/- Evaluation by rewriting: small equations, and steps at branches. -/
namespace Go.Fx
open Go
section
variable (v:Value) (vs cs:List AV) (i o k s t n l c:Nat) (b:Bool) (x:AV) (f:Fn) (w:Option Nat)
theorem dis_any:AV.any.dis = .any:=rfl
theorem r8:(AV.lit v).dis = .lit v:=rfl
theorem dis_ptr:(AV.ptr i o).dis = .ptr i o:=rfl
theorem di:(AV.sl b k cs).dis = .sl false k cs:=rfl
theorem dK:(AV.map i).dis = .map i:=rfl
theorem dis_yld (i:Nat):(AV.yld i).dis = .yld i:=rfl
theorem dis_fn:(AV.fn f vs cs).dis = .fn f vs cs:=rfl
theorem dD:(AV.agg cs).dis = .agg (cs.map AV.own1):=rfl
theorem ei:(AV.tup cs).dis = .tup (cs.map AV.own2):=rfl
theorem d4:(AV.bs i k o l c).dis = .bs i k o l c:=rfl
theorem dk:(AV.lit v).own1 = .lit v:=rfl
theorem own1_ptr:(AV.ptr i o).own1 = .ptr i o:=rfl
theorem pY:(AV.map i).own1 = .map i:=rfl
theorem dW:(AV.lit v).own2 = .lit v:=rfl
theorem kX:(AV.ptr i o).own2 = .ptr i o:=rfl
theorem kY:(AV.agg cs).own2 = .agg (cs.map AV.own1):=rfl
theorem kq:(AV.bs i k o l c).own2 = .bs i k o l c:=rfl
theorem cN:(AV.lit v).cells = [.lit v]:=rfl
theorem rt:(AV.ptr i o).cells = [.ptr i o]:=rfl
theorem cells_sl:(AV.sl b k cs).cells = [.sl b k cs]:=rfl
theorem n4:(AV.map i).cells = [.map i]:=rfl
theorem cP:(AV.agg cs).cells = cs:=rfl
theorem bU:(AV.lit v).solid1 = true:=rfl
theorem pZ:(AV.ptr i o).solid1 = true:=rfl
theorem ru:(AV.sl b k cs).solid1 = true:=rfl
theorem kr:(AV.map i).solid1 = true:=rfl
theorem cR:x.solid = x.cells.all AV.solid1:=rfl
theorem noL_any:AV.any.noL = true:=rfl
theorem o1:(AV.lit v).noL = true:=rfl
theorem ng:(AV.ptr i o).noL = true:=rfl
theorem r9:(AV.sl b k cs).noL = true:=rfl
theorem noL_map:(AV.map i).noL = true:=rfl
theorem noL_fn:(AV.fn f vs cs).noL = true:=rfl
theorem dE:(AV.tup cs).noL = true:=rfl
theorem p0:(AV.bs i k o l c).noL = true:=rfl
theorem nh:kill s .any = .any:=rfl
theorem ey:kill s (.lit v) = .lit v:=rfl
theorem eI:kill s (.ptr i o) = .ptr i o:=rfl
theorem n5:kill s (.lptr t o) = if t = s then .any else .lptr t o:=rfl
theorem jZ:kill s (.cptr cs) = .cptr cs:=rfl
theorem ni:kill s (.sl b k cs) = .sl b k cs:=rfl
theorem gn:kill s (.map i) = .map i:=rfl
theorem eA:kill s (.agg cs) = .agg cs:=rfl
theorem j0:kill s (.tup cs) = .tup cs:=rfl
theorem kill_bs:kill s (.bs i k o l c) = .bs i k o l c:=rfl
end
section
variable (F:Nat→FuncId) (sf:Sf) (t g:Nat) (v:AV) (st:St)
theorem ev_r:sf.ev F (.r t) = sf.reg t:=rfl
theorem ev_c:sf.ev F (.c v) = v:=rfl
theorem ev_f:sf.ev F (.f g) = .fn (.func (F g)) [] []:=rfl
theorem dG:sf.evOwn F (.r t) = sf.reg t:=rfl
theorem dH:sf.disOp (.r t) = sf.disAt t:=rfl
theorem sc (b:Bool):(Opd.r t).setB sf b = sf.set t (.lit (.bool b)):=rfl
theorem putS (d:Nat):sf.put (some d) v = sf.set d v:=rfl
variable (k k':IntKind) (a b:Int) (p q:Bool) (sa sb:ByteArray)
theorem gC:binI .num .add (.lit (.int k a)) (.lit (.int k b)) = .ok (.lit (.int k (k.wrap (a + b)))):=by cases k <;> rfl
theorem n_sub:binI .num .sub (.lit (.int k a)) (.lit (.int k b)) = .ok (.lit (.int k (k.wrap (a - b)))):=by cases k <;> rfl
theorem fa:binI .num .eql (.lit (.int k a)) (.lit (.int k b)) = .ok (.lit (.bool (decide (a = b)))):=by cases k <;> rfl
theorem eE:binI .num .neq (.lit (.int k a)) (.lit (.int k b)) = .ok (.lit (.bool (decide (¬ a = b)))):=by
  have h:(a != b) = decide (¬ a = b):=by rw [bne_eq,decide_not]; rfl
  rw [← h]
  cases k <;> rfl
theorem dx:binI .num .lss (.lit (.int k a)) (.lit (.int k b)) = .ok (.lit (.bool (decide (a < b)))):=by cases k <;> rfl
theorem nj:binI .num .leq (.lit (.int k a)) (.lit (.int k b)) = .ok (.lit (.bool (decide (a≤b)))):=by cases k <;> rfl
theorem fw:binI .num .gtr (.lit (.int k a)) (.lit (.int k b)) = .ok (.lit (.bool (decide (a > b)))):=by cases k <;> rfl
theorem j1:binI .num .geq (.lit (.int k a)) (.lit (.int k b)) = .ok (.lit (.bool (decide (a ≥ b)))):=by cases k <;> rfl
end
theorem dC {A:Type} {p:Prop} [Decidable p] {r:Res A} {K:A→Prop} (h:p):(Res.req (decide p) r).wp K = r.wp K:=by
  rw [wp_req,decide_eq_true h]
  exact propext ⟨fun q=>q.2,fun q=>⟨rfl,q⟩⟩
theorem eY {A:Type} {r:Res A} {K:A→Prop}:(Res.req true r).wp K = r.wp K:=propext ⟨fun q=>q.2,fun q=>⟨rfl,q⟩⟩
section
variable {x:Opd} {p:Prop} [Decidable p] {A B:Sf→St→(Exit→Sf→St→Prop)→Prop} {sf:Sf} {st:St} {Q:Exit→Sf→St→Prop} {t:Nat} {b:Bool} {Y N:Sf→St→Prop}
theorem sg:m4 x (.lit (.bool true)) A B sf st Q = A (x.setB sf true) st Q:=by
  rw [condI_eq]; exact propext ⟨fun h=>h.1 rfl,fun h=>⟨fun _=>h,fun e=>by cases e⟩⟩
theorem sh:m4 x (.lit (.bool false)) A B sf st Q = B (x.setB sf false) st Q:=by
  rw [condI_eq]; exact propext ⟨fun h=>h.2 rfl,fun h=>⟨fun e=>(by cases e),fun _=>h⟩⟩
theorem cU (h:p):m4 x (.lit (.bool (decide p))) A B sf st Q = A (x.setB sf true) st Q:=by
  rw [decide_eq_true h,sg]
theorem dL (h:¬ p):m4 x (.lit (.bool (decide p))) A B sf st Q = B (x.setB sf false) st Q:=by
  rw [decide_eq_false h,sh]
theorem dY {want:Bool}:jk t want (.lit (.bool true)) Y N sf st = if want = true then Y (sf.set t (.lit (.bool true))) st else N (sf.set t (.lit (.bool true))) st:=by
  rw [ro]
  cases want
  · exact propext ⟨fun h=>h.2 rfl,fun h=>⟨fun e=>(by cases e),fun _=>h⟩⟩
  · exact propext ⟨fun h=>h.1 rfl,fun h=>⟨fun _=>h,fun e=>(by cases e)⟩⟩
theorem ck {want:Bool}:jk t want (.lit (.bool false)) Y N sf st = if want = true then N (sf.set t (.lit (.bool false))) st else Y (sf.set t (.lit (.bool false))) st:=by
  rw [ro]
  cases want
  · exact propext ⟨fun h=>h.1 rfl,fun h=>⟨fun _=>h,fun e=>(by cases e)⟩⟩
  · exact propext ⟨fun h=>h.2 rfl,fun h=>⟨fun e=>(by cases e),fun _=>h⟩⟩
theorem fd (h:p) {want:Bool}:jk t want (.lit (.bool (decide p))) Y N sf st = if want = true then Y (sf.set t (.lit (.bool true))) st else N (sf.set t (.lit (.bool true))) st:=by
  rw [decide_eq_true h,dY]
theorem d8 (h:¬ p) {want:Bool}:jk t want (.lit (.bool (decide p))) Y N sf st = if want = true then N (sf.set t (.lit (.bool false))) st else Y (sf.set t (.lit (.bool false))) st:=by
  rw [decide_eq_false h,ck]
end
def p4:List Nat→List (Nat×AV)→List (Nat×AV)
  | [],_=>[]
  | t::r,l=>(t,getR l t)::p4 r l
theorem rx (l:List (Nat×AV)):p4 [] l = []:=rfl
theorem p5 (t:Nat) (r:List Nat) (l:List (Nat×AV)):p4 (t::r) l = (t,getR l t)::p4 r l:=rfl
theorem o2 (sf:Sf) (lv ll:List Nat):sf.mask lv ll = ⟨p4 lv sf.regs,aD ll sf.locs⟩:=by
  have:∀ lv:List Nat,(lv.map fun t=>(t,sf.reg t)) = p4 lv sf.regs:=by
    intro lv
    induction lv with
    | nil=>rfl
    | cons t r ih=>simp only [List.map_cons,p4,ih]; rfl
  unfold Sf.mask
  rw [this]
theorem dI {p q:Prop} (h:p):(p∧q) = q:=propext ⟨fun a=>a.2,fun a=>⟨h,a⟩⟩
theorem room_of {n bytes:Nat} (h:n * bytes≤140737488355328∧n≤1000000000000000):lI n bytes = true:=decide_eq_true h
theorem lx (k:NilK) (x y:AV):binI (.nil k) .eql x y = (Res.ofOpt (iw k x y)).bind fun b=>.ok (.lit (.bool b)):=rfl
theorem b_eql (a b:Bool):binI .bool .eql (.lit (.bool a)) (.lit (.bool b)) = .ok (.lit (.bool (a == b))):=rfl
theorem p6 (c:AV) (r:List AV):mo none (c::r) = .ok c:=rfl
theorem dR (n:Nat) (r:List AV):mo (some n) r = .req (decide (n≤r.length)) (.ok (.agg (r.take n))):=rfl
section
variable (c a b:AV) (q:Bool) (vs:List AV) (i:Nat)
theorem ea:pickV (.lit (.bool true)) a b = .ok a.dis:=rfl
theorem cV:pickV (.lit (.bool false)) a b = .ok b.dis:=rfl
end
end Go.Fx
/- What pa of weaker demands; loops that are carried out round by round. -/
namespace Go.Fx
open Go
section
variable {P:Program} {F:Nat→FuncId} {m:Bool}
theorem callI_mono {p:Bool} {d:Option Nat} {f:AV} {args:List AV} {K K':Sf→St→Prop} {sf:Sf} {st:St} (h:∀ sf st,K sf st→K' sf st):lM P m p d f args K sf st→lM P m p d f args K' sf st:=by
  unfold lM
  split
  · rintro ⟨h1,h2⟩
    refine ⟨h1,?_⟩
    split
    · rename_i e; rw [if_pos e] at h2; obtain ⟨a,v,b,c⟩:=h2; exact ⟨a,v,b,h _ _ c⟩
    · rename_i e; rw [if_neg e] at h2; obtain ⟨a,Q,b,c⟩:=h2; exact ⟨a,Q,b,fun v st' q=>h _ _ (c v st' q)⟩
  · rintro ⟨h1,h2,Q,h3,h4⟩; exact ⟨h1,h2,Q,h3,fun t st' q=>h _ _ (h4 t st' q)⟩
  · exact id
theorem appX_mono {m:Bool} {k bytes:Nat} {b:AV} {C C':AV→St→Prop} {st:St} {new:List AV} (h:∀ v st,C v st→C' v st):appX m k bytes b C st new→appX m k bytes b C' st new:=by
  unfold appX
  split
  · rintro ⟨h1,h2,h3,h4⟩
    refine ⟨h1,h2,h3,Res.wp_mono h4 fun cs hc=>?_⟩
    split
    · rename_i e; rw [if_pos e] at hc; exact ⟨hc.1,h _ _ hc.2⟩
    · rename_i e; rw [if_neg e] at hc; exact ⟨hc.1,fun c hc'=>h _ _ (hc.2 c hc')⟩
  · rintro ⟨h1,h2,h3⟩
    refine ⟨h1,h2,?_⟩
    split
    · rename_i e; rw [if_pos e] at h3; exact h _ _ h3
    · rename_i e; rw [if_neg e] at h3; exact fun c hc=>h _ _ (h3 c hc)
  · exact id
theorem stepX_mono {i:XI} {d:Option Nat} {K K':Sf→St→Prop} {sf:Sf} {st:St} (h:∀ sf st,K sf st→K' sf st):eg F m i d K sf st→eg F m i d K' sf st:=by
  have hk:∀ v st,putK K d sf v st→putK K' d sf v st:=fun v st=>h _ _
  cases i with
  | bad=>exact id
  | nilU op x y =>
    simp only [eg,nilX]
    split
    · exact fun q b=>hk _ _ (q b)
    · exact fun q=>Res.wp_mono q fun v=>hk v st
  | appB s k bytes y=>exact fun q=>Res.wp_mono q fun es=>appX_mono hk
  | copyB k x y =>
    refine fun q=>Res.wp_mono q fun es=>?_
    unfold copyX
    split
    · rintro ⟨h1,h2,h3,h4⟩; exact ⟨h1,h2,h3,Res.wp_mono h4 fun cs hc=>⟨hc.1,hk _ _ hc.2⟩⟩
    · exact fun q=>⟨q.1,hk _ _ q.2⟩
    · exact fun q=>⟨q.1,hk _ _ q.2⟩
    · exact id
  | clrB k z x =>
    simp only [eg,clrX]
    split
    · rintro ⟨h1,h2,h4⟩; exact ⟨h1,h2,Res.wp_mono h4 fun cs hc=>⟨hc.1,hk _ _ hc.2⟩⟩
    · exact hk _ _
    · exact id
  | clrM x =>
    simp only [eg,clrMX]
    split
    · rintro ⟨h1,h4⟩; exact ⟨h1,Res.wp_mono h4 fun cs hc=>hk _ _ hc⟩
    · exact hk _ _
    · exact id
  | mksB k bytes z l c =>
    simp only [eg,mksBX]
    split
    · rintro ⟨h1,h2,h3,h4,h5,h6⟩; exact ⟨h1,h2,h3,h4,h5,hk _ _ h6⟩
    · exact id
  | mks k bytes z l c =>
    simp only [eg,mksX]
    split
    · rintro ⟨h2,h3,h4,h5,h6⟩; exact ⟨h2,h3,h4,h5,hk _ _ h6⟩
    · exact id
  | mknz x =>
    simp only [eg,mknzX]
    split
    · rintro ⟨h2,h3,h4,h5⟩; exact ⟨h2,h3,h4,fun c hc=>hk _ _ (h5 c hc)⟩
    · exact id
  | slA n k x lo hi mx =>
    simp only [eg,slAX]
    split
    · exact fun q=>Res.wp_mono q fun v=>hk v st
    · exact id
  | rng x =>
    simp only [eg,rngX]
    split
    · exact fun q=>Res.wp_mono q fun _=>hk _ _
    · exact hk _ _
    · exact id
  | nxt s =>
    simp only [eg,nxtX]
    split
    · exact h _ _
    · refine fun q=>Res.wp_mono q fun es ⟨h1,h2,h3,h4⟩=>⟨h1,h2,fun i k x b a1 a2 a3=>h _ _ (h3 i k x b a1 a2 a3),fun a=>h _ _ (h4 a)⟩
    · exact id
  | ent s =>
    simp only [eg,entX]
    split
    · exact fun q=>Res.wp_mono q fun es ⟨h1,i,k,x,b,h2,h3,h4,h5⟩=>⟨h1,i,k,x,b,h2,h3,h4,hk _ _ h5⟩
    · exact id
  | mclone x =>
    simp only [eg,mI]
    split
    · rintro ⟨h1,h4⟩; exact ⟨h1,Res.wp_mono h4 fun cs hc=>hk _ _ hc⟩
    · exact id
  | bstO places z parts=>exact fun q=>Res.wp_mono q fun v=>h _ _
theorem n6 {i:AI} {K K':Sf→St→Prop} {sf:Sf} {st:St} (h:∀ sf st,K sf st→K' sf st):oneI P F m i K sf st→oneI P F m i K' sf st:=by
  unfold oneI
  split
  · exact callI_mono h
  · exact stepX_mono h
  · exact fun q=>Res.wp_mono q fun r=>h r.1 r.2
theorem fT:∀ {l:List GI} {K K':Sf→St→Prop} {sf:Sf} {st:St},(∀ sf st,K sf st→K' sf st)→runI P F m l K sf st→runI P F m l K' sf st
  | [],K,K',sf,st,h=>h _ _
  | ⟨none, i⟩ :: r, K, K', sf, st, h => by
    simp only [runI]
    exact n6 fun sf st=>fT h
  | ⟨some (t, want), i⟩ :: r, K, K', sf, st, h => by
    simp only [runI,jk]
    split
    · intro q c hc
      have q:=q c hc
      split
      · rename_i e; rw [if_pos e] at q; exact n6 (fun sf st=>fT h) q
      · rename_i e; rw [if_neg e] at q; exact fT h q
    · exact fun ⟨a,b⟩=>⟨n6 (fun sf st=>fT h) a,fT h b⟩
    · exact fT h
    · exact id
theorem nn {locs0:List (Nat×List AV)} {st:St} {i:AI} {C C':PK→Sf→Prop} {sf:Sf} (h:∀ k sf,C k sf→C' k sf):d6 P F locs0 st i C sf→d6 P F locs0 st i C' sf:=by
  unfold d6
  split
  · unfold pK
    split
    · rintro ⟨h1,h2,v,h3,h4⟩; exact ⟨h1,h2,v,h3,h _ _ h4⟩
    · exact id
  · exact h _ _
  · unfold jU
    split
    · unfold jT
      split
      · rintro ⟨h1,h2,h3,h4⟩; exact ⟨h1,h2,h3,h _ _ h4⟩
      · exact id
    · unfold mY
      split
      · rintro ⟨h1,h2,h3⟩; exact ⟨h1,h2,h _ _ h3⟩
      · exact id
    · exact id
  · unfold rY
    split
    · exact fun q=>Res.wp_mono q fun v=>h _ _
    · exact fun q=>Res.wp_mono q fun v=>h _ _
  · exact fun q=>Res.wp_mono q fun v=>h _ _
theorem jp {locs0:List (Nat×List AV)} {st:St}:∀ {l:List GI} {K K':List PK→Sf→Prop} {ks:List PK} {sf:Sf},(∀ ks sf,K ks sf→K' ks sf)→dg P F locs0 st l K ks sf→dg P F locs0 st l K' ks sf
  | [],K,K',ks,sf,h=>h _ _
  | ⟨none, i⟩ :: r, K, K', ks, sf, h => by
    simp only [dg]
    exact nn fun k sf=>jp h
  | ⟨some (t, want), i⟩ :: r, K, K', ks, sf, h => by
    simp only [dg,eV]
    split
    · intro q c hc
      have q:=q c hc
      split
      · rename_i e; rw [if_pos e] at q; exact nn (fun k sf=>jp h) q
      · rename_i e; rw [if_neg e] at q; exact jp h q
    · exact jp h
    · exact id
theorem j3 {locs0:List (Nat×List AV)} {ρ:St} {i:AI} {C C':PK→Sf→Prop} {sf:Sf} (h:∀ k sf,C k sf→C' k sf):oneM P F locs0 ρ i C sf→oneM P F locs0 ρ i C' sf:=by
  unfold oneM
  split
  · unfold pM
    split
    · rintro ⟨h1,h2,v,h3,h4⟩; exact ⟨h1,h2,v,h3,h _ _ h4⟩
    · exact id
  · exact h _ _
  · unfold jU
    split
    · unfold jT
      split
      · rintro ⟨h1,h2,h3,h4⟩; exact ⟨h1,h2,h3,h _ _ h4⟩
      · exact id
    · unfold mY
      split
      · rintro ⟨h1,h2,h3⟩; exact ⟨h1,h2,h _ _ h3⟩
      · exact id
    · exact id
  · exact fun q=>Res.wp_mono q fun v=>h _ _
theorem k9 {t:Nat} {want:Bool} {v:AV} {Y Y' N N':Sf→Prop} {sf:Sf} (hy:∀ sf,Y sf→Y' sf) (hn:∀ sf,N sf→N' sf):eV t want v Y N sf→eV t want v Y' N' sf:=by
  unfold eV
  split
  · intro q c hc
    have q:=q c hc
    split
    · rename_i e; rw [if_pos e] at q; exact hy _ q
    · rename_i e; rw [if_neg e] at q; exact hn _ q
  · exact hn _
  · exact id
theorem j4 {locs0:List (Nat×List AV)} {ρ:St}:∀ {l:List GI} {K K':List PK→Sf→Prop} {ks:List PK} {sf:Sf},(∀ ks sf,K ks sf→K' ks sf)→preM P F locs0 ρ l K ks sf→preM P F locs0 ρ l K' ks sf
  | [],K,K',ks,sf,h=>h _ _
  | ⟨none, i⟩ :: r, K, K', ks, sf, h => by
    simp only [preM]
    exact j3 fun v sf=>j4 h
  | ⟨some (t, want), i⟩ :: r, K, K', ks, sf, h => by
    simp only [preM]
    exact k9 (fun sf=>j3 fun v sf=>j4 h) fun sf=>j4 h
theorem js {locs0:List (Nat×List AV)} {ρ:St}:∀ {l:List (Bool×GI)} {K K':List PK→Prop} {ks:List PK} {sf:Sf},(∀ ks,K ks→K' ks)→iE P F locs0 ρ l K ks sf→iE P F locs0 ρ l K' ks sf
  | [],K,K',ks,sf,h=>h _
  | (true, g) :: r, K, K', ks, sf, h => by
    simp only [iE]
    exact js h
  | (false, ⟨none, i⟩) :: r, K, K', ks, sf, h => by
    simp only [iE]
    exact j3 fun v sf=>js h
  | (false, ⟨some (t, want), i⟩) :: r, K, K', ks, sf, h => by
    simp only [iE]
    exact k9 (fun sf=>j3 fun v sf=>js h) fun sf=>js h
theorem callM_mono {locs0:List (Nat×List AV)} {ρ st:St} {d:Option Nat} {f:AV} {args:List AV} {post:List (Bool×GI)} {drop:List Nat} {T T':St→Sf→Prop} {ks1:List PK} {sf:Sf} (h:∀ st sf,T st sf→T' st sf):pN P F locs0 ρ st d f args post drop T ks1 sf→pN P F locs0 ρ st d f args post drop T' ks1 sf:=by
  unfold pN
  split
  · rintro ⟨h1,h2,Qc,h3,h4⟩
    exact ⟨h1,h2,Qc,h3,js (fun ks hk=>⟨hk.1,fun v s hq=>⟨(hk.2 v s hq).1,j4 (fun ks sf hp=>⟨hp.1,hp.2.1,h _ _ hp.2.2⟩) (hk.2 v s hq).2⟩⟩) h4⟩
  · exact id
theorem oneG1_mono {ρ:St} {i:AI} {C C':PK→Sf→Prop} {sf:Sf} (h:∀ k sf,C k sf→C' k sf):oC P F ρ i C sf→oC P F ρ i C' sf:=by
  unfold oC
  split
  · unfold pP
    split
    · rintro ⟨h1,h2,v,h3,h4⟩; exact ⟨h1,h2,v,h3,h _ _ h4⟩
    · exact id
  · exact id
theorem ry {locs0:List (Nat×List AV)} {ρ:St} {b:Bool} {i:AI} {C C':PK→Sf→Prop} {sf:Sf} (h:∀ k sf,C k sf→C' k sf):oneB P F locs0 ρ b i C sf→oneB P F locs0 ρ b i C' sf:=by
  cases b
  · exact j3 h
  · exact oneG1_mono h
theorem ly {locs0:List (Nat×List AV)} {ρ:St}:∀ {l:List (Bool×GI)} {K K':List PK→Sf→Prop} {ks:List PK} {sf:Sf},(∀ ks sf,K ks sf→K' ks sf)→preG P F locs0 ρ l K ks sf→preG P F locs0 ρ l K' ks sf
  | [],K,K',ks,sf,h=>h _ _
  | (b, ⟨none, i⟩) :: r, K, K', ks, sf, h => by
    simp only [preG]
    exact ry fun v sf=>ly h
  | (b, ⟨some (t, want), i⟩) :: r, K, K', ks, sf, h => by
    simp only [preG]
    exact k9 (fun sf=>ry fun v sf=>ly h) fun sf=>ly h
theorem aC_mono:∀ {c:AC} {Q Q':Exit→Sf→St→Prop} {sf:Sf} {st:St},(∀ e sf st,Q e sf st→Q' e sf st)→aC P F m c sf st Q→aC P F m c sf st Q':=by
  intro c
  induction c with
  | skip=>intro Q Q' sf st h; exact h _ _ _
  | ops lv ll l=>intro Q Q' sf st h; exact fT fun sf st=>h _ _ _
  | draw lv ll dr hl tl=>intro Q Q' sf st h; exact jp fun ks sf ⟨h1,h2⟩=>⟨h1,fT (fun sf st=>h _ _ _) h2⟩
  | drawM lv ll pre d f args post tl =>
    intro Q Q' sf st h
    rintro ⟨hm,ρ,hs,hp⟩
    exact ⟨hm,ρ,hs,j4 (fun ks sf=>callM_mono fun st sf=>fT fun sf st=>h _ _ _) hp⟩
  | drawG lv ll dr fl tl=>intro Q Q' sf st h; exact fun ⟨hm,q⟩=>⟨hm,ly (fun ks sf ⟨h1,h2⟩=>⟨h1,fun s a b=>fT (fun sf st=>h _ _ _) (h2 s a b)⟩) q⟩
  | seq a b iha ihb =>
    intro Q Q' sf st h
    exact iha fun e sf st=>by
      cases e with
      | normal=>exact ihb h
      | _=>exact h _ _ _
  | cond x a b iha ihb =>
    intro Q Q' sf st h
    simp only [aC,m4]
    split
    · exact fun q=>⟨fun e=>iha h (q.1 e),fun e=>ihb h (q.2 e)⟩
    · exact id
  | block id b ih =>
    intro Q Q' sf st h
    exact ih fun e sf st=>by
      cases e with
      | exit i =>
        simp only [jL]
        split
        · exact h _ _ _
        · exact h _ _ _
      | _=>exact h _ _ _
  | loop lv ll b ih =>
    intro Q Q' sf st h
    rintro ⟨I,h0,hr⟩
    exact ⟨I,h0,fun k sf st hi=>ih (fun e sf st=>by
      cases e with
      | normal=>exact fun q=>q
      | _=>exact h _ _ _) (hr k sf st hi)⟩
  | exit lv ll id=>intro Q Q' sf st h; exact h _ _ _
  | scope b ih =>
    intro Q Q' sf st h
    exact ih fun e sf st=>by
      cases e with
      | goto l=>exact fun q=>q
      | _=>exact h _ _ _
  | rangeF lv ll x ps lb a b _ _ =>
    intro Q Q' sf st h
    rintro ⟨hm,hr⟩
    refine ⟨hm,?_⟩
    unfold nW at hr ⊢
    split at hr
    · obtain ⟨h1,h2⟩:=hr
      refine ⟨h1,fun r hy=>?_⟩
      obtain ⟨Qc,h3,h4⟩:=h2 r hy
      refine ⟨Qc,h3,fun v st' q=>?_⟩
      rcases h4 v st' q with ⟨a,b⟩ | ⟨a,b⟩ | ⟨k,a,b⟩
      · exact .inl ⟨a,h _ _ _ b⟩
      · exact .inr (.inl ⟨a,h _ _ _ b⟩)
      · exact .inr (.inr ⟨k,a,h _ _ _ b⟩)
    · exact hr.elim
  | ret=>intro Q Q' sf st h; exact h _ _ _
  | bad=>intro Q Q' sf st h; exact fun q=>q
end
theorem tabOk_nil {P:Program} {F:Nat→FuncId}:TabOk P F (fun _=>none):=fun q fn h=>by cases h
theorem cb {P:Program} {F:Nat→FuncId} {T:FuncId→Option AFun} {n:FuncId} {X:Cx} {c:AFun} (h1:cQ P n = true) (h2:dX P X n = some c) (h3:X.F = F) (hT:TabOk P F T):TabOk P F (fun q=>if q = n then some c else T q):=by
  intro q fn h
  by_cases e:q = n
  · subst e
    simp only [if_true,Option.some.injEq] at h
    subst h
    exact ⟨h1,X,h3,h2⟩
  · simp only [e,if_false] at h
    exact hT q fn h
def unrQ (L:Sf→St→Prop) (Q:Exit→Sf→St→Prop):Exit→Sf→St→Prop
  | .normal,sf,st=>L sf st
  | e,sf,st=>Q e sf st
section
variable {P:Program} {F:Nat→FuncId} {m:Bool} {b:AC} {lv ll:List Nat} {Q:Exit→Sf→St→Prop}
def loopN (P:Program) (F:Nat→FuncId) (m:Bool) (b:AC) (lv ll:List Nat) (Q:Exit→Sf→St→Prop):Nat→Sf→St→Prop
  | 0,_,_=>False
  | n + 1,sf,st=>aC P F m b (sf.mask lv ll) st (unrQ (loopN P F m b lv ll Q n) Q)
theorem loop_rounds (n:Nat) {sf:Sf} {st:St} (h:loopN P F m b lv ll Q n sf st):ep (aC P F m b) lv ll sf st Q:=by
  cases n with
  | zero=>exact h.elim
  | succ n =>
    refine ⟨fun k sf st=>aC P F m b sf st (unrQ (loopN P F m b lv ll Q k) Q),⟨n,_,Sf.le_refl _,h⟩,fun k sf st hk=>aC_mono (fun e sf st=>?_) hk⟩
    cases e with
    | normal =>
      cases k with
      | zero=>exact fun q=>q.elim
      | succ k=>exact fun q=>⟨k,Nat.lt_succ_self k,_,Sf.le_refl _,q⟩
    | _=>exact fun q=>q
variable (sf:Sf) (st:St) (L:Sf→St→Prop) (n:Nat)
theorem p7:loopN P F m b lv ll Q (n + 1) sf st = aC P F m b (sf.mask lv ll) st (unrQ (loopN P F m b lv ll Q n) Q):=rfl
theorem unrQ_normal:unrQ L Q .normal sf st = L sf st:=rfl
theorem unrQ_exit (id:Nat):unrQ L Q (.exit id) sf st = Q (.exit id) sf st:=rfl
end
end Go.Fx
/- Lists of cells, boxes and numbers: small laws for evaluation. -/
namespace Go.Fx
open Go
theorem fk (a k:Nat):(a:Int) + (no_index (OfNat.ofNat k)) = ((a + OfNat.ofNat k:Nat):Int):=by exact id rfl
theorem cD (cs:List AV) (i:Nat):eO cs i [] = cs:=by cases cs <;> rfl
theorem rz:∀ (vs xs rs:List AV),vs.length≤rs.length→eO (xs++rs) xs.length vs = xs++(vs++rs.drop vs.length)
  | [],xs,rs,_=>by simp [eO]
  | v::vs,xs,[],h=>by simp at h
  | v :: vs, xs, r :: rs, h => by
    simp only [eO]
    have h1:(xs++r::rs).set xs.length v = (xs++[v])++rs:=by simp
    have h2:xs.length + 1 = (xs++[v]).length:=by simp
    rw [h1,h2,rz vs (xs++[v]) rs (by simpa using h)]
    simp
theorem p8 {vs xs rs:List AV} {n:Nat} (hn:n = xs.length) (h:vs.length≤rs.length):eO (xs++rs) n vs = xs++(vs++rs.drop vs.length):=by subst hn; exact rz vs xs rs h
def Lits (l:List AV):Prop:=∀ x ∈ l,∃ v,x = .lit v
theorem Lits.nil:Lits []:=fun _ h=>by cases h
theorem Lits.app {l l':List AV} (h:Lits l) (h':Lits l'):Lits (l++l'):=fun x hx=>(List.mem_append.1 hx).elim (h x) (h' x)
theorem Lits.drop {l:List AV} (h:Lits l) (n:Nat):Lits (l.drop n):=fun x hx=>h x (List.mem_of_mem_drop hx)
theorem Lits.take {l:List AV} (h:Lits l) (n:Nat):Lits (l.take n):=fun x hx=>h x (List.mem_of_mem_take hx)
theorem Lits.map {A:Type} (f:A→Value) (l:List A):Lits (l.map fun a=>.lit (f a)):=fun x hx=>by
  obtain ⟨a,_,rfl⟩:=List.mem_map.1 hx; exact ⟨_,rfl⟩
theorem Lits.dis {l:List AV} (h:Lits l):l.map AV.dis = l:=by
  induction l with
  | nil=>rfl
  | cons x r ih =>
    obtain ⟨v,rfl⟩:=h x (List.mem_cons_self ..)
    simp only [List.map_cons,r8]
    rw [ih fun y hy=>h y (List.mem_cons_of_mem _ hy)]
theorem Lits.own {l:List AV} (h:Lits l):l.map AV.own1 = l:=by
  induction l with
  | nil=>rfl
  | cons x r ih =>
    obtain ⟨v,rfl⟩:=h x (List.mem_cons_self ..)
    simp only [List.map_cons,dk]
    rw [ih fun y hy=>h y (List.mem_cons_of_mem _ hy)]
theorem Lits.cells {l:List AV} (h:Lits l):l.flatMap AV.cells = l:=by
  induction l with
  | nil=>rfl
  | cons x r ih =>
    obtain ⟨v,rfl⟩:=h x (List.mem_cons_self ..)
    simp only [List.flatMap_cons,cN]
    rw [ih fun y hy=>h y (List.mem_cons_of_mem _ hy)]
    rfl
theorem Lits.cellsD {l:List AV} (h:Lits l):Fx.cellsD l = l:=by unfold Fx.cellsD; rw [h.dis,h.cells]
theorem Lits.nb {l:List AV} (h:Lits l):∀ x ∈ l,x.NB:=fun x hx=>by obtain ⟨v,rfl⟩:=h x hx; exact .lit v
theorem acalls_id {P:Program} {X:Cx} {f:FuncId} {fn:AFun} {vs:List AV} {st:St} (hmix:P.follows .mixedOrders = true) (hf:dX P X f = some fn) (hX:X.F = id) (hlen:Nat.ble vs.length fn.n = true) {K:AV→St→Prop} (h:aFun P id false fn vs st K):dt P f vs st K:=by
  refine acalls_of hmix hf (Nat.le_of_ble_eq_true hlen) ?_
  rw [hX]; exact h
theorem gp (st:St) (cs:List AV):(st.push (.cells cs)).get st.boxes.length = some cs:=by simp [St.push,St.get]
theorem rA (st:St) (es:List (AV×AV)) (bs:List Nat) (k:Nat):(st.push (.mp es bs k)).getM st.boxes.length = some es:=by simp [St.push,St.getM]
theorem rB (st:St) (es:List (AV×AV)) (bs:List Nat) (k:Nat):(st.push (.mp es bs k)).getB st.boxes.length = (bs,k):=by simp [St.push,St.getB]
theorem set_push (st:St) (b:Box) (cs:List AV):(st.push b).set st.boxes.length cs = st.push (.cells cs):=by simp [St.push,St.set]
theorem eB (st:St) (b:Box):(st.push b).boxes.length = st.boxes.length + 1:=by simp [St.push]
theorem len_set (st:St) (id:Nat) (cs:List AV):(st.set id cs).boxes.length = st.boxes.length:=by simp [St.set]
theorem iW {st:St} {b:Box} {id:Nat} (h:id < st.boxes.length):(st.push b).get id = st.get id:=by simp [St.push,St.get,List.getElem?_append_left h]
theorem fA {st:St} {id:Nat} {cs:List AV} (h:st.get id = some cs):id < st.boxes.length:=by
  rcases Nat.lt_or_ge id st.boxes.length with hl | hl
  · exact hl
  · simp [St.get,List.getElem?_eq_none hl] at h
theorem el {st:St} {id:Nat} {cs:List AV} (h:id < st.boxes.length):(st.set id cs).get id = some cs:=by simp [St.set,St.get,h]
theorem p9 {st:St} {id id':Nat} {cs:List AV} (h:id≠id'):(st.set id cs).get id' = st.get id':=by simp [St.set,St.get,List.getElem?_set_ne h]
theorem np (st:St) (id:Nat) (cs ds:List AV):(st.set id cs).set id ds = st.set id ds:=by simp [St.set]
theorem b4 (cs:List AV) (i:Nat) (v:AV) (vs:List AV):eO cs i (v::vs) = eO (cs.set i v) (i + 1) vs:=rfl
end Go.Fx
/- Loops with states that are told; lists of bytes. -/
namespace Go.Fx
open Go
section
variable {P:Program} {F:Nat→FuncId} {m:Bool} {b:AC} {lv ll:List Nat} {Q:Exit→Sf→St→Prop}
def stepQ {A:Type} (S:A→Sf) (T:A→St) (R:A→Prop) (lv ll:List Nat) (Q:Exit→Sf→St→Prop):Exit→Sf→St→Prop
  | .normal,sf,st=>∃ a,R a∧Sf.le (sf.mask lv ll) (S a)∧st = T a
  | e,sf,st=>Q e sf st
theorem loop_for {A:Type} (μ:A→Nat) (S:A→Sf) (T:A→St) (I:A→Prop) (a0:A) {sf:Sf} {st:St} (h0:I a0) (hs:Sf.le (sf.mask lv ll) (S a0)) (ht:st = T a0)
    (step:∀ a,I a→aC P F m b (S a) (T a) (stepQ S T (fun a'=>I a'∧μ a' < μ a) lv ll Q)):ep (aC P F m b) lv ll sf st Q:=by
  refine ⟨fun k sf st=>∃ a,I a∧μ a = k∧sf = S a∧st = T a,⟨μ a0,_,hs,a0,h0,rfl,rfl,ht⟩,?_⟩
  rintro k sf st ⟨a,ha,rfl,rfl,rfl⟩
  refine aC_mono (fun e sf st=>?_) (step a ha)
  cases e with
  | normal=>exact fun ⟨a',⟨h1,h2⟩,h3,h4⟩=>⟨μ a',h2,S a',h3,a',h1,rfl,rfl,h4⟩
  | _=>exact fun q=>q
variable {A:Type} (S:A→Sf) (T:A→St) (R:A→Prop) (sf:Sf) (st:St)
end
section
variable {CB:Sf→St→(Exit→Sf→St→Prop)→Prop} {id:Nat} {r:Loop} {rs:List (Nat×AV)} {Q:Bool→St→Prop} {sf:Sf} {st:St}
theorem keep_eq (v:AV):v.keep = if v.noL = true then v.dis else .any:=rfl
theorem rC (sf:Sf):jG [] sf = []:=rfl
theorem qa (t:Nat) (l:List Nat) (sf:Sf):jG (t::l) sf = (t,(getR sf.regs t).keep)::jG l sf:=rfl
theorem setRs_nil (rg:List (Nat×AV)) (vs:List AV):kB rg [] vs = rg:=by cases vs <;> rfl
theorem setRs_cons (rg:List (Nat×AV)) (p:Nat) (ps:List Nat) (v:AV) (vs:List AV):kB rg (p::ps) (v::vs) = kB (setR rg p v.dis) ps vs:=rfl
theorem la:r5 CB id r rs Q .normal sf st = (st.isLp id r rs∧CB sf (st.setL id (fO r) rs) (endI id r rs Q)):=rfl
theorem oH:endI id r rs Q .normal sf st = (st.isLp id (fO r) rs∧Q true (st.setL id r rs)):=rfl
theorem round_a {P:Program} {CA CB:Sf→St→(Exit→Sf→St→Prop)→Prop} {ps:List Nat} (hy:∀ vs st' Q',r6 CA CB ps id r rs vs st' Q'→km P id vs st' Q') {vs:List AV} (hl:st.isLp id r rs) (hn:vs.length = ps.length)
    (h:CA ⟨kB rs ps vs,[]⟩ st (r5 CB id r rs Q)):km P id vs st Q:=hy _ _ _ ⟨hl,hn,h⟩
end
theorem nr {st:St} {id q:Nat} {r:Loop} {rs:List (Nat×AV)} (h:q≠id):(st.setL id r rs).boxes[q]? = st.boxes[q]?:=by
  simp only [St.setL]; rw [List.getElem?_set_ne (fun e=>h e.symm)]
theorem rD {st:St} {id:Nat} {r r':Loop} {rs rs':List (Nat×AV)} (h:st.isLp id r' rs'):(st.setL id r rs).isLp id r rs:=by
  have hl:id < st.boxes.length:=(List.getElem?_eq_some_iff.1 h).1
  simp [St.isLp,St.setL,hl]
theorem oI {st:St} {id q:Nat} (h:q≠id):(st.drop id).boxes[q]? = st.boxes[q]?:=by
  simp only [St.drop]; rw [List.getElem?_set_ne (fun e=>h e.symm)]
theorem push_isLp (st:St) (r:Loop) (rs:List (Nat×AV)):(st.push (.lp r rs)).isLp st.boxes.length r rs:=by simp [St.isLp,St.push]
theorem isLp_at {st st':St} {id:Nat} {r:Loop} {rs:List (Nat×AV)} (h:st.isLp id r rs) (hb:st'.boxes[id]? = st.boxes[id]?):st'.isLp id r rs:=hb.trans h
theorem pure_eq {P:Program} {f:FuncId} {vs:List AV} {x:AV} (h:dt P f vs ⟨[]⟩ (fun v _=>AV.le v x)) (hx:x.NB) (hvs:∀ v ∈ vs,v.NB) (st:St):dJ P f vs st x :=
  pure_of (h.mono fun _ _ h=>.le _ _ h hx) hvs st
end Go.Fx
/- Regions that draw their order: evaluation. -/
namespace Go.Fx
open Go
section
variable (P:Program) (F:Nat→FuncId) (m:Bool) (locs0:List (Nat×List AV)) (st:St) (C:PK→Sf→Prop) (sf:Sf) (d:Option Nat) (x y i:Opd) (K:List PK→Sf→Prop) (ks:List PK)
theorem fp:dg P F locs0 st [] K ks sf = K ks sf:=rfl
theorem ek (i:AI) (r:List GI):dg P F locs0 st (⟨none,i⟩::r) K ks sf = d6 P F locs0 st i (lN (dg P F locs0 st r K) ks) sf:=rfl
theorem h_some (t:Nat) (want:Bool) (i:AI) (r:List GI):dg P F locs0 st (⟨some (t,want),i⟩::r) K ks sf = eV t want (sf.reg t) (d6 P F locs0 st i (lN (dg P F locs0 st r K) ks)) (pJ (dg P F locs0 st r K) ks i.dst) sf:=rfl
theorem fq:d6 P F locs0 st (.mv d x) C sf = valH C d sf (sf.ev F x).dis:=rfl
theorem lc (k:BinK) (op:BinOp):d6 P F locs0 st (.bin d k op x y) C sf = (binI k op (sf.ev F x) (sf.ev F y)).wp (valH C d sf):=rfl
theorem hh_field (off:Nat) (k:Option Nat):d6 P F locs0 st (.field d x off k) C sf = (kU (sf.ev F x) off k).wp (valH C d sf):=rfl
theorem e7 (off:Nat):d6 P F locs0 st (.addr d x off) C sf = (addA (sf.ev F x) off).wp (valH C d sf):=rfl
theorem iK (k:Nat):d6 P F locs0 st (.ixS d x i k) C sf = (ixSV (sf.ev F x) (sf.ev F i) k).wp (valH C d sf):=rfl
theorem n7 (n k:Nat):d6 P F locs0 st (.ixA d x i n k) C sf = ((Fx.ixA (sf.ev F i) n).bind fun j=>addA (sf.ev F x) (j * k)).wp (valH C d sf):=rfl
theorem dU (k:Option Nat):d6 P F locs0 st (.load d x k) C sf = (bK sf st (sf.ev F x) k).wp (valH C d sf):=rfl
theorem eJ:d6 P F locs0 st (.nilck d x) C sf = (cB (sf.ev F x)).wp (valH C d sf):=rfl
theorem hh_bst (places:List (Nat×Nat)) (z:AV) (parts:List (Nat×Opd)):d6 P F locs0 st (.bst d places z parts) C sf = (bstV places z (parts.map fun p=>(p.1,sf.ev F p.2))).wp (valH C d sf):=rfl
theorem i7 (k:KeyK) (z:AV) (ok:Bool) (mp key:Opd):d6 P F locs0 st (.lookup d k z ok mp key) C sf = (e6 k z ok st (sf.ev F mp) (sf.ev F key)).wp (valH C d sf):=rfl
theorem qb (k:LenK):d6 P F locs0 st (.len d k x) C sf = (lenI k st (sf.ev F x)).wp (valH C d sf):=rfl
theorem o3 (s:Nat) (cs:List AV):d6 P F locs0 st (.newL s cs) C sf = C (.new s cs) (sf.set s .any):=rfl
theorem qc (t:Nat) (want:Bool) (cs:List AV) (Y N:Sf→Prop):eV t want (.tup cs) Y N sf = N sf:=rfl
theorem ia (t:Nat) (want:Bool) (Y N:Sf→Prop):eV t want (.lit (.bool true)) Y N sf = if true = want then Y (sf.set t (.lit (.bool true))) else N (sf.set t (.lit (.bool true))):=by
  unfold eV
  exact propext ⟨fun h=>h true rfl,fun h c e=>by subst e; exact h⟩
theorem ff (t:Nat) (want:Bool) (Y N:Sf→Prop):eV t want (.lit (.bool false)) Y N sf = if false = want then Y (sf.set t (.lit (.bool false))) else N (sf.set t (.lit (.bool false))):=by
  unfold eV
  exact propext ⟨fun h=>h false rfl,fun h c e=>by subst e; exact h⟩
end
def PK.keep:PK→Bool
  | .val _=>false
  | .skip=>false
  | _=>true
theorem eQ:∀ ks:List PK,d7 (ks.filter PK.keep) = d7 ks
  | []=>rfl
  | .val _::r=>eQ r
  | .skip::r=>eQ r
  | .mk _ _::r=>eQ r
  | .hole::r=>eQ r
  | .chole _ _::r=>eQ r
  | .nst _ _::r=>eQ r
  | .new _ _::r=>eQ r
  | .app _ _::r=>eQ r
  | .store s _::r=>congrArg (s::·) (eQ r)
theorem fU:∀ ks:List PK,eW (ks.filter PK.keep) = eW ks
  | []=>rfl
  | .val _::r=>fU r
  | .skip::r=>fU r
  | .mk _ _::r=>fU r
  | .hole::r=>fU r
  | .chole _ _::r=>fU r
  | .nst _ _::r=>fU r
  | .store _ _::r=>fU r
  | .app _ _::r=>fU r
  | .new s _::r=>congrArg (s::·) (fU r)
theorem fX:∀ ks:List PK,fJ (ks.filter PK.keep) = fJ ks
  | []=>rfl
  | .val _::r=>fX r
  | .skip::r=>fX r
  | .mk _ _::r=>fX r
  | .hole::r=>fX r
  | .chole _ _::r=>fX r
  | .nst _ _::r=>fX r
  | .store _ _::r=>fX r
  | .new _ _::r=>fX r
  | .app s _::r=>congrArg (s::·) (fX r)
theorem fY:∀ (ks:List PK) (sf:Sf),gj (ks.filter PK.keep) sf = gj ks sf
  | [],_=>rfl
  | .val _::r,sf=>fY r sf
  | .skip::r,sf=>fY r sf
  | .mk _ _::r,sf=>fY r sf
  | .hole::r,sf=>fY r sf
  | .chole _ _::r,sf=>fY r sf
  | .nst _ _::r,sf=>fY r sf
  | .new _ _::r,sf=>fY r sf
  | .app _ _::r,sf=>fY r sf
  | .store _ _::r,_=>fY r _
theorem fm (t:Nat):∀ ks:List PK,eS t (ks.filter PK.keep) = eS t ks
  | []=>rfl
  | .val _::r=>fm t r
  | .skip::r=>fm t r
  | .mk _ _::r=>fm t r
  | .hole::r=>fm t r
  | .chole _ _::r=>fm t r
  | .store _ _::r=>fm t r
  | .app _ _::r=>fm t r
  | .new _ _::r=>fm t r
  | .nst s cs :: r => by
    show (if s = t then some cs else eS t (r.filter PK.keep)) = if s = t then some cs else eS t r
    rw [fm t r]
theorem fZ:∀ ks:List PK,fK (ks.filter PK.keep) = fK ks
  | []=>rfl
  | .val _::r=>fZ r
  | .skip::r=>fZ r
  | .mk _ _::r=>fZ r
  | .hole::r=>fZ r
  | .chole _ _::r=>fZ r
  | .store _ _::r=>fZ r
  | .new _ _::r=>fZ r
  | .app _ _::r=>fZ r
  | .nst s _::r=>congrArg (s::·) (fZ r)
theorem f0:∀ (ks:List PK) (seen:List (Nat×Nat)),nstB seen (ks.filter PK.keep) = nstB seen ks
  | [],_=>rfl
  | .val _::r,s=>f0 r s
  | .skip::r,s=>f0 r s
  | .mk _ _::r,s=>f0 r s
  | .hole::r,s=>f0 r s
  | .chole _ _::r,s=>f0 r s
  | .store _ _::r,s=>f0 r s
  | .app _ _::r,s=>f0 r s
  | .new _ _::r,s=>f0 r _
  | .nst _ _::r,s=>congrArg (_ && ·) (f0 r s)
theorem ga (all:List PK):∀ (ks:List PK) (sf:Sf),fj (all.filter PK.keep) (ks.filter PK.keep) sf = fj all ks sf
  | [],_=>rfl
  | .val _::r,sf=>ga all r sf
  | .skip::r,sf=>ga all r sf
  | .mk _ _::r,sf=>ga all r sf
  | .hole::r,sf=>ga all r sf
  | .chole _ _::r,sf=>ga all r sf
  | .store _ _::r,sf=>ga all r sf
  | .app _ _::r,sf=>ga all r sf
  | .nst _ _::r,sf=>ga all r sf
  | .new s cs :: r, sf => by
    show fj (all.filter PK.keep) (r.filter PK.keep) (sf.newLoc s ((eS s (all.filter PK.keep)).getD cs)) = fj all r (sf.newLoc s ((eS s all).getD cs))
    rw [fm,ga all r]
section
variable {P:Program} {F:Nat→FuncId} {m:Bool} {locs0:List (Nat×List AV)} {st st2:St} {drop lv ll:List Nat} {tl:List GI} {Q:Exit→Sf→St→Prop}
theorem tail_keep (ks:List PK) (sf:Sf):eH P F m drop lv ll tl Q st (ks.filter PK.keep) sf = eH P F m drop lv ll tl Q st ks sf:=by
  unfold eH ksB
  rw [eQ,fU,fX,fZ,f0,fY,ga]
theorem lz:∀ (r:List GI) (ks:List PK) (sf:Sf),dg P F locs0 st r (eH P F m drop lv ll tl Q st) (ks.filter PK.keep) sf = dg P F locs0 st r (eH P F m drop lv ll tl Q st) ks sf
  | [],ks,sf=>tail_keep ks sf
  | ⟨g, i⟩ :: r, ks, sf => by
    have h1:lN (dg P F locs0 st r (eH P F m drop lv ll tl Q st)) (ks.filter PK.keep) = lN (dg P F locs0 st r (eH P F m drop lv ll tl Q st)) ks:=by
      funext k sf
      simp only [lN]
      rw [← lz r (ks++[k]) sf,← lz r (ks.filter PK.keep++[k]) sf]
      simp
    have h2:∀ d,pJ (dg P F locs0 st r (eH P F m drop lv ll tl Q st)) (ks.filter PK.keep) d = pJ (dg P F locs0 st r (eH P F m drop lv ll tl Q st)) ks d:=by
      intro d
      funext sf
      exact congrFun (congrFun h1 .skip) (sf.put d (.tup []))
    cases g with
    | none=>simp only [dg,h1]
    | some g=>obtain ⟨t,w⟩:=g; simp only [dg,h1,h2]
variable (ks:List PK) (sf:Sf) (r:List GI) (v:AV) (d:Option Nat)
theorem cons_val:lN (dg P F locs0 st r (eH P F m drop lv ll tl Q st)) ks (.val v) sf = dg P F locs0 st r (eH P F m drop lv ll tl Q st) ks sf:=by
  show dg P F locs0 st r _ (ks++[.val v]) sf = _
  exact (lz r (ks++[PK.val v]) sf).symm.trans ((congrArg (fun q=>dg P F locs0 st r (eH P F m drop lv ll tl Q st) q sf) (by simp [PK.keep])).trans (lz r ks sf))
theorem dz:valH (lN (dg P F locs0 st r (eH P F m drop lv ll tl Q st)) ks) d sf v = dg P F locs0 st r (eH P F m drop lv ll tl Q st) ks (sf.put d v):=cons_val ks (sf.put d v) r v
theorem dA:eH P F m drop lv ll tl Q st [] sf = runI P F m tl (opsK lv ll Q) sf st:=propext ⟨fun h=>h.2,fun h=>⟨rfl,h⟩⟩
theorem o4 (k:PK):eH P F m drop lv ll tl Q st (k::ks) sf = (ksB drop (k::ks) = true∧runI P F m tl (opsK lv ll Q) (fj (k::ks) (k::ks) (gj (k::ks) sf)) st):=rfl
end
section
variable (H:List PK→Sf→Prop) (ks:List PK) (sf:Sf) (s:Nat) (cs:List AV) (v:AV)
theorem nt:lN H ks (.new s cs) sf = H (ks++[.new s cs]) sf:=rfl
end
section
variable (P:Program) (F:Nat→FuncId) (L0:List (Nat×List AV)) (ρ:St) (C:PK→Sf→Prop) (sf:Sf) (d:Option Nat) (x y i:Opd) (K:List PK→Sf→Prop) (ks:List PK)
theorem m_nil:preM P F L0 ρ [] K ks sf = K ks sf:=rfl
theorem m_none (i:AI) (r:List GI):preM P F L0 ρ (⟨none,i⟩::r) K ks sf = oneM P F L0 ρ i (oB (preM P F L0 ρ r K) ks) sf:=rfl
theorem m_val (v:AV) (r:List GI):valM (oB (preM P F L0 ρ r K) ks) d sf v = preM P F L0 ρ r K (ks++[.val v]) (sf.put d v):=rfl
theorem o5 (p:Bool) (f:Opd) (args:List Opd):oneM P F L0 ρ (.call d p f args) C sf = pM P ρ d (sf.ev F f) (args.map (sf.ev F)) C sf:=rfl
theorem j7:oneM P F L0 ρ (.mv d x) C sf = valM C d sf (sf.ev F x).dis:=rfl
theorem nu (c a b:Opd):oneM P F L0 ρ (.pick d c a b) C sf = (pickV (sf.ev F c) (sf.ev F a) (sf.ev F b)).wp (valM C d sf):=rfl
theorem ld (k:BinK) (op:BinOp):oneM P F L0 ρ (.bin d k op x y) C sf = (binI k op (sf.ev F x) (sf.ev F y)).wp (valM C d sf):=rfl
theorem o6 (off:Nat):oneM P F L0 ρ (.addr d x off) C sf = (addA (sf.ev F x) off).wp (valM C d sf):=rfl
theorem mm_ixS (k:Nat):oneM P F L0 ρ (.ixS d x i k) C sf = (ixSV (sf.ev F x) (sf.ev F i) k).wp (valM C d sf):=rfl
theorem lA (k:Option Nat):oneM P F L0 ρ (.load d x k) C sf = (bK sf ρ (sf.ev F x) k).wp (valM C d sf):=rfl
theorem mm_nilck:oneM P F L0 ρ (.nilck d x) C sf = (cB (sf.ev F x)).wp (valM C d sf):=rfl
theorem n8 (k:LenK):oneM P F L0 ρ (.len d k x) C sf = (lenI k ρ (sf.ev F x)).wp (valM C d sf):=rfl
variable (KH:List PK→Prop) (st:St) (post:List (Bool×GI)) (T:St→Sf→Prop) (T1:Sf→Prop)
theorem hm_nil:iE P F L0 ρ [] KH ks sf = KH ks:=rfl
variable (drop:List Nat) (ks1:List PK)
theorem atM_eq (f:Opd) (args:List Opd):atM P F L0 ρ st d f args post drop T ks1 sf = pN P F L0 ρ st d (sf.ev F f) (args.map (sf.ev F)) post drop T ks1 sf:=rfl
theorem postM_eq (ksh:List PK):postM post drop ks1 ksh T1 ks sf = (lO post ksh ks∧finK drop T1 (ks1++ks) sf):=rfl
theorem finK_eq:finK drop T1 ks sf = (ksB drop ks = true∧T1 (fj ks ks (gj ks sf))):=rfl
theorem holeK_eq (A:List PK→Prop):holeK drop ks1 A ks = (ksB drop (ks1++ks) = true∧A ks):=rfl
theorem compM_nil:lO [] [] [] = True:=rfl
theorem tailM_eq (m:Bool) (lv ll:List Nat) (tl:List GI) (Q:Exit→Sf→St→Prop):tailM P F m lv ll tl Q st sf = runI P F m tl (opsK lv ll Q) sf st:=rfl
end
section
variable {P:Program} {F:Nat→FuncId} {L0:List (Nat×List AV)} {ρ st:St}
theorem draw_s {pre:List GI} {d:Option Nat} {f:Opd} {args:List Opd} {post:List (Bool×GI)} {sf:Sf} {T:St→Sf→Prop} (h:preM P F sf.locs st pre (atM P F sf.locs st st d f args post (q7 pre post) T) [] ⟨sf.regs,dn (q7 pre post) sf.locs⟩):drawM P F pre d f args post sf st T:=⟨st,St.sub_refl st,h⟩
theorem call_m {q:FuncId} {fs cs args vs:List AV} {d:Option Nat} {post:List (Bool×GI)} {drop:List Nat} {T:St→Sf→Prop} {ks1:List PK} {sf:Sf} {Qc:AV→St→Prop} (hvs:fs++args.map AV.dis++cs = vs) (hent:cQ P q = true) (hA:dt P q vs st Qc) (hn:args.all AV.noL = true)
    (hK:iE P F L0 ρ post (holeK drop ks1 (afterM P F L0 ρ post Qc d sf drop T ks1)) [] (sf.put d .any)):pN P F L0 ρ st d (.fn (.func q) fs cs) args post drop T ks1 sf:=by
  subst hvs
  exact ⟨hn,hent,Qc,hA,hK⟩
end
section
variable (P:Program) (F:Nat→FuncId) (L0:List (Nat×List AV)) (ρ:St) (C:PK→Sf→Prop) (sf:Sf) (d:Option Nat) (K H:List PK→Sf→Prop) (ks:List PK)
theorem g_nil:preG P F L0 ρ [] K ks sf = K ks sf:=rfl
theorem jt (i:AI) (r:List (Bool×GI)):preG P F L0 ρ ((false,⟨none,i⟩)::r) K ks sf = oneM P F L0 ρ i (kR (preG P F L0 ρ r K) ks) sf:=rfl
theorem gu (t:Nat) (want:Bool) (i:AI) (r:List (Bool×GI)):preG P F L0 ρ ((false,⟨some (t,want),i⟩)::r) K ks sf = eV t want (sf.reg t) (oneM P F L0 ρ i (kR (preG P F L0 ρ r K) ks)) (pQ (preG P F L0 ρ r K) ks i.dst) sf:=rfl
theorem j8 (t:Nat) (want:Bool) (i:AI) (r:List (Bool×GI)):preG P F L0 ρ ((true,⟨some (t,want),i⟩)::r) K ks sf = eV t want (sf.reg t) (oC P F ρ i (kR (preG P F L0 ρ r K) ks)) (pQ (preG P F L0 ρ r K) ks i.dst) sf:=rfl
theorem kC (v:AV):valM (kR H ks) d sf v = H ks (sf.put d v):=rfl
theorem g_mkv (v:AV):valG ρ (kR H ks) d sf v = H ks (sf.put d v):=rfl
theorem g_skip:pQ H ks d sf = H ks (sf.put d (.tup [])):=rfl
theorem si (p:Bool) (f:Opd) (args:List Opd):oC P F ρ (.call d p f args) C sf = pP P ρ d (sf.ev F f) (args.map (sf.ev F)) C sf:=rfl
theorem lB (m:Bool) (st:St) (drop lv ll:List Nat) (tl:List GI) (Q:Exit→Sf→St→Prop):tailG P F m drop lv ll tl Q st [] sf = ∀ s,St.sub st s→st.boxes.length≤s.boxes.length→runI P F m tl (opsK lv ll Q) sf s:=propext ⟨fun h=>h.2,fun h=>⟨rfl,h⟩⟩
end
theorem sj {P:Program} {ρ:St} {q:FuncId} {fs cs args vs:List AV} {d:Option Nat} {sf:Sf} {C:PK→Sf→Prop} {v:AV} (hvs:fs++args.map AV.dis++cs = vs) (hent:cQ P q = true) (h:∀ s,St.sub ρ s→ρ.boxes.length≤s.boxes.length→dt P q vs s (Grow v s)) (hn:args.all AV.noL = true) (hK:valG ρ C d sf v):pP P ρ d (.fn (.func q) fs cs) args C sf:=by
  subst hvs
  exact ⟨hn,hent,v,h,hK⟩
theorem sk {P:Program} {ρ:St} {q:FuncId} {fs cs args vs:List AV} {d:Option Nat} {sf:Sf} {C:PK→Sf→Prop} {v:AV} (hvs:fs++args.map AV.dis++cs = vs) (hent:cQ P q = true) (h:∀ s,St.sub ρ s→dJ P q vs s v) (hn:args.all AV.noL = true) (hK:valM C d sf v):pM P ρ d (.fn (.func q) fs cs) args C sf:=by
  subst hvs
  exact ⟨hn,hent,v,h,hK⟩
end Go.Fx
/- Numbers of bytes: shifts and the like. -/
namespace Go.Fx
open Go
theorem im {P:Program} {F:Nat→FuncId} {m:Bool} {b:AC} {lv ll:List Nat} {Q:Exit→Sf→St→Prop} {A:Type} (μ:A→Nat) (S:A→Sf) (T:A→St) (I:A→Prop) (a0:A) {sf:Sf} {st:St} (h0:I a0) (hs:Sf.le (sf.mask lv ll) (S a0)) (ht:st = T a0)
    (step:∀ a,I a→∀ K:Exit→Sf→St→Prop,(∀ a' sf',I a'→μ a' < μ a→Sf.le (sf'.mask lv ll) (S a')→K .normal sf' (T a'))→(∀ id sf st,Q (.exit id) sf st→K (.exit id) sf st)→(∀ sf st,Q .ret sf st→K .ret sf st)→aC P F m b (S a) (T a) K):ep (aC P F m b) lv ll sf st Q :=
  loop_for μ S T I a0 h0 hs ht fun a ha=>step a ha _ (fun a' _ h1 h2 h3=>⟨a',⟨h1,h2⟩,h3,rfl⟩) (fun _ _ _ h=>h) (fun _ _ h=>h)
theorem jv {p:Prop} [Decidable p] (h:p) {t:Nat} {want:Bool} {Y N:Sf→Prop} {sf:Sf}:eV t want (.lit (.bool (decide p))) Y N sf = if true = want then Y (sf.set t (.lit (.bool true))) else N (sf.set t (.lit (.bool true))):=by
  rw [decide_eq_true h,ia]
theorem ic {p:Prop} [Decidable p] (h:¬ p) {t:Nat} {want:Bool} {Y N:Sf→Prop} {sf:Sf}:eV t want (.lit (.bool (decide p))) Y N sf = if false = want then Y (sf.set t (.lit (.bool false))) else N (sf.set t (.lit (.bool false))):=by
  rw [decide_eq_false h,ff]
theorem dN {P:Program} {X:Cx} {f:FuncId} {fn:AFun} {vs:List AV} {st:St} (hmix:P.follows .mixedOrders = true) (hf:dX P X f = some fn) (hX:X.F = id) (hlen:Nat.ble vs.length fn.n = true) {K:AV→St→Prop} (h:∀ Q:AV→St→Prop,(∀ v st',K v st'→Q v st')→aFun P id false fn vs st Q):dt P f vs st K :=
  acalls_id hmix hf hX hlen (h K fun _ _ h=>h)
theorem pure_lev {P:Program} {X:Cx} {f:FuncId} {fn:AFun} {vs:List AV} {x:AV} (hmix:P.follows .mixedOrders = true) (hf:dX P X f = some fn) (hX:X.F = id) (hlen:Nat.ble vs.length fn.n = true) (hx:x.NB) (hvs:∀ v ∈ vs,v.NB)
    (h:∀ Q:AV→St→Prop,(∀ v st',v.le x→Q v st')→aFun P id false fn vs ⟨[]⟩ Q) (st:St):dJ P f vs st x :=
  pure_eq (dN hmix hf hX hlen fun Q hQ=>h Q fun v st' hv=>hQ v st' hv) hx hvs st
end Go.Fx
/- Slices of plain cells that are written to and appended to. -/
namespace Go.Fx
open Go
def MB (v:AV) (st:St) (l:List AV):Prop:=(v = .lit (.slice none 0 0)∧l = [])∨∃ id cap r,v = .bs id 1 0 l.length cap∧st.get id = some (l++r)∧l.length≤cap∧cap≤(l++r).length
def Kept (st st':St) (v:AV):Prop:=st.boxes.length≤st'.boxes.length∧∀ id cs,st.get id = some cs→(∀ k o l c,v≠.bs id k o l c)→st'.get id = some cs
theorem Kept.refl (st:St) (v:AV):Kept st st v:=⟨Nat.le_refl _,fun _ _ h _=>h⟩
def NBs (st:St):Prop:=∀ id cs,st.get id = some cs→∀ c ∈ cs,c.NB
theorem NBs.nil:NBs ⟨[]⟩:=fun id cs h=>by simp [St.get] at h
theorem NBs.push {st:St} {cs:List AV} (h:NBs st) (hc:∀ c ∈ cs,c.NB):NBs (st.push (.cells cs)):=by
  intro id ds hg
  by_cases e:id < st.boxes.length
  · rw [iW e] at hg
    exact h id ds hg
  · by_cases e2:id = st.boxes.length
    · subst e2
      rw [gp] at hg
      cases hg
      exact hc
    · have:=fA hg
      rw [eB] at this
      omega
theorem NBs.set {st:St} {id:Nat} {cs:List AV} (h:NBs st) (hid:id < st.boxes.length) (hc:∀ c ∈ cs,c.NB):NBs (st.set id cs):=by
  intro id' ds hg
  by_cases e:id = id'
  · subst e
    rw [el hid] at hg
    cases hg
    exact hc
  · rw [p9 e] at hg
    exact h id' ds hg
theorem MB.app {v:AV} {st:St} {l new:List AV} {bytes:Nat} {C:AV→St→Prop} (h:MB v st l) (hl:Lits l) (hn:Lits new) (hr:lI (l.length + new.length) bytes = true)
    (hC:∀ v' st',MB v' st' (l++new)→Kept st st' v→(NBs st→NBs st')→C v' st'):appX false 1 bytes v C st new:=by
  rcases h with ⟨rfl,rfl⟩ | ⟨id,cap,r,rfl,hg,h1,h2⟩
  · refine ⟨rfl,by simpa using hr,?_⟩
    split
    · rename_i h
      have:new = []:=by simpa using h
      subst this
      exact hC _ _ (.inl ⟨rfl,rfl⟩) (Kept.refl _ _) id
    · intro c hc
      refine hC _ _ (.inr ⟨st.boxes.length,c,List.replicate (c - new.length) .any,by simp,?_,by simpa using hc,by simp; omega⟩) ⟨by simp [St.push],fun id cs hg _=>by rw [iW (fA hg)]; exact hg⟩ (fun h=>h.push fun x hx=>?_)
      · rw [hn.cellsD]
        simp only [List.nil_append,Nat.mul_one]
        exact gp st _
      · rw [hn.cellsD] at hx
        simp only [List.nil_append,Nat.mul_one,List.mem_append] at hx
        rcases hx with hx | hx
        · exact hn.nb x hx
        · rw [List.eq_of_mem_replicate hx]; exact .any
  · refine ⟨rfl,rfl,hr,?_⟩
    rw [hg]
    show (Res.ok _).wp _
    rw [rq,hn.cellsD]
    have hid:=fA hg
    split
    · rename_i hc
      refine ⟨by omega,hC _ _ (.inr ⟨id,cap,r.drop new.length,by simp,?_,by simpa using hc,?_⟩) ⟨by simp [St.set],fun id' cs hg' hne=>?_⟩ (fun h=>h.set hid ?_)⟩
      · rw [el hid,Nat.zero_add,Nat.mul_one,p8 rfl (by simp at h2; omega)]
        simp
      · simp at h2 ⊢; omega
      · rw [p9 (fun e=>hne _ _ _ _ (by rw [e])),hg']
      · rw [Nat.zero_add,Nat.mul_one,p8 rfl (by simp at h2; omega)]
        have h3:=h id _ hg
        intro x hx
        simp only [List.mem_append] at hx
        rcases hx with hx | hx | hx
        · exact hl.nb x hx
        · exact hn.nb x hx
        · exact h3 x (List.mem_append_right _ (List.mem_of_mem_drop hx))
    · rename_i hc
      have e:List.map AV.own1 (List.take (l.length * 1) (List.drop 0 (l++r))) = l:=by simp [hl.own]
      refine ⟨by simp,fun c hc=>hC _ _ (.inr ⟨st.boxes.length,c,List.replicate (c - (l.length + new.length)) .any,by simp,?_,by simpa using hc,by simp; omega⟩) ⟨by simp [St.push],fun id' cs hg' _=>by rw [iW (fA hg')]; exact hg'⟩ (fun h=>h.push fun x hx=>?_)⟩
      · rw [e]
        simp only [Nat.mul_one]
        exact gp st _
      · rw [e] at hx
        simp only [List.mem_append] at hx
        rcases hx with (hx | hx) | hx
        · exact hl.nb x hx
        · exact hn.nb x hx
        · rw [List.eq_of_mem_replicate hx]; exact .any
end Go.Fx
/- Functions that keep nothing may be handed what lies in boxes. -/
namespace Go.Fx
open Go
def litB1:AV→Bool
  | .lit _=>true
  | _=>false
end Go.Fx
/- Maps with plain keys, as lists; boxes that others are left alone by. -/
namespace Go.Fx
open Go
section
variable {β:Type}
def jH (t:Int):List (Int×β)→Nat→Option (Nat×β)
  | [],_=>none
  | (k,b)::r,i=>if t = k then some (i,b) else jH t r (i + 1)
def dB (t:Int):List (Int×β)→Option β
  | []=>none
  | (k,b)::r=>if t = k then some b else dB t r
def updP (t:Int) (b:β):List (Int×β)→List (Int×β)
  | []=>[(t,b)]
  | (k,c)::r=>if t = k then (t,b)::r else (k,c)::updP t b r
def delP (t:Int):List (Int×β)→List (Int×β)
  | []=>[]
  | (k,c)::r=>if t = k then r else (k,c)::delP t r
def ej (m:List (Int×β)):List Int:=m.map Prod.fst
theorem jx (t:Int):∀ (m:List (Int×β)) (i:Nat),(jH t m i).map Prod.snd = dB t m
  | [],_=>rfl
  | (k, b) :: r, i => by
    simp only [jH,dB]; split; · rfl
    · exact jx t r (i + 1)
theorem ob {γ:Type} (e:Int×β→γ) (t:Int) (b:β):∀ (m:List (Int×β)) (i:Nat),match jH t m i with
    | some (j,_)=>i≤j∧(m.map e).set (j - i) (e (t,b)) = (updP t b m).map e∧(m.map e).eraseIdx (j - i) = (delP t m).map e∧j - i < m.length
    | none=>m.map e++[e (t,b)] = (updP t b m).map e∧delP t m = m
  | [],_=>by simp [jH,updP,delP]
  | (k, c) :: r, i => by
    simp only [jH]
    by_cases h:t = k
    · subst h
      simp [updP,delP]
    · rw [if_neg h]
      have ih:=ob e t b r (i + 1)
      cases hf:jH t r (i + 1) with
      | none=>rw [hf] at ih; simp only at ih; simp [updP,delP,h,ih.1,ih.2]
      | some p =>
        obtain ⟨j,c'⟩:=p
        rw [hf] at ih
        simp only at ih ⊢
        obtain ⟨h1,h2,h3,h4⟩:=ih
        obtain ⟨q,rfl⟩:∃ q,j = i + 1 + q:=⟨j - (i + 1),by omega⟩
        rw [show i + 1 + q - (i + 1) = q by omega] at h2 h3 h4
        rw [show i + 1 + q - i = q + 1 by omega]
        refine ⟨by omega,?_,?_,by simp; omega⟩
        · simp [updP,h,h2]
        · simp [delP,h,h3]
theorem gI (t t':Int) (b:β):∀ m:List (Int×β),dB t' (updP t b m) = if t' = t then some b else dB t' m
  | []=>by simp only [updP,dB]
  | (k, c) :: r => by
    simp only [updP]
    by_cases h:t = k
    · subst h
      rw [if_pos rfl]
      simp only [dB]
      split <;> rfl
    · rw [if_neg h]
      simp only [dB]
      rw [gI t t' b r]
      by_cases h1:t' = k
      · subst h1
        have:¬ t' = t:=fun e=>h e.symm
        simp [this]
      · simp [h1]
theorem lC {t:Int}:∀ {m:List (Int×β)},t ∉ ej m→dB t m = none
  | [],_=>rfl
  | (k, c) :: r, h => by
    simp only [ej,List.map_cons,List.mem_cons,not_or] at h
    simp only [dB]
    rw [if_neg h.1]
    exact lC h.2
theorem qd (t t':Int):∀ {m:List (Int×β)},(ej m).Nodup→dB t' (delP t m) = if t' = t then none else dB t' m
  | [],_=>by simp [delP,dB]
  | (k, c) :: r, hn => by
    simp only [ej,List.map_cons,List.nodup_cons] at hn
    simp only [delP]
    by_cases h:t = k
    · subst h
      rw [if_pos rfl]
      simp only [dB]
      by_cases h1:t' = t
      · subst h1; rw [if_pos rfl]; exact lC hn.1
      · rw [if_neg h1,if_neg h1]
    · rw [if_neg h]
      simp only [dB]
      by_cases h1:t' = k
      · subst h1
        have:¬ t' = t:=fun e=>h e.symm
        simp [this]
      · rw [if_neg h1,if_neg h1]; exact qd t t' hn.2
theorem iX (t:Int) (b:β):∀ m:List (Int×β),(updP t b m).length = if (dB t m).isSome then m.length else m.length + 1
  | []=>by simp [updP,dB]
  | (k, c) :: r => by
    simp only [updP,dB]
    by_cases h:t = k
    · simp [h]
    · simp only [if_neg h,List.length_cons,iX t b r]
      split <;> rfl
theorem sm (t:Int):∀ m:List (Int×β),(delP t m).length = if (dB t m).isSome then m.length - 1 else m.length
  | []=>by simp [delP,dB]
  | (k, c) :: r => by
    simp only [delP,dB]
    by_cases h:t = k
    · simp [h]
    · simp only [if_neg h,List.length_cons,sm t r]
      split
      · rename_i q
        have:r≠[]:=by rintro rfl; simp [dB] at q
        have:=List.length_pos_iff.2 this
        omega
      · rfl
theorem keys_upd (t:Int) (b:β):∀ m:List (Int×β),ej (updP t b m) = if (dB t m).isSome then ej m else ej m++[t]
  | []=>by simp [updP,dB,ej]
  | (k, c) :: r => by
    simp only [updP,dB]
    by_cases h:t = k
    · simp [h,ej]
    · have:=keys_upd t b r
      simp only [ej] at this
      simp only [if_neg h,ej,List.map_cons,this]
      split <;> rfl
theorem nv (t x:Int):∀ {m:List (Int×β)},x ∈ ej (delP t m)→x ∈ ej m
  | [],h=>h
  | (k, c) :: r, h => by
    simp only [delP] at h
    simp only [ej,List.map_cons,List.mem_cons]
    split at h
    · exact .inr h
    · simp only [ej,List.map_cons,List.mem_cons] at h
      rcases h with h | h
      · exact .inl h
      · exact .inr (nv t x h)
theorem rE {t:Int} {b:β} {m:List (Int×β)} (h:(ej m).Nodup):(ej (updP t b m)).Nodup:=by
  rw [keys_upd]
  split
  · exact h
  · rename_i hs
    refine List.nodup_append.2 ⟨h,by simp,?_⟩
    intro x hx y hy
    simp only [List.mem_singleton] at hy
    subst hy
    rintro rfl
    have:∀ m:List (Int×β),x ∈ ej m→(dB x m).isSome = true:=by
      intro m
      induction m with
      | nil=>intro h; simp [ej] at h
      | cons p r ih =>
        obtain ⟨k,c⟩:=p
        intro h
        simp only [ej,List.map_cons,List.mem_cons] at h
        simp only [dB]
        split
        · rfl
        · rename_i hne
          rcases h with h | h
          · exact absurd h hne
          · exact ih h
    exact hs (this m hx)
theorem rF {t:Int}:∀ {m:List (Int×β)},(ej m).Nodup→(ej (delP t m)).Nodup
  | [],h=>h
  | (k, c) :: r, h => by
    simp only [ej,List.map_cons,List.nodup_cons] at h
    simp only [delP]
    split
    · exact h.2
    · simp only [ej,List.map_cons,List.nodup_cons]
      exact ⟨fun e=>h.1 (nv t k e),rF h.2⟩
def encE (k:IntKind) (ev:β→AV) (p:Int×β):AV×AV:=(.lit (.int k p.1),ev p.2)
def encM (k:IntKind) (ev:β→AV) (m:List (Int×β)):List (AV×AV):=m.map (encE k ev)
theorem lD (k:IntKind) (ev:β→AV) (t:Int):∀ (m:List (Int×β)) (i:Nat),gg (.lit (.int k t)) (encM k ev m) i = .ok ((jH t m i).map fun p=>(p.1,ev p.2))
  | [],_=>rfl
  | (q, b) :: r, i => by
    have ih:=lD k ev t r (i + 1)
    simp only [encM,List.map_cons,encE,gg,jb,if_true,jH] at ih ⊢
    by_cases h:t = q
    · subst h; simp
    · have:(t == q) = false:=by simpa using h
      simp only [this,if_neg h,Bool.false_eq_true,if_false]
      exact ih
end
section
variable {st st':St} {id q:Nat}
theorem getM_lt {es:List (AV×AV)} (h:st.getM id = some es):id < st.boxes.length:=by
  unfold St.getM at h
  split at h
  · rename_i hb
    exact (List.getElem?_eq_some_iff.1 hb).1
  · cases h
theorem iB (h:st'.boxes[id]? = st.boxes[id]?):st'.get id = st.get id:=by unfold St.get; rw [h]
theorem getM_at (h:st'.boxes[id]? = st.boxes[id]?):st'.getM id = st.getM id:=by unfold St.getM; rw [h]
theorem getB_at (h:st'.boxes[id]? = st.boxes[id]?):st'.getB id = st.getB id:=by unfold St.getB; rw [h]
theorem lg {cs:List AV} (h:id≠q):(st.set q cs).boxes[id]? = st.boxes[id]?:=by simp [St.set,List.getElem?_set_ne (fun e=>h e.symm)]
theorem sr {es:List (AV×AV)} {bs:List Nat} {c:Nat} (h:id≠q):(st.setM q es bs c).boxes[id]? = st.boxes[id]?:=by simp [St.setM,List.getElem?_set_ne (fun e=>h e.symm)]
theorem e9 {b:Box} (h:id < st.boxes.length):(st.push b).boxes[id]? = st.boxes[id]?:=by simp [St.push,List.getElem?_append_left h]
theorem oc {es:List (AV×AV)} {bs:List Nat} {c:Nat} (h:id < st.boxes.length):(st.setM id es bs c).getM id = some es:=by simp [St.setM,St.getM,h]
theorem gA {es:List (AV×AV)} {bs:List Nat} {c:Nat} (h:id < st.boxes.length):(st.setM id es bs c).getB id = (bs,c):=by simp [St.setM,St.getB,h]
theorem get_mt {es:List (AV×AV)} (h:st.getM id = some es):st.get id = none:=by
  unfold St.getM at h; unfold St.get
  split at h
  · rename_i hb; simp [hb]
  · cases h
end
theorem St.sub_push (st:St) (b:Box):St.sub st (st.push b):=fun id x h=>by
  rw [e9 (List.getElem?_eq_some_iff.1 h).1]; exact h
theorem St.sub_of {st st':St} (h:∀ id,id < st.boxes.length→st'.boxes[id]? = st.boxes[id]?):St.sub st st':=fun id x hx=>by
  rw [h id (List.getElem?_eq_some_iff.1 hx).1]; exact hx
def Oth (st st':St) (S:List Nat):Prop:=st'.boxes.length = st.boxes.length∧∀ id,id ∉ S→st'.boxes[id]? = st.boxes[id]?
theorem Oth.refl (st:St) (S:List Nat):Oth st st S:=⟨rfl,fun _ _=>rfl⟩
theorem Oth.trans {a b c:St} {S:List Nat} (h:Oth a b S) (k:Oth b c S):Oth a c S:=⟨k.1.trans h.1,fun id hid=>(k.2 id hid).trans (h.2 id hid)⟩
theorem Oth.mono {a b:St} {S S':List Nat} (h:Oth a b S) (hs:∀ x ∈ S,x ∈ S'):Oth a b S':=⟨h.1,fun id hid=>h.2 id fun e=>hid (hs id e)⟩
theorem Oth.set (st:St) (q:Nat) (cs:List AV) {S:List Nat} (h:q ∈ S):Oth st (st.set q cs) S:=⟨len_set ..,fun id hid=>lg fun e=>hid (e ▸ h)⟩
theorem Oth.get {a b:St} {S:List Nat} (h:Oth a b S) {id:Nat} (hid:id ∉ S):b.get id = a.get id:=iB (h.2 id hid)
section
variable {β:Type}
structure MapIs (st:St) (id:Nat) (k:IntKind) (ev:β→AV) (m:List (Int×β)):Prop where
  get:st.getM id = some (encM k ev m)
  nd:(ej m).Nodup
  bl:(st.getB id).1.length = m.length
  bn:(st.getB id).1.Nodup
  bc:∀ b ∈ (st.getB id).1,b < (st.getB id).2
variable {st st':St} {id:Nat} {k:IntKind} {ev:β→AV} {m:List (Int×β)}
theorem MapIs.lt (h:MapIs st id k ev m):id < st.boxes.length:=getM_lt h.get
theorem MapIs.at (h:MapIs st id k ev m) (hb:st'.boxes[id]? = st.boxes[id]?):MapIs st' id k ev m:=by
  refine ⟨(getM_at hb).trans h.get,h.nd,?_,?_,?_⟩ <;> rw [getB_at hb]
  · exact h.bl
  · exact h.bn
  · exact h.bc
theorem MapIs.oth {S:List Nat} (h:MapIs st id k ev m) (ho:Oth st st' S) (hid:id ∉ S):MapIs st' id k ev m:=h.at (ho.2 id hid)
theorem MapIs.set (h:MapIs st id k ev m) {q:Nat} {cs:List AV} (hq:id≠q):MapIs (st.set q cs) id k ev m:=h.at (lg hq)
theorem MapIs.push (h:MapIs st id k ev m) (b:Box):MapIs (st.push b) id k ev m:=h.at (e9 h.lt)
theorem MapIs.ne (h:MapIs st id k ev m) {q:Nat} {cs:List AV} (hq:st.get q = some cs):id≠q:=by
  rintro rfl
  rw [get_mt h.get] at hq; cases hq
theorem fC (h:MapIs st id k ev m) {z:AV} {ok:Bool} {t:Int}:e6 (.int k) z ok st (.map id) (.lit (.int k t)) = .ok (match dB t m with
    | some b=>if ok then .tup [(ev b).dis,.lit (.bool true)] else (ev b).dis
    | none=>if ok then .tup [z,.lit (.bool false)] else z):=by
  have hk:keyI (.int k) (.lit (.int k t)) = true:=by simp [keyI]
  unfold e6
  rw [if_pos hk]
  simp only [h.get,Res.ofOpt,Res.bind,lD]
  rw [← jx t m 0]
  cases jH t m 0 <;> rfl
theorem jy (h:MapIs st id k ev m) {t:Int} {b:β} {x:AV} (hx:x.solid = true) (hd:x.dis = ev b) {K:Sf→St→Prop} {sf:Sf}
    (hK:∀ st',MapIs st' id k ev (updP t b m)→Oth st st' [id]→K sf st'):updX false (.int k) (.map id) (.lit (.int k t)) x K sf st:=by
  refine ⟨by simp [keyI],rfl,hx,?_⟩
  have hlt:=h.lt
  simp only [h.get,Res.ofOpt,Res.wp,lD,hd]
  have hu:=ob (encE k ev) t b m 0
  cases hf:jH t m 0 with
  | none =>
    rw [hf] at hu
    simp only [Option.map_none,St.updM,updA]
    have hno:dB t m = none:=by rw [← jx t m 0,hf]; rfl
    refine hK _ ⟨?_,rE h.nd,?_,?_,?_⟩ ⟨by simp [St.setM],fun q hq=>sr (by simpa using hq)⟩
    · rw [oc hlt]; exact congrArg some hu.1
    · rw [gA hlt,iX,hno]; simp [h.bl]
    · rw [gA hlt]
      refine List.nodup_append.2 ⟨h.bn,by simp,fun x hx y hy e=>?_⟩
      simp only [List.mem_singleton] at hy
      subst hy; subst e
      exact Nat.lt_irrefl _ (h.bc _ hx)
    · rw [gA hlt]
      intro b hb
      simp only [List.mem_append,List.mem_singleton] at hb
      rcases hb with hb | rfl
      · have:=h.bc b hb; simp only; omega
      · simp
  | some p =>
    obtain ⟨j,c⟩:=p
    rw [hf] at hu
    simp only [Nat.sub_zero] at hu
    simp only [Option.map_some,St.updM,updA]
    have hyes:(dB t m).isSome = true:=by rw [← jx t m 0,hf]; rfl
    refine hK _ ⟨?_,rE h.nd,?_,?_,?_⟩ ⟨by simp [St.setM],fun q hq=>sr (by simpa using hq)⟩
    · rw [oc hlt]; exact congrArg some hu.2.1
    · rw [gA hlt,iX,if_pos hyes]; exact h.bl
    · rw [gA hlt]; exact h.bn
    · rw [gA hlt]; exact h.bc
theorem del_step (h:MapIs st id k ev m) {t:Int} {K:Sf→St→Prop} {sf:Sf}
    (hK:∀ st',MapIs st' id k ev (delP t m)→Oth st st' [id]→K sf st'):delX false (.int k) (.map id) (.lit (.int k t)) K sf st:=by
  refine ⟨by simp [keyI],rfl,?_⟩
  have hlt:=h.lt
  simp only [h.get,Res.ofOpt,Res.wp,lD]
  cases hf:jH t m 0 with
  | none =>
    have hu:delP t m = m:=by
      have:∀ (m:List (Int×β)) (i:Nat),jH t m i = none→delP t m = m:=by
        intro m
        induction m with
        | nil=>intro i _; rfl
        | cons p r ih =>
          obtain ⟨k,c⟩:=p
          intro i h
          simp only [jH] at h
          simp only [delP]
          split at h
          · cases h
          · rename_i hne; rw [if_neg hne,ih (i + 1) h]
      exact this m 0 hf
    simp only [Option.map_none]
    exact hK _ (by rw [hu]; exact h) (Oth.refl _ _)
  | some p =>
    obtain ⟨j,c⟩:=p
    have hu:=ob (encE k ev) t c m 0
    rw [hf] at hu
    simp only [Nat.sub_zero] at hu
    simp only [Option.map_some,St.delM]
    have hyes:(dB t m).isSome = true:=by rw [← jx t m 0,hf]; rfl
    refine hK _ ⟨?_,rF h.nd,?_,?_,?_⟩ ⟨by simp [St.setM],fun q hq=>sr (by simpa using hq)⟩
    · rw [oc hlt]; exact congrArg some hu.2.2.1
    · rw [gA hlt,sm,if_pos hyes]
      simp only [List.length_eraseIdx,h.bl,if_pos hu.2.2.2]
    · rw [gA hlt]; exact h.bn.sublist (List.eraseIdx_sublist ..)
    · rw [gA hlt]; exact fun b hb=>h.bc b (List.mem_of_mem_eraseIdx hb)
theorem qe (h:MapIs st id k ev m):lenI .mp st (.map id) = .ok (.lit (.int .i64 m.length)):=by
  simp only [lenI,h.get,Res.ofOpt,Res.bind,encM,List.length_map]
theorem MapIs.clone (h:MapIs st id k ev m):MapIs (st.push (.mp (encM k ev m) (st.getB id).1 (st.getB id).2)) st.boxes.length k ev m:=by
  refine ⟨rA ..,h.nd,?_,?_,?_⟩ <;> rw [rB]
  · exact h.bl
  · exact h.bn
  · exact h.bc
theorem MapIs.new (st:St) (k:IntKind) (ev:β→AV):MapIs (st.push (.mp [] [] 0)) st.boxes.length k ev []:=by
  refine ⟨rA ..,by simp [ej],?_,?_,?_⟩ <;> rw [rB] <;> simp
end
theorem eo {P:Program} {X:Cx} {f:FuncId} {fn:AFun} {vs:List AV} {st:St} (hmix:P.follows .mixedOrders = true) (hf:dX P X f = some fn) (hX:X.F = id) (hlen:Nat.ble vs.length fn.n = true) {v0:AV} (h:∀ Q:AV→St→Prop,(∀ st',Q v0 st')→aFun P id true fn vs st Q):dJ P f vs st v0:=by
  refine pcalls_of hmix hf (Nat.le_of_ble_eq_true hlen) ?_
  rw [hX]; exact h _ fun _=>rfl
end Go.Fx
/- Linked nodes in a map: a queue (plain lists; no program in sight). -/
namespace Go.Fx
open Go
abbrev Nd:=Int×Nat×Nat
abbrev Qu:=List (Nat×Int)
def dh:Qu→Nat→Nat
  | [],h=>h
  | (x,_)::_,_=>x
def db:Nat→Qu→Nat
  | p,[]=>p
  | _,(t,_)::r=>db t r
def dS:Nat→Qu→Nat→Nat→Option Nd
  | _,[],_,_=>none
  | p,(u,v)::r,h,t=>if t = u then some (v,p,dh r h) else dS u r h t
def dw (L:Qu):List Nat:=L.map Prod.fst
theorem j9 (B:Qu) (h t:Nat):∀ (A:Qu) (p:Nat),dS p (A++B) h t = match dS p A (dh B h) t with | some x=>some x | none=>dS (db p A) B h t
  | [],p=>rfl
  | (u, v) :: A, p => by
    simp only [List.cons_append,dS,db]
    split
    · cases A <;> rfl
    · exact j9 B h t A u
theorem fQ {h t:Nat}:∀ {L:Qu} {p:Nat},t ∉ dw L→dS p L h t = none
  | [],_,_=>rfl
  | (u, v) :: r, p, hn => by
    simp only [dw,List.map_cons,List.mem_cons,not_or] at hn
    simp only [dS]
    rw [if_neg hn.1]
    exact fQ hn.2
theorem iF:∀ {L:Qu} {p:Nat},L≠[]→db p L ∈ dw L
  | [(t,v)],p,_=>by simp [db,dw]
  | (t, v) :: y :: r, p, _ => by
    have:=iF (L:=y::r) (p:=t) (by simp)
    simp only [db,dw,List.map_cons,List.mem_cons] at this ⊢
    exact .inr this
theorem ka (B:Qu):∀ (A:Qu) (p:Nat),db p (A++B) = db (db p A) B
  | [],_=>rfl
  | (t,v)::A,p=>ka B A t
theorem last_ne {L:Qu} {p p':Nat} (h:L≠[]):db p L = db p' L:=by
  cases L with
  | nil=>exact absurd rfl h
  | cons x r=>rfl
theorem su {h h' t:Nat}:∀ {L:Qu} {p:Nat},(dw L).Nodup→L≠[]→dS p L h' t = if t = db p L then (dS p L h t).map (fun x=>(x.1,x.2.1,h')) else dS p L h t
  | [(u, v)], p, _, _ => by
    simp only [dS,db,dh]
    by_cases e:t = u
    · simp [e]
    · simp [e]
  | (u, v) :: (u2, v2) :: r, p, hn, _ => by
    have ih:=su (h:=h) (h':=h') (t:=t) (L:=(u2,v2)::r) (p:=u) (List.nodup_cons.1 hn).2 (by simp)
    have hl:=iF (L:=(u2,v2)::r) (p:=u) (by simp)
    have hne:u≠db u ((u2,v2)::r):=fun e=>(List.nodup_cons.1 hn).1 (by rw [e]; exact hl)
    have e0:∀ q,dS p ((u,v)::(u2,v2)::r) q t = if t = u then some (v,p,u2) else dS u ((u2,v2)::r) q t:=fun q=>rfl
    rw [e0,e0,show db p ((u,v)::(u2,v2)::r) = db u ((u2,v2)::r) from rfl]
    by_cases e:t = u
    · subst e; rw [if_pos rfl,if_pos rfl,if_neg hne]
    · rw [if_neg e,if_neg e]; exact ih
theorem nodeA_p {h t p p':Nat} {u:Nat} {v:Int} {r:Qu} (hn:(dw ((u,v)::r)).Nodup):dS p' ((u,v)::r) h t = if t = u then (dS p ((u,v)::r) h t).map (fun x=>(x.1,p',x.2.2)) else dS p ((u,v)::r) h t:=by
  simp only [dS]
  by_cases e:t = u
  · simp [e]
  · simp [e]
theorem nodeA_push {L:Qu} {u:Nat} {v:Int} {t:Nat} (hn:(dw L).Nodup) (hu:u ∉ dw L) (hL:L≠[]) :
    dS 0 (L++[(u,v)]) 0 t = if t = db 0 L then (dS 0 L 0 t).map (fun x=>(x.1,x.2.1,u)) else if t = u then some (v,db 0 L,0) else dS 0 L 0 t:=by
  rw [j9]
  simp only [dh,dS]
  have hl:=iF (p:=0) hL
  rw [su (h:=0) hn hL]
  by_cases e:t = db 0 L
  · rw [if_pos e,if_pos e]
    cases hx:dS 0 L 0 t with
    | some x=>rfl
    | none =>
      exfalso
      have:∀ (L:Qu) (p:Nat),t ∈ dw L→dS p L 0 t≠none:=by
        intro L
        induction L with
        | nil=>intro p h; simp [dw] at h
        | cons y r ih =>
          obtain ⟨a,b⟩:=y
          intro p h
          simp only [dS]
          split
          · simp
          · rename_i hne
            simp only [dw,List.map_cons,List.mem_cons] at h
            exact ih a (h.resolve_left hne)
      exact this L 0 (e ▸ hl) hx
  · rw [if_neg e,if_neg e]
    by_cases e2:t = u
    · subst e2; rw [fQ hu]
      try simp
    · simp only [if_neg e2]
      cases dS 0 L 0 t <;> rfl
theorem nodeA_del {A B:Qu} {u:Nat} {v:Int} {t:Nat} (hn:(dw (A++(u,v)::B)).Nodup) :
    dS 0 (A++B) 0 t = if t = u then none else
      if A≠[]∧t = db 0 A then (dS 0 (A++(u,v)::B) 0 t).map (fun x=>(x.1,x.2.1,dh B 0)) else
      if B≠[]∧t = dh B 0 then (dS 0 (A++(u,v)::B) 0 t).map (fun x=>(x.1,db 0 A,x.2.2)) else dS 0 (A++(u,v)::B) 0 t:=by
  have h1:(dw A).Nodup∧(dw ((u,v)::B)).Nodup∧∀ x ∈ dw A,∀ y ∈ dw ((u,v)::B),x≠y:=by
    simp only [dw,List.map_append] at hn
    exact List.nodup_append.1 hn
  obtain ⟨hA,hB0,hAB⟩:=h1
  have hB:=List.nodup_cons.1 hB0
  have hu:u ∉ dw A:=fun e=>hAB u e u (by simp [dw]) rfl
  rw [j9,j9,show dh ((u,v)::B) 0 = u from rfl]
  by_cases e:t = u
  · subst e
    rw [if_pos rfl,fQ hu]
    exact fQ hB.1
  · rw [if_neg e]
    have e1:dS (db 0 A) ((u,v)::B) 0 t = dS u B 0 t:=by simp only [dS]; rw [if_neg e]
    rw [e1]
    by_cases hAe:A = []
    · subst hAe
      simp only [dS,db,ne_eq,not_true_eq_false,false_and,if_false]
      cases B with
      | nil=>simp [dS]
      | cons y r =>
        obtain ⟨w,z⟩:=y
        rw [nodeA_p (p:=u) (p':=0) hB.2]
        simp [show dh ((w,z)::r) 0 = w from rfl]
    · rw [su (h:=u) (h':=dh B 0) hA hAe]
      by_cases e2:t = db 0 A
      · have hin:t ∈ dw A:=e2 ▸ iF hAe
        rw [if_pos e2,if_pos ⟨hAe,e2⟩]
        cases hx:dS 0 A u t with
        | some x=>rfl
        | none =>
          have hnb:t ∉ dw B:=fun hb=>hAB t hin t (by simp only [dw,List.map_cons,List.mem_cons]; exact .inr hb) rfl
          simp only [Option.map_none,fQ hnb]
      · rw [if_neg e2,if_neg (fun q=>e2 q.2)]
        cases B with
        | nil=>simp [dS]
        | cons y r =>
          obtain ⟨w,z⟩:=y
          rw [nodeA_p (p:=u) (p':=db 0 A) hB.2]
          simp only [show dh ((w,z)::r) 0 = w from rfl,ne_eq,reduceCtorEq,not_false_eq_true,true_and]
          by_cases e3:t = w
          · have hna:t ∉ dw A:=fun ha=>hAB t ha t (by simp [dw,e3]) rfl
            rw [if_pos e3,if_pos e3,fQ hna]
          · rw [if_neg e3,if_neg e3]
theorem nodeA_at {A B:Qu} {u:Nat} {v:Int} (hu:u ∉ dw A):dS 0 (A++(u,v)::B) 0 u = some (v,db 0 A,dh B 0):=by
  rw [j9,fQ hu]
  simp [dS]
def ndAV (x:Nd):AV:=.agg [.lit (.int .i64 x.1),.lit (.int .u64 (x.2.1:Nat)),.lit (.int .u64 (x.2.2:Nat))]
theorem ndAV_dis (x:Nd):(ndAV x).dis = ndAV x:=rfl
structure QIs (st:St) (q mid:Nat) (L:Qu) (g:Nat):Prop where
  get:st.get q = some [.lit (.int .u64 (dh L 0:Nat)),.lit (.int .u64 (db 0 L:Nat)),.lit (.int .u64 (g:Nat)),.map mid]
  mp:∃ m,MapIs st mid .u64 ndAV m∧(∀ t:Nat,dB t m = dS 0 L 0 t)∧m.length = L.length
  srt:(dw L).Pairwise (· < ·)
  pos:∀ t ∈ dw L,0 < t∧t≤g
theorem QIs.nd {st:St} {q mid g:Nat} {L:Qu} (h:QIs st q mid L g):(dw L).Nodup:=h.srt.imp fun h=>Nat.ne_of_lt h
theorem QIs.ne {st:St} {q mid g:Nat} {L:Qu} (h:QIs st q mid L g):mid≠q:=by
  obtain ⟨m,hm,_⟩:=h.mp
  exact hm.ne h.get
theorem QIs.ltq {st:St} {q mid g:Nat} {L:Qu} (h:QIs st q mid L g):q < st.boxes.length:=fA h.get
theorem QIs.ltm {st:St} {q mid g:Nat} {L:Qu} (h:QIs st q mid L g):mid < st.boxes.length:=by
  obtain ⟨m,hm,_⟩:=h.mp
  exact hm.lt
theorem QIs.at {st st':St} {q mid g:Nat} {L:Qu} (h:QIs st q mid L g) (h1:st'.boxes[q]? = st.boxes[q]?) (h2:st'.boxes[mid]? = st.boxes[mid]?):QIs st' q mid L g:=by
  obtain ⟨m,hm,h3,h4⟩:=h.mp
  exact ⟨(iB h1).trans h.get,⟨m,hm.at h2,h3,h4⟩,h.srt,h.pos⟩
theorem QIs.oth {st st':St} {q mid g:Nat} {L:Qu} {S:List Nat} (h:QIs st q mid L g) (ho:Oth st st' S) (h1:q ∉ S) (h2:mid ∉ S):QIs st' q mid L g:=h.at (ho.2 _ h1) (ho.2 _ h2)
theorem QIs.nil_iff {st:St} {q mid g:Nat} {L:Qu} (h:QIs st q mid L g):(dh L 0 = 0↔L = [])∧(db 0 L = 0↔L = []):=by
  cases L with
  | nil=>simp [dh,db]
  | cons x r =>
    obtain ⟨t,v⟩:=x
    have h1:=h.pos t (by simp [dw])
    have h2:=h.pos _ (iF (L:=(t,v)::r) (p:=0) (by simp))
    simp only [dh,reduceCtorEq,iff_false]
    omega
theorem jz {t:Nat}:∀ {L:Qu} {p:Nat},t ∈ dw L→∃ x,dS p L 0 t = some x
  | (u, v) :: r, p, h => by
    simp only [dS]
    split
    · exact ⟨_,rfl⟩
    · rename_i hne
      simp only [dw,List.map_cons,List.mem_cons] at h
      exact jz (h.resolve_left hne)
theorem fE (A B:Qu):dw (A++B) = dw A++dw B:=by simp [dw]
theorem QIs.clone {st st':St} {q mid q' mid' g:Nat} {L:Qu} (h:QIs st q mid L g) (hg:st'.get q' = some [.lit (.int .u64 (dh L 0:Nat)),.lit (.int .u64 (db 0 L:Nat)),.lit (.int .u64 (g:Nat)),.map mid'])
    (hm:∀ m,MapIs st mid .u64 ndAV m→MapIs st' mid' .u64 ndAV m):QIs st' q' mid' L g:=by
  obtain ⟨m,h1,h2,h3⟩:=h.mp
  exact ⟨hg,⟨m,hm m h1,h2,h3⟩,h.srt,h.pos⟩
theorem nodeA_get {L:Qu} (hn:(dw L).Nodup) {i:Nat} (hi:i < L.length):dS 0 L 0 L[i].1 = some (L[i].2,db 0 (L.take i),dh (L.drop (i + 1)) 0):=by
  have e:L = L.take i++(L[i].1,L[i].2)::L.drop (i + 1):=by
    rw [← List.drop_eq_getElem_cons hi,List.take_append_drop]
  have hno:L[i].1 ∉ dw (L.take i):=by
    intro hm
    have hn':=hn
    rw [e,fE] at hn'
    exact (List.nodup_append.1 hn').2.2 _ hm _ (by simp [dw]) rfl
  have:=nodeA_at (v:=L[i].2) (B:=L.drop (i + 1)) hno
  rw [← e] at this
  exact this
theorem nxt_drop {L:Qu} {i:Nat} (hi:i < L.length):dh (L.drop i) 0 = L[i].1:=by
  rw [List.drop_eq_getElem_cons hi]
  rfl
theorem tick_get {L:Qu} {i:Nat} (hi:i < L.length):L[i].1 ∈ dw L:=List.mem_map.2 ⟨L[i],List.getElem_mem hi,rfl⟩
theorem QIs.push {st st':St} {q mid g:Nat} {L:Qu} {v:Int} (h:QIs st q mid L g) {m':List (Int×Nd)} (hg:st'.get q = some [.lit (.int .u64 (dh (L++[(g + 1,v)]) 0:Nat)),.lit (.int .u64 ((g + 1:Nat))),.lit (.int .u64 ((g + 1:Nat))),.map mid])
    (hm:MapIs st' mid .u64 ndAV m') (hl:∀ t:Nat,dB t m' = dS 0 (L++[(g + 1,v)]) 0 t) (hn:m'.length = L.length + 1):QIs st' q mid (L++[(g + 1,v)]) (g + 1):=by
  refine ⟨by rw [ka]; exact hg,⟨m',hm,hl,by simp [hn]⟩,?_,fun t ht=>?_⟩
  · rw [fE]
    refine List.pairwise_append.2 ⟨h.srt,by simp [dw],fun x hx y hy=>?_⟩
    simp only [dw,List.map_cons,List.map_nil,List.mem_singleton] at hy
    have:=(h.pos x hx).2
    omega
  · rw [fE] at ht
    rcases List.mem_append.1 ht with ht | ht
    · have:=h.pos t ht; omega
    · simp only [dw,List.map_cons,List.map_nil,List.mem_singleton] at ht
      omega
theorem QIs.fresh {st:St} {q mid g:Nat} {L:Qu} (h:QIs st q mid L g):g + 1 ∉ dw L:=fun e=>by have:=(h.pos _ e).2; omega
theorem QIs.del {st st':St} {q mid g:Nat} {A B:Qu} {t:Nat} {v:Int} (h:QIs st q mid (A++(t,v)::B) g) {m':List (Int×Nd)} (hg:st'.get q = some [.lit (.int .u64 (dh (A++B) 0:Nat)),.lit (.int .u64 (db 0 (A++B):Nat)),.lit (.int .u64 (g:Nat)),.map mid])
    (hm:MapIs st' mid .u64 ndAV m') (hl:∀ t:Nat,dB t m' = dS 0 (A++B) 0 t) (hn:m'.length = (A++B).length):QIs st' q mid (A++B) g:=by
  have hsub:(dw (A++B)).Sublist (dw (A++(t,v)::B)):=by
    simp only [fE]
    exact List.Sublist.append (List.Sublist.refl _) (List.sublist_cons_self _ _)
  exact ⟨hg,⟨m',hm,hl,hn⟩,h.srt.sublist hsub,fun x hx=>h.pos x (hsub.subset hx)⟩
end Go.Fx
/- A channel's state: plain lists, and where they lie. -/
namespace Go.Fx
open Go
abbrev W3:=Nat×Int×Int
structure ChP where
  closed:Bool
  cap:Nat
  buf:List Int
  S:List W3
  V:List W3
  g0:Nat
  g1:Nat
def qOf (l:List W3):Qu:=l.map fun x=>(x.1,x.2.1)
def wEnt (d:Int) (l:List W3):List (Int×(Int×Int×Nat)):=l.map fun x=>(x.2.1,(d,x.2.2,x.1))
def entC (S V:List W3):List (Int×(Int×Int×Nat)):=wEnt 0 S++wEnt 1 V
def wtAV (x:Int×Int×Nat):AV:=.agg [.lit (.int .i64 x.1),.lit (.int .i64 x.2.1),.lit (.int .u64 (x.2.2:Nat))]
def ints (l:List Int):List AV:=l.map fun v=>.lit (.int .i64 v)
theorem ints_lits (l:List Int):Lits (ints l):=fun x hx=>by
  simp only [ints,List.mem_map] at hx
  obtain ⟨v,_,rfl⟩:=hx
  exact ⟨_,rfl⟩
theorem eZ (l:List Int):(ints l).length = l.length:=by simp [ints]
theorem ints_app (l k:List Int):ints (l++k) = ints l++ints k:=by simp [ints]
theorem ku {β:Type} {k:Int} {x:β} {B:List (Int×β)}:∀ {A:List (Int×β)},(ej (A++(k,x)::B)).Nodup→dB k (A++(k,x)::B) = some x∧∀ t,dB t (A++B) = if t = k then none else dB t (A++(k,x)::B)
  | [], h => by
    simp only [List.nil_append,ej,List.map_cons,List.nodup_cons] at h
    refine ⟨by simp [dB],fun t=>?_⟩
    by_cases e:t = k
    · subst e; rw [if_pos rfl]; exact lC h.1
    · simp [dB,e]
  | (a, b) :: A, h => by
    simp only [List.cons_append,ej,List.map_cons,List.nodup_cons] at h
    obtain ⟨h1,h2⟩:=ku (A:=A) (B:=B) (k:=k) (x:=x) h.2
    have hne:¬ k = a:=fun e=>h.1 (by rw [← e]; simp)
    refine ⟨by simp only [List.cons_append,dB]; rw [if_neg hne]; exact h1,fun t=>?_⟩
    simp only [List.cons_append,dB]
    by_cases e:t = a
    · have e2:¬ t = k:=fun q=>hne (by rw [← q,e])
      rw [if_pos e,if_neg e2,if_pos e]
    · rw [if_neg e,if_neg e]; exact h2 t
def cL:AV→List Nat
  | .bs id _ _ _ _=>[id]
  | _=>[]
structure ChIs (st:St) (c:Nat) (P:ChP) (q0 m0 q1 m1 wid:Nat) (bv:AV):Prop where
  get:st.get c = some [.lit (.bool true),.lit (.bool P.closed),.lit (.int .i64 (P.cap:Nat)),bv,.ptr q0 0,.ptr q1 0,.map wid]
  buf:MB bv st (ints P.buf)
  s:QIs st q0 m0 (qOf P.S) P.g0
  r:QIs st q1 m1 (qOf P.V) P.g1
  w:∃ W,MapIs st wid .i64 wtAV W∧∀ t,dB t W = dB t (entC P.S P.V)
  ids:[c,q0,q1,m0,m1,wid].Nodup
  bid:∀ x ∈ cL bv,x ∉ [c,q0,q1,m0,m1,wid]
  nd:(ej (entC P.S P.V)).Nodup
  rng:∀ t ∈ ej (entC P.S P.V),0≤t∧t < 64
  zv:∀ x ∈ P.V,x.2.2 = 0
def Kp (st st':St) (F:List Nat):Prop:=st.boxes.length≤st'.boxes.length∧∀ id,id < st.boxes.length→id ∉ F→st'.boxes[id]? = st.boxes[id]?
theorem MB.at {v:AV} {st st':St} {l:List AV} (h:MB v st l) (hb:∀ x ∈ cL v,st'.boxes[x]? = st.boxes[x]?):MB v st' l:=by
  rcases h with ⟨rfl,rfl⟩ | ⟨id,cap,r,rfl,hg,h1,h2⟩
  · exact .inl ⟨rfl,rfl⟩
  · exact .inr ⟨id,cap,r,rfl,(iB (hb id (by simp [cL]))).trans hg,h1,h2⟩
theorem MB.lt {v:AV} {st:St} {l:List AV} (h:MB v st l):∀ x ∈ cL v,x < st.boxes.length:=by
  rcases h with ⟨rfl,rfl⟩ | ⟨id,cap,r,rfl,hg,h1,h2⟩
  · simp [cL]
  · intro x hx
    simp only [cL,List.mem_singleton] at hx
    subst hx
    exact fA hg
section
variable {st st':St} {c q0 m0 q1 m1 wid:Nat} {bv:AV} {P:ChP}
theorem ChIs.lts (h:ChIs st c P q0 m0 q1 m1 wid bv):∀ x ∈ [c,q0,q1,m0,m1,wid]++cL bv,x < st.boxes.length:=by
  obtain ⟨W,hW,_⟩:=h.w
  intro x hx
  simp only [List.mem_append,List.mem_cons,List.not_mem_nil,or_false] at hx
  rcases hx with (rfl | rfl | rfl | rfl | rfl | rfl) | hx
  · exact fA h.get
  · exact h.s.ltq
  · exact h.r.ltq
  · exact h.s.ltm
  · exact h.r.ltm
  · exact hW.lt
  · exact h.buf.lt x hx
end
def foot (c q0 m0 q1 m1 wid:Nat) (bv:AV):List Nat:=[c,q0,q1,m0,m1,wid]++cL bv
def ChPost (st:St) (c:Nat) (P:ChP) (q0 m0 q1 m1 wid:Nat) (bv:AV) (st':St):Prop :=
  ∃ bv',ChIs st' c P q0 m0 q1 m1 wid bv'∧Kp st st' (foot c q0 m0 q1 m1 wid bv)∧∀ x ∈ cL bv',x ∈ cL bv∨st.boxes.length≤x
theorem ChIs.post {st st':St} {c q0 m0 q1 m1 wid:Nat} {bv:AV} {P:ChP} (h:ChIs st' c P q0 m0 q1 m1 wid bv) (hk:Kp st st' (foot c q0 m0 q1 m1 wid bv)):ChPost st c P q0 m0 q1 m1 wid bv st':=⟨bv,h,hk,fun _ h=>.inl h⟩
theorem ChIs.rebufC {st st1:St} {c q0 m0 q1 m1 wid:Nat} {bv bv1:AV} {P:ChP} {cl:Bool} {b':List Int} (h:ChIs st c P q0 m0 q1 m1 wid bv) (hm:MB bv1 st1 (ints b')) (hk:Kp st st1 (cL bv)) (hb:∀ x ∈ cL bv1,x ∈ cL bv∨st.boxes.length≤x) :
    ChIs (st1.set c [.lit (.bool true),.lit (.bool cl),.lit (.int .i64 (P.cap:Nat)),bv1,.ptr q0 0,.ptr q1 0,.map wid]) c { P with buf:=b',closed:=cl } q0 m0 q1 m1 wid bv1 ∧
    Kp st (st1.set c [.lit (.bool true),.lit (.bool cl),.lit (.int .i64 (P.cap:Nat)),bv1,.ptr q0 0,.ptr q1 0,.map wid]) (foot c q0 m0 q1 m1 wid bv):=by
  have hlt:=h.lts
  have hids:=h.ids
  have hbid:=h.bid
  have hcl:c < st1.boxes.length:=Nat.lt_of_lt_of_le (hlt c (by simp)) hk.1
  simp only [List.nodup_cons,List.mem_cons,List.not_mem_nil,or_false,not_or] at hids
  have hat:∀ x ∈ [q0,q1,m0,m1,wid],(st1.set c [.lit (.bool true),.lit (.bool cl),.lit (.int .i64 (P.cap:Nat)),bv1,.ptr q0 0,.ptr q1 0,.map wid]).boxes[x]? = st.boxes[x]?:=by
    intro x hx
    rw [lg (by simp at hx; omega)]
    refine hk.2 x (hlt x (by simp at hx ⊢; omega)) fun e=>?_
    exact hbid x e (by simp at hx ⊢; omega)
  have hbc:∀ x ∈ cL bv1,x ∉ [c,q0,q1,m0,m1,wid]:=by
    intro x hx hin
    rcases hb x hx with e | e
    · exact hbid x e hin
    · have:=hlt x (List.mem_append_left _ hin); omega
  obtain ⟨W,hW,hl⟩:=h.w
  refine ⟨⟨el hcl,hm.at fun x hx=>lg fun e=>hbc x hx (by simp [e]),h.s.at (hat _ (by simp)) (hat _ (by simp)),h.r.at (hat _ (by simp)) (hat _ (by simp)),⟨W,hW.at (hat _ (by simp)),hl⟩,h.ids,hbc,h.nd,h.rng,h.zv⟩,⟨by rw [len_set]; exact hk.1,fun x hx hn=>?_⟩⟩
  simp only [foot,List.mem_append,List.mem_cons,List.not_mem_nil,or_false,not_or] at hn
  rw [lg hn.1.1]
  exact hk.2 x hx hn.2
end Go.Fx
