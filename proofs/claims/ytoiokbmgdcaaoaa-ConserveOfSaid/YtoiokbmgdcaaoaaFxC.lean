/- An evaluator for resolved code, proved against the model: part 3. -/
import Derived.Test.YtoiokbmgdcaaoaaFxB
namespace Go.Fx
open Go Go.RowKit Go.Lib
def AV.noL:AV→Bool
 | .lptr _ _=>false
 | _=>true
theorem ju {g:Gh} {d:Nat} {v:AV} {u:Value} (h:v.noL = true) (hr:RS g d v u):R g v u :=
 hr.r fun s o e=>by subst e; cases h
def dQ (fr:Fr) (c:Call):Option (FuncId×List AV) :=
 match c.callee with
 | .value x => match fr.ev x with
   | .fn (.func f) fs cs=>if (c.args.toList.map fr.ev).all AV.noL = true then some (f,fs++(c.args.toList.map fun y=>(fr.ev y).dis)++cs) else none
   | _=>none
 | _=>none
def bt (P:Program) (f:FuncId):Bool :=
 match P.funcs[f]? with
 | some fn => fn.body.isSome && fn.name != "runtime.NumGoroutine"
 | none=>false
def jv (g:Gh) (vs:List AV) (us:Array Value):Prop:=us.size = vs.length∧∀ (i:Nat) (x:AV) (u:Value),vs[i]? = some x→us[i]? = some u→R g x u
def aF (P:Program) (f:FuncId) (vs:List AV) (st:St) (v:AV):Prop :=
 ∀ (g:Gh) (w:World) (us:Array Value) (L:Nat→Loc),Good g w→BoxR g w st→jv g vs us →
  Calls P f us w fun e w'=>∃ u g',e = .returned u∧LeP g w g' w'∧R g' v u∧OwnV g' w' w.heap.size L v u
def aX (P:Program) (f:FuncId) (vs:List AV) (st:St) (Q:AV→St→Prop):Prop :=
 ∀ (D:Nat) (g:Gh) (w:World) (us:Array Value) (L:Nat→Loc),Good g w→BoxR g w st→jv g vs us →
  Calls P f us w fun e w'=>∃ u v st' g',e = .returned u∧Q v st'∧Mv false 0 D g w g' w'∧BoxR g' w' st'∧R g' v u∧OwnV g' w' 0 L v u
def rG (P:Program) (id:Nat) (vs:List AV) (st:St) (Q:Bool→St→Prop):Prop :=
 ∀ (D:Nat) (g:Gh) (w:World) (us:Array Value) (b:Nat),Good g w→BoxR g w st→jv g vs us→g.bx id = some b →
  ∃ f tmps ass body,(Instr.yield b us).run P w = .ok (.round b f tmps ass body) w ∧
   RoundIn (FW none) 0 P b f tmps ass body w fun e w'=>∃ t st' g',e = .returned (.bool t)∧Q t st'∧Mv false 0 D g w g' w'∧BoxR g' w' st'
theorem aX.mono {P:Program} {f:FuncId} {vs:List AV} {st:St} {Q Q':AV→St→Prop} (h:aX P f vs st Q) (hq:∀ v st',Q v st'→Q' v st'):aX P f vs st Q' :=
 fun D g w us L hg hb ha=>(h D g w us L hg hb ha).mono fun _ _ ⟨u,v,st',g',he,hQ,h1,h2,h3,h4⟩=>⟨u,v,st',g',he,hq v st' hQ,h1,h2,h3,h4⟩
theorem Own.bound {g:Gh} {w:World} {N M:Nat} {L:Loc} {a:AV} {u:Value} (h:Own g w N L a u) (hM:M≤N):Own g w M L a u:=by
 refine ⟨fun k es e=>?_,fun id s l stp e=>?_⟩
 ·rcases h.1 k es e with h0 | ⟨b,o,c,cur,T,h1,hN,h2⟩
  ·exact .inl h0
  ·exact .inr ⟨b,o,c,cur,T,h1,Nat.le_trans hM hN,h2⟩
 ·obtain ⟨b,mb,sp,h1,hN,h2⟩:=h.2 id s l stp e
  exact ⟨b,mb,sp,h1,Nat.le_trans hM hN,h2⟩
theorem aF.acalls {P:Program} {f:FuncId} {vs:List AV} {st:St} {v:AV} (h:aF P f vs st v):aX P f vs st fun v' st'=>v' = v∧st' = st :=
 fun D g w us L hg hb ha=>(h g w us L hg hb ha).mono fun _ _ ⟨u,g',he,hle,hr,ho⟩ =>
  ⟨u,v,st,g',he,⟨rfl,rfl⟩,hle.mv hg (Nat.zero_le _),hb.le hle hg,hr,fun i c x hc hx=>(ho i c x hc hx).bound (Nat.zero_le _)⟩
section
variable {P:Program} {m:Bool} {E:Ent} {g g':Gh} {w w':World} {fr fr':Fr} {st st':St} {a a':Act}
theorem ii {d:Nat} {o:Oper} {c:Call} (ho:o.op = .call c) {f:FuncId} {vs:List AV} (hev:∀ x ∈ c.operands,RS g d (fr.ev x) (a.eval x)) (hca:dQ fr c = some (f,vs)) (hent:bt P f = true) :
  ∃ us,(execOp a.eval o).run P w = .ok (.enter f us) w∧jv g vs us:=by
 unfold dQ at hca
 split at hca
 case h_2=>cases hca
 rename_i x hcl
 split at hca
 case h_2=>cases hca
 rename_i f' fs cs hx
 split at hca
 case isFalse=>cases hca
 rename_i hnl
 cases hca
 have hxr:=hev x (by simp [Call.operands,hcl])
 rw [hx] at hxr
 have hfn:∃ us ws,a.eval x = .func (.func f) us ws∧us.size = fs.length∧ws.size = cs.length∧(∀ (i:Nat) (y:AV) (u:Value),fs[i]? = some y→us[i]? = some u→R g y u)∧(∀ (i:Nat) (y:AV) (u:Value),cs[i]? = some y→ws[i]? = some u→R g y u):=by
  generalize a.eval x = u at hxr
  cases hxr with
  | fn _ _ _ us ws hu hv h1 h2=>exact ⟨us,ws,rfl,hu,hv,h1,h2⟩
 obtain ⟨us,ws,hax,hu,hv,h1,h2⟩:=hfn
 refine ⟨us++c.args.map a.eval++ws,?_,by simp [hu,hv],fun i y u hy hyu=>?_⟩
 ·unfold bt at hent
  split at hent
  ·rename_i fn hfn
   simp only [Bool.and_eq_true,bne_iff_ne,ne_eq] at hent
   have hb:fn.body≠none:=by intro e; simp [e] at hent
   simp [execOp,ho,resolve,hcl,hax,Deferred.ofValue,invoke,callFunc,hfn,hent.2,hb]
  ·cases hent
 ·have hargs:∀ (j:Nat) (y:AV) (u:Value),(c.args.toList.map fun y=>(fr.ev y).dis)[j]? = some y→(c.args.map a.eval)[j]? = some u→R g y u:=by
   intro j y u hy hyu
   simp only [List.getElem?_map,Option.map_eq_some_iff] at hy
   obtain ⟨q,hq,rfl⟩:=hy
   have hq':c.args[j]? = some q:=by simpa using hq
   simp [hq'] at hyu
   subst hyu
   have hn:=List.all_eq_true.1 hnl (fr.ev q) (List.mem_map_of_mem (List.mem_of_getElem? hq))
   exact (ju hn (hev q (by simp [Call.operands]; exact .inr (Array.mem_of_getElem? hq')))).dis
  by_cases c1:i < fs.length
  ·rw [List.append_assoc,List.getElem?_append_left c1] at hy
   rw [Array.append_assoc,Array.getElem?_append_left (by omega)] at hyu
   exact h1 i y u hy hyu
  ·by_cases c2:i < fs.length + c.args.size
   ·rw [List.getElem?_append_left (by simp; omega),List.getElem?_append_right (by omega)] at hy
    rw [Array.getElem?_append_left (by simp; omega),Array.getElem?_append_right (by omega),hu] at hyu
    exact hargs _ y u hy hyu
   ·rw [List.getElem?_append_right (by simp; omega)] at hy
    rw [Array.getElem?_append_right (by simp; omega)] at hyu
    simp only [List.length_append,List.length_map,Array.length_toList] at hy
    simp only [Array.size_append,Array.size_map,hu] at hyu
    exact h2 _ y u hy hyu
theorem rH {o:Oper} {c:Call} (h:Ok false E g w fr st a) (ho:o.op = .call c) {f:FuncId} {vs:List AV} (hca:dQ fr c = some (f,vs)) (hent:bt P f = true) {Q:AV→St→Prop} (hA:aX P f vs st Q)
  {K:Act→World→Prop} {Q':Exit→Act→World→Prop} (hK:∀ v st' u g' w',Q v st'→Ok false E g' w' (fr.put o.dst v) st' (a.put o.dst u)→K (a.put o.dst u) w'):o.wp P a w K Q':=by
 obtain ⟨us,hrun,hargs⟩:=ii (P:=P) (w:=w) ho (fun x _=>h.ev x) hca hent
 unfold Oper.wp
 rw [hrun]
 simp only [Oper.upon]
 refine (hA (E.d + 1) g w us (fun k=>match o.dst with | some s=>Loc.slot E.d s k | none=>Loc.slot E.d 0 k) h.ctx.good h.ctx.box hargs).mono fun e w' ⟨u,v,st',g',he,hQ,hmv,hb,hr,hown⟩=>?_
 subst he
 refine hK v st' u g' w' hQ ((h.call hmv hb).put o.dst (RS.of hr) fun s hs=>?_)
 rw [hs] at hown
 rw [h.hm rfl]
 exact hown
theorem qp {rd:Option Nat} {o:Oper} {c:Call} {x:Operand} {id:Nat} (h:Ok false E g w fr st a) (ho:o.op = .call c) (hcl:c.callee = .value x) (hx:fr.ev x = .yld id) (hnl:(c.args.toList.map fr.ev).all AV.noL = true) {Q:Bool→St→Prop}
  (hA:rG P id (c.args.toList.map fun y=>(fr.ev y).dis) st Q) {K:Act→World→Prop} {Q':Exit→Act→World→Prop}
  (hK:∀ t st' g' w',Q t st'→Ok false E g' w' (fr.put o.dst (.lit (.bool t))) st' (a.put o.dst (.bool t))→K (a.put o.dst (.bool t)) w'):o.wpIn (FW rd) 0 P a w K Q':=by
 have hxr:=h.ev x
 rw [hx] at hxr
 have hax:∃ b,g.bx id = some b∧a.eval x = .func (.yield b) #[] #[]:=by
  generalize a.eval x = u at hxr
  cases hxr with
  | yld _ b hb=>exact ⟨b,hb,rfl⟩
 obtain ⟨b,hb,hax⟩:=hax
 have hargs:jv g (c.args.toList.map fun y=>(fr.ev y).dis) (c.args.map a.eval):=by
  refine ⟨by simp,fun j y u hy hyu=>?_⟩
  simp only [List.getElem?_map,Option.map_eq_some_iff] at hy
  obtain ⟨q,hq,rfl⟩:=hy
  have hq':c.args[j]? = some q:=by simpa using hq
  simp [hq'] at hyu
  subst hyu
  have hn:=List.all_eq_true.1 hnl (fr.ev q) (List.mem_map_of_mem (List.mem_of_getElem? hq))
  exact (ju hn (h.ev q)).dis
 obtain ⟨f,tmps,ass,body,h1,h2⟩:=hA (E.d + 1) g w (c.args.map a.eval) b h.ctx.good h.ctx.box hargs hb
 unfold Oper.wpIn
 refine ⟨fun _ _=>trivial,?_⟩
 rw [Oper.semAt_eq _ _ _ (by rw [ho]; intro c' e; cases e)]
 have hrun:(execOp a.eval o).run P w = .ok (.round b f tmps ass body) w:=by
  have h1':(Instr.yield b (Array.map a.eval c.args)).run P w = .ok (.round b f tmps ass body) w:=h1
  simp [execOp,ho,resolve,hcl,hax,Deferred.ofValue,invoke,h1']
 rw [hrun]
 simp only [Oper.uponIn]
 refine ⟨fun e=>(by cases e),h2.mono fun e w' ⟨t,st',g',he,hQ,hmv,hb'⟩=>?_⟩
 subst he
 exact hK t st' g' w' hQ ((h.call hmv hb').put o.dst (RS.of (R.lit _ rfl)) fun s _ i c x hc _=>Own.of_no (ae (v:=.lit (.bool t)) (fun _ e=>by cases e) trivial i c hc))
theorem rI {o:Oper} {c:Call} (h:Ok m E g w fr st a) (ho:o.op = .call c) {f:FuncId} {vs:List AV} (hca:dQ fr c = some (f,vs)) (hent:bt P f = true) {v:AV} (hA:aF P f vs st v)
  {K:Act→World→Prop} {Q':Exit→Act→World→Prop} (hK:∀ u g' w',Ok m E g' w' (fr.put o.dst v) st (a.put o.dst u)→K (a.put o.dst u) w'):o.wp P a w K Q':=by
 obtain ⟨us,hrun,hargs⟩:=ii (P:=P) (w:=w) ho (fun x _=>h.ev x) hca hent
 unfold Oper.wp
 rw [hrun]
 simp only [Oper.upon]
 refine (hA g w us (fun k=>match o.dst with | some s=>Loc.slot E.d s k | none=>Loc.slot E.d 0 k) h.ctx.good h.ctx.box hargs).mono fun e w' ⟨u,g',he,hle,hr,hown⟩=>?_
 subst he
 refine hK u g' w' ((h.le hle).put o.dst (RS.of hr) fun s hs=>?_)
 rw [hs] at hown
 exact fun i c x hc hx=>(hown i c x hc hx).bound h.hN
end
end Go.Fx
namespace Go.Fx
open Go Go.RowKit Go.Lib
inductive AV.le:AV→AV→Prop where
 | refl (v:AV):AV.le v v
 | any (v:AV):AV.le v .any
 | nil (o:Bool) (k:Nat):AV.le (.lit (.slice none 0 0)) (.sl o k [])
 | own (k:Nat) (es:List AV):AV.le (.sl true k es) (.sl false k es)
 | agg (cs ds:List AV) (hl:ds.length = cs.length) (h:∀ (i:Nat) (c d:AV),cs[i]? = some c→ds[i]? = some d→AV.le c d):AV.le (.agg cs) (.agg ds)
 | tup (cs ds:List AV) (hl:ds.length = cs.length) (h:∀ (i:Nat) (c d:AV),cs[i]? = some c→ds[i]? = some d→AV.le c d):AV.le (.tup cs) (.tup ds)
def leL:List AV→List AV→Prop
 | [],[]=>True
 | v::r,u::s=>AV.le v u∧leL r s
 | _,_=>False
theorem leL_refl:∀ l:List AV,leL l l
 | []=>trivial
 | v::r=>⟨.refl v,leL_refl r⟩
theorem qH:∀ {l k:List AV},leL l k→k.length = l.length∧∀ (i:Nat) (c d:AV),l[i]? = some c→k[i]? = some d→AV.le c d
 | [],[],_=>⟨rfl,fun i c d h=>by simp at h⟩
 | [],_::_,h=>h.elim
 | _::_,[],h=>h.elim
 | v :: r, u :: s, ⟨h1, h2⟩ => by
   obtain ⟨q1,q2⟩:=qH h2
   refine ⟨by simp [q1],fun i c d hc hd=>?_⟩
   cases i with
   | zero=>simp at hc hd; subst hc; subst hd; exact h1
   | succ i=>exact q2 i c d (by simpa using hc) (by simpa using hd)
section
variable {g:Gh} {w:World} {N d:Nat}
theorem AV.le.r {v v':AV} (h:AV.le v v'):∀ {u:Value},R g v u→R g v' u:=by
 induction h with
 | refl v=>exact fun h=>h
 | any v=>exact fun _=>.any _
 | nil o k =>
   intro u h
   rw [h.lit_inv.1]
   exact .slN o k
 | own k es=>exact fun h=>h.own
 | agg cs ds hl h ih =>
   intro u hr
   obtain ⟨us,rfl,hR⟩:=hr.agg_inv
   refine .agg ds us (by have:=hR.1; simp at this; omega) fun i x u hx hu=>?_
   have hlt:i < cs.length:=by rw [← hl]; exact (List.getElem?_eq_some_iff.1 hx).1
   exact ih i cs[i] x (by simp [hlt]) hx (hR.2 i cs[i] u (by simp [hlt]) (by simpa using hu))
 | tup cs ds hl h ih =>
   intro u hr
   cases hr with
   | tup _ us hu hR =>
     refine .tup ds us (by omega) fun i x u hx hxu=>?_
     have hlt:i < cs.length:=by rw [← hl]; exact (List.getElem?_eq_some_iff.1 hx).1
     exact ih i cs[i] x (by simp [hlt]) hx (hR i cs[i] u (by simp [hlt]) hxu)
theorem AV.le.rs {v v':AV} (h:AV.le v v') {u:Value} (hr:RS g d v u):RS g d v' u:=by
 by_cases hl:∃ s o,v = .lptr s o
 ·obtain ⟨s,o,rfl⟩:=hl
  cases h with
  | refl=>exact hr
  | any=>exact RS.of (.any _)
 ·exact RS.of (h.r (hr.r fun s o e=>hl ⟨s,o,e⟩))
theorem own_any {L:Loc} {u:Value}:Own g w N L .any u:=Own.of_no trivial
theorem AV.le.own1c {v v':AV} (h:AV.le v v') {L:Loc} {u:Value} (hr:R g v u) (ho:Own g w N L v u):Own g w N L v' u:=by
 cases h with
 | refl=>exact ho
 | any=>exact own_any
 | nil o k=>rw [hr.lit_inv.1]; exact Own.of_sl fun k' es e=>by cases e; exact .inl ⟨rfl,_,rfl⟩
 | own k es=>exact Own.of_no trivial
 | agg=>exact Own.of_no trivial
 | tup=>exact Own.of_no trivial
theorem AV.le.ownV {v v':AV} (h:AV.le v v') {mk:Nat→Loc} {u:Value} (hr:RS g d v u) (ho:OwnV g w N mk v u):OwnV g w N mk v' u:=by
 cases h with
 | refl=>exact ho
 | any=>intro i c x hc hx; cases i <;> simp [AV.cells] at hc; subst hc; exact own_any
 | nil o k =>
   intro i c x hc hx
   have hr:R g (.lit (.slice none 0 0)) u:=hr
   have hu:=hr.lit_inv.1
   subst hu
   cases i <;> simp [AV.cells] at hc
   subst hc
   simp [Value.cells] at hx
   subst hx
   exact Own.of_sl fun k' es e=>by cases e; exact .inl ⟨rfl,_,rfl⟩
 | own k es=>intro i c x hc hx; cases i <;> simp [AV.cells] at hc; subst hc; exact Own.of_no trivial
 | agg cs ds hl h =>
   intro i c x hc hx
   have hr:R g (.agg cs) u:=hr
   obtain ⟨us,rfl,hR⟩:=hr.agg_inv
   have hc:ds[i]? = some c:=hc
   have hx:us[i]? = some x:=hx
   have hlt:i < cs.length:=by rw [← hl]; exact (List.getElem?_eq_some_iff.1 hc).1
   have h1:cs[i]? = some cs[i]:=by simp [hlt]
   exact (h i cs[i] c h1 hc).own1c (hR.2 i cs[i] x h1 (by simpa using hx)) (ho i cs[i] x h1 hx)
 | tup cs ds hl h=>intro i c x hc hx; cases i <;> simp [AV.cells] at hc; subst hc; exact Own.of_no trivial
def boxLe:Option Box→Option Box→Prop
 | _,none=>True
 | some (.cells cs),some (.cells ds)=>leL cs ds
 | some (.mp es bs clk),some (.mp es' bs' clk')=>bs' = bs∧clk' = clk∧es'.length = es.length∧∀ (i:Nat) (k v k' v':AV),es[i]? = some (k,v)→es'[i]? = some (k',v')→k' = k∧AV.le v v'∧∀ c ∈ v'.cells,c.noOwn
 | some (.lp r rs),some (.lp r' rs')=>r' = r∧rs' = rs
 | _,_=>False
def leSt:List (Option Box)→List (Option Box)→Prop
 | [],[]=>True
 | v::r,u::s=>boxLe v u∧leSt r s
 | _,_=>False
end
end Go.Fx
namespace Go.Fx
open Go Go.RowKit Go.Lib
def Gh.moreL (g:Gh) (b p:Nat) (new:List Value) (L:Loc):Gh :=
 { g with imm:=fun b' j=>if b' = b∧p≤j∧j < p + new.length then new[j - p]? else g.imm b' j,cls:=fun b'=>if b' = b then some (.arr L) else g.cls b' }
section
variable {P:Program} {d N:Nat} {g:Gh} {w:World}
theorem app_core {st:St} (hg:Good g w) (hbx:BoxR g w st) (hNw:N≤w.heap.size) {L L':Loc} {t t2 ty:TypeId} {k:Nat} {es:List AV} {vy:AV} {ux uy:Value} (hx:R g (.sl true k es) ux) (hox:Own g w N L (.sl true k es) ux) (hy:RS g d vy uy) {K:AV→Prop}
  (hK:(dv P st t t2 (.sl true k es) vy).wp K):∃ v,K v∧∃ u g' w',(Builtin.append_ #[t,t2] ty #[ux,uy]).run P w = .ok u w'∧v.cells = [v]∧u.cells = #[u]∧R g' v u∧Own g' w' N L' v u ∧
   (LeP g w g' w'∨∃ b,N≤b∧g.cls b = some (.arr L)∧Wr w b w'∧GhLe g g'∧(∀ b',b'≠b→g'.imm b' = g.imm b'∧g'.cls b' = g.cls b')∧g'.cls b = some (.arr L')∧g'.base = g.base∧g'.bx = g.bx∧g'.lb = g.lb∧Good g' w'):=by
 unfold dv at hK
 split at hK
 case h_2=>exact hK.elim
 rename_i e dd ht ht2
 split at hK
 case h_2=>exact hK.elim
 rename_i i hi
 split at hK
 case isFalse=>exact hK.elim
 rename_i hcond
 obtain ⟨hdd,hpos,hzs⟩:=hcond
 simp only at hK
 split at hK
 case isFalse=>exact hK.elim
 rename_i hki
 subst hki
 rw [Res.wp_bind] at hK
 obtain ⟨nes,hK,hnk,hlen,new,hnew,hone,hfc⟩:=gj (P:=P) hg hbx hy hK
 obtain ⟨hroom,hK⟩:=hK
 have hroom:=of_decide_eq_true hroom
 have hux:∃ ad c,ux = .slice ad es.length c:=by cases hx <;> exact ⟨_,_,rfl⟩
 obtain ⟨ad,c0,rfl⟩:=hux
 have hek:∀ e ∈ es,e.cells.length = i.size:=by cases hx <;> first | assumption | simp
 have hndk:∀ x ∈ nes.map AV.dis,x.cells.length = i.size:=by
  intro x hx
  simp only [List.mem_map] at hx
  obtain ⟨y,hy,rfl⟩:=hx
  rw [aO]; exact hnk y hy
 have hnl:new.length = nes.length * i.size:=by rw [hnew.1,ai hnk]
 have hsrc:Src P i.size t2 uy nes.length new w:=by
  refine ⟨?_,hlen,hfc w (fun _ _ _=>rfl),hfc w.drew (fun b o _=>cV w b o),hnl,hone⟩
  cases dd <;> simp only [srcT] at hdd <;> first | (cases hdd; done) | exact .inl ⟨_,ht2⟩ | exact .inr ht2
 have hlen2:(es++nes.map AV.dis).length = es.length + nes.length:=by simp
 have hall:∀ e ∈ es++nes.map AV.dis,e.cells.length = i.size:=fun e he=>by
  rcases List.mem_append.1 he with h1 | h1
  ·exact hek e h1
  ·exact hndk e h1
 by_cases hfit:es.length + nes.length≤c0
 ·rcases hox.1 i.size es rfl with ⟨rfl,x,hux⟩ | ⟨b,o,c,cur,T,h1,hN,h2,h3,h4,h5,h6⟩
  ·cases hux
   have hn0:nes = []:=List.eq_nil_of_length_eq_zero (by simpa using hfit)
   subst hn0
   have hnew0:new = []:=List.eq_nil_of_length_eq_zero (by simpa using hnl)
   subst hnew0
   exact ⟨_,hK,_,g,w,run_append_nothing w t t2 ty e i ht hi ad 0 0 (Nat.le_refl 0) uy hsrc,rfl,rfl,hx,Own.of_sl (fun k' es' e'=>by cases e'; exact .inl ⟨rfl,_,rfl⟩),.inl (LeP.refl g w)⟩
  cases h1
  have hgc:∀ j,o + es.length * i.size + j < cur.size→(w.cell? ⟨b,o + es.length * i.size + j,none⟩).isSome = true∧w.frozen? ⟨b,o + es.length * i.size + j,none⟩ = false:=by
   intro j hj
   refine ⟨by rw [cell_of_row w b _ cur T (0,0) h3]; simp [hj],by simp [World.frozen?,h3]⟩
  have hend:o + es.length * i.size + new.length≤o + c0 * i.size:=by
   rw [hnl,Nat.add_assoc,← Nat.add_mul]
   exact Nat.add_le_add_left (Nat.mul_le_mul_right _ hfit) _
  have hrun:=run_append_room_src (P:=P) w t t2 ty e i ht hi b o es.length c0 uy nes.length new hsrc hfit (fun j hj=>(hgc j (by omega)).1) (fun j hj=>(hgc j (by omega)).2)
  rw [bJ b T (0,0) new _ w cur h3] at hrun
  have hw:=dU w b (putC cur (o + es.length * i.size) new)
  generalize hp:o + es.length * i.size = p at *
  have hle:GhLe g (g.moreL b p new L'):=by
   refine ⟨fun b' j u hi=>?_,fun _ _ h=>h⟩
   show (if b' = b∧p≤j∧j < p + new.length then new[j - p]? else g.imm b' j) = some u
   by_cases hc:b' = b∧p≤j∧j < p + new.length
   ·obtain ⟨rfl,h1,h2⟩:=hc
    rw [h6 j h1 (by omega)] at hi; cases hi
   ·rw [if_neg hc]; exact hi
  have hother:∀ b',b'≠b→(g.moreL b p new L').imm b' = g.imm b'∧(g.moreL b p new L').cls b' = g.cls b':=fun b' hb=>⟨by funext j; simp [Gh.moreL,hb],by simp [Gh.moreL,hb]⟩
  have hcb:(g.moreL b p new L').cls b = some (.arr L'):=by simp [Gh.moreL]
  have hgood:Good (g.moreL b p new L') (w.setRow b (putC cur p new)):=by
   refine ⟨fun b' j u hi=>?_,fun b' j u hi=>?_,fun b' c' hc=>?_,by rw [hw.size]; exact hg.base⟩
   ·by_cases hb:b' = b
    ·subst hb
     rw [cell_setRow_same w b' j cur _ T (0,0) h3,ei]
     simp only [Gh.moreL,true_and] at hi
     by_cases hc:p≤j∧j < p + new.length
     ·rw [if_pos hc] at hi
      rw [if_pos ⟨hc.1,hc.2,by omega⟩]; exact hi
     ·rw [if_neg hc] at hi
      rw [if_neg (fun e=>hc ⟨e.1,e.2.1⟩)]
      have:=hg.imm b' j u hi
      rw [cell_of_row w b' j cur T (0,0) h3] at this
      exact this
    ·rw [(hother b' hb).1] at hi
     rw [cell_setRow_other w b _ ⟨b',j,none⟩ hb]
     exact hg.imm b' j u hi
   ·by_cases hb:b' = b
    ·subst hb; exact .inr ⟨_,hcb⟩
    ·rw [(hother b' hb).1] at hi; rw [(hother b' hb).2]; exact hg.immc b' j u hi
   ·rw [hw.size]
    by_cases hb:b' = b
    ·subst hb; exact hg.cls b' _ h2
    ·rw [(hother b' hb).2] at hc; exact hg.cls b' c' hc
  have hsp:∀ (i':Nat) (x:AV),((es++nes.map AV.dis).flatMap AV.cells)[i']? = some x→(∃ u,(g.moreL b p new L').imm b (o + i') = some u∧R (g.moreL b p new L') x u∧u.oneCell' = true):=by
   intro i' x hx'
   rw [List.flatMap_append] at hx'
   by_cases hi':i' < es.length * i.size
   ·rw [List.getElem?_append_left (by rw [ai hek]; exact hi')] at hx'
    cases hx with
    | slE _ _ a' c'=>simp at hi'
    | sl _ _ _ us _ _ _ _ _ h1 h2 h3=>exact ⟨us i',hle.imm _ _ _ (h1 i' x hx'),(h2 i' x hx').mono hle,h3 i' x hx'⟩
   ·rw [List.getElem?_append_right (by rw [ai hek]; omega),ai hek] at hx'
    have hnew':=mF hnk hnew
    have hlt:i' - es.length * i.size < new.length:=by rw [hnew'.1]; exact (List.getElem?_eq_some_iff.1 hx').1
    have hnu:new[i' - es.length * i.size]? = some new[i' - es.length * i.size]:=List.getElem?_eq_getElem hlt
    refine ⟨new[i' - es.length * i.size],?_,(hnew'.2 _ x _ hx' hnu).mono hle,hone _ (List.getElem_mem hlt)⟩
    have:o + i' - p = i' - es.length * i.size:=by omega
    have hcc:b = b∧p≤o + i'∧o + i' < p + new.length:=⟨rfl,by omega,by omega⟩
    show (if b = b∧p≤o + i'∧o + i' < p + new.length then new[o + i' - p]? else g.imm b (o + i')) = _
    rw [if_pos hcc,this]; exact hnu
  refine ⟨_,hK,_,g.moreL b p new L',_,hrun,rfl,rfl,?_,?_,.inr ⟨b,hN,h2,hw,hle,hother,hcb,rfl,rfl,rfl,hgood⟩⟩
  ·rw [← hlen2]
   refine R.sl true i.size _ (fun j=>((g.moreL b p new L').imm b (o + j)).getD undef) b o c0 (by rw [hlen2]; exact hfit) hall (fun j x hx=>?_) (fun j x hx=>?_) (fun j x hx=>?_)
   ·obtain ⟨u,h1,h2,h3⟩:=hsp j x hx; rw [h1]; rfl
   ·obtain ⟨u,h1,h2,h3⟩:=hsp j x hx; rw [h1]; exact h2
   ·obtain ⟨u,h1,h2,h3⟩:=hsp j x hx; rw [h1]; exact h3
  ·refine Own.of_sl fun k' es' e'=>.inr ?_
   cases e'
   refine ⟨b,o,c0,_,T,by rw [hlen2],hN,hcb,setRow_heap w b cur _ T (0,0) h3,by rw [dS]; exact h4,by rw [hlen2]; exact hfit,fun j hj hj'=>?_⟩
   rw [hlen2,Nat.add_mul,← Nat.add_assoc,hp,← hnl] at hj
   show (if b = b∧p≤j∧j < p + new.length then new[j - p]? else g.imm b j) = none
   rw [if_neg (fun e=>by omega)]
   exact h6 j (by omega) hj'
 ·obtain ⟨es',hes',_,_,olds,hold,hold1,hofc⟩:=gj (P:=P) hg hbx (d:=d) (k:=i.size) (x:=.sl true i.size es) (RS.of hx) (K:=fun x=>x = es) (by simp [srcA,Res.wp])
  subst hes'
  cases hz:i.zero with
  | none=>simp [hz] at hzs
  | some z =>
    have hzl:z.cells.size = i.size:=by simpa [hz] using hzs
    have hol:olds.length = es'.length * i.size:=by rw [hold.1,ai hek]
    have hrun:=run_append_grow_src (P:=P) w t t2 ty e i z ht hi hz ad es'.length c0 olds (hofc w.drew (fun b o _=>cV w b o)) uy nes.length new hsrc (by omega) (by omega) (growslice_fits (by omega) hroom.1)
    have hge:=grownCap_ge w (es'.length + nes.length) c0 e
    generalize grownCap w (es'.length + nes.length) c0 e = cap at *
    have hle:=mA (g:=g) (w:=w) (olds++new) (Builtin.zeroCells z.cells (cap - (es'.length + nes.length))) e L' 1
    have hrl:RL g ((es'++nes.map AV.dis).flatMap AV.cells) (olds++new):=by rw [List.flatMap_append]; exact hold.append (mF hnk hnew)
    refine ⟨_,hK,_,_,_,hrun,rfl,rfl,?_,?_,.inl hle⟩
    ·rw [← hlen2]
     exact qx true _ (by rw [hlen2]; exact hge) hall hrl.1 (fun j x u hx hu=>hrl.2 j x u hx hu) (fun u hu=>(List.mem_append.1 hu).elim (hold1 u) (hone u)) (hle.ghle hg)
    ·have:=iH (g:=g) (w:=w) (us:=olds++new) (L:=fun _=>L') (k:=i.size) (es:=es'++nes.map AV.dis) cap (Builtin.zeroCells z.cells (cap - (es'.length + nes.length))) e 1 (by rw [hlen2]; exact hge)
      (by rw [hlen2,List.length_append,hol,hnl,Nat.add_mul])
      (by rw [size_zeroCells,hzl,List.length_append,hol,hnl,← Nat.add_mul,← Nat.add_mul]; exact Nat.mul_le_mul_right _ (by omega)) true hNw
     rw [hlen2] at this
     exact this 0 _ _ rfl rfl
end
end Go.Fx
namespace Go.Fx
open Go Go.RowKit Go.Lib
def St.sub (ρ st:St):Prop:=∀ (id:Nat) (b:Box),ρ.boxes[id]? = some (some b)→st.boxes[id]? = some (some b)
theorem St.sub_refl (st:St):St.sub st st:=fun _ _ h=>h
theorem St.sub_nil (st:St):St.sub ⟨[]⟩ st:=fun _ _ h=>by simp at h
def isStB:Op→Bool
 | .store .. | .alloc _=>true
 | _=>false
def ldB (ops:Array Oper) (o:Oper):Bool :=
 o.dst.isSome && (List.range ops.size).all fun i=>match ops[i]? with
  | some o'=>o'.dst != o.dst || (List.range ops.size).all fun j=>match ops[j]? with
    | some oj=>!isStB oj.op || aI ops 8 j i
    | none=>true
  | none=>true
inductive PStep (P:Program) (ops:Array Oper) (st:St) (SS:St→Prop) (locs0:List (Nat×List AV)) (o:Oper) (fr:Fr):PK→Fr→Prop
 | skip (hg:ao ops fr o = some (.lit (.bool false))):PStep P ops st SS locs0 o fr .skip (fr.put o.dst (.tup []))
 | val (v:AV) (hg:ao ops fr o = some (.lit (.bool true))) (hp:∀ s,SS s→(popR P o.op fr s).opt = some v):PStep P ops st SS locs0 o fr (.val v) (fr.put o.dst v)
 | ld (v:AV) (t:TypeId) (s:Nat) (hg:ao ops fr o = some (.lit (.bool true))) (ho:o.op = .load t (.tmp s)) (hb:ldB ops o = true) (hp:∀ s',SS s'→(popR P o.op { fr with locs:=locs0 } s').opt = some v):PStep P ops st SS locs0 o fr (.val v) (fr.put o.dst v)
 | call (v:AV) (c:Call) (f:FuncId) (vs:List AV) (hg:ao ops fr o = some (.lit (.bool true))) (ho:o.op = .call c) (hc:dQ fr c = some (f,vs)) (he:bt P f = true) (hp:∀ s,SS s→aF P f vs s v):PStep P ops st SS locs0 o fr (.val v) (fr.put o.dst v)
 | mk (v:AV) (s:St) (hg:ao ops fr o = some (.lit (.bool true))):PStep P ops st SS locs0 o fr (.mk v s) (fr.put o.dst v)
 | hole:PStep P ops st SS locs0 o fr .hole (fr.put o.dst .any)
 | chole (c:Call) (f:FuncId) (vs:List AV) (hg:ao ops fr o = some (.lit (.bool true))) (ho:o.op = .call c) (hc:dQ fr c = some (f,vs)):PStep P ops st SS locs0 o fr (.chole f vs) (fr.put o.dst .any)
 | ahole (f:FuncId) (x y:Operand) (t t2:TypeId) (hg:ao ops fr o = some (.lit (.bool true))) (ho:o.op = .call ⟨.builtin .append,#[x,y],#[t,t2]⟩):PStep P ops st SS locs0 o fr (.chole f [fr.ev x,fr.ev y]) (fr.put o.dst .any)
 | new (t:TypeId) (s:Nat) (z:AV) (hg:ao ops fr o = some (.lit (.bool true))) (ho:o.op = .alloc t) (hd:o.dst = some s) (hz:(eR P t).opt = some z):PStep P ops st SS locs0 o fr (.new s z.cells) (fr.put (some s) .any)
 | store (t:TypeId) (addr x:Operand) (s:Nat) (cs0:List AV) (hg:ao ops fr o = some (.lit (.bool true))) (ho:o.op = .store t addr x) (hd:o.dst = none) (ha:fr.ev addr = .lptr s 0) (hl:look s locs0 = some cs0)
   (hlen:cs0.length = (fr.ev x).dis.cells.length) (hs:(fr.ev x).dis.solid = true) (hsz:szT P t = some (fr.ev x).dis.cells.length):PStep P ops st SS locs0 o fr (.store s (fr.ev x).dis.cells) fr
 | storeA (t:TypeId) (addr x:Operand) (s off:Nat) (cs0:List AV) (hg:ao ops fr o = some (.lit (.bool true))) (ho:o.op = .store t addr x) (hd:o.dst = none) (ha:fr.ev addr = .lptr s off) (hl:look s locs0 = some cs0)
   (hlen:off + (fr.ev x).dis.cells.length≤cs0.length) (hs:(fr.ev x).dis.solid = true) (hsz:szT P t = some (fr.ev x).dis.cells.length):PStep P ops st SS locs0 o fr (.store s (aG (cs0.map AV.own1) off (fr.ev x).dis.cells)) fr
 | nst (t:TypeId) (x:Operand) (s:Nat) (hg:ao ops fr o = some (.lit (.bool true))) (ho:o.op = .store t (.tmp s) x) (hd:o.dst = none)
   (hs:(fr.ev x).dis.solid = true) (hsz:szT P t = some (fr.ev x).dis.cells.length):PStep P ops st SS locs0 o fr (.nst s (fr.ev x).dis.cells) fr
 | app (t t2:TypeId) (sx sd k:Nat) (y:Operand) (es:List AV) (v:AV) (hg:ao ops fr o = some (.lit (.bool true))) (ho:o.op = .call ⟨.builtin .append,#[.tmp sx,y],#[t,t2]⟩) (hd:o.dst = some sd) (hne:sx≠sd)
   (hsl:fr.slots.getD sx .any = .sl true k es) (hp:∀ s,SS s→(dv P s t t2 (.sl true k es) (fr.ev y)).opt = some v):PStep P ops st SS locs0 o fr (.app sx v) ((fr.disAt sx).put (some sd) v)
inductive PRun (P:Program) (ops:Array Oper) (st:St) (SS:Option Nat→St→Prop) (locs0:List (Nat×List AV)):List Oper→Fr→List PK→Fr→Prop
 | nil (fr:Fr):PRun P ops st SS locs0 [] fr [] fr
 | cons {o:Oper} {l:List Oper} {fr fr1 fr2:Fr} {k:PK} {ks:List PK} (h:PStep P ops st (SS o.dst) locs0 o fr k fr1) (r:PRun P ops st SS locs0 l fr1 ks fr2):PRun P ops st SS locs0 (o::l) fr (k::ks) fr2
def PK.real:PK→Bool
 | .mk _ _ | .hole | .chole _ _=>false
 | _=>true
def valK:PK→AV
 | .val v | .app _ v | .mk v _=>v
 | .skip=>.tup []
 | _=>.any
def Src (l:List Oper) (ks:List PK) (i:Nat) (fr0:Fr) (d:Nat) (v:AV):Prop :=
 (∃ k o kk,k < i∧l[k]? = some o∧o.dst = some d∧ks[k]? = some kk∧v = valK kk)∨((∀ k o,k < i→l[k]? = some o→o.dst≠some d)∧fr0.slots[d]? = some v)
def Wk (ks:List PK) (i d:Nat) (v v':AV):Prop :=
 (v' = v∧∀ j v'',j < i→ks[j]?≠some (.app d v''))∨v' = v.dis
structure Tr (l:List Oper) (ks:List PK) (i:Nat) (fr0 fr:Fr):Prop where
 len:fr.slots.length = fr0.slots.length
 locs:fr.locs = fr0.locs
 src:∀ d v',fr.slots[d]? = some v'→∃ v,Src l ks i fr0 d v∧Wk ks i d v v'
theorem Tr.start (l:List Oper) (ks:List PK) (fr:Fr):Tr l ks 0 fr fr :=
 ⟨rfl,rfl,fun d v' h=>⟨v',.inr ⟨fun _ _ h=>by omega,h⟩,.inl ⟨rfl,fun _ _ h=>by omega⟩⟩⟩
section
variable {P:Program} {ops:Array Oper} {st:St} {SS:Option Nat→St→Prop} {S1:St→Prop} {locs0:List (Nat×List AV)} {l l':List Oper} {ks ks':List PK} {i:Nat} {fr0 fr fr1:Fr} {o:Oper} {v:AV} {kk:PK}
theorem app_last (hcons:∀ (j k:Nat) (t:Nat) (v:AV) (o:Oper),ks[j]? = some (PK.app t v)→l[k]? = some o→o.dst = some t→k < j) {i d:Nat} (ho:l[i]? = some o) (hd:o.dst = some d):∀ j v'',j < i + 1→ks[j]?≠some (.app d v''):=by
 intro j v hj e
 have:=hcons j i d v o e ho hd
 omega
theorem Tr.put (h:Tr l ks i fr0 fr) (ho:l[i]? = some o) {kk:PK} (hk:ks[i]? = some kk) (hnapp:∀ t v,kk≠.app t v) (hv:∀ s,o.dst = some s→v = valK kk)
  (hcons:∀ (j k:Nat) (t:Nat) (v:AV) (o:Oper),ks[j]? = some (PK.app t v)→l[k]? = some o→o.dst = some t→k < j):Tr l ks (i + 1) fr0 (fr.put o.dst v):=by
 have keep:∀ d v',fr.slots[d]? = some v'→o.dst≠some d→∃ v,Src l ks (i + 1) fr0 d v∧Wk ks (i + 1) d v v':=by
  intro d v' hd hne
  obtain ⟨u,hs,hw⟩:=h.src d v' hd
  refine ⟨u,?_,?_⟩
  ·rcases hs with ⟨k,o',kk',h1,h2,h3,h4,h5⟩ | ⟨h1,h2⟩
   ·exact .inl ⟨k,o',kk',by omega,h2,h3,h4,h5⟩
   ·refine .inr ⟨fun k o' hk' ho'=>?_,h2⟩
    by_cases e:k = i
    ·subst e; rw [ho] at ho'; cases ho'; exact hne
    ·exact h1 k o' (by omega) ho'
  ·rcases hw with ⟨h1,h2⟩ | h1
   ·refine .inl ⟨h1,fun j v'' hj e=>?_⟩
    by_cases e':j = i
    ·subst e'; rw [hk] at e; cases e; exact hnapp _ _ rfl
    ·exact h2 j v'' (by omega) e
   ·exact .inr h1
 cases hd:o.dst with
 | none=>exact ⟨h.len,h.locs,fun d v' hv'=>keep d v' hv' (by rw [hd]; simp)⟩
 | some s =>
   refine ⟨by simp [Fr.put,h.len],h.locs,fun d v' hv'=>?_⟩
   simp only [Fr.put,List.getElem?_set] at hv'
   by_cases e:s = d
   ·subst e
    by_cases hl:s < fr.slots.length
    ·simp [hl] at hv'
     subst hv'
     exact ⟨v,.inl ⟨i,o,kk,Nat.lt_succ_self _,ho,hd,hk,hv s hd⟩,.inl ⟨rfl,app_last hcons ho hd⟩⟩
    ·simp [hl] at hv'
   ·simp [e] at hv'
    exact keep d v' hv' (by rw [hd]; intro e'; cases e'; exact e rfl)
theorem Tr.app (h:Tr l ks i fr0 fr) (ho:l[i]? = some o) {sx sd:Nat} {v:AV} (hk:ks[i]? = some (.app sx v)) (hd:o.dst = some sd) (hne:sx≠sd)
  (huniq:∀ (a b t:Nat) (v v':AV),ks[a]? = some (PK.app t v)→ks[b]? = some (PK.app t v')→a = b)
  (hcons:∀ (j k:Nat) (t:Nat) (v:AV) (o:Oper),ks[j]? = some (PK.app t v)→l[k]? = some o→o.dst = some t→k < j):Tr l ks (i + 1) fr0 ((fr.disAt sx).put (some sd) v):=by
 refine ⟨by simp [Fr.put,Fr.disAt,h.len],h.locs,fun d v' hv'=>?_⟩
 have srcs:∀ u,o.dst≠some d→Src l ks i fr0 d u→Src l ks (i + 1) fr0 d u:=by
  intro u hne hs
  rcases hs with ⟨k,o',kk',h1,h2,h3,h4,h5⟩ | ⟨h1,h2⟩
  ·exact .inl ⟨k,o',kk',by omega,h2,h3,h4,h5⟩
  ·refine .inr ⟨fun k o' hk' ho'=>?_,h2⟩
   by_cases e:k = i
   ·subst e; rw [ho] at ho'; cases ho'; exact hne
   ·exact h1 k o' (by omega) ho'
 simp only [Fr.put,Fr.disAt,List.getElem?_set,List.length_set] at hv'
 by_cases e:sd = d
 ·subst e
  by_cases hl:sd < fr.slots.length
  ·simp [hl] at hv'
   subst hv'
   exact ⟨v,.inl ⟨i,o,_,Nat.lt_succ_self _,ho,hd,hk,rfl⟩,.inl ⟨rfl,app_last hcons ho hd⟩⟩
  ·simp [hl] at hv'
 ·simp [e] at hv'
  have hned:o.dst≠some d:=by rw [hd]; intro e'; cases e'; exact e rfl
  by_cases e2:sx = d
  ·subst e2
   by_cases hl:sx < fr.slots.length
   ·have h1:fr.slots[sx]? = some fr.slots[sx]:=by simp [hl]
    have h2:fr.slots.getD sx .any = fr.slots[sx]:=by simp [List.getD,hl]
    simp [hl] at hv'
    subst hv'
    obtain ⟨u,hs,hw⟩:=h.src sx _ h1
    refine ⟨u,srcs u hned hs,.inr ?_⟩
    rcases hw with ⟨h3,_⟩ | h3
    ·rw [h3]
    ·rw [h3]; cases u <;> simp [AV.dis,AV.own1,AV.own2,Function.comp_def]
     all_goals first | done | (intro a _; cases a <;> simp [AV.own1,Function.comp_def]; try (intro a _; cases a <;> rfl))
   ·simp [hl] at hv'
  ·simp [e2] at hv'
   obtain ⟨u,hs,hw⟩:=h.src d v' hv'
   refine ⟨u,srcs u hned hs,?_⟩
   rcases hw with ⟨h3,h4⟩ | h3
   ·refine .inl ⟨h3,fun j v'' hj e=>?_⟩
    by_cases e':j = i
    ·subst e'; rw [hk] at e; cases e; exact e2 rfl
    ·exact h4 j v'' (by omega) e
   ·exact .inr h3
theorem PStep.tr (hs:PStep P ops st S1 locs0 o fr kk fr1) (h:Tr l ks i fr0 fr) (ho:l[i]? = some o) (hk:ks[i]? = some kk)
  (huniq:∀ (a b t:Nat) (v v':AV),ks[a]? = some (PK.app t v)→ks[b]? = some (PK.app t v')→a = b)
  (hcons:∀ (j k:Nat) (t:Nat) (v:AV) (o:Oper),ks[j]? = some (PK.app t v)→l[k]? = some o→o.dst = some t→k < j):Tr l ks (i + 1) fr0 fr1:=by
 cases hs with
 | skip hg=>exact h.put ho hk (by simp) (fun _ _=>rfl) hcons
 | val v hg hp=>exact h.put ho hk (by simp) (fun _ _=>rfl) hcons
 | ld v t s hg _ hb hp=>exact h.put ho hk (by simp) (fun _ _=>rfl) hcons
 | call v c f vs hg _ hc he hp=>exact h.put ho hk (by simp) (fun _ _=>rfl) hcons
 | mk v s hg=>exact h.put ho hk (by simp) (fun _ _=>rfl) hcons
 | hole=>exact h.put ho hk (by simp) (fun _ _=>rfl) hcons
 | chole c f vs hg _ hc=>exact h.put ho hk (by simp) (fun _ _=>rfl) hcons
 | ahole f x y t t2 hg _=>exact h.put ho hk (by simp) (fun _ _=>rfl) hcons
 | new t s z hg ho' hd hz=>rw [← hd]; exact h.put ho hk (by simp) (fun _ _=>rfl) hcons
 | store t addr x s cs0 hg ho' hd ha hl hlen hs hsz =>
   have:=h.put (v:=.any) ho hk (by simp) (fun s e=>by rw [hd] at e; cases e) hcons
   rw [hd] at this; exact this
 | storeA t addr x s off cs0 hg ho' hd ha hl hlen hs hsz =>
   have:=h.put (v:=.any) ho hk (by simp) (fun s e=>by rw [hd] at e; cases e) hcons
   rw [hd] at this; exact this
 | nst t x s hg ho' hd hs hsz =>
   have:=h.put (v:=.any) ho hk (by simp) (fun s e=>by rw [hd] at e; cases e) hcons
   rw [hd] at this; exact this
 | app t t2 sx sd k y es v hg ho' hd hne hsl hp=>exact h.app ho hk hd hne huniq hcons
theorem PRun.at (hr:PRun P ops st SS locs0 l' fr ks' fr1):∀ (pre:List Oper) (kpre:List PK),pre.length = kpre.length→l = pre++l'→ks = kpre++ks'→Tr l ks pre.length fr0 fr →
  (∀ (a b t:Nat) (v v':AV),ks[a]? = some (PK.app t v)→ks[b]? = some (PK.app t v')→a = b) →
  (∀ (j k:Nat) (t:Nat) (v:AV) (o:Oper),ks[j]? = some (PK.app t v)→l[k]? = some o→o.dst = some t→k < j) →
  ks'.length = l'.length∧(∀ i o,l'[i]? = some o→∃ kk fri fri',ks[pre.length + i]? = some kk∧PStep P ops st (SS o.dst) locs0 o fri kk fri'∧Tr l ks (pre.length + i) fr0 fri)∧Tr l ks (pre.length + l'.length) fr0 fr1:=by
 induction hr with
 | nil fr=>intro pre kpre _ _ _ ht _ _; exact ⟨rfl,fun i o h=>by simp at h,by simpa using ht⟩
 | cons h r ih =>
   rename_i o lr fra frb frc kk ksr
   intro pre kpre hlen hl hks ht hu hc
   have ho:l[pre.length]? = some o:=by rw [hl]; simp
   have hk:ks[pre.length]? = some kk:=by rw [hks,hlen]; simp
   have ht':=h.tr ht ho hk hu hc
   obtain ⟨h1,h2,h3⟩:=ih (pre++[o]) (kpre++[kk]) (by simp [hlen]) (by simp [hl]) (by simp [hks]) (by simpa using ht') hu hc
   refine ⟨by simp [h1],fun i o' hi=>?_,by simp only [List.length_append,List.length_cons,List.length_nil] at h3 ⊢; rw [show pre.length + (lr.length + 1) = pre.length + (0 + 1) + lr.length by omega]; exact h3⟩
   cases i with
   | zero =>
     simp at hi
     subst hi
     exact ⟨kk,fra,frb,by simpa using hk,h,by simpa using ht⟩
   | succ i =>
     simp at hi
     obtain ⟨k',fri,fri',a1,a2,a3⟩:=h2 i o' hi
     simp only [List.length_append,List.length_cons,List.length_nil] at a1 a3
     rw [show pre.length + (0 + 1) + i = pre.length + (i + 1) by omega] at a1 a3
     exact ⟨k',fri,fri',a1,a2,a3⟩
end
end Go.Fx
namespace Go.Fx
open Go Go.RowKit Go.Lib
def Res.sub {A:Type} (r r':Res A):Prop:=∀ a,r.opt = some a→r'.opt = some a
theorem Res.sub_refl {A:Type} (r:Res A):Res.sub r r:=fun _ h=>h
theorem opt_bind {A B:Type} (r:Res A) (f:A→Res B):(r.bind f).opt = r.opt.bind fun a=>(f a).opt:=by
 induction r with
 | ok a=>rfl
 | fail=>rfl
 | req b r ih=>simp only [Res.bind,Res.opt]; split <;> simp [ih]
theorem Res.sub_bind {A B:Type} {r r':Res A} {f f':A→Res B} (h:Res.sub r r') (hf:∀ a,Res.sub (f a) (f' a)):Res.sub (r.bind f) (r'.bind f'):=by
 intro b hb
 rw [opt_bind] at hb ⊢
 cases e:r.opt with
 | none=>rw [e] at hb; cases hb
 | some a=>rw [e] at hb; rw [h a e]; exact hf a b hb
section
variable {P:Program} {ρ s:St} (hs:St.sub ρ s)
include hs
theorem get_sub {id:Nat} {cs:List AV} (h:ρ.get id = some cs):s.get id = some cs:=by
 unfold St.get at h ⊢
 split at h
 ·rename_i cs' hc
  rw [hs _ _ hc]; exact h
 ·cases h
theorem getM_sub {id:Nat} {es:List (AV×AV)} (h:ρ.getM id = some es):s.getM id = some es:=by
 unfold St.getM at h ⊢
 split at h
 ·rename_i es' _ _ hc
  rw [hs _ _ hc]; exact h
 ·cases h
theorem qI (id:Nat):Res.sub (Res.ofOpt (ρ.get id)) (Res.ofOpt (s.get id)):=by
 cases h:ρ.get id with
 | none=>intro a ha; cases ha
 | some cs=>rw [get_sub hs h]; exact Res.sub_refl _
theorem px (id:Nat):Res.sub (Res.ofOpt (ρ.getM id)) (Res.ofOpt (s.getM id)):=by
 cases h:ρ.getM id with
 | none=>intro a ha; cases ha
 | some cs=>rw [getM_sub hs h]; exact Res.sub_refl _
theorem nu (id k off len:Nat):Res.sub (gf ρ id k off len) (gf s id k off len):=Res.sub_bind (qI hs id) fun _=>Res.sub_refl _
theorem srcA_sub (k:Nat) (x:AV):Res.sub (srcA ρ k x) (srcA s k x):=by
 unfold srcA
 split <;> first | exact Res.sub_refl _ | skip
 split
 ·exact nu hs _ _ _ _
 ·exact Res.sub_refl _
theorem convA_sub (a b:TypeId) (x:AV):Res.sub (g7 P ρ a b x) (g7 P s a b x):=by
 unfold g7
 split <;> first | exact Res.sub_refl _ | skip
 split <;> first | exact Res.sub_refl _ | skip
 split
 ·exact Res.sub_bind (nu hs _ _ _ _) fun _=>Res.sub_refl _
 ·exact Res.sub_refl _
theorem lookupA_sub (t:TypeId) (m key:AV) (ok:Bool):Res.sub (fp P t ρ m key ok) (fp P t s m key ok):=by
 unfold fp
 split <;> first | exact Res.sub_refl _ | skip
 split <;> first | exact Res.sub_refl _ | skip
 refine Res.sub_bind ?_ fun _=>Res.sub_refl _
 split <;> first | exact Res.sub_refl _ | exact px hs _
theorem lenA_sub (t:TypeId) (x:AV):Res.sub (lenA P t ρ x) (lenA P t s x):=by
 unfold lenA
 split <;> first | exact Res.sub_refl _ | exact Res.sub_bind (px hs _) fun _=>Res.sub_refl _
theorem qq (t t2:TypeId) (b x:AV):Res.sub (dq P ρ t t2 b x) (dq P s t t2 b x):=by
 unfold dq
 split <;> first | exact Res.sub_refl _ | skip
 split <;> first | exact Res.sub_refl _ | skip
 split <;> first | exact Res.sub_refl _ | skip
 exact Res.sub_bind (srcA_sub hs _ _) fun _=>Res.sub_refl _
theorem derefA_sub (locs:List (Nat×List AV)) (x:AV):Res.sub (jK locs ρ x) (jK locs s x):=by
 unfold jK
 split <;> first | exact Res.sub_refl _ | exact Res.sub_bind (qI hs _) fun _=>Res.sub_refl _
theorem popR_sub (o:Op) (fr:Fr):Res.sub (popR P o fr ρ) (popR P o fr s):=by
 unfold popR
 split <;> first | exact Res.sub_refl _ | exact convA_sub hs _ _ _ | exact lookupA_sub hs _ _ _ _ | exact Res.sub_bind (derefA_sub hs _ _) fun _=>Res.sub_refl _ | skip
 split <;> first | exact Res.sub_refl _ | exact lenA_sub hs _ _ | exact qq hs _ _ _ _
end
end Go.Fx
namespace Go.Fx
open Go Go.RowKit Go.Lib
section
variable {P:Program} {m:Bool} {E:Ent} {g g':Gh} {w w':World} {fr fr':Fr} {st st':St} {a a':Act}
theorem cM {ops:Array Oper} {o:Oper} {t:Nat} (h:Operand.tmp t ∈ o.op.operands):t ∈ o.looksAt ops:=by
 unfold Oper.looksAt
 refine List.mem_append_left _ (List.mem_filterMap.2 ⟨.tmp t,by simpa using h,rfl⟩)
theorem jx {ops:Array Oper} {o:Oper} {j t:Nat} {b:Bool} (hg:o.guard = some (j,b)) (ht:(ops[j]?).bind (·.dst) = some t):t ∈ o.looksAt ops:=by
 unfold Oper.looksAt
 rw [hg]
 refine List.mem_append_right _ ?_
 simp only [ht]
 simp
theorem go {d:Nat} {ops:Array Oper} {o:Oper} {b:Bool} (hev:∀ t ∈ o.looksAt ops,RS g d (fr.slots.getD t .any) (a.tmps.getD t undef)) (hsz:a.tmps.size = fr.slots.length) (hg:ao ops fr o = some (.lit (.bool b))):Region.wanted o (yielded ops a.tmps) = b:=by
 unfold ao at hg
 unfold Region.wanted
 cases hgd:o.guard with
 | none=>simp [hgd] at hg; simp [hg]
 | some jw =>
   obtain ⟨j,want⟩:=jw
   simp only [hgd] at hg ⊢
   split at hg
   ·rename_i t ht
    split at hg
    ·rename_i b' hb'
     simp at hg
     have hlt:t < fr.slots.length:=(List.getElem?_eq_some_iff.1 hb').1
     have hlt':t < a.tmps.size:=by rw [hsz]; exact hlt
     have h0:=hev t (jx hgd ht)
     have h1:fr.slots.getD t .any = .lit (.bool b'):=by simp [List.getD,hb']
     rw [h1] at h0
     have h2:=h0.lit_inv.1
     have:yielded ops a.tmps j = some b':=by
      unfold yielded
      rw [ht]
      have h3:a.tmps[t]? = some (a.tmps.getD t undef):=by simp [hlt']
      simp only [Option.bind_some,h3,h2]
     rw [this,← hg]
     cases b' <;> cases want <;> rfl
    ·rename_i cs hb'
     simp at hg
     have hlt:t < fr.slots.length:=(List.getElem?_eq_some_iff.1 hb').1
     have hlt':t < a.tmps.size:=by rw [hsz]; exact hlt
     have h0:=hev t (jx hgd ht)
     have h1:fr.slots.getD t .any = .tup cs:=by simp [List.getD,hb']
     rw [h1] at h0
     obtain ⟨us,h2⟩:=h0.tup_inv
     have:yielded ops a.tmps j = none:=by
      unfold yielded
      rw [ht]
      have h3:a.tmps[t]? = some (a.tmps.getD t undef):=by simp [hlt']
      simp only [Option.bind_some,h3,h2]
     rw [this,hg]
     rfl
    ·cases hg
   ·cases hg
def Gh.cl (g:Gh) (b:Nat) (c:Cls):Gh:={ g with cls:=fun k=>if k = b then some c else g.cls k }
def Gh.lbn (g:Gh) (d s b:Nat):Gh:={ g with lb:=fun d' s'=>if d' = d∧s' = s then some b else g.lb d' s' }
structure Head (P:Program) (m:Bool) (E:Ent) (g:Gh) (w:World) (fr:Fr) (st ρ:St) (SS:Option Nat→St→Prop) (a:Act) (l:List Oper) (n p:Nat) (ks:List PK) (fr0 frn:Fr):Prop where
 ok:Ok m E g w fr st a
 slots:fr0.slots = fr.slots
 locs:∀ s cs,look s fr0.locs = some cs→look s fr.locs = some cs∧∀ (i:Nat) cs',ks[i]?≠some (.store s cs')∧ks[i]?≠some (.new s cs')
 dir:dirL true l.toArray n = true
 consb:nt l.toArray n = true
 dst:∀ o ∈ l.take n,∀ d,o.dst = some d→d < fr.slots.length
 hp:p≤n
 run:PRun P l.toArray ρ SS fr.locs (l.take p) fr0 ks frn
 nm:m = true→∀ (j:Nat) (v:AV) (s:St),ks[j]?≠some (PK.mk v s)
 ks:KsOk ks
def LeH (E:Ent) (st:St) (ks:List PK) (q:GF) (w:World) (q':GF) (w':World):Prop:=LeD E.d E.N ks q w q' w'∧(BoxS st ks q w→BoxS st ks q' w')
def FH (E:Ent) (l:List Oper) (ks:List PK) (i:Nat) (u:Value) (q:GF) (w:World):Prop :=
 match ks[i]? with
 | some k=>FK E.d E.N ks ((l[i]?).bind (·.dst)) i k u q w
 | none=>True
def UH (k:Nat) (q:GF) (_:World):Prop:=q.2 k = false
theorem LeH.of {E:Ent} {st:St} {ks:List PK} {q q':GF} {w w':World} (h:LeD E.d E.N ks q w q' w') (hg:Good q.1 w) (hm:NoMk ks q q'):LeH E st ks q w q' w':=⟨h,fun hb=>hb.leD h hm hg⟩
def LeN (E:Ent) (ks:List PK) (q:GF) (w:World) (q':GF) (w':World):Prop:=LeD E.d E.N ks q w q' w'∧Good q.1 w∧NoMk ks q q'
theorem LeN.of {E:Ent} {ks:List PK} {q q':GF} {w w':World} (h:LeD E.d E.N ks q w q' w') (hg:Good q.1 w) (hm:NoMk ks q q'):LeN E ks q w q' w':=⟨h,hg,hm⟩
theorem LeN.leH {E:Ent} {st:St} {ks:List PK} {q q':GF} {w w':World} (h:LeN E ks q w q' w'):LeH E st ks q w q' w':=.of h.1 h.2.1 h.2.2
theorem eZ {G G':Type} {P:Program} {Le:G→World→G→World→Prop} {Le':G'→World→G'→World→Prop} {o:Oper} {a:Act} {g:G} {g1:G'} {w:World} {f:Value→G→World→Prop} {f':Value→G'→World→Prop} (γ:G→G')
  (h:aQ P Le o a g w f) (hm:∀ u g' w',Le g w g' w'→f u g' w'→Le' g1 w (γ g') w'∧f' u (γ g') w'):aQ P Le' o a g1 w f':=by
 unfold aQ cL at h ⊢
 split at h
 ·obtain ⟨g',h1,h2⟩:=h; exact ⟨γ g',hm _ _ _ h1 h2⟩
 ·obtain ⟨g',h1,h2⟩:=h; exact ⟨γ g',hm _ _ _ h1 h2⟩
 ·exact h.mono fun e w' ⟨u,g',he,h1,h2⟩=>⟨u,γ g',he,hm _ _ _ h1 h2⟩
 ·exact h.elim
variable {l:List Oper} {n:Nat} {ks:List PK} {fr0 frn:Fr}
variable {ρ:St} {SS:Option Nat→St→Prop} {p:Nat}
theorem Head.take (H:Head P m E g w fr st ρ SS a l n p ks fr0 frn) {i:Nat} {o:Oper} (hi:i < p) (ho:l.toArray[i]? = some o):(l.take p)[i]? = some o:=by
 rw [List.getElem?_take,if_pos hi]; simpa using ho
theorem Head.cons (H:Head P m E g w fr st ρ SS a l n p ks fr0 frn):∀ (j k:Nat) (t:Nat) (v:AV) (o:Oper),ks[j]? = some (PK.app t v)→(l.take p)[k]? = some o→o.dst = some t→k < j:=by
 -- an operation that appends looks at its base
 have key:∀ {l':List Oper} {fra:Fr} {ks':List PK} {frb:Fr},PRun P l.toArray ρ SS fr.locs l' fra ks' frb→ks'.length = l'.length∧∀ (j t:Nat) (v:AV),ks'[j]? = some (PK.app t v)→∃ o,l'[j]? = some o∧.tmp t ∈ o.op.operands∧∃ args ts,o.op = .call ⟨.builtin .append,args,ts⟩:=by
  intro l' fra ks' frb hr
  induction hr with
  | nil fr=>exact ⟨rfl,fun j t v h=>by simp at h⟩
  | cons h r ih =>
    rename_i o lr _ _ _ kk ksr
    refine ⟨by simp [ih.1],fun j t v hj=>?_⟩
    cases j with
    | zero =>
      simp at hj
      subst hj
      cases h with
      | app t t2 sx sd k y es v hg ho hd hne hsl hp=>exact ⟨o,by simp,by rw [ho]; simp [Op.operands,Call.operands],_,_,ho⟩
    | succ j =>
      simp at hj
      obtain ⟨o',h1,h2⟩:=ih.2 j t v hj
      exact ⟨o',by simpa using h1,h2⟩
 intro j k t v o hj hk hd
 obtain ⟨hlen,hall⟩:=key H.run
 obtain ⟨oj,hoj,hop,args,ts,hopc⟩:=hall j t v hj
 have hdata:=H.consb
 have hpn:=H.hp
 have hjp:j < p:=by
  have:=(List.getElem?_eq_some_iff.1 hoj).1
  simp at this; omega
 have hjn:j < n:=by omega
 have hkp:k < p:=by
  have:=(List.getElem?_eq_some_iff.1 hk).1
  simp at this; omega
 have hkn:k < n:=by omega
 have h1:=List.all_eq_true.1 hdata j (List.mem_range.2 hjn)
 have e1:l.toArray[j]? = some oj:=by rw [List.getElem?_take,if_pos hjp] at hoj; simpa using hoj
 have e2:l.toArray[k]? = some o:=by rw [List.getElem?_take,if_pos hkp] at hk; simpa using hk
 rw [e1] at h1
 simp only [hopc] at h1
 have h2:=List.all_eq_true.1 (List.all_eq_true.1 h1 t (cM hop)) k (List.mem_range.2 hkn)
 rw [e2] at h2
 simpa [hd] using h2
theorem Head.at (H:Head P m E g w fr st ρ SS a l n p ks fr0 frn):ks.length = (l.take p).length∧(∀ i o,(l.take p)[i]? = some o→∃ kk fri fri',ks[i]? = some kk∧PStep P l.toArray ρ (SS o.dst) fr.locs o fri kk fri'∧Tr (l.take p) ks i fr0 fri)∧Tr (l.take p) ks (l.take p).length fr0 frn:=by
 have:=H.run.at (l:=l.take p) (ks:=ks) (fr0:=fr0) [] [] rfl rfl rfl (Tr.start _ _ _) H.ks.app H.cons
 simpa using this
theorem FK.rs {d N:Nat} {ks:List PK} {dst:Option Tmp} {i:Nat} {k:PK} {u:Value} {q:GF} {w:World} (h:FK d N ks dst i k u q w):RS q.1 d (valK k) u:=by
 cases k with
 | val v=>exact h.1
 | app t v=>exact h.1
 | mk v s=>exact h.2.1
 | skip=>exact RS.of (by rw [show u = undef from h]; exact R.undef _)
 | new s cs=>exact R.any u
 | store s cs=>exact R.any u
 | nst s cs=>exact R.any u
 | hole=>exact R.any u
 | chole f vs=>exact R.any u
theorem Wk.rs {ks:List PK} {i d d':Nat} {v v':AV} {g:Gh} {u:Value} (h:Wk ks i d v v') (hr:RS g d' v u):RS g d' v' u:=by
 rcases h with ⟨rfl,_⟩ | rfl
 ·exact hr
 ·exact hr.dis
theorem Head.slot (H:Head P m E g w fr st ρ SS a l n p ks fr0 frn) {i:Nat} {o:Oper} (hi:i < p) (ho:l.toArray[i]? = some o) {fri:Fr} (htr:Tr (l.take p) ks i fr0 fri) {q:GF} {w':World} {a':Act} (hle:LeD E.d E.N ks (g,fun _=>false) w q w')
  (hs:Seen l.toArray n (FH E l ks) a i o a' q w') {d:Nat} (hd:d ∈ o.looksAt l.toArray) :
  RS q.1 E.d (fri.slots.getD d .any) (a'.tmps.getD d undef)∧((∀ j v'',ks[j]? = some (.app d v'')→q.2 j = false)→∀ k es,fri.slots.getD d .any = .sl true k es→Own q.1 w' E.N (.slot E.d d 0) (.sl true k es) (a'.tmps.getD d undef)):=by
 by_cases hlt:d < fri.slots.length
 case neg =>
  have:fri.slots.getD d .any = .any:=by simp [List.getD,List.getElem?_eq_none (Nat.le_of_not_lt hlt)]
  rw [this]
  exact ⟨R.any _,fun _ k es e=>by cases e⟩
 have h1:fri.slots[d]? = some (fri.slots.getD d .any):=by simp [List.getD,hlt]
 obtain ⟨v,hsrc,hwk⟩:=htr.src d _ h1
 obtain ⟨_,_,hsee⟩:=hs
 obtain ⟨hs1,hs2⟩:=hsee d hd
 rcases hsrc with ⟨k,ok,kk,hki,hok,hkd,hkk,rfl⟩ | ⟨hno,hv0⟩
 ·have hpn:=H.hp
  have hkp:k < p:=by omega
  have hkn:k < n:=by omega
  have hok':l.toArray[k]? = some ok:=by rw [List.getElem?_take,if_pos hkp] at hok; simpa using hok
  have hF:=hs1 k ok hki hkn hok' hkd
  unfold FH at hF
  rw [hkk] at hF
  simp only at hF
  have hkd':(l[k]?).bind (·.dst) = some d:=by
   have hlk:l[k]? = some ok:=by simpa using hok'
   rw [hlk]; exact hkd
  rw [hkd'] at hF
  refine ⟨hwk.rs hF.rs,fun hfl k' es he=>?_⟩
  have hown:∀ (v:AV),kk = .val v∨(∃ t,kk = .app t v)∨(∃ s,kk = .mk v s)→OwnV q.1 w' E.N (Loc.slot E.d d) v (a'.tmps.getD d undef):=by
   rintro v (rfl | ⟨t,rfl⟩ | ⟨s,rfl⟩)
   ·exact hF.2 d rfl hfl
   ·exact hF.2 d rfl hfl
   ·exact hF.2.2 d rfl hfl
  have hR:R q.1 (.sl true k' es) (a'.tmps.getD d undef):=by have:=hwk.rs hF.rs; rw [he] at this; exact this
  rcases hwk with ⟨h2,_⟩ | h2
  ·rw [he] at h2
   have hkk2:∃ v,v = AV.sl true k' es∧(kk = .val v∨(∃ t,kk = .app t v)∨∃ s,kk = .mk v s):=by
    cases kk with
    | val v=>exact ⟨v,h2.symm,.inl rfl⟩
    | app t v=>exact ⟨v,h2.symm,.inr (.inl ⟨t,rfl⟩)⟩
    | mk v s=>exact ⟨v,h2.symm,.inr (.inr ⟨s,rfl⟩)⟩
    | skip=>cases h2
    | new s cs=>cases h2
    | store s cs=>cases h2
    | nst s cs=>cases h2
    | hole=>cases h2
    | chole f vs=>cases h2
   obtain ⟨v,rfl,hv⟩:=hkk2
   exact hown _ hv 0 _ _ rfl (by rw [hR.sl_cells]; rfl)
  ·rw [he] at h2
   cases hvk:valK kk <;> rw [hvk] at h2 <;> simp [AV.dis] at h2
 ·have hno':∀ k ok,k < i→l.toArray[k]? = some ok→ok.dst≠some d:=fun k ok hk hok e=>by
   have hkp:k < p:=by omega
   exact hno k ok hk (by rw [List.getElem?_take,if_pos hkp]; simpa using hok) e
  have hsame:=hs2 hno'
  rw [H.slots] at hv0
  have hlt2:d < a.tmps.size:=by rw [H.ok.size]; exact (List.getElem?_eq_some_iff.1 hv0).1
  have ha:a.tmps[d]? = some (a'.tmps.getD d undef):=by
   rw [← hsame]
   have:a'.tmps[d]? = some a.tmps[d]:=by rw [hsame]; simp [hlt2]
   have hlt3:=(Array.getElem?_eq_some_iff.1 this).1
   simp [hlt3]
  obtain ⟨hr,hown⟩:=H.ok.slots d v _ hv0 ha
  refine ⟨hwk.rs (hr.leD hle (Nat.le_refl _)),fun hfl k' es he=>?_⟩
  have hR:R q.1 (.sl true k' es) (a'.tmps.getD d undef):=by have:=hwk.rs (hr.leD hle (Nat.le_refl _)); rw [he] at this; exact this
  rcases hwk with ⟨h2,_⟩ | h2
  ·rw [he] at h2
   subst h2
   refine (hown 0 _ _ rfl (by rw [hR.sl_cells]; rfl)).leD hle H.ok.ctx.good fun j ht=>?_
   obtain ⟨v',hj⟩:=pw ht
   rw [hfl j v' hj]
  ·rw [he] at h2
   cases v <;> simp [AV.dis] at h2
theorem Head.boxS (H:Head P m E g w fr st ρ SS a l n p ks fr0 frn) {q:GF} {w':World} (hle:LeH E st ks (g,fun _=>false) w q w'):BoxS st ks q w' :=
 hle.2 ⟨fun _=>H.ok.ctx.box,fun _ _ _ _ h=>by cases h⟩
theorem Head.ctx (H:Head P m E g w fr st ρ SS a l n p ks fr0 frn) {i:Nat} {fri:Fr} (htr:Tr (l.take p) ks i fr0 fri) {q:GF} {w':World} (hle:LeD E.d E.N ks (g,fun _=>false) w q w') {s:St} (hb:BoxR q.1 w' s):Ctx q.1 E.d w' E.N fri s:=by
 refine ⟨hle.good H.ok.ctx.good,fun s cs hc=>?_,hb⟩
 rw [htr.locs] at hc
 obtain ⟨h1,h2⟩:=H.locs s cs hc
 refine LocE.leD hle H.ok.ctx.good (fun j ht=>?_) (H.ok.ctx.loc s cs h1)
 obtain ⟨cs',hj | hj⟩:=gn ht
 ·exact (h2 j cs').1 hj
 ·obtain ⟨k,cs0,_,hk0,_⟩:=H.ks.nstn j s cs' hj
  exact (h2 k cs0).2 hk0
theorem noMk_refl {q:GF} {g2:Gh}:NoMk ks q (g2,q.2):=fun _ _ _ _=>rfl
theorem jO {q:GF} {w':World} {g2:Gh} {w2:World} {i:Nat} (hle:LeP q.1 w' g2 w2) (hg:Good q.1 w') (hN:E.N≤w'.heap.size):LeU n (LeN E ks) UH i q w' (g2,q.2) w2 :=
 ⟨LeN.of (hle.leD hg hN) hg noMk_refl,fun _ _ _ h=>h⟩
theorem Head.stepN (H:Head P m E g w fr st ρ SS a l n p ks fr0 frn) (i:Nat) (o:Oper) (hi:i < p) (ho:l.toArray[i]? = some o) (a':Act) (q:GF) (w':World) (hle:LeD E.d E.N ks (g,fun _=>false) w q w') (hbx:∃ s,SS o.dst s∧BoxR q.1 w' s)
  (hs:Seen l.toArray n (FH E l ks) a i o a' q w') (hU:UH i q w') (hW:∀ j f,j < n→aI l.toArray f j i = true→UH j q w') (hreal:∀ k,ks[i]? = some k→k.real = true) :
  (Region.wanted o (yielded l.toArray a'.tmps) = true→aQ P (LeU n (LeN E ks) UH i) o a' q w' (FH E l ks i))∧(Region.wanted o (yielded l.toArray a'.tmps) = false→FH E l ks i undef q w'):=by
 obtain ⟨hlenk,hat,_⟩:=H.at
 obtain ⟨kk,fri,fri',hkk,hps,htr⟩:=hat i o (H.take hi ho)
 have hgood:=hle.good H.ok.ctx.good
 have hN:E.N≤w'.heap.size:=Nat.le_trans H.ok.hN hle.size
 have hslot:=fun d (hd:d ∈ o.looksAt l.toArray)=>H.slot hi ho htr hle hs hd
 have hsz:a'.tmps.size = fri.slots.length:=by rw [hs.2.1,H.ok.size,htr.len,H.slots]
 have hev:∀ x ∈ o.op.operands,RS q.1 E.d (fri.ev x) (a'.eval x):=by
  intro x hx
  cases x with
  | tmp t=>exact (hslot t (cM hx)).1
  | const v =>
    simp only [Fr.ev,Act.eval]
    split
    ·rename_i hf; exact R.lit v hf
    ·exact R.any _
  | global q=>exact R.any _
  | func f=>exact R.fn _ [] [] #[] #[] rfl rfl (fun i x u h=>by simp at h) (fun i x u h=>by simp at h)
 obtain ⟨sq,hss,hbox⟩:=hbx
 have hctx:=H.ctx htr hle hbox
 have hdst:(l[i]?).bind (·.dst) = o.dst:=by
  have hli:l[i]? = some o:=by simpa using ho
  rw [hli]; rfl
 have hFH:∀ u q2 w2,FH E l ks i u q2 w2 = FK E.d E.N ks o.dst i kk u q2 w2:=fun u q2 w2=>by simp only [FH,hkk,hdst]
 have hgw:∀ b,ao l.toArray fri o = some (.lit (.bool b))→Region.wanted o (yielded l.toArray a'.tmps) = b:=fun b hg=>go (fun t ht=>(hslot t ht).1) hsz hg
 -- a value that leaves all alone
 have soft_val:∀ (u:Value) (g2:Gh) (w2:World),(execOp a'.eval o).run P w' = .ok (.value u) w2→LeP q.1 w' g2 w2→FK E.d E.N ks o.dst i kk u (g2,q.2) w2→aQ P (LeU n (LeN E ks) UH i) o a' q w' (FH E l ks i):=by
  intro u g2 w2 hrun hle2 hF
  unfold aQ
  rw [hrun]
  exact ⟨(g2,q.2),jO hle2 hgood hN,by rw [hFH]; exact hF⟩
 cases hps with
 | skip hg =>
   exact ⟨fun e=>(by rw [hgw _ hg] at e; cases e),fun _=>by rw [hFH]; rfl⟩
 | val v hg hp =>
   refine ⟨fun _=>?_,fun e=>by rw [hgw _ hg] at e; cases e⟩
   obtain ⟨v',hv',u,g2,w2,hrun,hle2,hr,hown⟩:=mG (P:=P) hN hctx hev (fun k=>match o.dst with | some s=>Loc.slot E.d s k | none=>Loc.slot E.d 0 k) (Res.wp_of_opt (hp sq hss) (K:=fun x=>x = v) rfl)
   subst hv'
   refine soft_val u g2 w2 hrun hle2 ⟨hr,fun s hs _=>?_⟩
   rw [hs] at hown
   exact hown
 | ld v t s hg hoc hb hp =>
   refine ⟨fun _=>?_,fun e=>by rw [hgw _ hg] at e; cases e⟩
   have hloc:∀ s cs,look s fr.locs = some cs→LocE q.1 E.d w' E.N s cs:=fun s cs hc=>by
    refine LocE.leDw hle H.ok.ctx.good (fun j ht=>?_) (H.ok.ctx.loc s cs hc)
    have hpn:=H.hp
    obtain ⟨oj,hoj,hjn,hst⟩:∃ oj,l.toArray[j]? = some oj∧j < n∧isStB oj.op = true:=by
     obtain ⟨cs',hj⟩:=gn ht
     have hjl:j < (l.take p).length:=by
      rw [← hlenk]
      rcases hj with hj | hj <;> exact (List.getElem?_eq_some_iff.1 hj).1
     have hjp:j < p:=by have:=List.length_take_le p l; omega
     have hoj:(l.take p)[j]? = some (l.take p)[j]:=List.getElem?_eq_getElem hjl
     obtain ⟨kk2,f1,f2,hk2,hps2,_⟩:=hat j _ hoj
     refine ⟨(l.take p)[j],?_,by omega,?_⟩
     ·have hlj:j < l.length:=by rw [List.length_take] at hjl; omega
      simp [hlj]
     ·rcases hj with hj | hj
      ·rw [hj] at hk2; cases hk2
       cases hps2 with
       | store t2 addr x s2 cs0 hg2 ho2 hd2 ha2 hl2 hlen2 hs2 hsz2=>rw [ho2]; rfl
       | storeA t2 addr x s2 o2 cs0 hg2 ho2 hd2 ha2 hl2 hlen2 hs2 hsz2=>rw [ho2]; rfl
      ·rw [hj] at hk2; cases hk2
       cases hps2 with
       | nst t2 x s2 hg2 ho2 hd2 hs2 hsz2=>rw [ho2]; rfl
    unfold ldB at hb
    rw [Bool.and_eq_true] at hb
    have h1:=List.all_eq_true.1 hb.2 i (List.mem_range.2 (Array.getElem?_eq_some_iff.1 ho).1)
    rw [ho] at h1
    simp only [bne_self_eq_false,Bool.false_or] at h1
    have h2:=List.all_eq_true.1 h1 j (List.mem_range.2 (Array.getElem?_eq_some_iff.1 hoj).1)
    rw [hoj] at h2
    simp only [hst,Bool.not_true,Bool.false_or] at h2
    exact (hW j 8 hjn h2).symm
   have hctx':Ctx q.1 E.d w' E.N { fri with locs:=fr.locs } sq:=⟨hgood,hloc,hbox⟩
   have hev':∀ x ∈ o.op.operands,RS q.1 E.d (({ fri with locs:=fr.locs }:Fr).ev x) (a'.eval x):=fun x hx=>by
    have:=hev x hx
    cases x <;> exact this
   obtain ⟨v',hv',u,g2,w2,hrun,hle2,hr,hown⟩:=mG (P:=P) hN hctx' hev' (fun k=>match o.dst with | some s=>Loc.slot E.d s k | none=>Loc.slot E.d 0 k) (Res.wp_of_opt (hp sq hss) (K:=fun x=>x = v) rfl)
   subst hv'
   refine soft_val u g2 w2 hrun hle2 ⟨hr,fun s hs _=>?_⟩
   rw [hs] at hown
   exact hown
 | call v c f vs hg hoc hca hent hp =>
   refine ⟨fun _=>?_,fun e=>by rw [hgw _ hg] at e; cases e⟩
   obtain ⟨us,hrun,hargs⟩:=ii (P:=P) (w:=w') (a:=a') hoc (fun x hx=>hev x (by rw [hoc]; exact hx)) hca hent
   unfold aQ
   rw [hrun]
   refine (hp sq hss q.1 w' us (fun k=>match o.dst with | some s=>Loc.slot E.d s k | none=>Loc.slot E.d 0 k) hgood hctx.box hargs).mono fun e w2 ⟨u,g2,he,hle2,hr,hown⟩=>?_
   refine ⟨u,(g2,q.2),he,jO hle2 hgood hN,?_⟩
   rw [hFH]
   refine ⟨RS.of hr,fun s hs _=>?_⟩
   rw [hs] at hown
   exact fun i c x hc hx=>(hown i c x hc hx).bound hN
 | mk v s hg=>exact absurd (hreal _ hkk) (by simp [PK.real])
 | hole=>exact absurd (hreal _ hkk) (by simp [PK.real])
 | chole c f vs hg _ hc=>exact absurd (hreal _ hkk) (by simp [PK.real])
 | ahole f x y t t2 hg _=>exact absurd (hreal _ hkk) (by simp [PK.real])
 | new t s z hg hoc hd hz =>
   refine ⟨fun _=>?_,fun e=>by rw [hgw _ hg] at e; cases e⟩
   obtain ⟨z',hz',ti,zv,hti,htz,hzr,hzs,hzn⟩:=bC (P:=P) (g:=q.1) (Res.wp_of_opt hz (K:=fun x=>x = z) rfl)
   subst hz'
   obtain ⟨hrl,_⟩:=ba hzs hzr
   have hnw:=bW w' (.cells zv.cells t)
   unfold aQ
   have hrun:(execOp a'.eval o).run P w' = .ok (.value (.pointer (some ⟨w'.heap.size,0,none⟩))) (w'.alloc (.cells zv.cells t)):=by
    simp only [execOp,hoc]
    exact aA (by simp [Instr.alloc,zeroValue,typeInfo,hti,htz,newVar,newRow])
   rw [hrun]
   have hil:=(List.getElem?_eq_some_iff.1 hkk).1
   have hU':q.2 i = false:=hU
   refine ⟨((q.1.cl w'.heap.size (.loc E.d s)).lbn (E.d + 1) s w'.heap.size,fun j=>if j = i then true else q.2 j),⟨LeN.of ⟨rfl,rfl,rfl,by simp,rfl,fun _ _ h=>h,fun _=>rfl,fun d' hd'=>?_,fun k s' cs' hk' hf=>?_,fun _ _ _ h=>h,fun j hj=>?_,fun j hj=>if_neg (by omega),fun b hb _=>⟨hnw.old b hb,rfl,?_⟩,fun b hb=>hnw.old b (Nat.lt_of_lt_of_le hb hgood.base),fun b hb=>⟨hnw.old b (by omega),rfl,?_⟩,fun hg0=>?_,fun b s' hb hc=>?_⟩ hgood (fun j v s' hj=>?_),fun k _ hki h=>?_⟩,?_⟩
   ·funext s'
    have:¬ d' = E.d + 1:=by omega
    simp [Gh.lbn,Gh.cl,this]
   ·have hne:¬ s' = s:=by
     rintro rfl
     have:=H.ks.newu k i s' cs' _ hk' hkk
     subst this
     simp [hU'] at hf
    simp [Gh.lbn,Gh.cl,hne]
   ·simp only; split
    ·rfl
    ·exact hj
   ·have:b≠w'.heap.size:=by omega
    simp [Gh.lbn,Gh.cl,this]
   ·have:b≠w'.heap.size:=by omega
    simp [Gh.lbn,Gh.cl,this]
   ·have:=hnw.good hg0 (g':=q.1.cl w'.heap.size (.loc E.d s)) (c:=.loc E.d s) rfl rfl (fun k=>rfl)
    exact ⟨this.imm,this.immc,this.cls,this.base⟩
   ·have:b≠w'.heap.size:=by omega
    simpa [Gh.lbn,Gh.cl,this] using hc
   ·have:j≠i:=by rintro rfl; rw [hkk] at hj; cases hj
    exact (if_neg this).symm
   ·show (if k = i then true else q.2 k) = false
    rw [if_neg hki]; exact h
   ·rw [hFH]
    exact ⟨w'.heap.size,rfl,hN,by simp [Gh.lbn,Gh.cl],fun _=>⟨zv.cells,t,hnw.new,hrl.1,fun j x u hx hu=>(hrl.2 j x u hx hu).mono (show GhLe q.1 ((q.1.cl w'.heap.size (.loc E.d s)).lbn (E.d + 1) s w'.heap.size) from ⟨fun _ _ _ h=>h,fun _ _ h=>h⟩)⟩,by simp,by simp [Gh.lbn]⟩
 | store t addr x s cs0 hg hoc hd hadr hl hlen hsol hsz' =>
   refine ⟨fun _=>?_,fun e=>by rw [hgw _ hg] at e; cases e⟩
   have hra:=hev addr (by rw [hoc]; simp [Op.operands])
   have hrx:=(hev x (by rw [hoc]; simp [Op.operands])).dis
   rw [hadr] at hra
   obtain ⟨b,hb,hab⟩:=hra
   obtain ⟨hrl,hone⟩:=ba hsol (hrx.r (cW hsol))
   obtain ⟨b0,us,T,h1,hNb,h2,h3,h4,h5⟩:=H.ok.ctx.loc s cs0 hl
   have:b0 = b:=by rw [hle.lb E.d (Nat.le_refl _)] at hb; exact Option.some.inj (h1.symm.trans hb)
   subst this
   obtain ⟨k1,k2,k3⟩:=hle.keep b0 (H.ok.ctx.good.cls b0 _ h2).2 fun j ht=>by
    simp only [h2] at ht
    obtain ⟨cs',hj | hj⟩:=gn ht
    ·have:=H.ks.store i j s _ cs' hkk hj
     subst this
     exact hU.symm
    ·obtain ⟨k,cs0',_,hk0,_⟩:=H.ks.nstn j s cs' hj
     exact (H.ks.new k i s cs0' _ hk0 hkk).elim
   have hrow:w'.heap[b0]? = some (.cells us T (0,0)):=by rw [k1]; exact h3
   have hcls:q.1.cls b0 = some (.loc E.d s):=by rw [k3]; exact h2
   have hsize:(a'.eval x).cells.size = (fri.ev x).dis.cells.length:=by have:=hrl.1; simpa using this
   have hst:=eY (P:=P) (t:=t) (off:=0) (u:=a'.eval x) hrow (by rw [hsz',hsize]) (by omega) hone
   rw [bJ b0 T (0,0) _ 0 w' us hrow] at hst
   have hwr:=dU w' b0 (putC us 0 (a'.eval x).cells.toList)
   have himm:∀ o,q.1.imm b0 o = none:=fun o=>by
    cases h:q.1.imm b0 o with
    | none=>rfl
    | some u=>rcases hgood.immc b0 o u h with h1 | ⟨L,h1⟩ <;> rw [hcls] at h1 <;> cases h1
   unfold aQ
   have hrun:(execOp a'.eval o).run P w' = .ok .skip (w'.setRow b0 (putC us 0 (a'.eval x).cells.toList)):=by
    simp only [execOp,hoc,hab]
    simp [hst]
   rw [hrun]
   have hgood2:Good q.1 (w'.setRow b0 (putC us 0 (a'.eval x).cells.toList)):=(hwr.mv (m:=false) (N:=0) (d:=E.d) hgood hcls (Nat.lt_irrefl _) (fun L e=>by cases e) (fun e=>by cases e)).good
   have hil:=(List.getElem?_eq_some_iff.1 hkk).1
   refine ⟨(q.1,fun j=>if j = i then true else q.2 j),⟨LeN.of ⟨rfl,rfl,rfl,Nat.le_of_eq hwr.size.symm,rfl,fun _ _ h=>h,fun _=>rfl,fun _ _=>rfl,fun _ _ _ _ _=>rfl,fun _ _ _ h=>h,fun j hj=>?_,fun j hj=>if_neg (by omega),fun b hb hT=>⟨hwr.other b ?_,rfl,rfl⟩,fun b hb=>hwr.other b ?_,fun b hb=>⟨hwr.other b ?_,rfl,rfl⟩,fun _=>hgood2,fun _ _ _ hc=>hc⟩ hgood (fun j v s' hj=>?_),fun k _ hki h=>?_⟩,?_⟩
   ·simp only; split
    ·rfl
    ·exact hj
   ·intro e
    subst e
    have:=hT i (by simp [Tch,hkk,hcls])
    have hU':q.2 i = false:=hU
    simp [hU'] at this
   ·intro e; subst e
    have:=(hgood.cls _ _ hcls).1
    omega
   ·intro e; subst e; omega
   ·have:j≠i:=by rintro rfl; rw [hkk] at hj; cases hj
    exact (if_neg this).symm
   ·show (if k = i then true else q.2 k) = false
    rw [if_neg hki]; exact h
   ·rw [hFH]
    refine ⟨by simp,b0,_,T,hb,hNb,hcls,setRow_heap w' b0 us _ T (0,0) hrow,?_,fun j c u hc hu=>?_⟩
    ·simp only [Array.length_toList,dS]; omega
    ·refine hrl.2 j c u hc ?_
     have hjl:=(List.getElem?_eq_some_iff.1 hc).1
     have hjl2:j < us.size:=by omega
     have hu':(putC us 0 (a'.eval x).cells.toList)[j]? = some u:=by simpa using hu
     rw [ei,if_pos ⟨Nat.zero_le _,by simp; omega,hjl2⟩] at hu'
     simpa using hu'
 | storeA t addr x s off cs0 hg hoc hd hadr hl hlen hsol hsz' =>
   refine ⟨fun _=>?_,fun e=>by rw [hgw _ hg] at e; cases e⟩
   have hra:=hev addr (by rw [hoc]; simp [Op.operands])
   have hrx:=(hev x (by rw [hoc]; simp [Op.operands])).dis
   rw [hadr] at hra
   obtain ⟨b,hb,hab⟩:=hra
   obtain ⟨hrl,hone⟩:=ba hsol (hrx.r (cW hsol))
   obtain ⟨b0,us,T,h1,hNb,h2,h3,h4,h5⟩:=H.ok.ctx.loc s cs0 hl
   have:b0 = b:=by rw [hle.lb E.d (Nat.le_refl _)] at hb; exact Option.some.inj (h1.symm.trans hb)
   subst this
   obtain ⟨k1,k2,k3⟩:=hle.keep b0 (H.ok.ctx.good.cls b0 _ h2).2 fun j ht=>by
    simp only [h2] at ht
    obtain ⟨cs',hj | hj⟩:=gn ht
    ·have:=H.ks.store i j s _ cs' hkk hj
     subst this
     exact hU.symm
    ·obtain ⟨k,cs0',_,hk0,_⟩:=H.ks.nstn j s cs' hj
     exact (H.ks.new k i s cs0' _ hk0 hkk).elim
   have hrow:w'.heap[b0]? = some (.cells us T (0,0)):=by rw [k1]; exact h3
   have hcls:q.1.cls b0 = some (.loc E.d s):=by rw [k3]; exact h2
   have hsize:(a'.eval x).cells.size = (fri.ev x).dis.cells.length:=by have:=hrl.1; simpa using this
   have hst:=eY (P:=P) (t:=t) (off:=off) (u:=a'.eval x) hrow (by rw [hsz',hsize]) (by omega) hone
   rw [bJ b0 T (0,0) _ off w' us hrow] at hst
   have hwr:=dU w' b0 (putC us off (a'.eval x).cells.toList)
   have himm:∀ o,q.1.imm b0 o = none:=fun o=>by
    cases h:q.1.imm b0 o with
    | none=>rfl
    | some u=>rcases hgood.immc b0 o u h with h1 | ⟨L,h1⟩ <;> rw [hcls] at h1 <;> cases h1
   unfold aQ
   have hrun:(execOp a'.eval o).run P w' = .ok .skip (w'.setRow b0 (putC us off (a'.eval x).cells.toList)):=by
    simp only [execOp,hoc,hab]
    simp [hst]
   rw [hrun]
   have hgood2:Good q.1 (w'.setRow b0 (putC us off (a'.eval x).cells.toList)):=(hwr.mv (m:=false) (N:=0) (d:=E.d) hgood hcls (Nat.lt_irrefl _) (fun L e=>by cases e) (fun e=>by cases e)).good
   have hil:=(List.getElem?_eq_some_iff.1 hkk).1
   refine ⟨(q.1,fun j=>if j = i then true else q.2 j),⟨LeN.of ⟨rfl,rfl,rfl,Nat.le_of_eq hwr.size.symm,rfl,fun _ _ h=>h,fun _=>rfl,fun _ _=>rfl,fun _ _ _ _ _=>rfl,fun _ _ _ h=>h,fun j hj=>?_,fun j hj=>if_neg (by omega),fun b hb hT=>⟨hwr.other b ?_,rfl,rfl⟩,fun b hb=>hwr.other b ?_,fun b hb=>⟨hwr.other b ?_,rfl,rfl⟩,fun _=>hgood2,fun _ _ _ hc=>hc⟩ hgood (fun j v s' hj=>?_),fun k _ hki h=>?_⟩,?_⟩
   ·simp only; split
    ·rfl
    ·exact hj
   ·intro e
    subst e
    have:=hT i (by simp [Tch,hkk,hcls])
    have hU':q.2 i = false:=hU
    simp [hU'] at this
   ·intro e; subst e
    have:=(hgood.cls _ _ hcls).1
    omega
   ·intro e; subst e; omega
   ·have:j≠i:=by rintro rfl; rw [hkk] at hj; cases hj
    exact (if_neg this).symm
   ·show (if k = i then true else q.2 k) = false
    rw [if_neg hki]; exact h
   ·rw [hFH]
    refine ⟨by simp,b0,_,T,hb,hNb,hcls,setRow_heap w' b0 us _ T (0,0) hrow,?_,fun j c u hc hu=>?_⟩
    ·simp only [Array.length_toList,dS,eJ,List.length_map]; omega
    ·have hjl:=(List.getElem?_eq_some_iff.1 hc).1
     rw [eJ,List.length_map] at hjl
     have hjl2:j < us.size:=by omega
     have hu':(putC us off (a'.eval x).cells.toList)[j]? = some u:=by simpa using hu
     rw [ei] at hu'
     rw [dt,List.length_map] at hc
     have hsz2:(a'.eval x).cells.toList.length = (fri.ev x).dis.cells.length:=by simpa using hsize
     by_cases hin:off≤j∧j < off + (fri.ev x).dis.cells.length
     ·rw [if_pos ⟨hin.1,hin.2,hjl⟩] at hc
      rw [if_pos ⟨hin.1,by omega,hjl2⟩] at hu'
      exact hrl.2 _ c u hc hu'
     ·rw [if_neg (fun q=>hin ⟨q.1,q.2.1⟩)] at hc
      rw [if_neg (fun q=>hin ⟨q.1,by omega⟩)] at hu'
      rw [List.getElem?_map] at hc
      rw [Option.map_eq_some_iff] at hc
      obtain ⟨c0,hc0,rfl⟩:=hc
      exact ((h5 j c0 u hc0 hu').1.mono hle.ghle).own1
 | nst t x s hg hoc hd hsol hsz' =>
   refine ⟨fun _=>?_,fun e=>by rw [hgw _ hg] at e; cases e⟩
   have hrx:=(hev x (by rw [hoc]; simp [Op.operands])).dis
   obtain ⟨hrl,hone⟩:=ba hsol (hrx.r (cW hsol))
   obtain ⟨k0,cs0,hk0i,hk0,hlen0⟩:=H.ks.nstn i s _ hkk
   -- the box that was made
   have hsm:s ∈ o.looksAt l.toArray:=cM (by rw [hoc]; simp [Op.operands])
   obtain ⟨ok,hok⟩:∃ ok,l.toArray[k0]? = some ok:=by
    have:k0 < l.toArray.size:=by
     have:=(Array.getElem?_eq_some_iff.1 ho).1
     omega
    exact ⟨_,Array.getElem?_eq_getElem this⟩
   obtain ⟨kk0,fr00,fr01,e1,e2,_⟩:=hat k0 ok (H.take (by omega) hok)
   rw [hk0] at e1
   cases e1
   have hokd:ok.dst = some s:=by
    cases e2 with
    | new t' s' z' hg' hoc' hd' hz'=>exact hd'
   have hpn:=H.hp
   have hFnew:=(hs.2.2 s hsm).1 k0 ok hk0i (by omega) hok hokd
   unfold FH at hFnew
   rw [hk0] at hFnew
   obtain ⟨b0,hab',hNb,hcls,hcont,hnm⟩:=hFnew
   obtain ⟨us,T,hrow,hrl0⟩:=hcont fun j cs' hj=>by
    have:=H.ks.nst i j s _ cs' hkk hj
    subst this
    exact hU
   obtain ⟨hfl0,hlb0⟩:=hnm
   have hab:a'.eval (.tmp s) = .pointer (some ⟨b0,0,none⟩):=hab'
   have h4:us.size = (fri.ev x).dis.cells.length:=by have:=hrl0.1; simp at this; omega
   have hlen:(fri.ev x).dis.cells.length = (fri.ev x).dis.cells.length:=rfl
   have hsize:(a'.eval x).cells.size = (fri.ev x).dis.cells.length:=by have:=hrl.1; simpa using this
   have hst:=eY (P:=P) (t:=t) (off:=0) (u:=a'.eval x) hrow (by rw [hsz',hsize]) (by omega) hone
   rw [bJ b0 T (0,0) _ 0 w' us hrow] at hst
   have hwr:=dU w' b0 (putC us 0 (a'.eval x).cells.toList)
   have himm:∀ o,q.1.imm b0 o = none:=fun o=>by
    cases h:q.1.imm b0 o with
    | none=>rfl
    | some u=>rcases hgood.immc b0 o u h with h1 | ⟨L,h1⟩ <;> rw [hcls] at h1 <;> cases h1
   unfold aQ
   have hrun:(execOp a'.eval o).run P w' = .ok .skip (w'.setRow b0 (putC us 0 (a'.eval x).cells.toList)):=by
    simp only [execOp,hoc,hab]
    simp [hst]
   rw [hrun]
   have hgood2:Good q.1 (w'.setRow b0 (putC us 0 (a'.eval x).cells.toList)):=(hwr.mv (m:=false) (N:=0) (d:=E.d) hgood hcls (Nat.lt_irrefl _) (fun L e=>by cases e) (fun e=>by cases e)).good
   have hil:=(List.getElem?_eq_some_iff.1 hkk).1
   refine ⟨(q.1,fun j=>if j = i then true else q.2 j),⟨LeN.of ⟨rfl,rfl,rfl,Nat.le_of_eq hwr.size.symm,rfl,fun _ _ h=>h,fun _=>rfl,fun _ _=>rfl,fun _ _ _ _ _=>rfl,fun _ _ _ h=>h,fun j hj=>?_,fun j hj=>if_neg (by omega),fun b hb hT=>⟨hwr.other b ?_,rfl,rfl⟩,fun b hb=>hwr.other b ?_,fun b hb=>⟨hwr.other b ?_,rfl,rfl⟩,fun _=>hgood2,fun _ _ _ hc=>hc⟩ hgood (fun j v s' hj=>?_),fun k _ hki h=>?_⟩,?_⟩
   ·simp only; split
    ·rfl
    ·exact hj
   ·intro e
    subst e
    have:=hT i (by simp [Tch,hkk,hcls])
    have hU':q.2 i = false:=hU
    simp [hU'] at this
   ·intro e; subst e
    have:=(hgood.cls _ _ hcls).1
    omega
   ·intro e; subst e; omega
   ·have:j≠i:=by rintro rfl; rw [hkk] at hj; cases hj
    exact (if_neg this).symm
   ·show (if k = i then true else q.2 k) = false
    rw [if_neg hki]; exact h
   ·rw [hFH]
    refine ⟨by simp,b0,_,T,hlb0,hNb,hcls,setRow_heap w' b0 us _ T (0,0) hrow,⟨?_,fun j c u hc hu=>?_⟩,k0,cs0,hk0,by simp only; split; rfl; exact hfl0⟩
    ·simp only [Array.length_toList,dS]; omega
    ·refine hrl.2 j c u hc ?_
     have hjl:=(List.getElem?_eq_some_iff.1 hc).1
     have hjl2:j < us.size:=by omega
     have hu':(putC us 0 (a'.eval x).cells.toList)[j]? = some u:=by simpa using hu
     rw [ei,if_pos ⟨Nat.zero_le _,by simp; omega,hjl2⟩] at hu'
     simpa using hu'
 | app t t2 sx sd k y es v hg hoc hd hne hsl hp =>
   refine ⟨fun _=>?_,fun e=>by rw [hgw _ hg] at e; cases e⟩
   have hsxm:sx ∈ o.looksAt l.toArray:=cM (by rw [hoc]; simp [Op.operands,Call.operands])
   obtain ⟨hrx,hown⟩:=hslot sx hsxm
   have hox:=hown (fun j v'' hj=>by have:=H.ks.app i j sx _ v'' hkk hj; subst this; exact hU) k es hsl
   rw [hsl] at hrx
   have hry:=hev y (by rw [hoc]; simp [Op.operands,Call.operands])
   obtain ⟨v',hv',u,g2,w2,hrun,hvc,huc,hR,hO,hcase⟩:=app_core (P:=P) (L':=.slot E.d sd 0) (ty:=o.type) hgood hbox hN hrx hox hry (Res.wp_of_opt (hp sq hss) (K:=fun x=>x = v) rfl)
   subst hv'
   have hex:(execOp a'.eval o).run P w' = .ok (.value u) w2:=by
    obtain ⟨dst,op,ty,pos,after,gd⟩:=o
    simp only at hoc hd hrun
    subst hoc
    exact dF (s:=Builtin.append_ #[t,t2] ty #[a'.eval (.tmp sx),a'.eval y]) (fun _=>by simp [builtin]) hrun
   have hF:∀ fl:Nat→Bool,FK E.d E.N ks o.dst i (.app sx v') u (g2,fl) w2:=fun fl=>⟨RS.of hR,fun s hs _ i c x hc hx=>by
    rw [hd] at hs; cases hs
    rw [hvc] at hc
    rw [huc] at hx
    cases i with
    | succ i=>simp at hc
    | zero=>simp at hc hx; subst hc; subst hx; exact hO⟩
   unfold aQ
   rw [hex]
   rcases hcase with hle2 | ⟨b,hNb,hcb,hwr,hgl,hoth,hcb',hbase,hbx,hlb,hgood2⟩
   ·exact ⟨(g2,q.2),jO hle2 hgood hN,by rw [hFH]; exact hF _⟩
   ·have hil:=(List.getElem?_eq_some_iff.1 hkk).1
    refine ⟨(g2,fun j=>if j = i then true else q.2 j),⟨LeN.of ⟨hwr.os,hwr.tape,hwr.output,Nat.le_of_eq hwr.size.symm,hbase,hgl.bx,fun _=>hbx,fun _ _=>by rw [hlb],fun _ _ _ _ _=>by rw [hlb],hgl.imm,fun j hj=>?_,fun j hj=>if_neg (by omega),fun b' hb' hT=>?_,fun b' hb'=>?_,fun b' hb'=>?_,fun _=>hgood2,fun b' s' hb' hc=>?_⟩ hgood (fun j v s' hj=>?_),fun k _ hki h=>?_⟩,by rw [hFH]; exact hF _⟩
    ·simp only; split
     ·rfl
     ·exact hj
    ·have hne':b'≠b:=by
      intro e; subst e
      have:=hT i (by simp [Tch,hkk,hcb])
      have hU':q.2 i = false:=hU
      simp [hU'] at this
     exact ⟨hwr.other b' hne',(hoth b' hne').1,(hoth b' hne').2⟩
    ·refine hwr.other b' ?_
     intro e; subst e
     have:=(hgood.cls _ _ hcb).1
     omega
    ·have hne':b'≠b:=by omega
     exact ⟨hwr.other b' hne',(hoth b' hne').1,(hoth b' hne').2⟩
    ·have hne':b'≠b:=by rintro rfl; rw [hcb] at hc; cases hc
     rw [(hoth b' hne').2]; exact hc
    ·have:j≠i:=by rintro rfl; rw [hkk] at hj; cases hj
     exact (if_neg this).symm
    ·show (if k = i then true else q.2 k) = false
     rw [if_neg hki]; exact h
theorem Head.late (H:Head P m E g w fr st ρ SS a l n p ks fr0 frn) (i:Nat) (o:Oper) (hi:i < p) (ho:l.toArray[i]? = some o) (hlo:nF o.op = true) (hgn:o.guard = none) (a':Act) (q:GF) (w':World) (hle:LeD E.d E.N ks (g,fun _=>false) w q w') (hss:∃ s,SS o.dst s)
  (hs:Seen l.toArray n (FH E l ks) a i o a' q w') (hreal:∀ k,ks[i]? = some k→k.real = true):∃ v,YieldsFenced P l.toArray o v a'∧FH E l ks i v q w':=by
 obtain ⟨_,hat,_⟩:=H.at
 obtain ⟨kk,fri,fri',hkk,hps,htr⟩:=hat i o (H.take hi ho)
 have hslot:=fun d (hd:d ∈ o.looksAt l.toArray)=>H.slot hi ho htr hle hs hd
 have hev:∀ x ∈ o.op.operands,RS q.1 E.d (fri.ev x) (a'.eval x):=by
  intro x hx
  cases x with
  | tmp t=>exact (hslot t (cM hx)).1
  | const v =>
    simp only [Fr.ev,Act.eval]
    split
    ·rename_i hf; exact R.lit v hf
    ·exact R.any _
  | global q=>exact R.any _
  | func f=>exact R.fn _ [] [] #[] #[] rfl rfl (fun i x u h=>by simp at h) (fun i x u h=>by simp at h)
 have hdst:(l[i]?).bind (·.dst) = o.dst:=by
  have hli:l[i]? = some o:=by simpa using ho
  rw [hli]; rfl
 have hFH:∀ u q2 w2,FH E l ks i u q2 w2 = FK E.d E.N ks o.dst i kk u q2 w2:=fun u q2 w2=>by simp only [FH,hkk,hdst]
 have hw:Region.wanted o (yielded l.toArray a'.tmps) = true:=by unfold Region.wanted; rw [hgn]
 have hab:∀ w,Oper.about P w a'.eval o = none:=fun w=>by
  unfold Oper.about
  generalize o.op = op at hlo
  cases op <;> first | rfl | cases hlo
 obtain ⟨sq,hss⟩:=hss
 cases hps with
 | skip hg =>
   exfalso
   unfold ao at hg
   rw [hgn] at hg
   cases hg
 | val v hg hp =>
   have hp:=hp sq hss
   obtain ⟨dst,op,ty,pos,after,guard⟩:=o
   simp only at hlo hev hp hgn hFH hdst hw hab hss ⊢
   cases op with
   | move x =>
     simp only [popR,Res.opt,Option.some.injEq] at hp
     subst hp
     refine ⟨a'.eval x,⟨.inl ⟨hw,fun w=>rfl⟩,hab⟩,?_⟩
     rw [hFH]
     exact ⟨(hev x (by simp [Op.operands])).dis,fun s _ _=>OwnV.dis⟩
   | assign x =>
     simp only [popR,Res.opt,Option.some.injEq] at hp
     subst hp
     refine ⟨a'.eval x,⟨.inl ⟨hw,fun w=>rfl⟩,hab⟩,?_⟩
     rw [hFH]
     exact ⟨(hev x (by simp [Op.operands])).dis,fun s _ _=>OwnV.dis⟩
   | binOp op t x y yt =>
     simp only [popR] at hp
     obtain ⟨v',u,hv,hf,rfl,hr⟩:=pi (P:=P) x y (hev x (by simp [Op.operands])) (hev y (by simp [Op.operands])) (Res.wp_of_opt hp (K:=fun z=>z = v) rfl)
     refine ⟨u,⟨.inl ⟨hw,fun w=>?_⟩,hab⟩,?_⟩
     ·obtain ⟨h1,h2⟩:=hr w
      simp only [execOp]
      exact aA (by rw [Sem.run_bind,h1]; exact h2)
     ·rw [hFH]
      subst hv
      exact ⟨RS.of (R.lit u hf),fun s _ _ i c x hc _=>Own.of_no (ae (v:=.lit u) (fun _ e=>by cases e) trivial i c hc)⟩
   | _=>cases hlo
 | ld v t s hg hoc hb hp=>rw [hoc] at hlo; cases hlo
 | call v c f vs hg hoc hca hent hp=>rw [hoc] at hlo; cases hlo
 | mk v s hg=>exact absurd (hreal _ hkk) (by simp [PK.real])
 | hole=>exact absurd (hreal _ hkk) (by simp [PK.real])
 | chole c f vs hg _ hc=>exact absurd (hreal _ hkk) (by simp [PK.real])
 | ahole f x y t t2 hg _=>exact absurd (hreal _ hkk) (by simp [PK.real])
 | new t s z hg hoc hd hz=>rw [hoc] at hlo; cases hlo
 | store t addr x s cs0 hg hoc hd ha hl hlen hs hsz=>rw [hoc] at hlo; cases hlo
 | storeA t addr x s o2 cs0 hg hoc hd ha hl hlen hs hsz=>rw [hoc] at hlo; cases hlo
 | nst t x s hg hoc hd hs hsz=>rw [hoc] at hlo; cases hlo
 | app t t2 sx sd k y es v hg hoc hd hne hsl hp=>rw [hoc] at hlo; cases hlo
theorem Head.step (H:Head P m E g w fr st ρ SS a l n p ks fr0 frn) (i:Nat) (o:Oper) (hi:i < p) (ho:l.toArray[i]? = some o) (a':Act) (q:GF) (w':World) (hle:LeH E st ks (g,fun _=>false) w q w') (hbx:∃ s,SS o.dst s∧BoxR q.1 w' s)
  (hs:Seen l.toArray n (FH E l ks) a i o a' q w') (hU:UH i q w') (hW:∀ j f,j < n→aI l.toArray f j i = true→UH j q w') (hreal:∀ k,ks[i]? = some k→k.real = true) :
  (Region.wanted o (yielded l.toArray a'.tmps) = true→aQ P (LeU n (LeH E st ks) UH i) o a' q w' (FH E l ks i))∧(Region.wanted o (yielded l.toArray a'.tmps) = false→FH E l ks i undef q w'):=by
 obtain ⟨h1,h2⟩:=H.stepN i o hi ho a' q w' hle.1 hbx hs hU hW hreal
 exact ⟨fun e=>eZ id (h1 e) fun u q' w2 k1 k2=>⟨⟨k1.1.leH,k1.2⟩,k2⟩,h2⟩
end
end Go.Fx
namespace Go.Fx
open Go Go.RowKit Go.Lib
def finS:List PK→Fr→Fr
 | [],fr=>fr
 | .store s cs::r,fr=>finS r (fr.setLoc s cs)
 | _::r,fr=>finS r fr
def bD (s:Nat):List PK→Option (List AV)
 | []=>none
 | .nst t cs::r=>if t = s then some cs else bD s r
 | _::r=>bD s r
def finN (all:List PK):List PK→Fr→Fr
 | [],fr=>fr
 | .new s cs::r,fr=>finN all r (fr.newLoc s ((bD s all).getD cs))
 | _::r,fr=>finN all r fr
theorem py {s:Nat} {cs:List AV}:∀ {l:List PK},bD s l = some cs→∃ j:Nat,l[j]? = some (PK.nst s cs)
 | [],h=>by cases h
 | k :: r, h => by
   have hr:bD s r = some cs→∃ j:Nat,(k::r)[j]? = some (PK.nst s cs):=fun h=>by
    obtain ⟨j,hj⟩:=py h
    exact ⟨j + 1,by simpa using hj⟩
   cases k with
   | nst t cs' =>
     simp only [bD] at h
     split at h
     ·rename_i e; subst e; cases h; exact ⟨0,rfl⟩
     ·exact hr h
   | _=>exact hr h
theorem pz {s:Nat}:∀ {l:List PK},bD s l = none→∀ (j:Nat) (cs:List AV),l[j]?≠some (PK.nst s cs)
 | [],_,j,cs=>by simp
 | k :: r, h, 0, cs => by
   intro e
   simp at e
   subst e
   simp [bD] at h
 | k :: r, h, j + 1, cs => by
   have hr:bD s r = none:=by
    cases k with
    | nst t cs' =>
      simp only [bD] at h
      split at h
      ·cases h
      ·exact h
    | _=>exact h
   intro e
   exact pz hr j cs (by simpa using e)
section
variable {P:Program} {m:Bool} {E:Ent} {g g':Gh} {w w':World} {fr fr':Fr} {st st':St} {a a':Act} {l:List Oper} {n:Nat} {ks:List PK} {fr0 frn:Fr}
theorem Ok.addLoc (h:Ok m E g w fr st a) {s:Nat} {cs:List AV} (he:LocE g E.d w E.N s cs):Ok m E g w (fr.setLoc s cs) st a:=by
 refine h.ch (Mv.refl h.ctx.good) (rD (X:=fun _=>False) (ls:=none) (nl:=none) (bi:=none)) h.size h.defers (fun t v u hv hu=>.inr ⟨hv,hu,fun i c _=>.inl (fun e=>e),fun _ _ _=>by simp⟩) (fun t cs' hc'=>?_)
  (fun id hid=>h.ctx.box.1 id hid) (fun id cs' hc=>.inr ⟨hc,by simp,fun _ _ _=>.inl (fun e=>e)⟩) (fun id bx he _=>.inr ⟨he,by simp⟩) (fun _=>rfl)
 simp only [Fr.setLoc,fP] at hc'
 split at hc'
 ·rename_i e; subst e; cases hc'; exact .inl he
 ·exact .inr ⟨hc',by simp,by simp,fun _ _ _=>.inl (fun e=>e)⟩
def Gh.lbs (g:Gh) (d s b:Nat):Gh:={ g with lb:=fun d' s'=>if d' = d∧s' = s then some b else g.lb d' s' }
theorem lbs_le (g:Gh) (d s b:Nat):GhLe g (g.lbs d s b):=⟨fun _ _ _ h=>h,fun _ _ h=>h⟩
theorem Ok.introL (h:Ok m E g w fr st a) {s b:Nat} {cs:List AV} {us:Array Value} {T:TypeId} (ha:a.tmps.getD s undef = .pointer (some ⟨b,0,none⟩)) (hN:E.N≤b) (hcls:g.cls b = some (.loc E.d s)) (hrow:w.heap[b]? = some (.cells us T (0,0)))
  (hr:RL g cs us.toList) (hn:∀ (i:Nat) (c:AV),cs[i]? = some c→c.noOwn):Ok m E (g.lbs E.d s b) w (fr.newLoc s cs) st a:=by
 have hg:=h.ctx.good
 have hle:GhLe g (g.lbs E.d s b):=⟨fun _ _ _ h=>h,fun _ _ h=>h⟩
 have hch:Ch (fun _=>False) none (some s) none E.d g w (g.lbs E.d s b) w:=by
  refine ⟨hle,fun k c hk _ _ _=>⟨hk,rfl,rfl⟩,fun s' hs=>?_⟩
  have:¬ s' = s:=fun e=>hs (by rw [e])
  simp [Gh.lbs,this]
 have hmv:Mv m E.N E.d g w (g.lbs E.d s b) w:=by
  refine ⟨rfl,rfl,rfl,Nat.le_refl _,rfl,fun _ _=>rfl,fun _ _ _ h=>h,fun _ _ h=>h,fun d' hd=>?_,fun k c hk _=>⟨hk,rfl,rfl⟩,fun _=>⟨fun k hk=>⟨rfl,rfl,rfl⟩,rfl⟩,⟨hg.imm,hg.immc,hg.cls,hg.base⟩⟩
  funext s'
  have:¬ d' = E.d:=by omega
  simp [Gh.lbs,this]
 refine h.ch hmv hch (by simp [Fr.newLoc,h.size]) h.defers (fun t v u hv hu=>?_) (fun t cs' hc=>?_) (fun id hid=>h.ctx.box.1 id hid) (fun id cs hc=>.inr ⟨hc,by simp,fun _ _ _=>.inl (fun e=>e)⟩) (fun id bx he _=>.inr ⟨he,by simp⟩) (fun _=>rfl)
 ·simp only [Fr.newLoc,List.getElem?_set,List.length_map] at hv
  by_cases e:s = t
  ·subst e
   by_cases hl:s < fr.slots.length
   ·simp [hl] at hv
    subst hv
    have hu':a.tmps.getD s undef = u:=by
     have hlt:=(Array.getElem?_eq_some_iff.1 hu).1
     have:=(Array.getElem?_eq_some_iff.1 hu).2
     simp [hlt,this]
    rw [ha] at hu'
    subst hu'
    exact .inl ⟨⟨b,by simp [Gh.lbs],rfl⟩,fun i c x hc _=>Own.of_no (ae (v:=.lptr s 0) (fun _ e=>by cases e) trivial i c hc)⟩
   ·simp [hl] at hv
  ·simp only [e,if_false,List.getElem?_map,Option.map_eq_some_iff] at hv
   obtain ⟨v0,hv0,rfl⟩:=hv
   by_cases hk:∃ o,v0 = .lptr s o
   ·obtain ⟨o,rfl⟩:=hk
    left
    simp only [kill,if_true]
    exact ⟨R.any _,fun i c x hc _=>Own.of_no (ae (v:=.any) (fun _ e=>by cases e) trivial i c hc)⟩
   ·have hkk:kill s v0 = v0:=by
     cases v0 <;> first | rfl | skip
     rename_i t' o
     have:¬ t' = s:=fun e=>hk ⟨o,by rw [e]⟩
     simp [kill,this]
    rw [hkk]
    exact .inr ⟨hv0,hu,fun i c _=>.inl (fun e=>e),fun t' o e=>by intro e2; cases e2; exact hk ⟨o,e⟩⟩
 ·simp only [Fr.newLoc,fP] at hc
  split at hc
  ·rename_i e; subst e; cases hc
   exact .inl ⟨b,us,T,by simp [Gh.lbs],hN,hcls,hrow,by simpa using hr.1,fun i c x hc hx=>⟨(hr.2 i c x hc (by simpa using hx)).mono hle,Own.of_no (hn i c hc)⟩⟩
  ·rename_i e
   exact .inr ⟨hc,by simp,fun e'=>e (by cases e'; rfl),fun _ _ _=>.inl (fun e=>e)⟩
theorem Ok.finS:∀ {ks:List PK} {fr:Fr},Ok m E g w fr st a→(∀ s cs,PK.store s cs ∈ ks→LocE g E.d w E.N s cs)→Ok m E g w (finS ks fr) st a
 | [],_,h,_=>h
 | .store s cs::r,fr,h,hf=>Ok.finS (ks:=r) (h.addLoc (hf s cs (by simp))) fun s' cs' hm=>hf s' cs' (by simp [hm])
 | .val v::r,fr,h,hf=>Ok.finS (ks:=r) h fun s' cs' hm=>hf s' cs' (by simp [hm])
 | .skip::r,fr,h,hf=>Ok.finS (ks:=r) h fun s' cs' hm=>hf s' cs' (by simp [hm])
 | .nst _ _::r,fr,h,hf=>Ok.finS (ks:=r) h fun s' cs' hm=>hf s' cs' (by simp [hm])
 | .new _ _::r,fr,h,hf=>Ok.finS (ks:=r) h fun s' cs' hm=>hf s' cs' (by simp [hm])
 | .app _ _::r,fr,h,hf=>Ok.finS (ks:=r) h fun s' cs' hm=>hf s' cs' (by simp [hm])
 | .mk _ _::r,fr,h,hf=>Ok.finS (ks:=r) h fun s' cs' hm=>hf s' cs' (by simp [hm])
 | .hole::r,fr,h,hf=>Ok.finS (ks:=r) h fun s' cs' hm=>hf s' cs' (by simp [hm])
 | .chole _ _::r,fr,h,hf=>Ok.finS (ks:=r) h fun s' cs' hm=>hf s' cs' (by simp [hm])
def NewE (g:Gh) (d:Nat) (w:World) (N:Nat) (a:Act) (s:Nat) (cs:List AV):Prop :=
 ∃ b us T,a.tmps.getD s undef = .pointer (some ⟨b,0,none⟩)∧N≤b∧g.cls b = some (.loc d s)∧w.heap[b]? = some (.cells us T (0,0))∧RL g cs us.toList∧∀ (i:Nat) (c:AV),cs[i]? = some c→c.noOwn
theorem Ok.finN (all:List PK):∀ {ks:List PK} {g:Gh} {fr:Fr},Ok m E g w fr st a→(∀ s cs,PK.new s cs ∈ ks→NewE g E.d w E.N a s ((bD s all).getD cs))→∃ g',Ok m E g' w (finN all ks fr) st a
 | [],g,_,h,_=>⟨g,h⟩
 | .new s cs :: r, g, fr, h, hf => by
   obtain ⟨b,us,T,h1,h2,h3,h4,h5,h6⟩:=hf s cs (by simp)
   refine Ok.finN all (ks:=r) (h.introL h1 h2 h3 h4 h5 h6) fun s' cs' hm=>?_
   obtain ⟨b',us',T',k1,k2,k3,k4,k5,k6⟩:=hf s' cs' (by simp [hm])
   exact ⟨b',us',T',k1,k2,k3,k4,⟨k5.1,fun i x u hx hu=>(k5.2 i x u hx hu).mono (lbs_le _ _ _ _)⟩,k6⟩
 | .val v::r,g,fr,h,hf=>Ok.finN all (ks:=r) h fun s' cs' hm=>hf s' cs' (by simp [hm])
 | .skip::r,g,fr,h,hf=>Ok.finN all (ks:=r) h fun s' cs' hm=>hf s' cs' (by simp [hm])
 | .store _ _::r,g,fr,h,hf=>Ok.finN all (ks:=r) h fun s' cs' hm=>hf s' cs' (by simp [hm])
 | .nst _ _::r,g,fr,h,hf=>Ok.finN all (ks:=r) h fun s' cs' hm=>hf s' cs' (by simp [hm])
 | .app _ _::r,g,fr,h,hf=>Ok.finN all (ks:=r) h fun s' cs' hm=>hf s' cs' (by simp [hm])
 | .mk _ _::r,g,fr,h,hf=>Ok.finN all (ks:=r) h fun s' cs' hm=>hf s' cs' (by simp [hm])
 | .hole::r,g,fr,h,hf=>Ok.finN all (ks:=r) h fun s' cs' hm=>hf s' cs' (by simp [hm])
 | .chole _ _::r,g,fr,h,hf=>Ok.finN all (ks:=r) h fun s' cs' hm=>hf s' cs' (by simp [hm])
theorem LeD.mv {ks:List PK} {q:GF} {w':World} (h:LeD E.d E.N ks (g,fun _=>false) w q w') (hg:Good g w) (hnm:m = true→∀ (j:Nat) (v:AV) (s:St),ks[j]?≠some (PK.mk v s)):Mv m E.N E.d g w q.1 w':=by
 have hno:∀ j c,ft E.d c→¬ Tch E.d ks j (some c):=by
  intro j c ho ht
  rcases pv ht with ⟨_,_,_,e⟩ | ⟨_,_,_,_,e⟩ | ⟨_,_,_,e⟩
  ·cases e; exact Nat.lt_irrefl _ ho
  ·cases e; exact Nat.lt_irrefl _ ho
  ·exact e c rfl (ho.mono (Nat.le_succ _))
 refine ⟨h.os,h.tape,h.output,h.size,h.base,h.lowb,h.imm,h.ghle.bx,fun d' hd=>h.lb d' (Nat.le_of_lt hd),fun b c hc ho=>?_,fun hm=>⟨h.low,h.bxe fun j v s hj=>absurd hj (hnm hm j v s)⟩,h.good hg⟩
 obtain ⟨k1,k2,k3⟩:=h.keep b (hg.cls b c hc).2 fun j ht=>by
  simp only [hc] at ht
  exact absurd ht (hno j c ho)
 exact ⟨by rw [k3]; exact hc,k1,k2⟩
def stK:List PK→St→St
 | [],st=>st
 | .mk _ s::_,_=>s
 | _::r,st=>stK r st
theorem e6:∀ (ks:List PK) (st:St),(stK ks st = st∧∀ (j:Nat) (v:AV) (s:St),ks[j]?≠some (PK.mk v s))∨∃ (j:Nat) (v:AV),ks[j]? = some (PK.mk v (stK ks st))
 | [],st=>.inl ⟨rfl,fun j v s h=>by simp at h⟩
 | .mk v s::r,st=>.inr ⟨0,v,rfl⟩
 | .val x::r,st=>stK_step (e6 r st) (fun _ _ h=>by cases h)
 | .skip::r,st=>stK_step (e6 r st) (fun _ _ h=>by cases h)
 | .new a b::r,st=>stK_step (e6 r st) (fun _ _ h=>by cases h)
 | .nst a b::r,st=>stK_step (e6 r st) (fun _ _ h=>by cases h)
 | .store a b::r,st=>stK_step (e6 r st) (fun _ _ h=>by cases h)
 | .app a b::r,st=>stK_step (e6 r st) (fun _ _ h=>by cases h)
 | .hole::r,st=>stK_step (e6 r st) (fun _ _ h=>by cases h)
 | .chole a b::r,st=>stK_step (e6 r st) (fun _ _ h=>by cases h)
where
 stK_step {r:List PK} {st x:St} {k:PK} (h:(x = st∧∀ (j:Nat) (v:AV) (s:St),r[j]?≠some (PK.mk v s))∨∃ (j:Nat) (v:AV),r[j]? = some (PK.mk v x)) (hk:∀ v s,k≠.mk v s):(x = st∧∀ (j:Nat) (v:AV) (s:St),(k::r)[j]?≠some (PK.mk v s))∨∃ (j:Nat) (v:AV),(k::r)[j]? = some (PK.mk v x):=by
  rcases h with ⟨h1,h2⟩ | ⟨j,v,h⟩
  ·refine .inl ⟨h1,fun j v s e=>?_⟩
   cases j with
   | zero=>simp at e; exact hk v s e
   | succ j=>exact h2 j v s (by simpa using e)
  ·exact .inr ⟨j + 1,v,by simpa using h⟩
variable {ρ:St} {SS:Option Nat→St→Prop}
theorem Head.fin' (H:Head P m E g w fr st ρ SS a l n n ks fr0 frn) {q:GF} (hle:LeD E.d E.N ks (g,fun _=>false) w q w') {sn:St} (hbox:BoxR q.1 w' sn) (hpn:m = true→sn = st) (hF:Fin l.toArray n (FH E l ks) a a' q w'):∃ g',Ok m E g' w' (finN ks ks (finS ks frn)) sn a':=by
 obtain ⟨hlen,hat,htr⟩:=H.at
 have hgood:=H.ok.ctx.good
 obtain ⟨hd,hsz,hdone,hsame⟩:=hF
 have hnl:(l.take n).length = n:=by
  have hB:=H.dir
  unfold dirL at hB
  simp only [Bool.and_eq_true,decide_eq_true_eq] at hB
  have:=hB.1.1.1.1
  simp at this ⊢; omega
 have hfact:∀ (k:Nat) (o:Oper) (kk:PK),(l.take n)[k]? = some o→ks[k]? = some kk→∃ v,FK E.d E.N ks o.dst k kk v q w'∧∀ d,o.dst = some d→a'.tmps.getD d undef = v:=by
  intro k o kk ho hk
  have hkn:k < n:=by have:=(List.getElem?_eq_some_iff.1 ho).1; omega
  have ho':l[k]? = some o:=by rw [List.getElem?_take,if_pos hkn] at ho; exact ho
  obtain ⟨v,hv,hvd⟩:=hdone k o hkn (by simpa using ho')
  unfold FH at hv
  rw [hk,ho'] at hv
  exact ⟨v,hv,hvd⟩
 have h1:Ok m E q.1 w' frn sn a':=by
  refine ⟨by rw [hsz,H.ok.size,htr.len,H.slots],fun s v' u hv hu=>?_,H.ctx htr hle hbox,hd ▸ H.ok.defers,H.ok.mv.trans (hle.mv hgood H.nm),fun hm=>?_,Nat.le_trans H.ok.hN hle.size,H.ok.hm⟩
  case refine_2=>rw [hpn hm]; exact H.ok.pst hm
  have hu':a'.tmps.getD s undef = u:=by
   have hlt:=(Array.getElem?_eq_some_iff.1 hu).1
   have:=(Array.getElem?_eq_some_iff.1 hu).2
   simp [hlt,this]
  obtain ⟨v,hsrc,hwk⟩:=htr.src s v' hv
  rcases hsrc with ⟨k,o,kk,hki,ho,hkd,hkk,rfl⟩ | ⟨hno,hv0⟩
  ·obtain ⟨u',hFk,hud⟩:=hfact k o kk ho hkk
   have:u' = u:=(hud s hkd).symm.trans hu'
   subst this
   refine ⟨hwk.rs hFk.rs,?_⟩
   rcases hwk with ⟨rfl,hnc⟩ | rfl
   ·have hnc':∀ j v'',ks[j]? = some (PK.app s v'')→q.2 j = false:=fun j v'' hj=>by
     have hjl:=(List.getElem?_eq_some_iff.1 hj).1
     exact absurd hj (hnc j v'' (by omega))
    cases kk with
    | val v=>exact hFk.2 s hkd hnc'
    | app t v=>exact hFk.2 s hkd hnc'
    | mk v s'=>exact hFk.2.2 s hkd hnc'
    | skip=>exact fun i c x hc _=>Own.of_no (ae (v:=.tup []) (fun _ e=>by cases e) trivial i c hc)
    | new _ _=>exact fun i c x hc _=>Own.of_no (ae (v:=.any) (fun _ e=>by cases e) trivial i c hc)
    | store _ _=>exact fun i c x hc _=>Own.of_no (ae (v:=.any) (fun _ e=>by cases e) trivial i c hc)
    | nst _ _=>exact fun i c x hc _=>Own.of_no (ae (v:=.any) (fun _ e=>by cases e) trivial i c hc)
    | hole=>exact fun i c x hc _=>Own.of_no (ae (v:=.any) (fun _ e=>by cases e) trivial i c hc)
    | chole _ _=>exact fun i c x hc _=>Own.of_no (ae (v:=.any) (fun _ e=>by cases e) trivial i c hc)
   ·exact OwnV.dis
  ·have hs0:a'.tmps[s]? = a.tmps[s]?:=hsame s fun k ok hk hok=>hno k ok (by omega) (by rw [List.getElem?_take,if_pos hk]; simpa using hok)
   rw [H.slots] at hv0
   rw [hs0] at hu
   obtain ⟨hr,hown⟩:=H.ok.slots s v u hv0 hu
   refine ⟨hwk.rs (hr.leD hle (Nat.le_refl _)),?_⟩
   rcases hwk with ⟨rfl,hnc⟩ | rfl
   ·refine fun i c x hc hx=>(hown i c x hc hx).leD hle hgood fun j ht=>?_
    obtain ⟨v'',hj⟩:=pw ht
    have hjl:=(List.getElem?_eq_some_iff.1 hj).1
    exact absurd hj (hnc j v'' (by omega))
   ·exact OwnV.dis
 refine Ok.finN ks (ks:=ks) (Ok.finS (ks:=ks) h1 fun s cs hm=>?_) fun s cs hm=>?_
 ·obtain ⟨k,hk⟩:=List.mem_iff_getElem?.1 hm
  have hkl:=(List.getElem?_eq_some_iff.1 hk).1
  have ho:(l.take n)[k]? = some (l.take n)[k]:=List.getElem?_eq_getElem (by omega)
  obtain ⟨kk,fri,fri',e1,e2,_⟩:=hat k _ ho
  rw [hk] at e1
  cases e1
  obtain ⟨v,⟨_,b,us,T,f1,fN,f2,f3,f4⟩,_⟩:=hfact k _ _ ho hk
  refine ⟨b,us,T,f1,fN,f2,f3,by have:=f4.1; simpa using this,fun i c x hc hx=>⟨f4.2 i c x hc (by simpa using hx),Own.of_no ?_⟩⟩
  cases e2 with
  | store t addr x s cs0 hg hoc hd ha hl hlen' hs hsz'=>exact aq _ i c hc
  | storeA t addr x s off cs0 hg hoc hd ha hl hlen' hs hsz' =>
    rw [dt] at hc
    split at hc
    ·exact aq _ _ c hc
    ·rw [List.getElem?_map] at hc
     rw [Option.map_eq_some_iff] at hc
     obtain ⟨c0,_,rfl⟩:=hc
     exact jL c0
 ·obtain ⟨k,hk⟩:=List.mem_iff_getElem?.1 hm
  have hkl:=(List.getElem?_eq_some_iff.1 hk).1
  have ho:(l.take n)[k]? = some (l.take n)[k]:=List.getElem?_eq_getElem (by omega)
  obtain ⟨kk,fri,fri',e1,e2,_⟩:=hat k _ ho
  rw [hk] at e1
  cases e1
  obtain ⟨v,⟨b,f1,fN,f2,f3,f4⟩,hvd⟩:=hfact k _ _ ho hk
  cases e2 with
  | new t s z hg hoc hd hz =>
    obtain ⟨z',hz',_,_,_,_,_,_,hzn⟩:=bC (P:=P) (g:=g) (Res.wp_of_opt hz (K:=fun x=>x = z) rfl)
    subst hz'
    cases hns:bD s ks with
    | none =>
      obtain ⟨us,T,f5,f6⟩:=f3 fun j cs' hj=>absurd hj (pz hns j cs')
      exact ⟨b,us,T,by rw [hvd s hd]; exact f1,fN,f2,f5,f6,hzn⟩
    | some cs' =>
      obtain ⟨j,hj⟩:=py hns
      have hjl:=(List.getElem?_eq_some_iff.1 hj).1
      have hoj:(l.take n)[j]? = some (l.take n)[j]:=List.getElem?_eq_getElem (by omega)
      obtain ⟨kk2,fr2,fr2',e4,e5,_⟩:=hat j _ hoj
      rw [hj] at e4
      cases e4
      obtain ⟨v2,⟨_,b2,us,T,g1,gN,g2,g3,g4,_⟩,_⟩:=hfact j _ _ hoj hj
      have hbb:b2 = b:=Option.some.inj (g1.symm.trans f4.2)
      subst hbb
      refine ⟨b2,us,T,by rw [hvd s hd]; exact f1,fN,f2,g3,g4,?_⟩
      cases e5 with
      | nst t x s hg hoc hd hs hsz'=>exact aq _
theorem Head.fin (H:Head P m E g w fr st ρ SS a l n n ks fr0 frn) {q:GF} (hle:LeH E st ks (g,fun _=>false) w q w') (hF:Fin l.toArray n (FH E l ks) a a' q w'):∃ g',Ok m E g' w' (finN ks ks (finS ks frn)) (stK ks st) a':=by
 refine H.fin' hle.1 ?_ (fun hm=>?_) hF
 ·have hb:=H.boxS hle
  rcases e6 ks st with ⟨e,hno⟩ | ⟨j,v,hj⟩
  ·rw [e]; exact hb.1 fun j v s h=>absurd h (hno j v s)
  ·refine hb.2 j v _ hj ?_
   obtain ⟨hlen,_,_⟩:=H.at
   have hnl:(l.take n).length = n:=by
    have hB:=H.dir
    unfold dirL at hB
    simp only [Bool.and_eq_true,decide_eq_true_eq] at hB
    have:=hB.1.1.1.1
    simp at this ⊢; omega
   have hjl:=(List.getElem?_eq_some_iff.1 hj).1
   have ho:(l.take n)[j]? = some (l.take n)[j]:=List.getElem?_eq_getElem (by omega)
   have hjn:j < n:=by omega
   have ho':l[j]? = some (l.take n)[j]:=by rw [List.getElem?_take,if_pos hjn] at ho; exact ho
   obtain ⟨u,hu,_⟩:=hF.2.2.1 j (l.take n)[j] hjn (by rw [List.getElem?_toArray]; exact ho')
   unfold FH at hu
   rw [hj] at hu
   exact hu.1
 ·rcases e6 ks st with ⟨e,_⟩ | ⟨j,v,hj⟩
  ·exact e
  ·exact absurd hj (H.nm hm j v _)
theorem mI {E:Ent} {st:St} {ks:List PK} (g:Gh) (w:World):LeH E st ks (g,fun _=>false) w (g,fun _=>false) { w with drawn:=w.drawn + 1 }:=by
 have h:LeD E.d E.N ks (g,fun _=>false) w (g,fun _=>false) { w with drawn:=w.drawn + 1 } :=
  ⟨rfl,rfl,rfl,Nat.le_refl _,rfl,fun _ _ h=>h,fun _=>rfl,fun _ _=>rfl,fun _ _ _ _ _=>rfl,fun _ _ _ h=>h,fun _ h=>h,fun _ _=>rfl,fun _ _ _=>⟨rfl,rfl,rfl⟩,fun _ _=>rfl,fun _ _=>⟨rfl,rfl,rfl⟩,fun h=>⟨h.imm,h.immc,h.cls,h.base⟩,fun _ _ _ h=>h⟩
 exact ⟨h,fun hb=>⟨fun hf=>by
  obtain ⟨h1,h2,h3⟩:=hb.1 hf
  exact ⟨h1,h2,h3⟩,fun _ _ _ _ e=>by cases e⟩⟩
theorem LeH.trans {E:Ent} {st:St} {ks:List PK} {a b c:GF} {wa wb wc:World} (h:LeH E st ks a wa b wb) (k:LeH E st ks b wb c wc):LeH E st ks a wa c wc:=⟨h.1.trans k.1,fun hb=>k.2 (h.2 hb)⟩
theorem head_sound {rd:Option Nat} {Q:Exit→Act→World→Prop} (H:Head P m E g w fr st ρ SS a l n n ks fr0 frn) (hst:∀ d,SS d st) (hno:∀ (j:Nat) (k:PK),ks[j]? = some k→k.real = true) (hQp:∀ c a w,¬ Q (.panic c) a w)
  (hfin:∀ g' w' a',Ok m E g' w' (Fx.finN ks ks (Fx.finS ks frn)) (stK ks st) a'→wpListIn (FW rd) 0 P l.toArray Q (l.drop n) a' w'):cF rd P Q l.toArray a w:=by
 obtain ⟨hlen,hat,_⟩:=H.at
 refine fI (n:=n) (Le:=LeH E st ks) (g0:=(g,fun _=>false)) (F:=FH E l ks) (U:=UH) (a0:=a) (fun k v q w1 q' w2 h1 h2 hF=>?_) (fun _ _ _ _ _ _ h k=>h.trans k) (mI g w) (lt:=true) H.dir (fun k o d hk ho hd=>?_) (fun _ i o hi ho hlo hg a' q w' hle hs _=>H.late i o hi ho hlo hg a' q w' hle.1 ⟨st,hst _⟩ hs fun k hk=>hno i k hk) (fun _=>hQp) (fun _ _=>rfl) (fun i o hi ho a' q w' hle hs hU hW _=>H.step i o hi ho a' q w' hle ⟨st,hst _,(H.boxS hle).1 fun j v s hj=>absurd (hno j _ hj) (by simp [PK.real])⟩ hs hU hW (hno i)) (fun a' q w' hle hF=>?_)
 ·unfold FH at hF ⊢
  split
  ·rename_i kk hkk
   rw [hkk] at hF
   exact hF.stable hkk H.ks h2.1 (h1.1.good H.ok.ctx.good)
  ·trivial
 ·rw [H.ok.size]
  exact H.dst o (List.mem_of_getElem? (H.take hk ho)) d hd
 ·obtain ⟨g',hok⟩:=H.fin hle hF
  exact hfin g' w' a' hok
end
end Go.Fx
namespace Go.Fx
open Go Go.RowKit Go.Lib
def PK.plain:PK→Bool
 | .mk _ _=>false
 | _=>true
section
variable {P:Program} {m:Bool} {E:Ent} {g:Gh} {w:World} {fr:Fr} {st ρ:St} {SS:Option Nat→St→Prop} {a:Act} {l:List Oper} {n κ:Nat} {ks0:List PK} {fr0 fr1:Fr}
theorem plain_tch {d:Nat} {ks1:List PK} (hc:∀ (i:Nat) (k:PK),ks0[i]? = some k→k.real = true→ks1[i]? = some k) (hp:∀ (i:Nat) (k:PK),ks0[i]? = some k→k.plain = true) (j:Nat) (c:Option Cls) (h:Tch d ks0 j c):Tch d ks1 j c:=by
 unfold Tch at h
 split at h
 ·rename_i e; unfold Tch; rw [hc _ _ e rfl]; exact h
 ·rename_i e; unfold Tch; rw [hc _ _ e rfl]; exact h
 ·rename_i e; unfold Tch; rw [hc _ _ e rfl]; exact h
 ·rename_i e; have:=hp _ _ e; cases this
 ·exact h.elim
def kO (ks0:List PK) (ksω:AV→St→List PK):Option (AV×St)→List PK
 | none=>ks0
 | some (v,s)=>ksω v s
theorem LeD.weak {d N:Nat} {ks ks':List PK} {q q':GF} {w w':World} (hT:∀ j c,Tch d ks j c→Tch d ks' j c) (hl:ks.length≤ks'.length) (hno:∀ (j:Nat) (v:AV) (s:St),ks[j]?≠some (PK.mk v s)) (hnn:∀ (j s:Nat) (cs:List AV),ks'[j]? = some (PK.new s cs)→ks[j]? = some (PK.new s cs)) (h:LeD d N ks q w q' w'):LeD d N ks' q w q' w' :=
 ⟨h.os,h.tape,h.output,h.size,h.base,h.bx,fun _=>h.bxe fun j v s hj=>absurd hj (hno j v s),h.lb,fun k s cs hk=>h.lbn k s cs (hnn k s cs hk),h.imm,h.fl,fun j hj=>h.fe j (by omega),fun b hb hq=>h.keep b hb fun j ht=>hq j (hT j _ ht),h.lowb,h.low,h.good,h.cll⟩
abbrev GM:=GF×Option (AV×St)
def ApR (P:Program) (d n:Nat) (st:St) (Qc:AV→St→Prop) (vs:List AV) (o:Oper):Prop :=
 ∀ (x y:Operand) (t t2:TypeId),o.op = .call ⟨.builtin .append,#[x,y],#[t,t2]⟩→∀ (xv yv:AV),vs = [xv,yv]→(x = y→xv = yv)→((∀ s,x≠.tmp s)→∀ fr:Fr,fr.ev x = xv)→((∀ s,y≠.tmp s)→∀ fr:Fr,fr.ev y = yv)→∀ (g1:Gh) (w1:World) (a1:Act),a1.tmps.size = n→Good g1 w1→BoxR g1 w1 st→RS g1 d xv (a1.eval x)→RS g1 d yv (a1.eval y) →
  ∃ u v st' g2 w2,(execOp a1.eval o).run P w1 = .ok (.value u) w2∧Qc v st'∧Mv false 0 (d + 2) g1 w1 g2 w2∧BoxR g2 w2 st'∧R g2 v u∧∀ mk:Nat→Loc,OwnV g2 w2 0 mk v u
theorem ij {rd:Option Nat} {Q:Exit→Act→World→Prop} (ksω:AV→St→List PK) (frn:AV→St→Fr) {Qc:AV→St→Prop} {f:FuncId} {vs:List AV}
  (hmf:m = false) (hstrict:dirB l.toArray n = true) (hκ:κ < n) (H0:Head P m E g w fr st ρ SS a l n n ks0 fr0 fr1) (hκ0:ks0[κ]? = some (.chole f vs)) (hplain:∀ (i:Nat) (k:PK),ks0[i]? = some k→k.plain = true)
  (hchole:∀ (i:Nat) (k:PK),ks0[i]? = some k→i≠κ→k≠.hole→k.real = true)
  (hhole:∀ i,ks0[i]? = some .hole→aI l.toArray n i κ = true) (hA:∀ oi c,l.toArray[κ]? = some oi→oi.op = .call c→(∀ b,c.callee≠.builtin b)→bt P f = true∧aX P f vs st Qc) (hAp:∀ oi,l.toArray[κ]? = some oi→ApR P E.d fr.slots.length st Qc vs oi)
  (past:Nat→Bool) (hst0:∀ d,SS d st) (hpast:∀ i,past i = true→i < n∧aI l.toArray n κ i = true∧∃ oi,l.toArray[i]? = some oi∧oi.guard = none)
  (Hω:∀ v s,Qc v s→∃ SS,Head P m E g w fr st ρ SS a l n n (ksω v s) fr0 (frn v s)∧∀ i oi,i < n→l.toArray[i]? = some oi→i≠κ→past i = false→SS oi.dst s) (hκω:∀ v s,Qc v s→(ksω v s)[κ]? = some (.mk v s))
  (hreal:∀ v s,Qc v s→∀ (i:Nat) (k:PK),i≠κ→(ksω v s)[i]? = some k→k.real = true) (hcomp:∀ v s,Qc v s→∀ (i:Nat) (k:PK),i≠κ→ks0[i]? = some k→k≠.hole→(ksω v s)[i]? = some k)
  (hnonew:∀ v s,Qc v s→∀ (j s':Nat) (cs:List AV),(ksω v s)[j]? = some (PK.new s' cs)→ks0[j]? = some (PK.new s' cs))
  (hfin:∀ v s,Qc v s→∀ g' w' a',Ok m E g' w' (Fx.finN (ksω v s) (ksω v s) (Fx.finS (ksω v s) (frn v s))) s a'→wpListIn (FW rd) 0 P l.toArray Q (l.drop n) a' w'):cF rd P Q l.toArray a w:=by
 have hgood0:=H0.ok.ctx.good
 obtain ⟨hlen0,hat0,_⟩:=H0.at
 have hno0:∀ (j:Nat) (v:AV) (s:St),ks0[j]?≠some (PK.mk v s):=fun j v s h=>by have:=hplain _ _ h; cases this
 have hT0:∀ v s,Qc v s→∀ j c,Tch E.d ks0 j c→Tch E.d (ksω v s) j c:=fun v s hq=>plain_tch (fun i k hk hr=>hcomp v s hq i k (fun e=>by rw [e,hκ0] at hk; cases hk; cases hr) hk (fun e=>by subst e; cases hr)) hplain
 have huniq:∀ v s,Qc v s→∀ (j:Nat) (v':AV) (s':St),(ksω v s)[j]? = some (PK.mk v' s')→j = κ∧v' = v∧s' = s:=by
  intro v s hq j v' s' h
  by_cases e:j = κ
  ·subst e
   rw [hκω v s hq] at h; cases h
   exact ⟨rfl,rfl,rfl⟩
  ·have:=hreal v s hq j _ e h; cases this
 -- the relation, the facts
 let Le:GM→World→GM→World→Prop:=fun q w q' w' =>
  LeH E st (kO ks0 ksω q'.2) q.1 w q'.1 w'∧(∀ ω,q.2 = some ω→q'.2 = some ω)∧(∀ ω,q'.2 = some ω→Qc ω.1 ω.2)∧((q.1.2 κ = true↔q.2≠none)→(q'.1.2 κ = true↔q'.2≠none))∧Good q.1.1 w∧(q.2 = q'.2→q.1.2 κ = q'.1.2 κ)
 let F:Nat→Value→GM→World→Prop:=fun k u q w=>FH E l (kO ks0 ksω q.2) k u q.1 w∧((k = κ∨aI l.toArray n k κ = true)→q.2≠none)
 let U:Nat→GM→World→Prop:=fun k q w=>UH k q.1 w
 have weak:∀ (ω:AV×St) (q q':GF) (w w':World),Qc ω.1 ω.2→Good q.1 w→q.2 κ = q'.2 κ→LeH E st ks0 q w q' w'→LeH E st (kO ks0 ksω (some ω)) q w q' w':=by
  intro ω q q' w w' hω hg hfl h
  obtain ⟨v0,s0⟩:=ω
  obtain ⟨hlenω,_,_⟩:=(Hω v0 s0 hω).choose_spec.1.at
  have h1:LeD E.d E.N (ksω v0 s0) q w q' w':=h.1.weak (hT0 _ _ hω) (by omega) hno0 (hnonew _ _ hω)
  refine .of h1 hg fun j v s hj=>?_
  obtain ⟨rfl,_,_⟩:=huniq v0 s0 hω j v s hj
  exact hfl
 have hsync:∀ (q:GM) (w':World),Le ((g,fun _=>false),none) w q w'→(q.1.2 κ = true↔q.2≠none):=fun q w' h=>h.2.2.2.1 (Iff.intro (fun e=>by cases e) (fun e=>absurd rfl e))
 have hgoodq:∀ (q:GM) (w':World),Le ((g,fun _=>false),none) w q w'→Good q.1.1 w':=fun q w' h=>h.1.1.good hgood0
 have fweak:∀ (ω:AV×St) (k:Nat) (u:Value) (q:GF) (w:World),Qc ω.1 ω.2→k≠κ→ks0[k]?≠some .hole→FH E l ks0 k u q w→FH E l (kO ks0 ksω (some ω)) k u q w:=by
  intro ω k u q w hω hk hnh h
  obtain ⟨v0,s0⟩:=ω
  obtain ⟨hlenω,_,_⟩:=(Hω v0 s0 hω).choose_spec.1.at
  unfold FH at h ⊢
  simp only [kO]
  cases hk0:ks0[k]? with
  | none =>
    have:(ksω v0 s0)[k]? = none:=by
     rw [List.getElem?_eq_none_iff] at hk0 ⊢; omega
    rw [this]
    trivial
  | some kk =>
    have hne:kk≠.hole:=fun e=>hnh (by rw [hk0,e])
    rw [hcomp v0 s0 hω k kk hk hk0 hne]
    rw [hk0] at h
    simp only at h ⊢
    have hp:=hplain _ _ hk0
    have hr:=hchole _ _ hk0 hk hne
    have hup:∀ (i:Nat) (k:PK),ks0[i]? = some k→k.real = true→(ksω v0 s0)[i]? = some k:=fun i k hk hr=>hcomp v0 s0 hω i k (fun e=>by rw [e,hκ0] at hk; cases hk; cases hr) hk (fun e=>by subst e; cases hr)
    cases kk with
    | val v=>exact ⟨h.1,fun s hs hq=>h.2 s hs fun j v' hj=>hq j v' (hup j _ hj rfl)⟩
    | app t v=>exact ⟨h.1,fun s hs hq=>h.2 s hs fun j v' hj=>hq j v' (hup j _ hj rfl)⟩
    | skip=>exact h
    | hole=>exact absurd rfl hne
    | chole f vs=>cases hr
    | new s cs =>
      obtain ⟨b,h1,h2,h3,h4,h5⟩:=h
      exact ⟨b,h1,h2,h3,fun hq=>h4 fun j cs' hj=>hq j cs' (hup j _ hj rfl),h5⟩
    | store s cs=>exact h
    | nst s cs =>
      obtain ⟨h1,b,us,T,h2,h3,h4,h5,h6,k',cs0,h7,h8⟩:=h
      exact ⟨h1,b,us,T,h2,h3,h4,h5,h6,k',cs0,hup k' _ h7 rfl,h8⟩
    | mk v s=>cases hp
 have hstay:∀ (k:Nat) (v:Value) (q:GM) (w1:World) (q':GM) (w2:World),Le ((g,fun _=>false),none) w q w1→Le q w1 q' w2→F k v q w1→F k v q' w2:=by
  intro k v q w1 q' w2 h1 h2 hF
  have hg1:=hgoodq q w1 h1
  refine ⟨?_,fun hk=>?_⟩
  ·cases hq:q.2 with
   | some ω =>
     obtain ⟨v0,s0⟩:=ω
     have hq':=h2.2.1 _ hq
     have hQ:=h2.2.2.1 _ hq'
     have h3:=h2.1
     have h4:=hF.1
     rw [hq] at h4
     rw [hq'] at h3 ⊢
     unfold FH at h4 ⊢
     split
     ·rename_i kk hkk
      rw [hkk] at h4
      exact h4.stable hkk (Hω v0 s0 hQ).choose_spec.1.ks h3.1 hg1
     ·trivial
   | none =>
     have h4:=hF.1
     rw [hq] at h4
     have hkκ:k≠κ:=fun e=>hF.2 (.inl e) hq
     have hnh:ks0[k]?≠some .hole:=fun e=>hF.2 (.inr (hhole k e)) hq
     cases hq':q'.2 with
     | none =>
       have h3:=h2.1
       rw [hq'] at h3
       unfold FH at h4 ⊢
       split
       ·rename_i kk hkk
        rw [hkk] at h4
        exact h4.stable hkk H0.ks h3.1 hg1
       ·trivial
     | some ω =>
       obtain ⟨v0,s0⟩:=ω
       have hQ:=h2.2.2.1 _ hq'
       have h3:=h2.1
       have h5:=fweak (v0,s0) k v q.1 w1 hQ hkκ hnh h4
       rw [hq'] at h3
       unfold FH at h5 ⊢
       split
       ·rename_i kk hkk
        rw [hkk] at h5
        exact h5.stable hkk (Hω v0 s0 hQ).choose_spec.1.ks h3.1 hg1
       ·trivial
  ·intro e
   cases hq:q.2 with
   | none=>exact hF.2 hk hq
   | some ω=>rw [h2.2.1 _ hq] at e; cases e
 have htrn:∀ (x:GM) (wx:World) (y:GM) (wy:World) (z:GM) (wz:World),Le x wx y wy→Le y wy z wz→Le x wx z wz:=by
  intro x wx y wy z wz h k
  refine ⟨?_,fun ω e=>k.2.1 ω (h.2.1 ω e),k.2.2.1,fun e=>k.2.2.2.1 (h.2.2.2.1 e),h.2.2.2.2.1,fun e=>?_⟩
  ·refine LeH.trans ?_ k.1
   have h1:=h.1
   cases hy:y.2 with
   | some ω=>rw [hy] at h1; rw [k.2.1 ω hy]; exact h1
   | none =>
     rw [hy] at h1
     cases hz:z.2 with
     | none=>exact h1
     | some ω =>
       have hx:x.2 = y.2:=by
        cases hx:x.2 with
        | none=>exact hy.symm
        | some ω'=>rw [h.2.1 _ hx] at hy; cases hy
       exact weak ω x.1 y.1 wx wy (k.2.2.1 _ hz) h.2.2.2.2.1 (h.2.2.2.2.2 hx) h1
  ·have hx:x.2 = y.2:=by
    cases hx:x.2 with
    | none =>
      cases hy:y.2 with
      | none=>rfl
      | some ω=>rw [k.2.1 _ hy,hx] at e; cases e
    | some ω=>rw [h.2.1 _ hx]
   exact (h.2.2.2.2.2 hx).trans (k.2.2.2.2.2 (hx ▸ e))
 have hstp:∀ i oi,i < n→l.toArray[i]? = some oi→∀ (a':Act) (q:GM) (w':World),Le ((g,fun _=>false),none) w q w'→Seen l.toArray n F a i oi a' q w'→U i q w'→(∀ j f,j < n→aI l.toArray f j i = true→U j q w') →
   (∀ k ok,k < n→l.toArray[k]? = some ok→aI l.toArray n i k = true→∃ v,F k v q w')→(q.2≠none→past i = false) →
   (Region.wanted oi (yielded l.toArray a'.tmps) = true→aQ P (LeU n Le U i) oi a' q w' (F i))∧(Region.wanted oi (yielded l.toArray a'.tmps) = false→F i undef q w'):=by
  intro i oi hi hoi a' q w' hle hs hU hW hw hnp
  have hgq:=hgoodq q w' hle
  have hsy:=hsync q w' hle
  cases hq:q.2 with
  | some ω =>
    obtain ⟨v0,s0⟩:=ω
    have hQ:=hle.2.2.1 _ hq
    have hfl:q.1.2 κ = true:=hsy.2 (by rw [hq]; simp)
    have hiκ:i≠κ:=by
     rintro rfl
     have:q.1.2 i = false:=hU
     rw [hfl] at this; cases this
    have hle1:=hle.1
    rw [hq] at hle1
    have hs1:Seen l.toArray n (FH E l (ksω v0 s0)) a i oi a' q.1 w':=by
     refine ⟨hs.1,hs.2.1,fun d hd=>⟨fun k ok h1 h2 h3 h4=>?_,(hs.2.2 d hd).2⟩⟩
     have:=((hs.2.2 d hd).1 k ok h1 h2 h3 h4).1
     rw [hq] at this
     exact this
    have hst:=(Hω v0 s0 hQ).choose_spec.1.step i oi hi hoi a' q.1 w' hle1 ⟨s0,(Hω v0 s0 hQ).choose_spec.2 i oi hi hoi hiκ (hnp (by rw [hq]; simp)),((Hω v0 s0 hQ).choose_spec.1.boxS hle1).2 κ v0 s0 (hκω v0 s0 hQ) hfl⟩ hs1 hU hW (fun k hk=>hreal v0 s0 hQ i k hiκ hk)
    refine ⟨fun hwt=>eZ (fun g'=>(g',some (v0,s0))) (hst.1 hwt) fun u g' w2 h1 h2=>⟨⟨⟨h1.1,fun ω e=>(by rw [hq] at e; exact e),fun ω e=>(by cases e; exact hQ),fun _=>⟨fun _=>by simp,fun _=>h1.1.1.fl _ hfl⟩,hgq,fun _=>?_⟩,h1.2⟩,h2,fun _=>by simp⟩,fun hwt=>⟨by rw [hq]; exact hst.2 hwt,fun _=>by rw [hq]; simp⟩⟩
    rw [hfl,h1.1.1.fl _ hfl]
  | none =>
    have hle1:=hle.1
    rw [hq] at hle1
    have hs1:Seen l.toArray n (FH E l ks0) a i oi a' q.1 w':=by
     refine ⟨hs.1,hs.2.1,fun d hd=>⟨fun k ok h1 h2 h3 h4=>?_,(hs.2.2 d hd).2⟩⟩
     have:=((hs.2.2 d hd).1 k ok h1 h2 h3 h4).1
     rw [hq] at this
     exact this
    by_cases hiκ:i = κ
    ·-- the call
     subst hiκ
     obtain ⟨kk,fri,fri',hkk,hps,htr⟩:=hat0 i oi (H0.take hi hoi)
     rw [hκ0] at hkk
     cases hkk
     have hslot:=fun d (hd:d ∈ oi.looksAt l.toArray)=>H0.slot hi hoi htr hle1.1 hs1 hd
     have hsz:a'.tmps.size = fri.slots.length:=by rw [hs1.2.1,H0.ok.size,htr.len,H0.slots]
     have hev:∀ x ∈ oi.op.operands,RS q.1.1 E.d (fri.ev x) (a'.eval x):=by
      intro x hx
      cases x with
      | tmp t=>exact (hslot t (cM hx)).1
      | const v =>
        simp only [Fr.ev,Act.eval]
        split
        ·rename_i hf; exact R.lit v hf
        ·exact R.any _
      | global q=>exact R.any _
      | func f=>exact R.fn _ [] [] #[] #[] rfl rfl (fun i x u h=>by simp at h) (fun i x u h=>by simp at h)
     have hbox:BoxR q.1.1 w' st:=(H0.boxS hle1).1 fun j v s hj=>absurd hj (hno0 j v s)
     have hN0:E.N = 0:=H0.ok.hm hmf
     have hfl:q.1.2 i = false:=hU
     have hafter:∀ (u:Value) (v:AV) (st':St) (g2:Gh) (w2:World),Qc v st'→Mv false 0 (E.d + 2) q.1.1 w' g2 w2→BoxR g2 w2 st'→R g2 v u→(∀ s,oi.dst = some s→OwnV g2 w2 0 (Loc.slot E.d s) v u) →
       LeU n Le U i q w' ((g2,fun j=>if j = i then true else q.1.2 j),some (v,st')) w2∧F i u ((g2,fun j=>if j = i then true else q.1.2 j),some (v,st')) w2:=by
      intro u v st' g2 w2 hQ hmv hb2 hr hown
      obtain ⟨hlenω,_,_⟩:=(Hω v st' hQ).choose_spec.1.at
      have hLe:LeD E.d E.N (ksω v st') q.1 w' (g2,fun j=>if j = i then true else q.1.2 j) w2:=by
       refine ⟨hmv.os,hmv.tape,hmv.output,hmv.size,hmv.base,hmv.bx,fun h=>?_,fun d' hd=>hmv.lb d' (by omega),fun k s cs _ _=>by show g2.lb (E.d + 1) s = q.1.1.lb (E.d + 1) s; rw [hmv.lb (E.d + 1) (by omega)],hmv.imm,fun j hj=>?_,fun j hj=>if_neg ?_,fun b hb hT=>?_,hmv.low,fun b hb=>?_,fun _=>hmv.good,fun b s hb hc=>(hmv.outer b (.loc E.d s) hc (show E.d < E.d + 2 by omega)).1⟩
       ·have:=h i v st' (hκω v st' hQ)
        rw [hfl] at this
        simp at this
       ·simp only; split
        ·rfl
        ·exact hj
       ·have:i < (ksω v st').length:=by have:=(List.getElem?_eq_some_iff.1 (hκω v st' hQ)).1; exact this
        omega
       ·have hcontra:¬ Tch E.d (ksω v st') i (q.1.1.cls b):=fun ht=>by
         have:=hT i ht
         rw [hfl] at this
         simp at this
        have htt:Tch E.d (ksω v st') i (q.1.1.cls b) = ∀ c',q.1.1.cls b = some c'→¬ ft (E.d + 1) c':=by
         simp only [Tch,hκω v st' hQ]
        rw [htt] at hcontra
        simp only [Classical.not_forall,Classical.not_not] at hcontra
        obtain ⟨c',hc,ho⟩:=hcontra
        obtain ⟨k1,k2,k3⟩:=hmv.outer b c' hc (ho.mono (Nat.le_succ _))
        exact ⟨k2,k3,by rw [k1,hc]⟩
       ·rw [hN0] at hb; omega
      refine ⟨⟨⟨⟨hLe,fun _=>?_⟩,fun ω e=>(by rw [hq] at e; cases e),fun ω e=>(by cases e; exact hQ),fun _=>⟨fun _=>by simp,fun _=>by simp⟩,hgq,fun e=>(by rw [hq] at e; cases e)⟩,fun k hk hki h=>?_⟩,?_,fun _=>by simp⟩
      ·refine ⟨fun hf=>?_,fun j v' s' hj hf=>?_⟩
       ·have:=hf i v st' (hκω v st' hQ)
        simp at this
       ·obtain ⟨_,_,rfl⟩:=huniq v st' hQ j v' s' hj
        exact hb2
      ·show (if k = i then true else q.1.2 k) = false
       rw [if_neg hki]; exact h
      ·unfold FH
       simp only [kO,hκω v st' hQ]
       have hdst:(l[i]?).bind (·.dst) = oi.dst:=by
        have hli:l[i]? = some oi:=by simpa using hoi
        rw [hli]; rfl
       rw [hdst]
       refine ⟨by simp,RS.of hr,fun s hs' _=>?_⟩
       rw [hN0]
       exact hown s hs'
     cases hps with
     | chole c f' vs' hg hoc hca =>
       have hgw:Region.wanted oi (yielded l.toArray a'.tmps) = true:=go (fun t ht=>(hslot t ht).1) hsz hg
       refine ⟨fun _=>?_,fun e=>by rw [hgw] at e; cases e⟩
       obtain ⟨hent,hA⟩:=hA oi c hoi hoc fun b hb=>by unfold dQ at hca; rw [hb] at hca; cases hca
       obtain ⟨us,hrun,hargs⟩:=ii (P:=P) (w:=w') (a:=a') hoc (fun x hx=>hev x (by rw [hoc]; exact hx)) hca hent
       unfold aQ
       rw [hrun]
       refine (hA (E.d + 2) q.1.1 w' us (fun k=>match oi.dst with | some s=>Loc.slot E.d s k | none=>Loc.slot E.d 0 k) hgq hbox hargs).mono fun e w2 ⟨u,v,st',g2,he,hQ,hmv,hb2,hr,hown⟩=>?_
       obtain ⟨r1,r2⟩:=hafter u v st' g2 w2 hQ hmv hb2 hr fun s hs'=>by rw [hs'] at hown; exact hown
       exact ⟨u,_,he,r1,r2⟩
     | ahole f' x y t t2 hg hoc =>
       have hgw:Region.wanted oi (yielded l.toArray a'.tmps) = true:=go (fun t ht=>(hslot t ht).1) hsz hg
       refine ⟨fun _=>?_,fun e=>by rw [hgw] at e; cases e⟩
       obtain ⟨u,v,st',g2,w2,hrun,hQ,hmv,hb2,hr,hown⟩:=hAp oi hoi x y t t2 hoc _ _ rfl (fun e=>by rw [e]) (fun h fr'=>by cases x <;> first | rfl | exact absurd rfl (h _)) (fun h fr'=>by cases y <;> first | rfl | exact absurd rfl (h _)) q.1.1 w' a' (by rw [hs1.2.1,H0.ok.size]) hgq hbox (hev x (by rw [hoc]; simp [Op.operands,Call.operands])) (hev y (by rw [hoc]; simp [Op.operands,Call.operands]))
       unfold aQ
       rw [hrun]
       obtain ⟨r1,r2⟩:=hafter u v st' g2 w2 hQ hmv hb2 hr fun s _=>hown _
       exact ⟨_,r1,r2⟩
    ·by_cases hwt:aI l.toArray n i κ = true
     ·obtain ⟨oκ,hoκ⟩:∃ oκ,l.toArray[κ]? = some oκ:=by
       have:κ < (l.take n).length:=by rw [← hlen0]; exact (List.getElem?_eq_some_iff.1 hκ0).1
       simp at this
       exact ⟨l[κ],by simp [show κ < l.length by omega]⟩
      obtain ⟨v,hv⟩:=hw κ oκ hκ hoκ hwt
      exact absurd hq (hv.2 (.inl rfl))
     ·have hr:∀ k,ks0[i]? = some k→k.real = true:=fun k hk=>hchole i k hk hiκ fun e=>hwt (hhole i (by rw [hk,e]))
      have hst:=H0.step i oi hi hoi a' q.1 w' hle1 ⟨st,hst0 _,(H0.boxS hle1).1 fun j v s hj=>absurd hj (hno0 j v s)⟩ hs1 hU hW hr
      have hnw:¬ (i = κ∨aI l.toArray n i κ = true):=fun e=>e.elim hiκ hwt
      refine ⟨fun hwd=>eZ (fun g'=>(g',none)) (hst.1 hwd) fun u g' w2 h1 h2=>⟨⟨⟨h1.1,fun ω e=>(by rw [hq] at e; cases e),fun ω e=>(by cases e),fun _=>?_,hgq,fun _=>?_⟩,h1.2⟩,h2,fun e=>absurd e hnw⟩,fun hwd=>⟨by rw [hq]; exact hst.2 hwd,fun e=>absurd e hnw⟩⟩
      ·have hf0:q.1.2 κ = false:=by
        cases e:q.1.2 κ with
        | false=>rfl
        | true=>exact absurd hq (hsy.1 e)
       have:g'.2 κ = false:=h1.2 κ hκ (fun e=>hiκ e.symm) hf0
       simp [this]
      ·have hf0:q.1.2 κ = false:=by
        cases e:q.1.2 κ with
        | false=>rfl
        | true=>exact absurd hq (hsy.1 e)
       have:g'.2 κ = false:=h1.2 κ hκ (fun e=>hiκ e.symm) hf0
       rw [hf0,this]
 have hend:∀ (a':Act) (q:GM) (w':World),Le ((g,fun _=>false),none) w q w'→Fin l.toArray n F a a' q w'→wpListIn (FW rd) 0 P l.toArray Q (l.drop n) a' w':=by
  intro a' q w' hle hF
  obtain ⟨hd,hsz,hdone,hsame⟩:=hF
  obtain ⟨oκ,hoκ⟩:∃ oκ,l.toArray[κ]? = some oκ:=by
   have:κ < (l.take n).length:=by rw [← hlen0]; exact (List.getElem?_eq_some_iff.1 hκ0).1
   simp at this
   exact ⟨l[κ],by simp [show κ < l.length by omega]⟩
  obtain ⟨u,⟨_,hne⟩,_⟩:=hdone κ oκ hκ hoκ
  cases hq:q.2 with
  | none=>exact absurd hq (hne (.inl rfl))
  | some ω =>
    obtain ⟨v0,s0⟩:=ω
    have hQ:=hle.2.2.1 _ hq
    have h3:=hle.1
    rw [hq] at h3
    obtain ⟨g',hok⟩:=(Hω v0 s0 hQ).choose_spec.1.fin h3 ⟨hd,hsz,fun k ok hk ho=>by
     obtain ⟨v,⟨h4,_⟩,h5⟩:=hdone k ok hk ho
     rw [hq] at h4
     exact ⟨v,h4,h5⟩,hsame⟩
    have hst:stK (ksω v0 s0) st = s0:=by
     rcases e6 (ksω v0 s0) st with ⟨_,h⟩ | ⟨j,v,hj⟩
     ·exact absurd (hκω v0 s0 hQ) (h κ v0 s0)
     ·exact (huniq v0 s0 hQ j v _ hj).2.2
    rw [hst] at hok
    exact hfin v0 s0 hQ g' w' a' hok
 -- what the call has waited for is done
 let D:(Nat→Bool)→Prop:=fun d=>∀ j,past j = true→d j = true
 let Le':GM×(Nat→Bool)→World→GM×(Nat→Bool)→World→Prop:=fun q w q' w'=>Le q.1 w q'.1 w'∧(∀ j,q.2 j = true→q'.2 j = true)∧((q.1.2≠none→D q.2)→(q'.1.2≠none→D q'.2))
 let F':Nat→Value→GM×(Nat→Bool)→World→Prop:=fun k u q w=>F k u q.1 w∧(∀ ok,l.toArray[k]? = some ok→ok.guard = none→q.2 k = true)
 let U':Nat→GM×(Nat→Bool)→World→Prop:=fun k q w=>U k q.1 w∧q.2 k = false
 refine fI (n:=n) (Le:=Le') (g0:=(((g,fun _=>false),none),fun _=>false)) (F:=F') (U:=U') (a0:=a) (fun k v q w1 q' w2 h1 h2 hF=>⟨hstay k v q.1 w1 q'.1 w2 h1.1 h2.1 hF.1,fun ok h3 h4=>h2.2.1 _ (hF.2 ok h3 h4)⟩)
  (fun x wx y wy z wz h k=>⟨htrn _ _ _ _ _ _ h.1 k.1,fun j hj=>k.2.1 j (h.2.1 j hj),fun hD=>k.2.2 (h.2.2 hD)⟩)
  ⟨⟨mI g w,fun _ e=>(by cases e),fun _ e=>(by cases e),fun e=>e,hgood0,fun _=>rfl⟩,fun _ h=>h,fun h=>h⟩ (lt:=false) (d6 hstrict false) (fun k ok d hk ho hd=>?_) (fun e=>by cases e) (fun e=>by cases e) (fun _ _=>⟨rfl,rfl⟩) (fun i oi hi hoi a' q w' hle hs hU hW hw=>?_) (fun a' q w' hle hF=>?_)
 ·rw [H0.ok.size]
  exact H0.dst ok (List.mem_of_getElem? (H0.take hk ho)) d hd
 ·have hDq:q.1.2≠none→D q.2:=hle.2.2 (fun e=>absurd rfl e)
  have hnp:q.1.2≠none→past i = false:=fun e=>by
   cases hp:past i with
   | false=>rfl
   | true =>
     have h1:=hDq e i hp
     have h2:q.2 i = false:=hU.2
     rw [h2] at h1; cases h1
  have hs':Seen l.toArray n F a i oi a' q.1 w':=⟨hs.1,hs.2.1,fun d hd=>⟨fun k ok h1 h2 h3 h4=>((hs.2.2 d hd).1 k ok h1 h2 h3 h4).1,(hs.2.2 d hd).2⟩⟩
  obtain ⟨r1,r2⟩:=hstp i oi hi hoi a' q.1 w' hle.1 hs' hU.1 (fun j f h1 h2=>(hW j f h1 h2).1) (fun k ok h1 h2 h3=>by obtain ⟨v,hv⟩:=hw k ok h1 h2 h3; exact ⟨v,hv.1⟩) hnp
  refine ⟨fun hwd=>eZ (fun q1=>(q1,fun j=>if j = i then true else q.2 j)) (r1 hwd) fun u q1 w2 h1 h2=>⟨⟨⟨h1.1,fun j hj=>?_,fun _ hq'=>?_⟩,fun k hk hki h=>⟨h1.2 k hk hki h.1,?_⟩⟩,h2,fun ok _ _=>?_⟩,fun hwd=>⟨r2 hwd,fun ok h3 h4=>?_⟩⟩
  ·show (if j = i then true else q.2 j) = true
   split
   ·rfl
   ·exact hj
  ·intro j hj
   show (if j = i then true else q.2 j) = true
   split
   ·rfl
   ·cases hq:q.1.2 with
    | some ω=>exact hDq (by rw [hq]; simp) j hj
    | none =>
      have hiκ:i = κ:=by
       refine Classical.byContradiction fun hne=>?_
       have hsy:=hsync q.1 w' hle.1
       have hf0:q.1.1.2 κ = false:=by
        cases e:q.1.1.2 κ with
        | false=>rfl
        | true=>exact absurd hq (hsy.1 e)
       have h3:q1.1.2 κ = false:=h1.2 κ hκ (fun e=>hne e.symm) hf0
       have h4:=(h1.1.2.2.2.1 hsy).2 hq'
       rw [h3] at h4; cases h4
      subst hiκ
      obtain ⟨p1,p2,oj,p3,p4⟩:=hpast j hj
      obtain ⟨v,hv⟩:=hw j oj p1 p3 p2
      exact hv.2 oj p3 p4
  ·show (if k = i then true else q.2 k) = false
   rw [if_neg hki]; exact h.2
  ·show (if i = i then true else q.2 i) = true
   rw [if_pos rfl]
  ·rw [hoi] at h3; cases h3
   exfalso
   unfold Region.wanted at hwd
   rw [h4] at hwd
   simp at hwd
 ·obtain ⟨hd,hsz,hdone,hsame⟩:=hF
  exact hend a' q.1 w' hle.1 ⟨hd,hsz,fun k ok hk ho=>by obtain ⟨v,hv,h5⟩:=hdone k ok hk ho; exact ⟨v,hv.1,h5⟩,hsame⟩
end
end Go.Fx
namespace Go.Fx
open Go
def Ref {A:Type} (r s:Res A):Prop:=∀ K:A→Prop,r.wp K→s.wp K
theorem Ref.refl {A:Type} (r:Res A):Ref r r:=fun _ h=>h
theorem Ref.fail {A:Type} (s:Res A):Ref .fail s:=fun _ h=>h.elim
theorem Ref.bind {A B:Type} {r s:Res A} {f g:A→Res B} (h:Ref r s) (k:∀ a,Ref (f a) (g a)):Ref (r.bind f) (s.bind g):=by
 intro K hK
 rw [Res.wp_bind] at hK ⊢
 exact Res.wp_mono (h _ hK) fun a ha=>k a K ha
theorem Ref.bindL {A B:Type} {r:Res A} {f g:A→Res B} (k:∀ a,Ref (f a) (g a)):Ref (r.bind f) (r.bind g):=Ref.bind (Ref.refl r) k
theorem Ref.of_eq {A:Type} {r s:Res A} (h:r = s):Ref r s:=by rw [h]; exact Ref.refl s
theorem Ref.trans {A:Type} {r s t:Res A} (h:Ref r s) (k:Ref s t):Ref r t:=fun K hK=>k K (h K hK)
def jy:Option Nat→List AV→Res AV
 | none,c::_=>.ok c
 | none,[]=>.fail
 | some n,cs=>.req (decide (n≤cs.length)) (.ok (.agg (cs.take n)))
inductive EqP where
 | bool | int | str | tt
 | field (off n:Nat) (e rest:EqP)
 deriving DecidableEq
def eqI:EqP→List AV→List AV→Res Bool
 | .bool,xs,ys=>rz xs ys
 | .int,xs,ys=>rA xs ys
 | .str,xs,ys=>eqStrA xs ys
 | .tt,_,_=>.ok true
 | .field off n e r,xs,ys=>andA (eqI e ((xs.drop off).take n) ((ys.drop off).take n)) (eqI r xs ys)
inductive NilK where
 | ptr | sl | mp | fn
 deriving DecidableEq
def cf:NilK→AV→Option Bool
 | .ptr,.lit (.pointer none)=>some true
 | .ptr,.ptr _ _=>some false
 | .ptr,.lptr _ _=>some false
 | .ptr,.cptr _=>some false
 | .sl,.lit (.slice none 0 0)=>some true
 | .sl,.sl _ _ es=>if es.isEmpty then none else some false
 | .sl,.bs _ _ _ _ _=>some false
 | .mp,.lit (.map none)=>some true
 | .mp,.map _=>some false
 | .fn,.lit .nilFunc=>some true
 | .fn,.fn _ _ _=>some false
 | _,_=>none
def dV (d:NilK) (x y:AV):Option Bool :=
 match cf d x,cf d y with
 | some true,some b=>some b
 | some false,some true=>some false
 | _,_=>none
inductive BinK where
 | num | bool
 | nil (k:NilK)
 | agg (e:EqP)
 deriving DecidableEq
def numI (op:BinOp) (x y:AV):Res AV :=
 match op,x,y with
 | .shl,.lit (.int k a),.lit (.int _ b)=>(mw .shl k a b).bind fun v=>.ok (.lit v)
 | .shr,.lit (.int k a),.lit (.int _ b)=>(mw .shr k a b).bind fun v=>.ok (.lit v)
 | op,.lit (.int k a),.lit (.int k' b)=>if k = k' then (intBin op k a b).bind fun v=>.ok (.lit v) else .fail
 | op,.lit (.string a),.lit (.string b)=>(strBin op a b).bind fun v=>.ok (.lit v)
 | _,_,_=>.fail
def binI (k:BinK) (op:BinOp) (x y:AV):Res AV :=
 match k with
 | .num=>numI op x y
 | .bool => match op, x, y with
   | .eql,.lit (.bool a),.lit (.bool b)=>.ok (.lit (.bool (a == b)))
   | .neq,.lit (.bool a),.lit (.bool b)=>.ok (.lit (.bool !(a == b)))
   | _,_,_=>.fail
 | .nil d => match op with
   | .eql=>(Res.ofOpt (dV d x y)).bind fun b=>.ok (.lit (.bool b))
   | .neq=>(Res.ofOpt (dV d x y)).bind fun b=>.ok (.lit (.bool !b))
   | _=>.fail
 | .agg e => match op, x, y with
   | .eql,.agg xs,.agg ys=>(eqI e xs ys).bind fun b=>.ok (.lit (.bool b))
   | .neq,.agg xs,.agg ys=>(eqI e xs ys).bind fun b=>.ok (.lit (.bool !b))
   | _,_,_=>.fail
inductive ConvK where
 | int (k:IntKind) | ss | bs | sb
 deriving DecidableEq
def e7 (st:St) (k:ConvK) (x:AV):Res AV :=
 match k,x with
 | .int k,.lit (.int _ n)=>.ok (.lit (.int k (k.wrap n)))
 | .ss,.lit (.string s)=>.ok (.lit (.string s))
 | .bs,.lit (.slice none 0 0)=>.ok (.lit (.string .empty))
 | .bs,.sl _ k es=>if k = 1 then (Res.ofOpt (ng es)).bind fun s=>.ok (.lit (.string s)) else .fail
 | .bs,.bs id k off len _=>if k = 1 then (gf st id 1 off len).bind fun es=>(Res.ofOpt (ng es)).bind fun s=>.ok (.lit (.string s)) else .fail
 | .sb,.lit (.string s)=>.req (decide (s.size≤1000000000000)) (.ok (.sl false 1 (s.data.toList.map dC)))
 | _,_=>.fail
inductive KeyK where
 | int (k:IntKind) | str | bool | agg (n:Nat)
 deriving DecidableEq
def keyI:KeyK→AV→Bool
 | .int k,.lit (.int k' _)=>k == k'
 | .str,.lit (.string _)=>true
 | .bool,.lit (.bool _)=>true
 | .agg n,.agg cs=>n == cs.length && cs.all pg
 | _,_=>false
def fu (kk:KeyK) (z:AV) (commaOk:Bool) (st:St) (m key:AV):Res AV :=
 if keyI kk key = true then
  (match m with
   | .lit (.map none)=>Res.ok []
   | .map id=>Res.ofOpt (st.getM id)
   | _=>.fail).bind fun es =>
  (bU key es 0).bind fun r =>
  match r with
  | some (_,v)=>.ok (if commaOk then .tup [v.dis,.lit (.bool true)] else v.dis)
  | none=>.ok (if commaOk then .tup [z,.lit (.bool false)] else z)
 else .fail
inductive LenK where
 | str | sl | mp | arr (n:Nat)
 deriving DecidableEq
def lenI (k:LenK) (st:St) (x:AV):Res AV :=
 match k,x with
 | .str,.lit (.string s)=>.ok (.lit (.int .i64 s.size))
 | .sl,.lit (.slice none 0 0)=>.ok (.lit (.int .i64 0))
 | .sl,.sl _ _ es=>.ok (.lit (.int .i64 es.length))
 | .sl,.bs _ _ _ len _=>.ok (.lit (.int .i64 len))
 | .mp,.lit (.map none)=>.ok (.lit (.int .i64 0))
 | .mp,.map id=>(Res.ofOpt (st.getM id)).bind fun es=>.ok (.lit (.int .i64 es.length))
 | .arr n,_=>.ok (.lit (.int .i64 n))
 | _,_=>.fail
def bE (st:St) (k bytes:Nat) (base x:AV):Res AV :=
 (srcA st k x).bind fun new =>
 match base with
 | .lit (.slice none 0 0) =>
   if new.isEmpty then .ok (.lit (.slice none 0 0))
   else .req (fM new.length bytes) (.ok (.sl true k (new.map AV.dis)))
 | .xs k' es =>
   if k' = k∧new.isEmpty = false then .req (fM (es.length + new.length) bytes) (.ok (.sl true k (es++new.map AV.dis))) else .fail
 | _=>.fail
def cg (st:St) (k bytes:Nat) (base x:AV):Res AV :=
 match base with
 | .sl true k' es=>if k' = k then (srcA st k x).bind fun new=>.req (fM (es.length + new.length) bytes) (.ok (.sl true k (es++new.map AV.dis))) else .fail
 | _=>.fail
section
variable (P:Program)
def nv (t:TypeId):Option (Option Nat) :=
 match szT P t,P.underlying t with
 | some n,some _=>some (if aw P t then some n else none)
 | _,_=>none
def eqT:Nat→TypeId→Option EqP
 | 0,_=>none
 | d + 1, t =>
   match P.underlying t with
   | some .bool=>some .bool
   | some (.int _)=>some .int
   | some .string=>some .str
   | some (.struct fields) =>
     if P.stoodInHeld t then none else
     fields.toList.foldr (fun f r => if f.name ≠ "_" then
       (match szT P f.type, eqT d f.type, r with
        | some n,some e,some r=>some (.field f.offset n e r)
        | _,_,_=>none)
      else r) (some .tt)
   | _=>none
def binK (op:BinOp) (t:TypeId):Option BinK :=
 match op with
 | .eql | .neq =>
   match P.underlying t with
   | some .bool=>some .bool
   | some (.int _) | some .string=>some .num
   | some (.pointer _)=>some (.nil .ptr)
   | some (.slice _)=>some (.nil .sl)
   | some (.map _ _)=>some (.nil .mp)
   | some (.func _ _ _)=>some (.nil .fn)
   | some (.struct _)=>if (P.eqGuardType P.depth t || !aw P t) = true then none else (eqT P 9 t).map .agg
   | _=>none
 | _=>some .num
def convK (src dst:TypeId):Option ConvK :=
 match P.underlying src,P.underlying dst with
 | some _,some (.int k)=>some (.int k)
 | some .string,some .string=>some .ss
 | some (.slice e), some .string => match P.underlying e with
   | some (.int .u8)=>some .bs
   | _=>none
 | some .string, some (.slice e) => match P.underlying e with
   | some (.int .u8)=>if szT P e = some 1 then some .sb else none
   | _=>none
 | _,_=>none
def keyK (t:TypeId):Option KeyK :=
 match P.underlying t with
 | some (.int k)=>some (.int k)
 | some .string=>some .str
 | some .bool=>some .bool
 | some (.struct _)=>(fo P 9 t).map .agg
 | _=>none
def cN (t:TypeId):Option AV:=(eR P t).opt
def lenK (t:TypeId):Option LenK :=
 match P.underlying t with
 | some .string=>some .str
 | some (.slice _)=>some .sl
 | some (.map _ _)=>some .mp
 | some (.array n _)=>some (.arr n)
 | _=>none
def appK (t t2:TypeId):Option (Nat×Nat) :=
 match P.underlying t,P.underlying t2 with
 | some (.slice e), some dd =>
   match P.info? e with
   | some i=>if srcT dd = true∧0 < i.size∧(i.zero.map (·.cells.size)) = some i.size then some (i.size,i.bytes) else none
   | none=>none
 | _,_=>none
variable {P}
theorem iI {t:TypeId} {k:Option Nat} (h:nv P t = some k) (cs:List AV):Ref (jy k cs) (g5 P t cs):=by
 unfold nv at h
 unfold g5
 split at h
 ·rename_i n dd hn hu
  cases h
  simp only [hn,hu]
  by_cases ha:aw P t = true
  ·rw [if_pos ha,if_pos ha]; exact Ref.refl _
  ·rw [if_neg ha,if_neg ha]
   cases cs <;> exact Ref.refl _
 ·cases h
theorem eqT_eq:∀ (d:Nat) (t:TypeId) (e:EqP),eqT P d t = some e→∀ xs ys,eqA P d t xs ys = eqI e xs ys
 | 0,_,_,h=>by cases h
 | d + 1, t, e, h => by
   intro xs ys
   unfold eqT at h
   unfold eqA
   split at h
   ·rename_i hu; cases h; simp only [hu,eqI]
   ·rename_i hu; cases h; simp only [hu,eqI]
   ·rename_i hu; cases h; simp only [hu,eqI]
   ·rename_i fields hu
    split at h
    ·cases h
    ·rename_i hst
     simp only [hu]
     rw [if_neg hst]
     generalize fields.toList = fl at h
     clear hu
     induction fl generalizing e with
     | nil=>simp only [List.foldr_nil,Option.some.injEq] at h; subst h; rfl
     | cons f r ih =>
       simp only [List.foldr_cons] at h ⊢
       split at h
       ·rename_i hname
        split at h
        ·rename_i n e1 r1 hn he hr
         cases h
         rw [if_pos hname,ih r1 hr,hn]
         simp only [Res.ofOpt,Res.bind,eqI]
         rw [eqT_eq d f.type e1 he]
        ·cases h
       ·rename_i hname
        rw [if_neg hname]
        exact ih e h
   ·cases h
theorem isNil_ptr (e:TypeId) (v:AV):df (.pointer e) v = cf .ptr v:=by
 cases v <;> first | rfl | (rename_i v; cases v <;> first | rfl | (rename_i o; cases o <;> rfl))
theorem isNil_map (k e:TypeId) (v:AV):df (.map k e) v = cf .mp v:=by
 cases v <;> first | rfl | (rename_i v; cases v <;> first | rfl | (rename_i o; cases o <;> rfl))
theorem isNil_fn (a b:Array TypeId) (c:Bool) (v:AV):df (.func a b c) v = cf .fn v:=by
 cases v <;> first | rfl | (rename_i v; cases v <;> rfl)
theorem isNil_sl (e:TypeId) (v:AV):df (.slice e) v = cf .sl v:=by
 cases v <;> first | rfl | (rename_i v; cases v <;> first | rfl | (rename_i o n m; cases o <;> cases n <;> cases m <;> rfl))
theorem binA_int (op:BinOp) (t:TypeId) (k k':IntKind) (a b:Int):binA P op t (.lit (.int k a)) (.lit (.int k' b)) = numI op (.lit (.int k a)) (.lit (.int k' b)):=by
 cases op <;> rfl
theorem binA_str (op:BinOp) (t:TypeId) (a b:ByteArray):binA P op t (.lit (.string a)) (.lit (.string b)) = numI op (.lit (.string a)) (.lit (.string b)):=by
 cases op <;> rfl
theorem numI_inv {op:BinOp} {x y:AV} {K:AV→Prop} (h:(numI op x y).wp K):(∃ k a k' b,x = .lit (.int k a)∧y = .lit (.int k' b))∨∃ a b,x = .lit (.string a)∧y = .lit (.string b):=by
 unfold numI at h
 split at h
 ·exact .inl ⟨_,_,_,_,rfl,rfl⟩
 ·exact .inl ⟨_,_,_,_,rfl,rfl⟩
 ·exact .inl ⟨_,_,_,_,rfl,rfl⟩
 ·exact .inr ⟨_,_,rfl,rfl⟩
 ·exact h.elim
theorem pA {op:BinOp} {t:TypeId} (x y:AV):Ref (numI op x y) (binA P op t x y):=by
 intro K h
 rcases numI_inv h with ⟨k,a,k',b,rfl,rfl⟩ | ⟨a,b,rfl,rfl⟩
 ·rw [binA_int]; exact h
 ·rw [binA_str]; exact h
theorem nil_eql {nk:NilK} {t:TypeId} {x y:AV} {q:Bool} (h:cf nk x = some q):binA P .eql t x y = (match P.underlying t with
  | some dd=>(Res.ofOpt (g6 dd x y)).bind fun b=>.ok (.lit (.bool b))
  | none=>.fail):=by
 unfold cf at h
 split at h <;> first | rfl | cases h
theorem nil_neq {nk:NilK} {t:TypeId} {x y:AV} {q:Bool} (h:cf nk x = some q):binA P .neq t x y = (match P.underlying t with
  | some dd=>(Res.ofOpt (g6 dd x y)).bind fun b=>.ok (.lit (.bool !b))
  | none=>.fail):=by
 unfold cf at h
 split at h <;> first | rfl | cases h
theorem kr {op:BinOp} {t:TypeId} {d:TypeDesc} {nk:NilK} (hd:∀ v,df d v = cf nk v) (hu:P.underlying t = some d) (x y:AV):Ref (binI (.nil nk) op x y) (binA P op t x y):=by
 intro K hK
 have he:∀ x y,g6 d x y = dV nk x y:=fun x y=>by
  unfold g6 dV; rw [hd,hd]
  rcases cf nk x with _ | _ | _ <;> rcases cf nk y with _ | _ | _ <;> rfl
 have hx:∀ q,dV nk x y = some q→∃ q',cf nk x = some q':=by
  intro q hq
  unfold dV at hq
  split at hq
  ·rename_i h1 _; exact ⟨_,h1⟩
  ·rename_i h1 _; exact ⟨_,h1⟩
  ·cases hq
 cases op <;> simp only [binI] at hK <;> first | exact hK.elim | skip
 ·rw [Res.wp_bind,ak] at hK
  obtain ⟨q,hq,hK⟩:=hK
  obtain ⟨q',hq'⟩:=hx q hq
  rw [nil_eql hq',hu]
  simp only [Res.wp_bind]
  rw [ak]
  exact ⟨q,by rw [he]; exact hq,hK⟩
 ·rw [Res.wp_bind,ak] at hK
  obtain ⟨q,hq,hK⟩:=hK
  obtain ⟨q',hq'⟩:=hx q hq
  rw [nil_neq hq',hu]
  simp only [Res.wp_bind]
  rw [ak]
  exact ⟨q,by rw [he]; exact hq,hK⟩
theorem bool_ref {op:BinOp} {t:TypeId} (hu:P.underlying t = some .bool) (x y:AV):Ref (binI .bool op x y) (binA P op t x y):=by
 intro K hK
 simp only [binI] at hK
 split at hK
 ·unfold binA; simp only [hu]; exact hK
 ·unfold binA; simp only [hu]; exact hK
 ·exact hK.elim
theorem agg_ref {op:BinOp} {t:TypeId} {e:EqP} (hc:¬ (P.eqGuardType P.depth t || !aw P t) = true) (he:eqT P 9 t = some e) (x y:AV):Ref (binI (.agg e) op x y) (binA P op t x y):=by
 intro K hK
 simp only [binI] at hK
 split at hK
 ·rename_i xs ys
  have h1:binA P .eql t (.agg xs) (.agg ys) = if (P.eqGuardType P.depth t || !aw P t) = true then .fail else (eqA P 9 t xs ys).bind fun b=>.ok (.lit (.bool b)):=rfl
  rw [h1,if_neg hc,eqT_eq 9 t e he]; exact hK
 ·rename_i xs ys
  have h1:binA P .neq t (.agg xs) (.agg ys) = if (P.eqGuardType P.depth t || !aw P t) = true then .fail else (eqA P 9 t xs ys).bind fun b=>.ok (.lit (.bool !b)):=rfl
  rw [h1,if_neg hc,eqT_eq 9 t e he]; exact hK
 ·exact hK.elim
theorem binK_ref {op:BinOp} {t:TypeId} {k:BinK} (h:binK P op t = some k) (x y:AV):Ref (binI k op x y) (binA P op t x y):=by
 have hcmp:∀ k,(match P.underlying t with
   | some .bool=>some BinK.bool
   | some (.int _) | some .string=>some .num
   | some (.pointer _)=>some (.nil .ptr)
   | some (.slice _)=>some (.nil .sl)
   | some (.map _ _)=>some (.nil .mp)
   | some (.func _ _ _)=>some (.nil .fn)
   | some (.struct _)=>if (P.eqGuardType P.depth t || !aw P t) = true then none else (eqT P 9 t).map .agg
   | _=>none) = some k→Ref (binI k op x y) (binA P op t x y):=by
  intro k h
  split at h
  ·rename_i hu; cases h; exact bool_ref hu x y
  ·cases h; exact pA x y
  ·cases h; exact pA x y
  ·rename_i e hu; cases h; exact kr (isNil_ptr e) hu x y
  ·rename_i e hu; cases h; exact kr (isNil_sl e) hu x y
  ·rename_i a b hu; cases h; exact kr (isNil_map a b) hu x y
  ·rename_i a b c hu; cases h; exact kr (isNil_fn a b c) hu x y
  ·split at h
   ·cases h
   ·rename_i hc
    cases he:eqT P 9 t with
    | none=>rw [he] at h; cases h
    | some e=>rw [he] at h; cases h; exact agg_ref hc he x y
  ·cases h
 unfold binK at h
 cases op <;> simp only at h <;> first | exact hcmp _ h | (cases h; exact pA x y)
end
end Go.Fx
namespace Go.Fx
open Go
section
variable {P:Program}
theorem convK_ref {src dst:TypeId} {k:ConvK} (h:convK P src dst = some k) (st:St) (x:AV):Ref (e7 st k x) (g7 P st src dst x):=by
 intro K hK
 unfold convK at h
 unfold e7 at hK
 split at h
 ·rename_i d k' hs hd
  cases h
  split at hK <;> first | exact hK.elim | skip
  all_goals (rename_i e; first | cases e | skip)
  all_goals (unfold g7; simp only [hs,hd]; exact hK)
 ·rename_i hs hd
  cases h
  split at hK <;> first | exact hK.elim | skip
  all_goals (rename_i e; first | cases e | skip)
  all_goals (unfold g7; simp only [hs,hd]; exact hK)
 ·rename_i e hs hd
  split at h
  ·rename_i he
   cases h
   split at hK <;> first | exact hK.elim | skip
   all_goals (rename_i e; first | cases e | skip)
   all_goals (unfold g7; simp only [hs,hd,he]; exact hK)
  ·cases h
 ·rename_i e hs hd
  split at h
  ·rename_i he
   split at h
   ·rename_i hsz
    cases h
    split at hK <;> first | exact hK.elim | skip
    all_goals (rename_i e; first | cases e | skip)
    all_goals (unfold g7; simp only [hs,hd,he]; rw [if_pos hsz]; exact hK)
   ·cases h
  ·cases h
 ·cases h
theorem mJ {t:TypeId} {k:KeyK} (h:keyK P t = some k) (v:AV):dD P t v = keyI k v:=by
 unfold keyK at h
 unfold dD keyI
 split at h
 ·rename_i k' hu; cases h; simp only [hu]; cases v <;> first | rfl | (rename_i v; cases v <;> rfl)
 ·rename_i hu; cases h; simp only [hu]; cases v <;> first | rfl | (rename_i v; cases v <;> rfl)
 ·rename_i hu; cases h; simp only [hu]; cases v <;> first | rfl | (rename_i v; cases v <;> rfl)
 ·rename_i fs hu
  cases hi:fo P 9 t with
  | none=>rw [hi] at h; cases h
  | some n =>
    rw [hi] at h; cases h
    simp only [hu]
    cases v <;> first | rfl | (rename_i v; cases v <;> rfl)
 ·cases h
theorem mK {t:TypeId} {z:AV} (h:cN P t = some z) {B:Type} (f:AV→Res B):Ref (f z) ((eR P t).bind f):=by
 intro K hK
 rw [Res.wp_bind]
 exact Res.wp_of_opt h hK
theorem lookup_ref {t kt et:TypeId} {kk:KeyK} {z:AV} (hu:P.underlying t = some (.map kt et)) (hk:keyK P kt = some kk) (hz:cN P et = some z) (st:St) (m key:AV) (ok:Bool):Ref (fu kk z ok st m key) (fp P t st m key ok):=by
 unfold fu fp
 simp only [hu,mJ hk]
 split
 ·refine Ref.bind (Ref.of_eq ?_) fun es=>Ref.bindL fun r=>?_
  ·rfl
  ·cases r with
   | none=>exact mK hz fun z=>Res.ok (if ok = true then AV.tup [z,AV.lit (Value.bool false)] else z)
   | some p=>exact Ref.refl _
 ·exact Ref.fail _
theorem len_ref {t:TypeId} {k:LenK} (h:lenK P t = some k) (st:St) (x:AV):Ref (lenI k st x) (lenA P t st x):=by
 intro K hK
 unfold lenK at h
 unfold lenI at hK
 split at h
 all_goals first | cases h | skip
 all_goals (rename_i hu; split at hK <;> first | exact hK.elim | skip)
 all_goals (rename_i e; first | cases e | skip)
 all_goals (unfold lenA; simp only [hu]; exact hK)
theorem appNew_ref {t t2:TypeId} {k bytes:Nat} (h:appK P t t2 = some (k,bytes)) (st:St) (x y:AV):Ref (bE st k bytes x y) (dq P st t t2 x y):=by
 unfold appK at h
 unfold bE dq
 split at h
 ·rename_i e dd h1 h2
  split at h
  ·rename_i i hi
   split at h
   ·rename_i hc
    cases h
    simp only [h1,h2,hi]
    rw [if_pos hc]
    refine Ref.bindL fun new=>Ref.of_eq ?_
    rfl
   ·cases h
  ·cases h
 ·cases h
theorem pB {t t2:TypeId} {k bytes:Nat} (h:appK P t t2 = some (k,bytes)) (st:St) (x y:AV):Ref (cg st k bytes x y) (dv P st t t2 x y):=by
 unfold appK at h
 unfold cg dv
 split at h
 ·rename_i e dd h1 h2
  split at h
  ·rename_i i hi
   split at h
   ·rename_i hc
    cases h
    simp only [h1,h2,hi]
    rw [if_pos hc]
    split
    ·split
     ·rename_i hk; subst hk; exact Ref.of_eq (by simp)
     ·exact Ref.fail _
    ·exact Ref.fail _
   ·cases h
  ·cases h
 ·cases h
end
end Go.Fx
namespace Go.Fx
open Go
inductive Opd where
 | r (t:Nat)
 | c (v:AV)
 | f (g:Nat)
structure Sf where
 regs:List (Nat×AV)
 locs:List (Nat×List AV)
def getR:List (Nat×AV)→Nat→AV
 | [],_=>.any
 | (t,v)::r,d=>if t = d then v else getR r d
def setR:List (Nat×AV)→Nat→AV→List (Nat×AV)
 | [],d,v=>[(d,v)]
 | (t,u)::r,d,v=>if t = d then (d,v)::r else (t,u)::setR r d v
def Sf.reg (sf:Sf) (t:Nat):AV:=getR sf.regs t
def Sf.set (sf:Sf) (d:Nat) (v:AV):Sf:=⟨setR sf.regs d v,sf.locs⟩
def Sf.put (sf:Sf) (d:Option Nat) (v:AV):Sf:=match d with | some d=>sf.set d v | none=>sf
def Sf.ev (F:Nat→FuncId) (sf:Sf):Opd→AV
 | .r t=>sf.reg t
 | .c v=>v
 | .f g=>.fn (.func (F g)) [] []
def Sf.evOwn (F:Nat→FuncId) (sf:Sf):Opd→AV
 | .r t=>sf.reg t
 | .c v=>v.dis
 | .f g=>.fn (.func (F g)) [] []
def Sf.disAt (sf:Sf) (s:Nat):Sf:=sf.set s (sf.reg s).dis
def Sf.disOp (sf:Sf):Opd→Sf
 | .r t=>sf.disAt t
 | _=>sf
def jz (s:Nat):List (Nat×AV)→List (Nat×AV)
 | []=>[]
 | (t,v)::r=>(t,kill s v)::jz s r
def Sf.newLoc (sf:Sf) (s:Nat) (cs:List AV):Sf:=⟨setR (jz s sf.regs) s (.lptr s 0),(s,cs)::eW s sf.locs⟩
def Sf.setLoc (sf:Sf) (s:Nat) (cs:List AV):Sf:=⟨sf.regs,(s,cs)::eW s sf.locs⟩
def sp (n:Nat) (sf:Sf):Fr:=⟨(List.range n).map sf.reg,sf.locs⟩
theorem ku:∀ (l:List (Nat×AV)) (d t:Nat) (v:AV),getR (setR l d v) t = if d = t then v else getR l t
 | [],d,t,v=>by simp [setR,getR]
 | (q, u) :: r, d, t, v => by
   unfold setR
   by_cases h:q = d
   ·subst h
    simp only [if_true,getR]
    split <;> rfl
   ·simp only [h,if_false,getR,ku r d t v]
    by_cases h2:q = t
    ·subst h2
     have:¬ d = q:=fun e=>h e.symm
     simp [this]
    ·simp [h2]
theorem qJ (s:Nat):∀ (l:List (Nat×AV)) (t:Nat),getR (jz s l) t = kill s (getR l t)
 | [],t=>rfl
 | (q, u) :: r, t => by
   simp only [jz,getR,qJ s r t]
   split <;> rfl
theorem ci (n:Nat) (sf:Sf) (t:Nat):(sp n sf).slots[t]? = if t < n then some (sf.reg t) else none:=by
 simp only [sp,List.getElem?_map]
 by_cases h:t < n
 ·simp [h]
 ·simp [h]
theorem co {n:Nat} {sf:Sf} {t:Nat} (h:t < n):(sp n sf).slots.getD t .any = sf.reg t:=by
 simp [List.getD,ci,h]
theorem cq (n:Nat) (sf:Sf):(sp n sf).slots.length = n:=by simp [sp]
theorem cO (n:Nat) (sf:Sf) (d:Nat) (v:AV):sp n (sf.set d v) = { sp n sf with slots:=(sp n sf).slots.set d v }:=by
 unfold sp
 simp only [Sf.set]
 congr 1
 apply List.ext_getElem?
 intro t
 rw [List.getElem?_set]
 simp only [List.getElem?_map,List.length_map,List.length_range]
 by_cases h:t < n
 ·simp only [List.getElem?_range h,Option.map_some,Sf.reg,ku]
  by_cases e:d = t
  ·subst e; simp [h]
  ·simp [e]
 ·have h1:(List.range n)[t]? = none:=by simp; omega
  simp only [h1,Option.map_none]
  by_cases e:d = t
  ·subst e; simp [h]
  ·simp [e]
theorem aJ (n:Nat) (sf:Sf) (d:Option Nat) (v:AV):sp n (sf.put d v) = (sp n sf).put d v:=by
 cases d with
 | none=>rfl
 | some d=>exact cO n sf d v
theorem jP {n:Nat} {sf:Sf} {s:Nat} (h:s < n):sp n (sf.disAt s) = (sp n sf).disAt s:=by
 unfold Sf.disAt Fr.disAt
 rw [cO,co h]
theorem mL {n:Nat} {sf:Sf} {s:Nat} {cs:List AV}:sp n (sf.newLoc s cs) = (sp n sf).newLoc s cs:=by
 have h1:sp n ⟨jz s sf.regs,sf.locs⟩ = { sp n sf with slots:=(sp n sf).slots.map (kill s) }:=by
  unfold sp
  congr 1
  rw [List.map_map]
  exact List.map_congr_left fun t _=>qJ s sf.regs t
 have h2:=cO n ⟨jz s sf.regs,sf.locs⟩ s (.lptr s 0)
 rw [h1] at h2
 unfold Sf.newLoc Fr.newLoc
 unfold sp at h2 ⊢
 simp only [Sf.set,Fr.mk.injEq] at h2
 simp only [Fr.mk.injEq,and_true]
 exact h2.1
theorem sp_setLoc {n:Nat} {sf:Sf} {s:Nat} {cs:List AV}:sp n (sf.setLoc s cs) = (sp n sf).setLoc s cs:=rfl
inductive XI where
 | bad
 | nilU (op:BinOp) (x y:Opd)
 | appB (b:Opd) (k bytes:Nat) (y:Opd)
 | copyB (k:Nat) (x y:Opd)
 | clrB (k:Nat) (z:AV) (x:Opd)
 | clrM (x:Opd)
 | mksB (k bytes:Nat) (z:AV) (len cap:Opd)
 | mks (k bytes:Nat) (z:AV) (len cap:Opd)
 | mknz (x:Opd)
 | slA (n k:Nat) (x:Opd) (lo hi mx:Option Opd)
 | rng (x:Opd)
 | nxt (s:Nat)
 | rngS (x:Opd)
 | nxtS (s:Nat)
 | cmpS (x y:Opd)
 | capU (x:Opd)
 | appZ (k bytes:Nat) (z:AV) (b n:Opd)
 | ent (s:Nat)
 | mclone (x:Opd)
 | bstO (places:List (Nat×Nat)) (z:AV) (parts:List (Nat×Opd))
 | mark (s:Nat)
 | ldF (x:Opd) (k:Option Nat)
inductive AI where
 | mv (d:Option Nat) (x:Opd)
 | own (d s:Nat)
 | pick (d:Option Nat) (c a b:Opd)
 | bin (d:Option Nat) (k:BinK) (op:BinOp) (x y:Opd)
 | un (d:Option Nat) (op:UnOp) (x:Opd)
 | conv (d:Option Nat) (k:ConvK) (x:Opd)
 | ext (d:Option Nat) (x:Opd) (i:Nat)
 | field (d:Option Nat) (x:Opd) (off:Nat) (k:Option Nat)
 | addr (d:Option Nat) (x:Opd) (off:Nat)
 | ixS (d:Option Nat) (x i:Opd) (k:Nat)
 | ixA (d:Option Nat) (x i:Opd) (n k:Nat)
 | ixStr (d:Option Nat) (x i:Opd)
 | ixArr (d:Option Nat) (x i:Opd) (n k:Nat) (t:Option Nat)
 | load (d:Option Nat) (x:Opd) (k:Option Nat)
 | loadOwn (d:Nat) (x:Opd)
 | nilck (d:Option Nat) (x:Opd)
 | sliS (d:Option Nat) (x:Opd) (lo hi:Option Opd) (k:Nat)
 | sliStr (d:Option Nat) (x:Opd) (lo hi:Option Opd)
 | sli3 (d:Option Nat) (x:Opd) (lo hi:Option Opd) (mx:Opd) (k:Nat)
 | mkif (d:Option Nat) (t:Nat) (x:Opd)
 | tas (d:Option Nat) (t:Nat) (x:Opd)
 | sliOwn (d s:Nat) (lo:Opd) (k:Nat)
 | bsl (d:Option Nat) (k len:Nat) (z:AV) (parts:List (Nat×Opd))
 | bst (d:Option Nat) (places:List (Nat×Nat)) (z:AV) (parts:List (Nat×Opd))
 | bar (d:Option Nat) (k:Nat) (z:AV) (parts:List (Nat×Opd))
 | lookup (d:Option Nat) (k:KeyK) (z:AV) (ok:Bool) (m key:Opd)
 | mkfn (d:Option Nat) (g:Nat) (first cap:List Opd)
 | len (d:Option Nat) (k:LenK) (x:Opd)
 | mn (d:Option Nat) (lt:Bool) (x y:Opd)
 | app (d:Option Nat) (k bytes:Nat) (x y:Opd)
 | appS (d s:Nat) (k bytes:Nat) (y:Opd)
 | newL (d:Nat) (cs:List AV)
 | newB (d:Nat) (cs:List AV)
 | boxL (d:Nat) (n:Nat) (x:Opd)
 | boxB (d:Nat) (n:Nat) (x:Opd)
 | store (n:Nat) (a x:Opd)
 | del (k:KeyK) (m key:Opd)
 | mkmap (d:Nat)
 | upd (k:KeyK) (m key x:Opd)
 | call (d:Option Nat) (pure:Bool) (f:Opd) (args:List Opd)
 | x (d:Option Nat) (i:XI)
def vI (d:Option Nat) (sf:Sf) (st:St) (r:Res AV):Res (Sf×St):=r.bind fun v=>.ok (sf.put d v,st)
def ag (sf:Sf) (st:St):AV→Res (List AV)
 | .lptr s off=>(Res.ofOpt (look s sf.locs)).bind fun cs=>.ok (cs.drop off)
 | .ptr id off=>(Res.ofOpt (st.get id)).bind fun cs=>.ok (cs.drop off)
 | .cptr cs=>.ok cs
 | _=>.fail
def rJ (m:Bool) (sf:Sf) (st:St) (addr:AV) (vs:List AV):Res (Sf×St) :=
 match addr with
 | .lptr s off=>(Res.ofOpt (look s sf.locs)).bind fun cs=>if off + vs.length≤cs.length then .ok (sf.setLoc s (aG cs off vs),st) else .fail
 | .ptr id off=>if m then .fail else (Res.ofOpt (st.get id)).bind fun cs=>if off + vs.length≤cs.length then .ok (sf,st.set id (aG cs off vs)) else .fail
 | _=>.fail
def sliB (mx hi lo:Option AV) (id k off len cap:Nat):Res AV :=
 sl3 mx hi lo len cap fun l h m=>if m = l then (if h = l then .ok (.sl true k []) else .fail) else .ok (.bs id k (off + l * k) (h - l) (m - l))
section
variable (F:Nat→FuncId)
def popI (i:AI) (sf:Sf) (st:St):Res AV :=
 match i with
 | .mv _ x=>.ok (sf.ev F x).dis
 | .pick _ c a b => match sf.ev F c with
   | .lit (.bool t)=>.ok (if t then (sf.ev F a).dis else (sf.ev F b).dis)
   | _=>.fail
 | .bin _ k op x y=>binI k op (sf.ev F x) (sf.ev F y)
 | .un _ op x=>unA op (sf.ev F x)
 | .conv _ k x=>e7 st k (sf.ev F x)
 | .ext _ x i => match sf.ev F x with
   | .tup vs=>(Res.ofOpt vs[i]?).bind fun v=>.ok v.dis
   | _=>.fail
 | .field _ x off k => match sf.ev F x with
   | .agg cs=>(jy k (cs.drop off)).bind fun v=>.ok v.dis
   | _=>.fail
 | .addr _ x off=>addA (sf.ev F x) off
 | .ixS _ x i k => match sf.ev F x with
   | .sl _ k' es=>if k' = k then (ixA (sf.ev F i) es.length).bind fun j=>.ok (.cptr (es.getD j .any).cells) else .fail
   | .bs id k' off len _=>if k' = k then (ixA (sf.ev F i) len).bind fun j=>.ok (.ptr id (off + j * k)) else .fail
   | _=>.fail
 | .ixA _ x i n k=>(Fx.ixA (sf.ev F i) n).bind fun j=>addA (sf.ev F x) (j * k)
 | .ixStr _ x i => match sf.ev F x with
   | .lit (.string s)=>(Fx.ixA (sf.ev F i) s.size).bind fun j=>.ok (.lit (.int .u8 (s.data.getD j 0).toNat))
   | _=>.fail
 | .ixArr _ x i n k t => match sf.ev F x with
   | .agg cs=>(Fx.ixA (sf.ev F i) n).bind fun j=>(jy t (cs.drop (j * k))).bind fun v=>.ok v.dis
   | _=>.fail
 | .load _ x k=>(ag sf st (sf.ev F x)).bind fun cs=>(jy k cs).bind fun v=>.ok v.dis
 | .nilck _ x => match sf.ev F x with
   | .ptr a b=>.ok (.ptr a b)
   | .lptr a b=>.ok (.lptr a b)
   | .cptr cs=>.ok (.cptr cs)
   | _=>.fail
 | .sliS _ x lo hi k => match sf.ev F x with
   | .sl _ k' es=>if k' = k then (ixTo (hi.map (sf.ev F)) es.length es.length).bind fun h=>(ixTo (lo.map (sf.ev F)) 0 h).bind fun l=>.ok (.sl false k ((es.take h).drop l)) else .fail
   | .lit (.slice none 0 0)=>(ixTo (hi.map (sf.ev F)) 0 0).bind fun h=>(ixTo (lo.map (sf.ev F)) 0 h).bind fun _=>.ok (.lit (.slice none 0 0))
   | .bs id k' off len cap=>if k' = k then sliB none (hi.map (sf.ev F)) (lo.map (sf.ev F)) id k off len cap else .fail
   | _=>.fail
 | .sli3 _ x lo hi mx k => match sf.ev F x with
   | .bs id k' off len cap=>if k' = k then sliB (some (sf.ev F mx)) (hi.map (sf.ev F)) (lo.map (sf.ev F)) id k off len cap else .fail
   | .sl _ k' es=>if k' = k then sl3 (some (sf.ev F mx)) (hi.map (sf.ev F)) (lo.map (sf.ev F)) es.length es.length fun l h m=>if m = l then .ok (.sl true k []) else .ok (.sl false k ((es.take h).drop l)) else .fail
   | _=>.fail
 | .mkif _ t x=>if (sf.ev F x).solid1 = true then .ok (.ifc t (sf.ev F x).dis) else .fail
 | .tas _ t x => match sf.ev F x with
   | .ifc t' v=>if t' = t then .ok v.dis else .fail
   | _=>.fail
 | .sliStr _ x lo hi => match sf.ev F x with
   | .lit (.string s)=>(ixTo (hi.map (sf.ev F)) s.size s.size).bind fun h=>(ixTo (lo.map (sf.ev F)) 0 h).bind fun l=>.ok (.lit (.string (s.extract l h)))
   | _=>.fail
 | .bsl _ k len z parts=>(eT k (parts.map fun p=>(p.1,sf.ev F p.2)) (List.replicate len z)).bind fun es=>.ok (mkSl k es)
 | .bst _ places z parts=>(br (fun i=>places[i]?) (parts.map fun p=>(p.1,sf.ev F p.2)) z.cells).bind fun cs=>.ok (.agg cs)
 | .bar _ k z parts=>(br (fun i=>some (i * k,k)) (parts.map fun p=>(p.1,sf.ev F p.2)) z.cells).bind fun cs=>.ok (.agg cs)
 | .lookup _ k z ok m key=>fu k z ok st (sf.ev F m) (sf.ev F key)
 | .mkfn _ g first cap=>if ((first.map (sf.ev F))++(cap.map (sf.ev F))).all AV.solid1 = true then .ok (.fn (.func (F g)) (first.map (sf.ev F)) (cap.map (sf.ev F))) else .fail
 | .len _ k x=>lenI k st (sf.ev F x)
 | .mn _ lt x y=>bh lt (sf.ev F x) (sf.ev F y)
 | .app _ k bytes x y=>bE st k bytes (sf.ev F x) (sf.ev F y)
 | _=>.fail
def AI.dst:AI→Option Nat
 | .mv d _ | .pick d _ _ _ | .bin d _ _ _ _ | .un d _ _ | .conv d _ _ | .ext d _ _ | .field d _ _ _ | .addr d _ _ | .ixS d _ _ _ | .ixA d _ _ _ _ | .ixStr d _ _ | .ixArr d _ _ _ _ _ | .load d _ _ | .nilck d _
 | .sliS d _ _ _ _ | .sliStr d _ _ _ | .sli3 d _ _ _ _ _ | .mkif d _ _ | .tas d _ _ | .bsl d _ _ _ _ | .bst d _ _ _ | .bar d _ _ _ | .lookup d _ _ _ _ _ | .mkfn d _ _ _ | .len d _ _ | .mn d _ _ _ | .app d _ _ _ _ | .call d _ _ _ | .x d _=>d
 | .own d _ | .loadOwn d _ | .sliOwn d _ _ _ | .appS d _ _ _ _ | .newL d _ | .newB d _ | .boxL d _ _ | .boxB d _ _ | .mkmap d=>some d
 | .store .. | .del .. | .upd ..=>none
def aW (m:Bool) (i:AI) (sf:Sf) (st:St):Res (Sf×St) :=
 match i with
 | .own d s=>.ok ((sf.disAt s).set d (sf.reg s),st)
 | .loadOwn d x =>
   match sf.ev F x with
   | .lptr s off=>(Res.ofOpt (look s sf.locs)).bind fun cs=>match cs[off]? with
     | some (.sl true k es)=>.ok ((sf.setLoc s (cs.set off (.sl false k es))).set d (.sl true k es),st)
     | _=>vI (some d) sf st (popI F (.load (some d) x none) sf st)
   | .ptr id off=>if m then vI (some d) sf st (popI F (.load (some d) x none) sf st) else (Res.ofOpt (st.get id)).bind fun cs=>match cs[off]? with
     | some (.sl true k es)=>.ok (sf.set d (.sl true k es),st.set id (cs.set off (.sl false k es)))
     | _=>vI (some d) sf st (popI F (.load (some d) x none) sf st)
   | _=>vI (some d) sf st (popI F (.load (some d) x none) sf st)
 | .sliOwn d s lo k =>
   match sf.reg s with
   | .sl true k' es=>if k' = k then (ixTo (some (sf.ev F lo)) 0 es.length).bind fun l=>.ok ((sf.disAt s).set d (.sl true k (es.drop l)),st) else .fail
   | _=>vI (some d) sf st (popI F (.sliS (some d) (.r s) (some lo) none k) sf st)
 | .appS d s k bytes y =>
   match sf.reg s with
   | .sl true k' es=>(cg st k bytes (.sl true k' es) (sf.ev F y)).bind fun v=>.ok ((sf.disAt s).set d v,st)
   | _=>vI (some d) sf st (popI F (.app (some d) k bytes (.r s) y) sf st)
 | .newL d cs=>.ok (sf.newLoc d cs,st)
 | .newB d cs=>if m then .fail else .ok (sf.set d (.ptr st.boxes.length 0),st.push (.cells cs))
 | .boxL d n x=>if (sf.evOwn F x).solid = true∧(sf.evOwn F x).cells.length = n then .ok (sf.newLoc d (sf.evOwn F x).dis.cells,st) else .fail
 | .boxB d n x=>if (sf.evOwn F x).solid = true∧(sf.evOwn F x).cells.length = n∧m = false then .ok ((sf.disOp x).set d (.ptr st.boxes.length 0),st.push (.cells (sf.evOwn F x).cells)) else .fail
 | .store n a x=>if (sf.evOwn F x).solid = true∧(sf.evOwn F x).cells.length = n then rJ m (sf.disOp x) st (sf.ev F a) (sf.evOwn F x).cells else .fail
 | .del k mp key=>if keyI k (sf.ev F key) = true∧m = false then
   match sf.ev F mp with
   | .map id=>(Res.ofOpt (st.getM id)).bind fun es=>(bU (sf.ev F key) es 0).bind fun r=>match r with
     | some (i,_)=>.ok (sf,st.delM id es i)
     | none=>.ok (sf,st)
   | _=>.fail
  else .fail
 | .mkmap d=>if m then .fail else .ok (sf.set d (.map st.boxes.length),st.push (.mp [] [] 0))
 | .upd k mp key x=>if keyI k (sf.ev F key) = true∧m = false∧(sf.ev F x).solid = true then
   match sf.ev F mp with
   | .map id=>(Res.ofOpt (st.getM id)).bind fun es=>(bU (sf.ev F key) es 0).bind fun r=>.ok (sf,st.updM id es (sf.ev F key) (sf.ev F x).dis r)
   | _=>.fail
  else .fail
 | .call ..=>.fail
 | i=>vI i.dst sf st (popI F i sf st)
end
end Go.Fx
namespace Go.Fx
open Go
section
variable (P:Program) (gOf:FuncId→Option Nat) (F:Nat→FuncId) (n:Nat)
def opd:Operand→Option Opd
 | .tmp t=>if t < n then some (.r t) else none
 | .const v=>some (.c (if flat v then .lit v else .any))
 | .global _=>some (.c .any)
 | .func f => match gOf f with
   | some g=>if F g = f then some (.f g) else none
   | none=>none
def opds:List Operand→Option (List Opd)
 | []=>some []
 | x :: r => match opd gOf F n x, opds r with
   | some y,some l=>some (y::l)
   | _,_=>none
def opdO:Option Operand→Option (Option Opd)
 | none=>some none
 | some x=>(opd gOf F n x).map some
def e8:List (Nat×Operand)→Option (List (Nat×Opd))
 | []=>some []
 | (i, x) :: r => match opd gOf F n x, e8 r with
   | some y,some l=>some ((i,y)::l)
   | _,_=>none
def popC (d:Option Nat) (op:Op):Option AI :=
 match op with
 | .move x | .assign x=>(opd gOf F n x).map (.mv d)
 | .pick c a b => match opd gOf F n c, opd gOf F n a, opd gOf F n b with
   | some c,some a,some b=>some (.pick d c a b)
   | _,_,_=>none
 | .binOp op t x y _ => match binK P op t, opd gOf F n x, opd gOf F n y with
   | some k,some x,some y=>some (.bin d k op x y)
   | _,_,_=>none
 | .unOp op _ x=>(opd gOf F n x).map (.un d op)
 | .convert s t x => match convK P s t, opd gOf F n x with
   | some k,some x=>some (.conv d k x)
   | _,_=>none
 | .extract x i=>(opd gOf F n x).map (.ext d · i)
 | .field t x i => match g8 P t i, opd gOf F n x with
   | some f,some x=>(nv P f.type).map (.field d x f.offset ·)
   | _,_=>none
 | .fieldAddr t x i => match g8 P t i, opd gOf F n x with
   | some f,some x=>if (szT P f.type).getD 0 = 0 then none else some (.addr d x f.offset)
   | _,_=>none
 | .indexAddr t x i => match P.underlying t, opd gOf F n x, opd gOf F n i with
   | some (.slice e),some x,some i=>(szT P e).map (.ixS d x i ·)
   | some (.array m e),some x,some i=>(szT P e).map (.ixA d x i m ·)
   | _,_,_=>none
 | .index t x i => match P.underlying t, opd gOf F n x, opd gOf F n i with
   | some .string,some x,some i=>some (.ixStr d x i)
   | some (.array m e), some x, some i => match szT P e, nv P e with
     | some k,some t=>some (.ixArr d x i m k t)
     | _,_=>none
   | _,_,_=>none
 | .load t a => match opd gOf F n a, nv P t with
   | some a,some k=>some (.load d a k)
   | _,_=>none
 | .nilCheck x=>(opd gOf F n x).map (.nilck d)
 | .slice t x lo hi none => match P.underlying t, opd gOf F n x, opdO gOf F n lo, opdO gOf F n hi with
   | some (.slice e),some x,some lo,some hi=>(szT P e).map (.sliS d x lo hi ·)
   | some .string,some x,some lo,some hi=>some (.sliStr d x lo hi)
   | _,_,_,_=>none
 | .slice t x lo hi (some mx) => match P.underlying t, opd gOf F n x, opdO gOf F n lo, opdO gOf F n hi, opd gOf F n mx with
   | some (.slice e),some x,some lo,some hi,some mx=>(szT P e).map (.sli3 d x lo hi mx ·)
   | _,_,_,_,_=>none
 | .makeInterface t x => match P.underlying t, opd gOf F n x with
   | some (.interface _),_=>none
   | some _,some x=>some (.mkif d t x)
   | _,_=>none
 | .typeAssert x _ t false => match P.underlying t, opd gOf F n x with
   | some (.interface _),_=>none
   | some _,some x=>some (.tas d t x)
   | _,_=>none
 | .buildSlice t len parts => match P.underlying t with
   | some (.slice e) => match szT P e, cN P e, e8 gOf F n parts.toList with
     | some k,some z,some ps=>if 0 < k∧len * k≤1000000∧z.cells.length = k then some (.bsl d k len z ps) else none
     | _,_,_=>none
   | _=>none
 | .build t parts => match P.underlying t, cN P t, e8 gOf F n parts.toList with
   | some (.struct fields),some z,some ps=>(eS P fields).map (.bst d · z ps)
   | some (.array _ e),some z,some ps=>(szT P e).map (.bar d · z ps)
   | _,_,_=>none
 | .lookup t m k ok => match P.underlying t, opd gOf F n m, opd gOf F n k with
   | some (.map kt et), some m, some k => match keyK P kt, cN P et with
     | some kk,some z=>some (.lookup d kk z ok m k)
     | _,_=>none
   | _,_,_=>none
 | .makeFunc (.func f) first cap => match gOf f, opds gOf F n first.toList, opds gOf F n cap.toList with
   | some g,some fs,some cs=>if F g = f then some (.mkfn d g fs cs) else none
   | _,_,_=>none
 | .call { callee := .builtin b, args, argTypes } => match b, args.toList, argTypes.toList with
   | .len, [x], [t] => match lenK P t, opd gOf F n x with
     | some k,some x=>some (.len d k x)
     | _,_=>none
   | .min, [x, y], _ => match opd gOf F n x, opd gOf F n y with
     | some x,some y=>some (.mn d true x y)
     | _,_=>none
   | .max, [x, y], _ => match opd gOf F n x, opd gOf F n y with
     | some x,some y=>some (.mn d false x y)
     | _,_=>none
   | .append, [x, y], [t, t2] => match appK P t t2, opd gOf F n x, opd gOf F n y with
     | some k,some x,some y=>some (.app d k.1 k.2 x y)
     | _,_,_=>none
   | _,_,_=>none
 | _=>none
variable {P gOf F n}
theorem af {x:Operand} {y:Opd} (h:opd gOf F n x = some y) (sf:Sf):(sp n sf).ev x = sf.ev F y:=by
 cases x <;> simp only [opd] at h
 ·split at h
  ·rename_i hl; cases h; simp only [Fr.ev,Sf.ev]; exact co hl
  ·cases h
 ·cases h; rfl
 ·cases h; rfl
 ·split at h
  ·split at h
   ·rename_i g _ hg; cases h; simp only [Fr.ev,Sf.ev,hg]
   ·cases h
  ·cases h
theorem kw {x:Operand} {y:Opd} (h:opd gOf F n x = some y) (sf:Sf):(sp n sf).evOwn x = sf.evOwn F y:=by
 have he:=af h sf
 cases x with
 | tmp t =>
   simp only [opd] at h
   split at h
   ·cases h; exact he
   ·cases h
 | const v=>simp only [opd] at h; cases h; rfl
 | global g=>simp only [opd] at h; cases h; rfl
 | func f =>
   simp only [opd] at h
   split at h
   ·split at h
    ·rename_i g _ hg; cases h; simp only [Fr.evOwn,Sf.evOwn,Fr.ev,hg,AV.dis]
    ·cases h
   ·cases h
theorem rK {x:Operand} {y:Opd} (h:opd gOf F n x = some y) (sf:Sf):sp n (sf.disOp y) = (sp n sf).disOp x:=by
 cases x <;> simp only [opd] at h
 ·split at h
  ·rename_i hl; cases h; exact jP hl
  ·cases h
 ·cases h; rfl
 ·cases h; rfl
 ·split at h
  ·split at h
   ·cases h; rfl
   ·cases h
  ·cases h
theorem di {x:Option Operand} {y:Option Opd} (h:opdO gOf F n x = some y) (sf:Sf):x.map (sp n sf).ev = y.map (sf.ev F):=by
 cases x with
 | none=>simp only [opdO] at h; cases h; rfl
 | some x =>
   simp only [opdO] at h
   cases hx:opd gOf F n x with
   | none=>rw [hx] at h; cases h
   | some y'=>rw [hx] at h; cases h; simp [af hx sf]
theorem d7:∀ {xs:List Operand} {ys:List Opd},opds gOf F n xs = some ys→∀ sf,xs.map (sp n sf).ev = ys.map (sf.ev F)
 | [],ys,h,sf=>by simp only [opds] at h; cases h; rfl
 | x :: r, ys, h, sf => by
   simp only [opds] at h
   split at h
   ·rename_i y l hy hl; cases h; simp [af hy sf,d7 hl sf]
   ·cases h
theorem ky:∀ {xs:List (Nat×Operand)} {ys:List (Nat×Opd)},e8 gOf F n xs = some ys→∀ sf,(xs.map fun p=>(p.1,(sp n sf).ev p.2)) = ys.map fun p=>(p.1,sf.ev F p.2)
 | [],ys,h,sf=>by simp only [e8] at h; cases h; rfl
 | (i, x) :: r, ys, h, sf => by
   simp only [e8] at h
   split at h
   ·rename_i y l hy hl; cases h; simp [af hy sf,ky hl sf]
   ·cases h
theorem deref_sp (sf:Sf) (st:St) (v:AV):jK (sp n sf).locs st v = ag sf st v:=by
 cases v <;> rfl
end
end Go.Fx
namespace Go.Fx
open Go
section
variable {P:Program} {gOf:FuncId→Option Nat} {F:Nat→FuncId} {n:Nat}
theorem map_some {A B:Type} {f:A→B} {o:Option A} {b:B} (h:o.map f = some b):∃ a,o = some a∧f a = b:=by
 cases o <;> simp at h
 exact ⟨_,rfl,h⟩
theorem ej {d:Option Nat} {op:Op} {i:AI} (h:popC P gOf F n d op = some i) (sf:Sf) (st:St):Ref (popI F i sf st) (popR P op (sp n sf) st):=by
 cases op with
 | move x =>
   obtain ⟨y,hy,rfl⟩:=map_some h
   simp only [popI,popR,af hy sf]; exact Ref.refl _
 | assign x =>
   obtain ⟨y,hy,rfl⟩:=map_some h
   simp only [popI,popR,af hy sf]; exact Ref.refl _
 | pick c a b =>
   simp only [popC] at h
   split at h
   ·rename_i c' a' b' hc ha hb
    cases h
    simp only [popI,popR,af hc sf,af ha sf,af hb sf]; exact Ref.refl _
   ·cases h
 | binOp op t x y yt =>
   simp only [popC] at h
   split at h
   ·rename_i k x' y' hk hx hy
    cases h
    simp only [popI,popR,af hx sf,af hy sf]
    exact binK_ref hk _ _
   ·cases h
 | unOp op t x =>
   obtain ⟨y,hy,rfl⟩:=map_some h
   simp only [popI,popR,af hy sf]; exact Ref.refl _
 | convert s t x =>
   simp only [popC] at h
   split at h
   ·rename_i k x' hk hx
    cases h
    simp only [popI,popR,af hx sf]
    exact convK_ref hk st _
   ·cases h
 | extract x i =>
   obtain ⟨y,hy,rfl⟩:=map_some h
   simp only [popI,popR,af hy sf]; exact Ref.refl _
 | field t x i =>
   simp only [popC] at h
   split at h
   ·rename_i f x' hf hx
    obtain ⟨k,hk,rfl⟩:=map_some h
    simp only [popI,popR,hf,af hx sf]
    split
    ·rename_i cs heq
     simp only [heq]
     exact Ref.bind (iI hk _) fun _=>Ref.refl _
    ·exact Ref.fail _
   ·cases h
 | fieldAddr t x i =>
   simp only [popC] at h
   split at h
   ·rename_i f x' hf hx
    split at h
    ·cases h
    ·rename_i hz
     cases h
     simp only [popI,popR,hf,af hx sf]
     rw [if_neg hz]; exact Ref.refl _
   ·cases h
 | indexAddr t x i =>
   simp only [popC] at h
   split at h
   ·rename_i e x' i' hu hx hi
    obtain ⟨k,hk,rfl⟩:=map_some h
    simp only [popI,popR,hu,af hx sf,af hi sf]
    split
    ·rename_i own k' es heq
     split
     ·rename_i hkk; subst hkk
      simp only [heq,hk,if_true]; exact Ref.refl _
     ·exact Ref.fail _
    ·rename_i id k' off len cap heq
     split
     ·rename_i hkk; subst hkk
      simp only [heq,hk,if_true]; exact Ref.refl _
     ·exact Ref.fail _
    ·exact Ref.fail _
   ·rename_i m e x' i' hu hx hi
    obtain ⟨k,hk,rfl⟩:=map_some h
    simp only [popI,popR,hu,af hx sf,af hi sf,hk,Res.ofOpt]
    exact Ref.refl _
   ·cases h
 | index t x i =>
   simp only [popC] at h
   split at h
   ·rename_i x' i' hu hx hi
    cases h
    simp only [popI,popR,hu,af hx sf,af hi sf]
    split
    ·rename_i s heq
     simp only [heq]; exact Ref.refl _
    ·exact Ref.fail _
   ·rename_i m e x' i' hu hx hi
    split at h
    ·rename_i k t' hk ht
     cases h
     simp only [popI,popR,hu,af hx sf,af hi sf]
     split
     ·rename_i cs heq
      simp only [heq,hk,Res.ofOpt]
      refine Ref.bindL fun j=>?_
      simp only [Res.bind]
      exact Ref.bind (iI ht _) fun _=>Ref.refl _
     ·exact Ref.fail _
    ·cases h
   ·cases h
 | load t a =>
   simp only [popC] at h
   split at h
   ·rename_i a' k ha hk
    cases h
    simp only [popI,popR,af ha sf,deref_sp]
    exact Ref.bindL fun cs=>Ref.bind (iI hk _) fun _=>Ref.refl _
   ·cases h
 | nilCheck x =>
   obtain ⟨y,hy,rfl⟩:=map_some h
   simp only [popI,popR,af hy sf]; exact Ref.refl _
 | slice t x lo hi mx =>
   cases mx with
   | some mx =>
     simp only [popC] at h
     split at h
     ·rename_i e x' lo' hi' mx' hu hx hlo hhi hmx
      obtain ⟨k,hk,rfl⟩:=map_some h
      simp only [popI,popR,hu,af hx sf,di hlo sf,di hhi sf]
      split
      ·rename_i id k' off len cap heq
       split
       ·rename_i hkk; subst hkk
        simp only [heq,hk,if_true,sliB,Option.map_some,af hmx sf]; exact Ref.refl _
       ·exact Ref.fail _
      ·rename_i o k' es heq
       split
       ·rename_i hkk; subst hkk
        simp only [heq,hk,if_true,af hmx sf]; exact Ref.refl _
       ·exact Ref.fail _
      ·exact Ref.fail _
     ·cases h
   | none =>
     simp only [popC] at h
     split at h
     ·rename_i e x' lo' hi' hu hx hlo hhi
      obtain ⟨k,hk,rfl⟩:=map_some h
      simp only [popI,popR,hu,af hx sf,di hlo sf,di hhi sf]
      split
      ·rename_i own k' es heq
       split
       ·rename_i hkk; subst hkk
        simp only [heq,hk,if_true]; exact Ref.refl _
       ·exact Ref.fail _
      ·rename_i heq
       simp only [heq,hk,Option.isSome_some,if_true]; exact Ref.refl _
      ·rename_i id k' off len cap heq
       split
       ·rename_i hkk; subst hkk
        simp only [heq,hk,if_true,sliB,Option.map_none]; exact Ref.refl _
       ·exact Ref.fail _
      ·exact Ref.fail _
     ·rename_i x' lo' hi' hu hx hlo hhi
      cases h
      simp only [popI,popR,hu,af hx sf,di hlo sf,di hhi sf]
      split
      ·rename_i s heq
       simp only [heq]; exact Ref.refl _
      ·exact Ref.fail _
     ·cases h
 | buildSlice t len parts =>
   simp only [popC] at h
   split at h
   ·rename_i e hu
    split at h
    ·rename_i k z ps hk hz hps
     split at h
     ·rename_i hc
      cases h
      simp only [popI,popR,hu,hk]
      rw [if_pos ⟨hc.1,hc.2.1⟩]
      intro K hK
      rw [Res.wp_bind]
      refine Res.wp_of_opt hz ?_
      rw [if_pos hc.2.2,ky hps sf]
      exact hK
     ·cases h
    ·cases h
   ·cases h
 | build t parts =>
   simp only [popC] at h
   split at h
   ·rename_i fields z ps hu hz hps
    obtain ⟨places,hp,rfl⟩:=map_some h
    simp only [popI,popR,hu,hp,Res.ofOpt,Res.bind]
    intro K hK
    rw [Res.wp_bind]
    refine Res.wp_of_opt hz ?_
    rw [ky hps sf]
    exact hK
   ·rename_i m e z ps hu hz hps
    obtain ⟨k,hp,rfl⟩:=map_some h
    simp only [popI,popR,hu,hp,Res.ofOpt]
    intro K hK
    rw [Res.wp_bind]
    refine Res.wp_of_opt hz ?_
    simp only [Res.bind]
    rw [ky hps sf]
    exact hK
   ·cases h
 | lookup t m k ok =>
   simp only [popC] at h
   split at h
   ·rename_i kt et m' k' hu hm hk
    split at h
    ·rename_i kk z hkk hz
     cases h
     simp only [popI,popR,af hm sf,af hk sf]
     exact lookup_ref hu hkk hz st _ _ ok
    ·cases h
   ·cases h
 | makeInterface t x =>
   simp only [popC] at h
   split at h
   ·cases h
   ·rename_i dd x' hu hne hx
    cases h
    simp only [popI,popR,hne,af hx sf]
    split
    ·exact Ref.refl _
    ·exact Ref.fail _
   ·cases h
 | typeAssert x xt t ok =>
   cases ok with
   | true=>simp only [popC] at h; cases h
   | false =>
     simp only [popC] at h
     split at h
     ·cases h
     ·rename_i dd x' hu hne hx
      cases h
      simp only [popI,popR,hne,af hx sf]
      split
      ·rename_i t' v heq
       simp only [heq]
       cases dd <;> first | exact Ref.refl _ | exact absurd hne (hu _)
      ·exact Ref.fail _
     ·cases h
 | makeFunc f first cap =>
   cases f <;> simp only [popC] at h <;> try (cases h; done)
   split at h
   ·rename_i g fs cs hg hfs hcs
    split at h
    ·rename_i hF
     cases h
     simp only [popI,popR,d7 hfs sf,d7 hcs sf,hF]
     exact Ref.refl _
    ·cases h
   ·cases h
 | call c =>
   obtain ⟨callee,args,ts⟩:=c
   cases callee with
   | builtin b =>
     simp only [popC] at h
     split at h
     ·rename_i x t hargs hts
      split at h
      ·rename_i k x' hk hx
       cases h
       simp only [popI,popR,hargs,hts,af hx sf]
       exact len_ref hk st _
      ·cases h
     ·rename_i x y hargs
      split at h
      ·rename_i x' y' hx hy
       cases h
       simp only [popI,popR,hargs,af hx sf,af hy sf]
       exact Ref.refl _
      ·cases h
     ·rename_i x y hargs
      split at h
      ·rename_i x' y' hx hy
       cases h
       simp only [popI,popR,hargs,af hx sf,af hy sf]
       exact Ref.refl _
      ·cases h
     ·rename_i x y t t2 hargs hts
      split at h
      ·rename_i k x' y' hk hx hy
       cases h
       simp only [popI,popR,hargs,hts,af hx sf,af hy sf]
       exact appNew_ref hk st _ _
      ·cases h
     ·cases h
   | value f=>simp only [popC] at h; cases h
   | invoke r m=>simp only [popC] at h; cases h
 | _=>simp only [popC] at h; cases h
end
end Go.Fx
namespace Go.Fx
open Go
theorem aZ {A B C:Type} (r:Res A) (f:A→Res B) (g:B→Res C):(r.bind f).bind g = r.bind fun a=>(f a).bind g:=by
 induction r with
 | ok a=>rfl
 | fail=>rfl
 | req b r ih=>simp only [Res.bind,ih]
section
variable (P:Program) (gOf:FuncId→Option Nat) (F:Nat→FuncId) (n:Nat)
def mM (heap:Nat→Bool) (all:List Oper) (o:Oper):Option AI :=
 match o.op,o.dst with
 | .alloc t,some s=>(cN P t).map fun z=>if heap s then .newB s z.cells else .newL s z.cells
 | .box t x, some s => match opd gOf F n x, szT P t with
   | some y,some k=>some (if heap s then .boxB s k y else .boxL s k y)
   | _,_=>none
 | .store t a x, none => match opd gOf F n a, opd gOf F n x, szT P t with
   | some a,some x,some k=>some (.store k a x)
   | _,_,_=>none
 | .assign (.tmp sx),some sd=>if sx≠sd∧sx < n then some (.own sd sx) else none
 | .move (.tmp sx),some sd=>if sx≠sd∧nE all sd = true then (if sx < n then some (.own sd sx) else none) else popC P gOf F n (some sd) o.op
 | .load t a,some sd=>if nE all sd = true∧aw P t = false∧szT P t = some 1∧(P.underlying t).isSome then (opd gOf F n a).map (.loadOwn sd) else popC P gOf F n (some sd) o.op
 | .slice t (.tmp sx) (some lo) none none, some sd => match P.underlying t with
   | some (.slice e) => if sx ≠ sd ∧ sx < n then (match szT P e, opd gOf F n lo with
     | some k,some lo=>some (.sliOwn sd sx lo k)
     | _,_=>none) else none
   | _=>popC P gOf F n (some sd) o.op
 | .call { callee := .builtin .append, args, argTypes }, some sd => match args.toList, argTypes.toList with
   | [.tmp sx, y], [t, t2] => if sx ≠ sd ∧ sx < n then (match appK P t t2, opd gOf F n y with
     | some k,some y=>some (.appS sd sx k.1 k.2 y)
     | _,_=>none) else none
   | _,_=>popC P gOf F n (some sd) o.op
 | .call { callee := .builtin .delete, args, argTypes }, none => match args.toList, argTypes.toList with
   | [mp, k], t :: _ => match P.underlying t with
     | some (.map kt _) => match keyK P kt, opd gOf F n mp, opd gOf F n k with
       | some kk,some mp,some k=>some (.del kk mp k)
       | _,_,_=>none
     | _=>none
   | _,_=>none
 | .makeMap _ none,some s=>some (.mkmap s)
 | .mapUpdate t mp k x, none => match P.underlying t with
   | some (.map kt _) => match keyK P kt, opd gOf F n mp, opd gOf F n k, opd gOf F n x with
     | some kk,some mp,some k,some x=>some (.upd kk mp k x)
     | _,_,_,_=>none
   | _=>none
 | op,d=>popC P gOf F n d op
variable {P gOf F n}
theorem popC_step {d:Option Nat} {op:Op} {i:AI} (h:popC P gOf F n d op = some i) (m:Bool) (sf:Sf) (st:St):aW F m i sf st = vI d sf st (popI F i sf st):=by
 unfold popC at h
 repeat' (split at h)
 all_goals first
  | (cases h; done)
  | (cases h; rfl)
  | (obtain ⟨_,_,rfl⟩:=map_some h; rfl)
theorem kz {heap:Nat→Bool} {all:List Oper} {m:Bool} {o:Oper} {i:AI} {d:Option Nat} (hd:o.dst = d) (h:popC P gOf F n d o.op = some i) (sf:Sf) (st:St) (hA:db P m heap all o (sp n sf) st = putR P o (sp n sf) st) :
  Ref ((aW F m i sf st).bind fun q=>.ok (sp n q.1,q.2)) (db P m heap all o (sp n sf) st):=by
 rw [hA,popC_step h,vI,aZ]
 unfold putR
 refine Ref.bind (ej h sf st) fun v=>Ref.of_eq ?_
 simp only [Res.bind,hd,aJ]
theorem vI_ref {d:Option Nat} {op:Op} {o:Oper} {r:Res AV} {s:Res AV} (hr:Ref r s) (hd:o.dst = d) (ho:o.op = op) (sf:Sf) (st:St) (hs:s = popR P op (sp n sf) st):Ref ((vI d sf st r).bind fun q=>.ok (sp n q.1,q.2)) (putR P o (sp n sf) st):=by
 unfold vI putR
 rw [aZ,ho,← hs]
 refine Ref.bind hr fun v=>Ref.of_eq ?_
 simp only [Res.bind,hd,aJ]
end
end Go.Fx
