/- An evaluator for resolved code, proved against the model: part 5. -/
import Derived.Test.YtenijlfcfmhmkaaFxD
import Derived.RangeFuncRecord
import Derived.RangeFuncIn
import Derived.Deep.LoopGhost
import Derived.Scope
import Derived.ProofKit
/- Ranges over functions: the loop's record, the rounds, the marks. -/
namespace Go.Fx
open Go Go.RowKit Go.Lib
section
variable {P:Program} {m:Bool} {E:Ent} {g g':Gh} {w w':World} {fr fr':Fr} {st st':St} {a a':Act}
def Gh.newC (g:Gh) (b:Nat) (c:Cls):Gh:={ g with cls:=fun k=>if k = b then some c else g.cls k }
theorem wr_put (w:World) (b:Nat) (o:Obj):Wr w b (w.putObj b o):=⟨rfl,rfl,rfl,by simp,fun _ hk=>World.putObj_heap_other hk⟩
theorem Ok.newC (h:Ok false E g w fr st a) {o:Obj} (hw:Nw w o w') (c:Cls):Ok false E (g.newC w.heap.size c) w' fr st a:=by
  have hg:=h.ctx.good
  have hmv:Mv false E.N E.d g w (g.newC w.heap.size c) w':=by
    refine ⟨hw.os,hw.tape,hw.output,by rw [hw.size]; omega,rfl,fun k hk=>hw.old k (Nat.lt_of_lt_of_le hk hg.base),fun _ _ _ h=>h,fun _ _ h=>h,fun d' hd=>rfl,fun k c hk _=>⟨?_,hw.old k (hg.cls k c hk).2,rfl⟩,
      (fun e=>by cases e),hw.good hg (c:=c) rfl rfl (fun _=>rfl)⟩
    simp [Gh.newC,iW hg hk,hk]
  have hch:Ch (fun _=>False) none none none E.d g w (g.newC w.heap.size c) w' :=
    ⟨⟨fun _ _ _ h=>h,fun i b h=>h⟩,fun k c hk _ _ _=>⟨by simp [Gh.newC,iW hg hk,hk],hw.old k (hg.cls k c hk).2,rfl⟩,fun s' hs=>rfl⟩
  exact h.ch hmv hch h.size h.defers (fun t v u hv hu=>.inr ⟨hv,hu,fun i c _=>.inl (fun e=>e),fun _ _ _=>by simp⟩) (fun t cs' hc=>.inr ⟨hc,by simp,by simp,fun _ _ _=>.inl (fun e=>e)⟩)
    (fun id hid=>h.ctx.box.1 id hid) (fun id cs' hc=>.inr ⟨hc,by simp,fun _ _ _=>.inl (fun e=>e)⟩) (fun id bx he _=>.inr ⟨he,by simp⟩) (fun e=>by cases e)
def RegsR (g:Gh) (r:Loop) (rs:List (Nat×AV)):Prop:=∀ p ∈ rs,R g p.2 (r.tmps.getD p.1 undef)∧∀ c ∈ p.2.cells,c.noOwn
theorem Ok.newLp (h:Ok false E g w fr st a) {r:Loop} {rs:List (Nat×AV)} (hw:Nw w (.loop r) w') (hr:RegsR g r rs):Ok false E (g.newB w.heap.size st.boxes.length) w' fr (st.push (.lp r rs)) a:=by
  have hg:=h.ctx.good
  have hid:=h.ctx.box.1 st.boxes.length (Nat.le_refl _)
  have hch:=Nw.chB (d:=E.d) hw hg _ hid
  refine h.ch (hw.mvB hg _ hid) hch h.size h.defers (fun t v u hv hu=>.inr ⟨hv,hu,fun i c _=>.inl (fun e=>e),fun _ _ _=>by simp⟩) (fun t cs' hc=>.inr ⟨hc,by simp,by simp,fun _ _ _=>.inl (fun e=>e)⟩) (fun id hid=>?_) (fun id cs' hc=>?_) (fun id bx he hob=>?_) (fun e=>by cases e)
  · simp [St.push] at hid
    have:¬ id = st.boxes.length:=by omega
    simp only [Gh.newB,this,if_false]
    exact h.ctx.box.1 id (by omega)
  · rcases aI hc with h1 | ⟨rfl,h1⟩
    · exact .inr ⟨h1,by simp,fun _ _ _=>.inl (fun e=>e)⟩
    · cases h1
  · rcases aI he with h1 | ⟨rfl,h1⟩
    · exact .inr ⟨h1,by simp⟩
    · cases h1
      exact .inl ⟨w.heap.size,.loop r,by simp [Gh.newB],by simp [Gh.newB],hw.new,rfl,fun p hp=>⟨(hr p hp).1.mono hch.ghle,(hr p hp).2⟩⟩
theorem Ok.setLp (h:Ok false E g w fr st a) {id b:Nat} {r r':Loop} {rs:List (Nat×AV)} (hl:st.boxes[id]? = some (some (.lp r rs))) (hb:g.bx id = some b) (ht:r'.tmps = r.tmps) :
    Ok false E g (w.putObj b (.loop r')) fr (st.setL id r' rs) a:=by
  obtain ⟨b',a1,a2,a3,a4⟩:=h.ctx.box.lp hl
  have:b' = b:=Option.some.inj (a1.symm.trans hb)
  subst this
  have hg:=h.ctx.good
  have hlt:b' < w.heap.size:=(Array.getElem?_eq_some_iff.1 a3).1
  have hw:=wr_put w b' (.loop r')
  have hch:Ch (fun _=>False) none none (some id) E.d g w g (w.putObj b' (.loop r')):=hw.ch a2 (.inr ⟨id,rfl,rfl⟩)
  refine h.ch (hw.mv hg a2 (fun e=>e) (fun L e=>by cases e) (fun e=>by cases e)) hch h.size h.defers (fun t v u hv hu=>.inr ⟨hv,hu,fun i c _=>.inl (fun e=>e),fun _ _ _=>by simp⟩) (fun t cs' hc=>.inr ⟨hc,by simp,by simp,fun _ _ _=>.inl (fun e=>e)⟩)
    (fun id' hid=>h.ctx.box.1 id' (by simpa [St.setL] using hid)) (fun id' cs' hc=>?_) (fun id' bx he0 hob=>?_) (fun e=>by cases e)
  · rcases dJ hc with ⟨rfl,e⟩ | ⟨hne,hc⟩
    · cases e
    · exact .inr ⟨hc,fun e=>hne (by cases e; rfl),fun _ _ _=>.inl (fun e=>e)⟩
  · rcases dJ he0 with ⟨rfl,e⟩ | ⟨hne,hc⟩
    · cases e
      exact .inl ⟨b',.loop r',a1,a2,World.putObj_heap_same hlt,rfl,fun p hp=>by rw [ht]; exact a4 p hp⟩
    · exact .inr ⟨hc,fun e=>hne (by cases e; rfl)⟩
def St.drop (st:St) (id:Nat):St:=⟨st.boxes.set id none⟩
theorem drop_box {id id':Nat} {b:Box} (h:(st.drop id).boxes[id']? = some (some b)):id'≠id∧st.boxes[id']? = some (some b):=by
  simp only [St.drop] at h
  by_cases e:id' = id
  · subst e
    rw [List.getElem?_set] at h
    simp at h
  · rw [List.getElem?_set_ne (fun q=>e q.symm)] at h
    exact ⟨e,h⟩
theorem Ok.dropLp (h:Ok false E g w fr st a) {id b:Nat} {r:Loop} {rs:List (Nat×AV)} (hl:st.boxes[id]? = some (some (.lp r rs))) (hb:g.bx id = some b) (o:Obj):Ok false E g (w.putObj b o) fr (st.drop id) a:=by
  obtain ⟨b',a1,a2,a3,a4⟩:=h.ctx.box.lp hl
  have:b' = b:=Option.some.inj (a1.symm.trans hb)
  subst this
  have hg:=h.ctx.good
  have hw:=wr_put w b' o
  have hch:Ch (fun _=>False) none none (some id) E.d g w g (w.putObj b' o):=hw.ch a2 (.inr ⟨id,rfl,rfl⟩)
  refine h.ch (hw.mv hg a2 (fun e=>e) (fun L e=>by cases e) (fun e=>by cases e)) hch h.size h.defers (fun t v u hv hu=>.inr ⟨hv,hu,fun i c _=>.inl (fun e=>e),fun _ _ _=>by simp⟩) (fun t cs' hc=>.inr ⟨hc,by simp,by simp,fun _ _ _=>.inl (fun e=>e)⟩)
    (fun id' hid=>h.ctx.box.1 id' (by simpa [St.drop] using hid)) (fun id' cs' hc=>?_) (fun id' bx he0 hob=>?_) (fun e=>by cases e)
  · obtain ⟨hne,hc⟩:=drop_box hc
    exact .inr ⟨hc,fun e=>hne (by cases e; rfl),fun _ _ _=>.inl (fun e=>e)⟩
  · obtain ⟨hne,hc⟩:=drop_box he0
    exact .inr ⟨hc,fun e=>hne (by cases e; rfl)⟩
def Ext (m:Bool) (E E':Ent):Prop :=
  E' = E∨(m = false∧E'.d = E.d∧E'.N = E.N∧E'.lo = E.lo∧E.w.heap.size≤E'.w.heap.size∧∀ g w,Mv false E.N E.d E'.g E'.w g w→Mv false E.N E.d E.g E.w g w)
theorem Ext.refl (m:Bool) (E:Ent):Ext m E E:=.inl rfl
theorem Ext.trans {E1 E2 E3:Ent} (h:Ext m E1 E2) (k:Ext m E2 E3):Ext m E1 E3:=by
  rcases h with rfl | ⟨h1,h2,h3,h4,h6,h5⟩
  · exact k
  rcases k with rfl | ⟨k1,k2,k3,k4,k6,k5⟩
  · exact .inr ⟨h1,h2,h3,h4,h6,h5⟩
  · rw [h2,h3] at k5
    exact .inr ⟨h1,k2.trans h2,k3.trans h3,k4.trans h4,Nat.le_trans h6 k6,fun g w q=>h5 g w (k5 g w q)⟩
theorem Ext.dd {E E':Ent} (h:Ext m E E'):E'.d = E.d:=by rcases h with rfl | h; rfl; exact h.2.1
theorem Ext.NN {E E':Ent} (h:Ext m E E'):E'.N = E.N:=by rcases h with rfl | h; rfl; exact h.2.2.1
theorem Ext.szw {E E':Ent} (h:Ext m E E'):E.w.heap.size≤E'.w.heap.size:=by rcases h with rfl | h; exact Nat.le_refl _; exact h.2.2.2.2.1
theorem Ext.lolo {E E':Ent} (h:Ext m E E'):E'.lo = E.lo:=by rcases h with rfl | h; rfl; exact h.2.2.2.1
theorem Ok.anew (h:Ok false E g w fr st a) {ds:List Deferred} (hd:DefsR ⟨E.d,E.N,g,w,st,E.lo⟩ ds):Ok false ⟨E.d,E.N,g,w,st,E.lo⟩ g w fr st { a with defers:=ds } :=
  ⟨h.size,h.slots,h.ctx,hd,Mv.refl h.ctx.good,fun e=>(by cases e),h.hN,h.hm⟩
theorem Ok.ext (h:Ok false E g w fr st a):Ext false E ⟨E.d,E.N,g,w,st,E.lo⟩:=.inr ⟨rfl,rfl,rfl,rfl,h.mv.size,fun _ _ k=>h.mv.trans k⟩
theorem Ok.defs (h:Ok false E g w fr st a) {D:Nat} {s:Nat} {dd:Nat} (hD:g.cls D = some (.loc dd s)) (hdd:dd < E.d) (hh:w.heap[D]? = some (.deferred (some []))) (hlo:E.lo≤D) (hnew:E.w.heap.size≤D) :
    DefsR ⟨E.d,E.N,g,w,st,E.lo⟩ ({ target:=.collected D,args:=#[] }::a.defers):=by
  refine ⟨fun x hx=>?_,?_⟩
  · rcases List.mem_cons.1 hx with rfl | hx
    · exact ⟨D,dd,s,rfl,hlo,hD,hdd,hh⟩
    · obtain ⟨D0,d0,s0,h1,h2,h3,h4,h5⟩:=h.defers.all x hx
      obtain ⟨q1,q2,_⟩:=h.mv.outer D0 _ h3 h4
      exact ⟨D0,d0,s0,h1,h2,q1,h4,by rw [q2]; exact h5⟩
  · simp only [List.map_cons,List.nodup_cons]
    refine ⟨fun hx=>?_,h.defers.nd⟩
    obtain ⟨x,hx,e⟩:=List.mem_map.1 hx
    obtain ⟨D0,d0,s0,rfl,h2,h3,h4,h5⟩:=h.defers.all x hx
    cases e
    have:=(Array.getElem?_eq_some_iff.1 h5).1
    omega
theorem Ok.putD (h:Ok false E g w fr st a) {D dd s:Nat} (hD:g.cls D = some (.loc dd s)) (hdd:dd≠E.d) (hE:E.g.cls D = none) (hb:E.g.base≤D) (o:Obj):Ok false E g (w.putObj D o) fr st a:=by
  have hg:=h.ctx.good
  have hw:=wr_put w D o
  have hi:∀ q,g.imm D q = none:=fun q=>by
    cases hh:g.imm D q with
    | none=>rfl
    | some u=>rcases hg.immc D q u hh with h1 | ⟨L,h1⟩ <;> rw [hD] at h1 <;> cases h1
  have hgood:Good g (w.putObj D o):=by
    refine ⟨fun k o' u hh=>?_,hg.immc,fun k c' hk=>?_,by rw [hw.size]; exact hg.base⟩
    · have hne:k≠D:=fun e=>by subst e; rw [hi o'] at hh; cases hh
      have:=hg.imm k o' u hh
      unfold World.cell? at this ⊢
      rw [hw.other k hne]; exact this
    · rw [hw.size]; exact hg.cls k c' hk
  have hown:∀ {N:Nat} {L:Loc} {x:AV} {u:Value},Own g w N L x u→Own g (w.putObj D o) N L x u:=by
    intro N L x u ho
    refine ⟨fun k es e=>?_,fun id s l stp e=>?_⟩
    · rcases ho.1 k es e with h0 | ⟨b,q,c,cur,T,h1,hN,h2,h3,h4⟩
      · exact .inl h0
      · have hne:b≠D:=fun e=>by subst e; rw [hD] at h2; cases h2
        exact .inr ⟨b,q,c,cur,T,h1,hN,h2,by rw [hw.other b hne]; exact h3,h4⟩
    · obtain ⟨b,mb,sp,h1,hN,h2,h3,h4⟩:=ho.2 id s l stp e
      have hne:b≠D:=fun e=>by subst e; rw [hD] at h2; cases h2
      exact ⟨b,mb,sp,h1,hN,h2,by rw [hw.other b hne]; exact h3,h4⟩
  refine ⟨h.size,fun t v u hv hu=>⟨(h.slots t v u hv hu).1,fun i c x hc hx=>hown ((h.slots t v u hv hu).2 i c x hc hx)⟩,⟨hgood,fun t cs hc=>?_,⟨h.ctx.box.1,fun id cs hc=>?_,fun id bx hc hob=>?_⟩⟩,h.defers,?_,fun e=>(by cases e),by rw [hw.size]; exact h.hN,h.hm⟩
  · obtain ⟨b,us,T,h1,hN,h2,h3,h4,h5⟩:=h.ctx.loc t cs hc
    have hne:b≠D:=fun e=>by subst e; rw [hD] at h2; cases h2; exact hdd rfl
    exact ⟨b,us,T,h1,hN,h2,by rw [hw.other b hne]; exact h3,h4,fun i c x hc hx=>⟨(h5 i c x hc hx).1,hown (h5 i c x hc hx).2⟩⟩
  · obtain ⟨b,us,T,h1,h2,h3,h4,h5,h6⟩:=h.ctx.box.2.1 id cs hc
    have hne:b≠D:=fun e=>by subst e; rw [hD] at h2; cases h2
    exact ⟨b,us,T,h1,h2,by rw [hw.other b hne]; exact h3,h4,fun i c x hc hx=>⟨(h5 i c x hc hx).1,hown (h5 i c x hc hx).2⟩,h6⟩
  · obtain ⟨b,o',h1,h2,h3,h4⟩:=h.ctx.box.2.2 id bx hc hob
    have hne:b≠D:=fun e=>by subst e; rw [hD] at h2; cases h2
    exact ⟨b,o',h1,h2,by rw [hw.other b hne]; exact h3,h4⟩
  · have hm:=h.mv
    refine ⟨hm.os,hm.tape,hm.output,by rw [hw.size]; exact hm.size,hm.base,fun b hb'=>?_,hm.imm,hm.bx,hm.lb,fun b c hc ho=>?_,(fun e=>by cases e),hgood⟩
    · rw [hw.other b (by omega)]; exact hm.low b hb'
    · have hne:b≠D:=fun e=>by subst e; rw [hE] at hc; cases hc
      rw [hw.other b hne]; exact hm.outer b c hc ho
end
end Go.Fx
/- Code, resolved: what it does, and that the model's code does it. -/
namespace Go.Fx
open Go Go.RowKit Go.Lib
inductive AC where
  | skip
  | ops (lv ll:List Nat) (l:List GI)
  | draw (lv ll drop:List Nat) (hl tl:List GI)
  | drawM (lv ll:List Nat) (pre:List GI) (d:Option Nat) (f:Opd) (args:List Opd) (post:List (Bool×GI)) (tl:List GI)
  | drawA (lv ll:List Nat) (pre:List GI) (d:Option Nat) (b:Opd) (k bytes:Nat) (y:Opd) (post:List (Bool×GI)) (tl:List GI)
  | drawG (lv ll drop:List Nat) (fl:List (Bool×GI)) (tl:List GI)
  | drawC (lv ll:List Nat) (pre:List GI) (d:Option Nat) (f:Opd) (args:List Opd) (post tl:List GI)
  | seq (a b:AC)
  | cond (x:Opd) (a b:AC)
  | block (id:Nat) (b:AC)
  | loop (lv ll:List Nat) (b:AC)
  | exit (lv ll:List Nat) (id:Nat)
  | scope (b:AC)
  | rangeF (lv ll:List Nat) (x:Opd) (ps lb:List Nat) (a b:AC)
  | ret
  | bad
def fO:List Nat→List (Nat×List AV)→List (Nat×List AV)
  | [],_=>[]
  | s :: r, locs => match look s locs with
    | some cs=>(s,cs)::fO r locs
    | none=>fO r locs
def Sf.mask (lv ll:List Nat) (sf:Sf):Sf:=⟨lv.map fun t=>(t,sf.reg t),fO ll sf.locs⟩
def seqQ (C:Sf→St→(Exit→Sf→St→Prop)→Prop) (Q:Exit→Sf→St→Prop):Exit→Sf→St→Prop
  | .normal,sf,st=>C sf st Q
  | e,sf,st=>Q e sf st
def e7 (id:Nat) (Q:Exit→Sf→St→Prop):Exit→Sf→St→Prop
  | .exit id',sf,st=>if id' = id then Q .normal sf st else Q (.exit id') sf st
  | e,sf,st=>Q e sf st
def scopeQ (Q:Exit→Sf→St→Prop):Exit→Sf→St→Prop
  | .goto _,_,_=>False
  | e,sf,st=>Q e sf st
def loopQ (I:Nat→Sf→St→Prop) (k:Nat) (lv ll:List Nat) (Q:Exit→Sf→St→Prop):Exit→Sf→St→Prop
  | .normal,sf,st=>∃ k',k' < k∧∃ sf',Sf.le (sf.mask lv ll) sf'∧I k' sf' st
  | e,sf,st=>Q e sf st
def Opd.setB (x:Opd) (sf:Sf) (b:Bool):Sf:=match x with | .r t=>sf.set t (.lit (.bool b)) | _=>sf
def opsK (lv ll:List Nat) (Q:Exit→Sf→St→Prop) (sf:Sf) (st:St):Prop:=Q .normal (sf.mask lv ll) st
def fo (x:Opd) (v:AV) (A B:Sf→St→(Exit→Sf→St→Prop)→Prop) (sf:Sf) (st:St) (Q:Exit→Sf→St→Prop):Prop :=
  match v with
  | .lit (.bool b)=>(b = true→A (x.setB sf true) st Q)∧(b = false→B (x.setB sf false) st Q)
  | _=>False
def br (C:Sf→St→(Exit→Sf→St→Prop)→Prop) (lv ll:List Nat) (sf:Sf) (st:St) (Q:Exit→Sf→St→Prop):Prop :=
  ∃ I:Nat→Sf→St→Prop,(∃ k sf',Sf.le (sf.mask lv ll) sf'∧I k sf' st)∧∀ k sf st,I k sf st→C sf st (loopQ I k lv ll Q)
def AV.keep (v:AV):AV:=if v.noL then v.dis else .any
def jD:List Nat→Sf→List (Nat×AV)
  | [],_=>[]
  | t::r,sf=>(t,(sf.reg t).keep)::jD r sf
def kE:List (Nat×AV)→List Nat→List AV→List (Nat×AV)
  | regs,p::ps,v::vs=>kE (setR regs p v.dis) ps vs
  | regs,_,_=>regs
def fP (r:Loop):Loop:={ r with state:=.busy }
def ja (r:Loop) (c:Code):Loop:={ r with state:=.done,pending:=some c }
def St.isLp (st:St) (id:Nat) (r:Loop) (rs:List (Nat×AV)):Prop:=st.boxes[id]? = some (some (.lp r rs))
def endI (id:Nat) (r:Loop) (rs:List (Nat×AV)) (Q:Bool→St→Prop):Exit→Sf→St→Prop
  | .normal,_,st=>st.isLp id (fP r) rs∧Q true (st.setL id r rs)
  | .ret,_,st=>st.isLp id (fP r) rs∧Q false (st.setL id (ja r .ret) rs)
  | .exit k,_,st=>st.isLp id (fP r) rs∧Q false (st.setL id (ja r (.exit k)) rs)
  | _,_,_=>False
def assignQ (CB:Sf→St→(Exit→Sf→St→Prop)→Prop) (id:Nat) (r:Loop) (rs:List (Nat×AV)) (Q:Bool→St→Prop):Exit→Sf→St→Prop
  | .normal,sf,st=>st.isLp id r rs∧CB sf (st.setL id (fP r) rs) (endI id r rs Q)
  | _,_,_=>False
def roundI (CA CB:Sf→St→(Exit→Sf→St→Prop)→Prop) (ps:List Nat) (id:Nat) (r:Loop) (rs:List (Nat×AV)) (vs:List AV) (st:St) (Q:Bool→St→Prop):Prop :=
  st.isLp id r rs∧vs.length = ps.length∧CA ⟨kE rs ps vs,[]⟩ st (assignQ CB id r rs Q)
def behindI (lv ll:List Nat) (id:Nat) (r:Loop) (rs:List (Nat×AV)) (sf:Sf) (st:St) (Q:Exit→Sf→St→Prop):Prop :=
  (st.isLp id r rs∧Q .normal (sf.mask lv ll) (st.drop id))∨(st.isLp id (ja r .ret) rs∧Q .ret sf (st.drop id))∨∃ k,st.isLp id (ja r (.exit k)) rs∧Q (.exit k) (sf.mask lv ll) (st.drop id)
def mM (P:Program) (CA CB:Sf→St→(Exit→Sf→St→Prop)→Prop) (ps lb lv ll:List Nat) (v:AV) (sf:Sf) (st:St) (Q:Exit→Sf→St→Prop):Prop :=
  match v with
  | .fn (.func q) fs cs=>aZ P q = true∧∀ r:Loop,(∀ vs st' Q',roundI CA CB ps st.boxes.length r (jD lb sf) vs st' Q'→mA P st.boxes.length vs st' Q') →
      ∃ Qc,az P q (fs++[.yld st.boxes.length]++cs) (st.push (.lp r (jD lb sf))) Qc∧∀ v st',Qc v st'→behindI lv ll st.boxes.length r (jD lb sf) sf st' Q
  | _=>False
section
variable (P:Program) (F:Nat→FuncId) (m:Bool)
def cZ (drop lv ll:List Nat) (tl:List GI) (Q:Exit→Sf→St→Prop) (st:St) (ks:List PK) (sf:Sf):Prop :=
  ksB drop ks = true∧runI P F m tl (opsK lv ll Q) (bp ks ks (bO ks sf)) st
def jE (lv ll:List Nat) (tl:List GI) (Q:Exit→Sf→St→Prop) (st:St) (sf:Sf):Prop:=runI P F m tl (opsK lv ll Q) sf st
def tailX (drop lv ll:List Nat) (tl:List GI) (Q:Exit→Sf→St→Prop) (SS:Nat→St→Prop) (j:Nat) (ks:List PK) (sf:Sf):Prop :=
  ksB drop ks = true∧∀ s,SS j s→runI P F m tl (opsK lv ll Q) (bp ks ks (bO ks sf)) s
def drawX (locs0:List (Nat×List AV)) (st:St) (fl:List (Bool×GI)) (K:(Nat→St→Prop)→Nat→List PK→Sf→Prop) (sf:Sf):Prop :=
  ∃ SS:Nat→St→Prop,SS 0 st∧(∀ j s,SS j s→St.sub st s)∧preX P F locs0 st SS 0 fl (K SS) [] sf
def aC:AC→Sf→St→(Exit→Sf→St→Prop)→Prop
  | .skip,sf,st,Q=>Q .normal sf st
  | .ops lv ll l,sf,st,Q=>runI P F m l (opsK lv ll Q) sf st
  | .draw lv ll drop hl tl,sf,st,Q=>ap P F sf.locs st hl (cZ P F m drop lv ll tl Q st) [] ⟨sf.regs,a8 drop sf.locs⟩
  | .drawM lv ll pre d f args post tl,sf,st,Q=>m = false∧drawM P F pre d f args post sf st (jE P F m lv ll tl Q)
  | .drawA lv ll pre d b k bytes y post tl,sf,st,Q=>m = false∧drawA P F pre d b k bytes y post sf st (jE P F m lv ll tl Q)
  | .drawG lv ll drop fl tl,sf,st,Q=>m = false∧drawX P F sf.locs st fl (tailX P F m drop lv ll tl Q) ⟨sf.regs,a8 drop sf.locs⟩
  | .drawC lv ll pre d f args post tl,sf,st,Q=>m = false∧drawC P F pre d f args post sf st (jE P F m lv ll tl Q)
  | .seq a b,sf,st,Q=>aC a sf st (seqQ (aC b) Q)
  | .cond x a b,sf,st,Q=>fo x (sf.ev F x) (aC a) (aC b) sf st Q
  | .block id b,sf,st,Q=>aC b sf st (e7 id Q)
  | .loop lv ll b,sf,st,Q=>br (aC b) lv ll sf st Q
  | .exit lv ll id,sf,st,Q=>Q (.exit id) (sf.mask lv ll) st
  | .scope b,sf,st,Q=>aC b sf st (scopeQ Q)
  | .rangeF lv ll x ps lb a b,sf,st,Q=>m = false∧mM P (aC a) (aC b) ps lb lv ll (sf.ev F x) sf st Q
  | .ret,sf,st,Q=>Q .ret sf st
  | .bad,_,_,_=>False
end
structure Cx where
  gOf:FuncId→Option Nat
  F:Nat→FuncId
  n:Nat
  heap:Nat→Bool
  mu:Nat→Bool
  ms:Nat→List Nat×List Nat
def gn (sl:Nat→Option Nat):List Oper→List Nat
  | []=>[]
  | o :: r => (match o.op, o.dst with
    | .alloc _,some s=>[s]
    | .store _ (.tmp t) _,none=>(sl t).toList
    | _,_=>[])++gn sl r
section
variable (P:Program) (X:Cx)
def headOf (l:List Oper):Option Nat:=(List.range (l.length + 1)).find? fun k=>dirB l.toArray k
def dstB (n:Nat) (l:List Oper):Bool:=l.all fun o=>match o.dst with | some d=>decide (d < n) | none=>true
def isMk (o:Oper):Bool :=
  match o.op,o.dst,o.guard with
  | .call { callee:=.value _,.. },some s,none=>X.mu s
  | _,_,_=>false
def isGk (o:Oper):Bool :=
  match o.op,o.dst with
  | .call { callee:=.value _,.. },some s=>X.mu s
  | _,_=>false
def growB (l:List Oper):Bool:=(l.filter (isGk X)).any (fun o=>o.guard.isSome) || decide (2≤(l.filter (isGk X)).length)
def mN (l:List Oper) (gl:List GI):List (Bool×GI):=gl.zipIdx.map fun p=>(match l[p.2]? with | some o=>isGk X o | none=>false,p.1)
def ordG (ops:List Oper) (k:Nat):Bool :=
  (List.range k).all fun i'=>(List.range i').all fun i=>match ops[i]?,ops[i']? with
    | some o,some o'=>!(isGk X o && isGk X o') || aF ops.toArray k i' i
    | _,_=>true
def mO (p:Nat) (ops:List Oper) (k:Nat):Option AC :=
  if ordG X ops k = false then none else match bI P X.gOf X.F X.n X.heap ops (ops.take k),gD P X.gOf X.F X.n X.heap X.mu false ops (ops.drop k) with
  | some hl,some tl=>some (.drawG (X.ms p).1 (X.ms p).2 (gn some (ops.take k)) (mN X (ops.take k) hl) tl)
  | _,_=>none
def mP (p:Nat) (ops:List Oper) (k κ:Nat):Option AC :=
  match ops[κ]? with
  | some o => match o.op with
    | .call { callee := .value f, args, .. } =>
      if o.guard = none∧κ < k then
        match opd X.gOf X.F X.n f,opds X.gOf X.F X.n args.toList,bI P X.gOf X.F X.n X.heap ops (ops.take κ),bI P X.gOf X.F X.n X.heap ops ((ops.take k).drop (κ + 1)),gD P X.gOf X.F X.n X.heap X.mu false ops (ops.drop k) with
        | some f,some args,some pre,some post,some tl=>some (.drawM (X.ms p).1 (X.ms p).2 pre o.dst f args (ez ops k κ post) tl)
        | _,_,_,_,_=>none
      else none
    | _=>none
  | none=>none
def isMa (o:Oper):Bool :=
  match o.op,o.dst,o.guard with
  | .call { callee:=.builtin .append,.. },some s,none=>X.mu s
  | _,_,_=>false
def mQ (p:Nat) (ops:List Oper) (k κ:Nat):Option AC :=
  match ops[κ]? with
  | some o => match o.op with
    | .call { callee := .builtin .append, args, argTypes } =>
      if o.guard = none∧κ < k then
        match args.toList,argTypes.toList with
        | [x,y],[t,t2]=>if apzB P t = true then
            match appK P t t2,opd X.gOf X.F X.n x,opd X.gOf X.F X.n y,bI P X.gOf X.F X.n X.heap ops (ops.take κ),bI P X.gOf X.F X.n X.heap ops ((ops.take k).drop (κ + 1)),gD P X.gOf X.F X.n X.heap X.mu false ops (ops.drop k) with
            | some kb,some b,some y,some pre,some post,some tl=>some (.drawA (X.ms p).1 (X.ms p).2 pre o.dst b kb.1 kb.2 y (ez ops k κ post) tl)
            | _,_,_,_,_,_=>none
          else none
        | _,_=>none
      else none
    | _=>none
  | none=>none
def chainB (ops:List Oper) (k κ:Nat):Bool :=
  (List.range κ).all (fun i=>aF ops.toArray k κ i && (match ops[i]? with | some o=>o.guard.isNone | none=>false)) &&
  (List.range k).all (fun i=>decide (i≤κ) || aF ops.toArray k i κ) &&
  (ops.take κ).all (fun o=>((ops.take k).drop (κ + 1)).all fun o'=>decide (o.dst≠o'.dst)) &&
  (ops.take κ).any (fun o=>match o.dst with | some d=>X.mu d | none=>false)
def mR (p:Nat) (ops:List Oper) (k κ:Nat):Option AC :=
  match ops[κ]? with
  | some o => match o.op with
    | .call { callee := .value f, args, .. } =>
      if o.guard = none∧κ < k then
        match opd X.gOf X.F X.n f,opds X.gOf X.F X.n args.toList,bI P X.gOf X.F X.n X.heap ops (ops.take κ),bI P X.gOf X.F X.n X.heap ops ((ops.take k).drop (κ + 1)),gD P X.gOf X.F X.n X.heap X.mu false ops (ops.drop k) with
        | some f,some args,some pre,some post,some tl=>some (.drawC (X.ms p).1 (X.ms p).2 pre o.dst f args post tl)
        | _,_,_,_,_=>none
      else none
    | _=>none
  | none=>none
def bK:Code→Bool
  | .seq a b=>bK a && bK b
  | .cond _ a b=>bK a && bK b
  | .block _ b=>bK b
  | .loop b=>bK b
  | .scope b=>bK b
  | .rangeFunc _ _ _ _=>false
  | _=>true
def headOfL (l:List Oper):Option Nat:=(List.range (l.length + 1)).find? fun k=>dirL true l.toArray k
def jb (p:Nat) (ops:List Oper) (k:Nat):Option AC :=
  match bI P X.gOf X.F X.n X.heap ops (ops.take k),gD P X.gOf X.F X.n X.heap X.mu false ops (ops.drop k) with
  | some hl,some tl=>some (.draw (X.ms p).1 (X.ms p).2 (gn some (ops.take k)) (ldL (gn some (ops.take k)) ops.toArray (ops.take k) hl) tl)
  | _,_=>some .bad
def compDL (p:Nat) (ops:List Oper):Option AC :=
  match headOfL ops with
  | none=>some .bad
  | some k=>if dirL true ops.toArray k && jx ops.toArray k && dstB X.n (ops.take k) then jb P X p ops k else some .bad
def kF (p:Nat) (ops:List Oper):Option AC :=
  if (X.ms 3000000021).1.isEmpty = false then compDL P X p ops else
  match headOf ops with
  | none=>some .bad
  | some k =>
    if dirB ops.toArray k && jx ops.toArray k && dstB X.n (ops.take k) then
      if growB X (ops.take k) then (match mO P X p ops k with
        | some c=>some c
        | none=>some .bad) else
      match (ops.take k).findIdx? (isMk X) with
      | some κ => if chainB X ops k κ then (match mR P X p ops k κ with
        | some c=>some c
        | none=>some .bad) else (match mP P X p ops k κ with
        | some c=>some c
        | none=>some .bad)
      | none => match (ops.take k).findIdx? (isMa X) with
        | some κ => (match mQ P X p ops k κ with
          | some c=>some c
          | none=>some .bad)
        | none=>jb P X p ops k
    else some .bad
def bP:Nat→Code→Option AC
  | _,.skip=>some .skip
  | _,.label _=>some .skip
  | p,.region _ ops false=>(gD P X.gOf X.F X.n X.heap X.mu false ops.toList ops.toList).map (.ops (X.ms p).1 (X.ms p).2)
  | p,.region _ ops true=>kF P X p (eagL (X.ms 3000000019).1 ops.toList)
  | p, .seq a b => match bP (2 * p) a, bP (2 * p + 1) b with
    | some a,some b=>some (.seq a b)
    | _,_=>none
  | p, .cond c a b => match opd X.gOf X.F X.n c, bP (2 * p) a, bP (2 * p + 1) b with
    | some c,some a,some b=>some (.cond c a b)
    | _,_,_=>none
  | p,.block id b=>(bP (2 * p) b).map (.block id)
  | p,.loop b=>(bP (2 * p) b).map (.loop (X.ms p).1 (X.ms p).2)
  | p,.exit id=>some (.exit (X.ms p).1 (X.ms p).2 id)
  | p,.scope b=>(bP (2 * p) b).map .scope
  | _,.ret=>some .ret
  | _,.goto _=>some .bad
  | p, .rangeFunc x ps a b => match opd X.gOf X.F X.n x, bP (2 * p) a, bP (2 * p + 1) b with
    | some x,some a',some b'=>if bK a && bK b && ps.toList.all (fun t=>decide (t < X.n)) && (X.ms (1000000007 + p)).1.all (fun t=>decide (t < X.n)) then some (.rangeF (X.ms p).1 (X.ms p).2 x ps.toList (X.ms (1000000007 + p)).1 a' b') else some .bad
    | _,_,_=>some .bad
  | _,.refuse _=>some .bad
end
section
variable {P:Program} {X:Cx} {m:Bool} {E:Ent} {g:Gh} {w:World} {sf:Sf} {st:St} {a:Act}
theorem jc:∀ (ll:List Nat) (locs:List (Nat×List AV)) (s:Nat) (cs:List AV),look s (fO ll locs) = some cs→look s locs = some cs
  | [],_,_,_,h=>by simp [fO,look] at h
  | t :: r, locs, s, cs, h => by
    simp only [fO] at h
    split at h
    · rename_i cs' hl
      simp only [look] at h
      split at h
      · rename_i e; subst e; cases h; exact hl
      · exact jc r locs s cs h
    · exact jc r locs s cs h
theorem dS:∀ (drop:List Nat) (locs:List (Nat×List AV)) (s:Nat) (cs:List AV),look s (a8 drop locs) = some cs→look s locs = some cs∧drop.contains s = false
  | _,[],_,_,h=>by simp [a8,look] at h
  | drop, (t, ct) :: r, s, cs, h => by
    simp only [a8] at h
    split at h
    · rename_i hd
      obtain ⟨h1,h2⟩:=dS drop r s cs h
      refine ⟨?_,h2⟩
      simp only [look]
      split
      · rename_i e; subst e; rw [hd] at h2; cases h2
      · exact h1
    · rename_i hd
      simp only [look] at h ⊢
      split
      · rename_i e
        subst e
        simp only [if_true] at h
        exact ⟨h,by simpa using hd⟩
      · rename_i e
        simp only [e,if_false] at h
        exact dS drop r s cs h
theorem l4 (f:Nat→AV):∀ (lv:List Nat) (t:Nat),getR (lv.map fun t=>(t,f t)) t = f t∨getR (lv.map fun t=>(t,f t)) t = .any
  | [],t=>.inr rfl
  | q :: r, t => by
    simp only [List.map_cons,getR]
    split
    · rename_i e; subst e; exact .inl rfl
    · exact l4 f r t
theorem Ok.forget {fr fr':Fr} (h:Ok m E g w fr st a) (hl:fr'.slots.length = fr.slots.length) (hs:∀ (s:Nat) (v:AV),fr'.slots[s]? = some v→fr.slots[s]? = some v∨v = AV.any) (hlo:∀ s cs,look s fr'.locs = some cs→look s fr.locs = some cs):Ok m E g w fr' st a:=by
  refine ⟨by rw [h.size,hl],fun s v u hv hu=>?_,⟨h.ctx.good,fun s cs hc=>h.ctx.loc s cs (hlo s cs hc),h.ctx.box⟩,h.defers,h.mv,h.pst,h.hN,h.hm⟩
  rcases hs s v hv with h1 | rfl
  · exact h.slots s v u h1 hu
  · exact ⟨R.any _,fun i c x hc _=>Own.of_no (aa (v:=.any) (fun _ e=>by cases e) trivial i c hc)⟩
theorem Ok.mask {n:Nat} (h:Ok m E g w (sp n sf) st a) (lv ll:List Nat):Ok m E g w (sp n (sf.mask lv ll)) st a:=by
  refine h.forget (by simp [cp]) (fun s v hv=>?_) (fun s cs hc=>jc ll sf.locs s cs hc)
  rw [cc] at hv ⊢
  split at hv
  · rename_i hl
    rw [if_pos hl]
    cases hv
    rcases l4 sf.reg lv s with e | e
    · left; exact congrArg some e.symm
    · right; exact e
  · cases hv
theorem cx {f:PK→Option Nat}:∀ {ks:List PK} {l:List Nat},l = ks.filterMap f→aU l = true→∀ (i j s:Nat) (x y:PK),ks[i]? = some x→ks[j]? = some y→f x = some s→f y = some s→i = j
  | [],_,_,_,i,j,s,x,y,hx,_,_,_=>by simp at hx
  | k :: ks, l, hl, hd, i, j, s, x, y, hx, hy, fx, fy => by
    have hmem:∀ (q:Nat) (z:PK),ks[q]? = some z→f z = some s→s ∈ ks.filterMap f:=fun q z hz fz=>List.mem_filterMap.2 ⟨z,List.mem_of_getElem? hz,fz⟩
    cases hk:f k with
    | none =>
      have hl':l = ks.filterMap f:=by rw [hl]; simp [hk]
      cases i with
      | zero=>simp at hx; subst hx; rw [hk] at fx; cases fx
      | succ i => cases j with
        | zero=>simp at hy; subst hy; rw [hk] at fy; cases fy
        | succ j=>exact congrArg Nat.succ (cx hl' hd i j s x y (by simpa using hx) (by simpa using hy) fx fy)
    | some t =>
      have hl':l = t::ks.filterMap f:=by rw [hl]; simp [hk]
      rw [hl'] at hd
      simp only [aU,Bool.and_eq_true,Bool.not_eq_true'] at hd
      cases i with
      | zero => cases j with
        | zero=>rfl
        | succ j =>
          simp at hx hy; subst hx
          rw [hk] at fx; cases fx
          have:=hmem j y hy fy
          rw [List.contains_eq_mem] at hd
          simp [this] at hd
      | succ i => cases j with
        | zero =>
          simp at hx hy; subst hy
          rw [hk] at fy; cases fy
          have:=hmem i x hx fx
          rw [List.contains_eq_mem] at hd
          simp [this] at hd
        | succ j=>exact congrArg Nat.succ (cx rfl hd.2 i j s x y (by simpa using hx) (by simpa using hy) fx fy)
theorem gR:∀ ks:List PK,aB ks = ks.filterMap fun | .store s _=>some s | _=>none
  | []=>rfl
  | k::r=>by cases k <;> simp [aB,gR r]
theorem apps_map:∀ ks:List PK,bG ks = ks.filterMap fun | .app s _=>some s | _=>none
  | []=>rfl
  | k::r=>by cases k <;> simp [bG,apps_map r]
theorem kG:∀ ks:List PK,bg ks = ks.filterMap fun | .new s _=>some s | _=>none
  | []=>rfl
  | k::r=>by cases k <;> simp [bg,kG r]
theorem nsts_map:∀ ks:List PK,bH ks = ks.filterMap fun | .nst s _=>some s | _=>none
  | []=>rfl
  | k::r=>by cases k <;> simp [bH,nsts_map r]
theorem nstB_ok:∀ {ks:List PK} {seen:List (Nat×Nat)},nstB seen ks = true→∀ (i s:Nat) cs,ks[i]? = some (.nst s cs)→(s,cs.length) ∈ seen∨∃ k cs0,k < i∧ks[k]? = some (.new s cs0)∧cs0.length = cs.length
  | [],_,_,i,s,cs,hi=>by simp at hi
  | k :: r, seen, h, i, s, cs, hi => by
    have hstep:∀ seen',nstB seen' r = true→(∀ p,p ∈ seen'→p ∈ seen∨∃ cs0,k = .new p.1 cs0∧cs0.length = p.2)→∀ i',i = i' + 1→r[i']? = some (.nst s cs)→(s,cs.length) ∈ seen∨∃ k' cs0,k' < i∧(k::r)[k']? = some (.new s cs0)∧cs0.length = cs.length:=by
      intro seen' h' hsub i' e hi'
      rcases nstB_ok h' i' s cs hi' with hm | ⟨k',cs0,h1,h2,h3⟩
      · rcases hsub _ hm with hm | ⟨cs0,hk,hl⟩
        · exact .inl hm
        · exact .inr ⟨0,cs0,by omega,by simp [hk],hl⟩
      · exact .inr ⟨k' + 1,cs0,by omega,by simpa using h2,h3⟩
    cases i with
    | zero =>
      simp at hi
      subst hi
      simp only [nstB,Bool.and_eq_true] at h
      exact .inl (by simpa [List.contains_eq_mem] using h.1)
    | succ i =>
      simp at hi
      cases k with
      | new t ds =>
        simp only [nstB] at h
        refine hstep _ h (fun p hp=>?_) i rfl hi
        rcases List.mem_cons.1 hp with rfl | hp
        · exact .inr ⟨ds,rfl,rfl⟩
        · exact .inl hp
      | nst t ds =>
        simp only [nstB,Bool.and_eq_true] at h
        exact hstep _ h.2 (fun p hp=>.inl hp) i rfl hi
      | _=>exact hstep seen h (fun p hp=>.inl hp) i rfl hi
theorem d4 {drop:List Nat} {ks:List PK} (h:ksB drop ks = true):KsOk ks∧∀ s,drop.contains s = false→∀ (i:Nat) cs,ks[i]?≠some (.store s cs)∧ks[i]?≠some (.new s cs):=by
  unfold ksB at h
  simp only [Bool.and_eq_true] at h
  obtain ⟨⟨⟨⟨⟨⟨h5,h6⟩,h7⟩,h1⟩,h2⟩,h3⟩,h4⟩:=h
  have hs:∀ (i s:Nat) cs,ks[i]? = some (.store s cs)→s ∈ aB ks:=fun i s cs hi=>by rw [gR]; exact List.mem_filterMap.2 ⟨_,List.mem_of_getElem? hi,rfl⟩
  have hn:∀ (i s:Nat) cs,ks[i]? = some (.new s cs)→s ∈ bg ks:=fun i s cs hi=>by rw [kG]; exact List.mem_filterMap.2 ⟨_,List.mem_of_getElem? hi,rfl⟩
  refine ⟨⟨fun i j s cs cs' hi hj=>cx (gR ks) h1 i j s _ _ hi hj rfl rfl,fun i j t v v' hi hj=>cx (apps_map ks) h2 i j t _ _ hi hj rfl rfl,fun i j s cs cs' hi hj=>?_,
    fun i j s cs cs' hi hj=>cx (kG ks) h5 i j s _ _ hi hj rfl rfl,fun i j s cs cs' hi hj=>cx (nsts_map ks) h6 i j s _ _ hi hj rfl rfl,fun i s cs hi=>?_⟩,fun s hd i cs=>⟨fun hi=>?_,fun hi=>?_⟩⟩
  · have:=List.all_eq_true.1 h3 s (hs j s cs' hj)
    have hm:=hn i s cs hi
    rw [List.contains_eq_mem (as:=bg ks)] at this
    simp [hm] at this
  · rcases nstB_ok h7 i s cs hi with hm | hm
    · cases hm
    · exact hm
  · have:=List.all_eq_true.1 h3 s (hs i s cs hi)
    rw [hd] at this; simp at this
  · have:=List.all_eq_true.1 h4 s (hn i s cs hi)
    rw [hd] at this; cases this
theorem cg (n:Nat):∀ (ks:List PK) (sf:Sf),sp n (bO ks sf) = finS ks (sp n sf)
  | [],_=>rfl
  | .store s cs::r,sf=>cg n r _
  | .val _::r,sf=>cg n r _
  | .skip::r,sf=>cg n r _
  | .new _ _::r,sf=>cg n r _
  | .nst _ _::r,sf=>cg n r _
  | .app _ _::r,sf=>cg n r _
  | .mk _ _::r,sf=>cg n r _
  | .hole::r,sf=>cg n r _
  | .chole _ _::r,sf=>cg n r _
theorem ci (n:Nat) (all:List PK):∀ (ks:List PK) (sf:Sf),sp n (bp all ks sf) = finN all ks (sp n sf)
  | [],_=>rfl
  | .new s cs::r,sf=>by simp only [bp,finN]; rw [ci n all r,i4]
  | .val _::r,sf=>ci n all r _
  | .skip::r,sf=>ci n all r _
  | .store _ _::r,sf=>ci n all r _
  | .nst _ _::r,sf=>ci n all r _
  | .app _ _::r,sf=>ci n all r _
  | .mk _ _::r,sf=>ci n all r _
  | .hole::r,sf=>ci n all r _
  | .chole _ _::r,sf=>ci n all r _
theorem apr_none {P:Program} {d n:Nat} {st:St} {Qc:AV→St→Prop} {vs:List AV} {o:Oper} {f:Operand} {args:Array Operand} {ts:Array TypeId} (ho:o.op = .call ⟨.value f,args,ts⟩):ApR P d n st Qc vs o:=fun x y t t2 h=>by rw [ho] at h; cases h
theorem drawM_sound {rd:Option Nat} {p k κ:Nat} {ops:List Oper} {c:AC} (hc:mP P X p ops k κ = some c) (hdir:dirB ops.toArray k = true) (hcons:jx ops.toArray k = true) (hdst:dstB X.n (ops.take k) = true)
    {Q:Exit→Sf→St→Prop} {QQ:Exit→Act→World→Prop} (h:Ok m E g w (sp X.n sf) st a) (hK:aC P X.F m c sf st Q) (hq:∀ e sf st g w a,Ok m E g w (sp X.n sf) st a→Q e sf st→QQ e a w):cb rd P QQ ops.toArray a w:=by
  classical
  unfold mP at hc
  split at hc
  case h_2=>cases hc
  rename_i o ho
  split at hc
  case h_2=>cases hc
  rename_i f args ts hop
  split at hc
  case isFalse=>cases hc
  rename_i hgk
  obtain ⟨hgd,hκ⟩:=hgk
  split at hc
  case h_2=>cases hc
  rename_i f' args' pre post tl hf hargs hpre hpost htl
  cases hc
  obtain ⟨hmf,ρ,hsub,hK⟩:=hK
  generalize fm pre (ez ops k κ post) = drop at hK
  have hkl:k≤ops.length:=by
    have hB:=hdir
    unfold dirB at hB
    simp only [Bool.and_eq_true,decide_eq_true_eq] at hB
    have:=hB.1.1.1.1
    simpa using this
  have hsplit:ops.take k = ops.take κ++o::(ops.take k).drop (κ + 1):=by
    have h1:(ops.take k).take κ = ops.take κ:=by rw [List.take_take,Nat.min_eq_left (by omega)]
    have h2:(ops.take k)[κ]? = some o:=by rw [List.getElem?_take,if_pos hκ]; exact ho
    obtain ⟨hlt,h3⟩:=List.getElem?_eq_some_iff.1 h2
    have h4:=List.drop_eq_getElem_cons hlt
    rw [h3] at h4
    rw [← h4,← h1,List.take_append_drop]
  have hpl:(ops.take κ).length = κ:=by simp; omega
  -- ahead of the call
  obtain ⟨ks1,sf1,hr1,hv1,hK⟩:=eZ (SS:=St.sub ρ) (locs0:=sf.locs) (fun _ h=>h) hpre hK
  have hl1:ks1.length = κ:=by rw [mK hr1,hpl]
  simp only [atM,jC,List.nil_append] at hK
  split at hK
  case h_2=>exact hK.elim
  rename_i q fs cs hfv
  obtain ⟨hnl,hent,Qc,hA,hK⟩:=hK
  have hmap:=dw hargs sf1
  have hca:dl (sp X.n sf1) ⟨.value f,args,ts⟩ = some (q,fs++(args'.map (sf1.ev X.F)).map AV.dis++cs):=by
    unfold dl
    simp only [ae hf sf1,hfv,hmap,hnl,if_true]
    congr 3
    rw [← hmap,List.map_map]
    rfl
  have hga:aj ops.toArray (sp X.n sf1) o = some (.lit (.bool true)):=by simp [aj,hgd]
  -- before the call has ended
  obtain ⟨ksh,sfh,hrh,hoh,hK⟩:=iq (SS:=St.sub ρ) (locs0:=sf.locs) (fun _ h=>h) hpost (gm ops k κ post) hK
  simp only [List.nil_append] at hK
  obtain ⟨hkb0,hK⟩:=hK
  have hk0:∀ (kκ:PK) (ks2:List PK),kκ.inert = true→ksB drop (ks1++ks2) = true→ksB drop (ks1++kκ::ks2) = true:=fun kκ ks2 hi hb=>by rw [ksB_in hi]; exact hb
  have hlocs:∀ ks:List PK,ksB drop ks = true→∀ s cs,look s (sp X.n ⟨sf.regs,a8 drop sf.locs⟩).locs = some cs→look s (sp X.n sf).locs = some cs∧∀ (i:Nat) cs',ks[i]?≠some (.store s cs')∧ks[i]?≠some (.new s cs'):=by
    intro ks hb s cs hc
    obtain ⟨h1,h2⟩:=dS _ _ _ _ hc
    exact ⟨h1,fun i cs'=>(d4 hb).2 s h2 i cs'⟩
  have hdst':∀ o ∈ ops.take k,∀ d,o.dst = some d→d < (sp X.n sf).slots.length:=fun o ho d hd=>by
    have:=List.all_eq_true.1 hdst o ho
    rw [hd] at this
    rw [cp]
    simpa using this
  have hcst:PStep P ops.toArray ρ ((fun _ s=>s = st:Option Nat→St→Prop) o.dst) sf.locs o (sp X.n sf1) (.chole q (fs++(args'.map (sf1.ev X.F)).map AV.dis++cs)) (sp X.n (sf1.put o.dst .any)):=by
    rw [aL]
    exact .chole _ q _ hga hop hca
  have hr1':PRun P ops.toArray ρ (fun _ s=>s = st) sf.locs (ops.take κ) (sp X.n ⟨sf.regs,a8 drop sf.locs⟩) ks1 (sp X.n sf1):=hr1.weakSS fun _ _ e=>by rw [e]; assumption
  have hat1:∀ (i:Nat) (x:PK),i < κ→∀ kκ ks2,(ks1++kκ::ks2)[i]? = some x→x.real = true:=by
    intro i x hi kκ ks2 hx
    rw [List.getElem?_append_left (by omega)] at hx
    exact hv1 x (List.mem_of_getElem? hx)
  have hat2:∀ (i:Nat) (x:PK),κ < i→∀ kκ ks2,(ks1++kκ::ks2)[i]? = some x→ks2[i - κ - 1]? = some x:=by
    intro i x hi kκ ks2 hx
    rw [List.getElem?_append_right (by omega),show i - ks1.length = (i - κ - 1) + 1 by omega] at hx
    simpa using hx
  have hatκ:∀ kκ ks2,(ks1++kκ::ks2)[κ]? = some kκ:=fun kκ ks2=>by rw [List.getElem?_append_right (by omega)]; simp [hl1]
  have hnm0:∀ (i:Nat) (x:PK),(ks1++.chole q (fs++(args'.map (sf1.ev X.F)).map AV.dis++cs)::ksh)[i]? = some x→∀ v s,x≠.mk v s:=by
    intro i x hx v s e
    subst e
    rcases Nat.lt_trichotomy i κ with hi | hi | hi
    · have:=hat1 i _ hi _ _ hx; cases this
    · subst hi; rw [hatκ] at hx; cases hx
    · obtain ⟨b,gi,_,hb⟩:=bu hoh _ _ (hat2 i _ hi _ _ hx)
      rcases hb with ⟨_,e⟩ | ⟨_,hb⟩
      · cases e
      · cases hb
  have H0:Head P m E g w (sp X.n sf) st ρ (fun _ s=>s = st) a ops k k (ks1++.chole q (fs++(args'.map (sf1.ev X.F)).map AV.dis++cs)::ksh) (sp X.n ⟨sf.regs,a8 drop sf.locs⟩) (sp X.n sfh):=by
    have hb0:=hk0 (.chole q (fs++(args'.map (sf1.ev X.F)).map AV.dis++cs)) ksh rfl hkb0
    refine ⟨h,rfl,hlocs _ hb0,dv hdir true,hcons,hdst',Nat.le_refl k,?_,fun hm=>(by rw [hmf] at hm; cases hm),(d4 hb0).1⟩
    rw [hsplit]
    exact dq hr1' (.cons hcst (hrh.weakSS fun _ _ e=>by rw [e]; assumption))
  -- behind it
  have hω:∀ v s,Qc v s→∃ ks2 sf2,PRun P ops.toArray ρ (fun _ s'=>s' = st∨s' = s) sf.locs ((ops.take k).drop (κ + 1)) (sp X.n (sf1.put o.dst v)) ks2 (sp X.n sf2)∧(∀ x ∈ ks2,x.real = true)∧er (ez ops k κ post) ksh ks2∧St.sub ρ s∧finK drop (jE P X.F m (X.ms p).1 (X.ms p).2 tl Q s) (ks1++ks2) sf2:=by
    intro v s hQ
    obtain ⟨hs,hp⟩:=hK v s hQ
    rw [gm] at hp
    obtain ⟨ks2,sf2,hr2,hv2,hc2,hT⟩:=eZ (SS:=fun s'=>s' = st∨s' = s) (locs0:=sf.locs) (fun s' e=>by rcases e with rfl | rfl <;> assumption) hpost hp
    exact ⟨ks2,sf2,hr2,hv2,by simpa using hc2,hs,hT⟩
  let ksω:AV→St→List PK:=fun v s=>if hQ:Qc v s then ks1++.mk v s::(hω v s hQ).choose else []
  let frn:AV→St→Fr:=fun v s=>if hQ:Qc v s then sp X.n (hω v s hQ).choose_spec.choose else sp X.n sf
  have hksω:∀ v s (hQ:Qc v s),ksω v s = ks1++.mk v s::(hω v s hQ).choose:=fun v s hQ=>dif_pos hQ
  have hfrn:∀ v s (hQ:Qc v s),frn v s = sp X.n (hω v s hQ).choose_spec.choose:=fun v s hQ=>dif_pos hQ
  have hoi':∀ oi,ops.toArray[κ]? = some oi→oi = o:=fun oi h=>by
    have h1:ops[κ]? = some oi:=by simpa using h
    rw [ho] at h1; cases h1; rfl
  refine fI (κ:=κ) (n:=k) ksω frn hmf hdir hκ H0 (hatκ _ _) (fun i x hx=>?_) (fun i x hx hne hnh=>?_) (fun i hx=>?_) (fun _ _ _ _ _=>⟨hent,hA⟩) (fun oi hoi=>by rw [hoi' oi hoi]; exact apr_none hop) (fun _=>false) (fun _=>rfl) (fun i e=>by cases e) (fun v s hQ=>?_) (fun v s hQ=>?_) (fun v s hQ i x hne hx=>?_) (fun v s hQ i x hne hx hnh=>?_) (fun v s hQ j s' cs hj=>?_) (fun v s hQ g' w' a' hok=>?_)
  · have hnm:=hnm0 i x hx
    cases x <;> first | rfl | exact absurd rfl (hnm _ _)
  · rcases Nat.lt_trichotomy i κ with hi | hi | hi
    · exact hat1 i x hi _ _ hx
    · exact absurd hi hne
    · obtain ⟨b,gi,_,hb⟩:=bu hoh _ x (hat2 i x hi _ _ hx)
      rcases hb with ⟨_,e⟩ | ⟨_,hb⟩
      · exact absurd e hnh
      · exact hb
  · rcases Nat.lt_trichotomy i κ with hi | hi | hi
    · have:=hat1 i _ hi _ _ hx; cases this
    · subst hi; rw [hatκ] at hx; cases hx
    · obtain ⟨b,gi,hfl,hb⟩:=bu hoh _ _ (hat2 i _ hi _ _ hx)
      rcases hb with ⟨rfl,_⟩ | ⟨_,hb⟩
      · have:=flags_at ops k κ post _ _ _ hfl
        rw [show κ + 1 + (i - κ - 1) = i by omega] at this
        exact this.symm
      · cases hb
  · obtain ⟨hr2,hv2,hc2,hs,hT⟩:=(hω v s hQ).choose_spec.choose_spec
    have hbω:=hk0 (.mk v s) _ rfl hT.1
    refine ⟨fun _ s'=>s' = st∨s' = s,?_,fun _ _ _ _ _ _=>.inr rfl⟩
    rw [hksω v s hQ,hfrn v s hQ]
    refine ⟨h,rfl,hlocs _ hbω,dv hdir true,hcons,hdst',Nat.le_refl k,?_,fun hm=>(by rw [hmf] at hm; cases hm),(d4 hbω).1⟩
    · have hrr:=dq (hr1.weakSS (SS':=fun _ s'=>s' = st∨s' = s) fun _ s' e=>by rcases e with rfl | rfl <;> assumption) (.cons (k:=.mk v s) (by rw [aL]; exact .mk v s hga) hr2)
      exact (congrArg (fun z=>PRun P ops.toArray ρ (fun _ s'=>s' = st∨s' = s) sf.locs z (sp X.n ⟨sf.regs,a8 drop sf.locs⟩) (ks1++.mk v s::(hω v s hQ).choose) (sp X.n (hω v s hQ).choose_spec.choose)) hsplit).mpr hrr
  · rw [hksω v s hQ]; exact hatκ _ _
  · rw [hksω v s hQ] at hx
    obtain ⟨hr2,hv2,hc2,hs,hT⟩:=(hω v s hQ).choose_spec.choose_spec
    rcases Nat.lt_trichotomy i κ with hi | hi | hi
    · exact hat1 i x hi _ _ hx
    · exact absurd hi hne
    · exact hv2 x (List.mem_of_getElem? (hat2 i x hi _ _ hx))
  · rw [hksω v s hQ]
    obtain ⟨hr2,hv2,hc2,hs,hT⟩:=(hω v s hQ).choose_spec.choose_spec
    rcases Nat.lt_trichotomy i κ with hi | hi | hi
    · rw [List.getElem?_append_left (by omega)] at hx ⊢; exact hx
    · exact absurd hi hne
    · have hx2:=hat2 i x hi _ _ hx
      obtain ⟨b,gi,hfl,hb⟩:=bu hoh _ x hx2
      rcases hb with ⟨_,e⟩ | ⟨hbf,_⟩
      · exact absurd e hnh
      · have:=(eI hc2 _ b gi x hfl).1 hx2 hbf
        rw [List.getElem?_append_right (by omega),show i - ks1.length = (i - κ - 1) + 1 by omega]
        simpa using this
  · rw [hksω v s hQ] at hj
    obtain ⟨hr2,hv2,hc2,hs,hT⟩:=(hω v s hQ).choose_spec.choose_spec
    rcases Nat.lt_trichotomy j κ with hi | hi | hi
    · rw [List.getElem?_append_left (by omega)] at hj ⊢; exact hj
    · subst hi; rw [hatκ] at hj; cases hj
    · have hx2:=hat2 j _ hi _ _ hj
      have hlen:=gj hc2
      have hlt:j - κ - 1 < ksh.length:=by rw [hlen]; exact (List.getElem?_eq_some_iff.1 hx2).1
      obtain ⟨b,gi,hfl,_⟩:=bu hoh _ _ (List.getElem?_eq_getElem hlt)
      have:=(eI hc2 _ b gi _ hfl).2 hx2 ⟨_,_,rfl⟩
      rw [List.getElem?_append_right (by omega),show j - ks1.length = (j - κ - 1) + 1 by omega]
      simpa using this
  · rw [hksω v s hQ,hfrn v s hQ,← cg,← ci,fin_in rfl] at hok
    obtain ⟨hr2,hv2,hc2,hs,hT⟩:=(hω v s hQ).choose_spec.choose_spec
    exact bt (Q:=QQ) htl hok hT.2 fun sf st g w a hok hk=>hq _ _ _ _ _ _ (hok.mask _ _) hk
theorem drawA_sound {rd:Option Nat} {p k κ:Nat} {ops:List Oper} {c:AC} (hc:mQ P X p ops k κ = some c) (hdir:dirB ops.toArray k = true) (hcons:jx ops.toArray k = true) (hdst:dstB X.n (ops.take k) = true)
    {Q:Exit→Sf→St→Prop} {QQ:Exit→Act→World→Prop} (h:Ok m E g w (sp X.n sf) st a) (hK:aC P X.F m c sf st Q) (hq:∀ e sf st g w a,Ok m E g w (sp X.n sf) st a→Q e sf st→QQ e a w):cb rd P QQ ops.toArray a w:=by
  classical
  unfold mQ at hc
  split at hc
  case h_2=>cases hc
  rename_i o ho
  split at hc
  case h_2=>cases hc
  rename_i args ts hop
  split at hc
  case isFalse=>cases hc
  rename_i hgk
  obtain ⟨hgd,hκ⟩:=hgk
  split at hc
  case h_2=>cases hc
  rename_i ox oy t t2 hargs hts
  split at hc
  case isFalse=>cases hc
  rename_i haz
  split at hc
  case h_2=>cases hc
  rename_i kb b' y' pre post tl hak hx hy hpre hpost htl
  cases hc
  have e1:=args2 hargs
  have e2:=ts2 hts
  subst e1; subst e2
  obtain ⟨hmf,ρ,hsub,hK⟩:=hK
  generalize fm pre (ez ops k κ post) = drop at hK
  have hkl:k≤ops.length:=by
    have hB:=hdir
    unfold dirB at hB
    simp only [Bool.and_eq_true,decide_eq_true_eq] at hB
    have:=hB.1.1.1.1
    simpa using this
  have hsplit:ops.take k = ops.take κ++o::(ops.take k).drop (κ + 1):=by
    have h1:(ops.take k).take κ = ops.take κ:=by rw [List.take_take,Nat.min_eq_left (by omega)]
    have h2:(ops.take k)[κ]? = some o:=by rw [List.getElem?_take,if_pos hκ]; exact ho
    obtain ⟨hlt,h3⟩:=List.getElem?_eq_some_iff.1 h2
    have h4:=List.drop_eq_getElem_cons hlt
    rw [h3] at h4
    rw [← h4,← h1,List.take_append_drop]
  have hpl:(ops.take κ).length = κ:=by simp; omega
  -- ahead of the call
  obtain ⟨ks1,sf1,hr1,hv1,hK⟩:=eZ (SS:=St.sub ρ) (locs0:=sf.locs) (fun _ h=>h) hpre hK
  have hl1:ks1.length = κ:=by rw [mK hr1,hpl]
  simp only [atA,appM,List.nil_append] at hK
  obtain ⟨hbl,hyl,Qc,hsrc,hK⟩:=hK
  have hbx:=ae hx sf1
  have hyx:=ae hy sf1
  have hga:aj ops.toArray (sp X.n sf1) o = some (.lit (.bool true)):=by simp [aj,hgd]
  -- before the call has ended
  obtain ⟨ksh,sfh,hrh,hoh,hK⟩:=iq (SS:=St.sub ρ) (locs0:=sf.locs) (fun _ h=>h) hpost (gm ops k κ post) hK
  simp only [List.nil_append] at hK
  obtain ⟨hkb0,hK⟩:=hK
  have hk0:∀ (kκ:PK) (ks2:List PK),kκ.inert = true→ksB drop (ks1++ks2) = true→ksB drop (ks1++kκ::ks2) = true:=fun kκ ks2 hi hb=>by rw [ksB_in hi]; exact hb
  have hlocs:∀ ks:List PK,ksB drop ks = true→∀ s cs,look s (sp X.n ⟨sf.regs,a8 drop sf.locs⟩).locs = some cs→look s (sp X.n sf).locs = some cs∧∀ (i:Nat) cs',ks[i]?≠some (.store s cs')∧ks[i]?≠some (.new s cs'):=by
    intro ks hb s cs hc
    obtain ⟨h1,h2⟩:=dS _ _ _ _ hc
    exact ⟨h1,fun i cs'=>(d4 hb).2 s h2 i cs'⟩
  have hdst':∀ o ∈ ops.take k,∀ d,o.dst = some d→d < (sp X.n sf).slots.length:=fun o ho d hd=>by
    have:=List.all_eq_true.1 hdst o ho
    rw [hd] at this
    rw [cp]
    simpa using this
  have hcst:PStep P ops.toArray ρ ((fun _ s=>s = st:Option Nat→St→Prop) o.dst) sf.locs o (sp X.n sf1) (.chole 0 [(sp X.n sf1).ev ox,(sp X.n sf1).ev oy]) (sp X.n (sf1.put o.dst .any)):=by
    rw [aL]
    exact .ahole 0 ox oy t t2 hga hop
  have hr1':PRun P ops.toArray ρ (fun _ s=>s = st) sf.locs (ops.take κ) (sp X.n ⟨sf.regs,a8 drop sf.locs⟩) ks1 (sp X.n sf1):=hr1.weakSS fun _ _ e=>by rw [e]; assumption
  have hat1:∀ (i:Nat) (x:PK),i < κ→∀ kκ ks2,(ks1++kκ::ks2)[i]? = some x→x.real = true:=by
    intro i x hi kκ ks2 hx
    rw [List.getElem?_append_left (by omega)] at hx
    exact hv1 x (List.mem_of_getElem? hx)
  have hat2:∀ (i:Nat) (x:PK),κ < i→∀ kκ ks2,(ks1++kκ::ks2)[i]? = some x→ks2[i - κ - 1]? = some x:=by
    intro i x hi kκ ks2 hx
    rw [List.getElem?_append_right (by omega),show i - ks1.length = (i - κ - 1) + 1 by omega] at hx
    simpa using hx
  have hatκ:∀ kκ ks2,(ks1++kκ::ks2)[κ]? = some kκ:=fun kκ ks2=>by rw [List.getElem?_append_right (by omega)]; simp [hl1]
  have hnm0:∀ (i:Nat) (x:PK),(ks1++.chole 0 [(sp X.n sf1).ev ox,(sp X.n sf1).ev oy]::ksh)[i]? = some x→∀ v s,x≠.mk v s:=by
    intro i x hx v s e
    subst e
    rcases Nat.lt_trichotomy i κ with hi | hi | hi
    · have:=hat1 i _ hi _ _ hx; cases this
    · subst hi; rw [hatκ] at hx; cases hx
    · obtain ⟨b,gi,_,hb⟩:=bu hoh _ _ (hat2 i _ hi _ _ hx)
      rcases hb with ⟨_,e⟩ | ⟨_,hb⟩
      · cases e
      · cases hb
  have H0:Head P m E g w (sp X.n sf) st ρ (fun _ s=>s = st) a ops k k (ks1++.chole 0 [(sp X.n sf1).ev ox,(sp X.n sf1).ev oy]::ksh) (sp X.n ⟨sf.regs,a8 drop sf.locs⟩) (sp X.n sfh):=by
    have hb0:=hk0 (.chole 0 [(sp X.n sf1).ev ox,(sp X.n sf1).ev oy]) ksh rfl hkb0
    refine ⟨h,rfl,hlocs _ hb0,dv hdir true,hcons,hdst',Nat.le_refl k,?_,fun hm=>(by rw [hmf] at hm; cases hm),(d4 hb0).1⟩
    rw [hsplit]
    exact dq hr1' (.cons hcst (hrh.weakSS fun _ _ e=>by rw [e]; assumption))
  -- behind it
  have hω:∀ v s,Qc v s→∃ ks2 sf2,PRun P ops.toArray ρ (fun _ s'=>s' = st∨s' = s) sf.locs ((ops.take k).drop (κ + 1)) (sp X.n (sf1.put o.dst v)) ks2 (sp X.n sf2)∧(∀ x ∈ ks2,x.real = true)∧er (ez ops k κ post) ksh ks2∧St.sub ρ s∧finK drop (jE P X.F m (X.ms p).1 (X.ms p).2 tl Q s) (ks1++ks2) sf2:=by
    intro v s hQ
    obtain ⟨hs,hp⟩:=hK v s hQ
    rw [gm] at hp
    obtain ⟨ks2,sf2,hr2,hv2,hc2,hT⟩:=eZ (SS:=fun s'=>s' = st∨s' = s) (locs0:=sf.locs) (fun s' e=>by rcases e with rfl | rfl <;> assumption) hpost hp
    exact ⟨ks2,sf2,hr2,hv2,by simpa using hc2,hs,hT⟩
  let ksω:AV→St→List PK:=fun v s=>if hQ:Qc v s then ks1++.mk v s::(hω v s hQ).choose else []
  let frn:AV→St→Fr:=fun v s=>if hQ:Qc v s then sp X.n (hω v s hQ).choose_spec.choose else sp X.n sf
  have hksω:∀ v s (hQ:Qc v s),ksω v s = ks1++.mk v s::(hω v s hQ).choose:=fun v s hQ=>dif_pos hQ
  have hfrn:∀ v s (hQ:Qc v s),frn v s = sp X.n (hω v s hQ).choose_spec.choose:=fun v s hQ=>dif_pos hQ
  have hoi':∀ oi,ops.toArray[κ]? = some oi→oi = o:=fun oi h=>by
    have h1:ops[κ]? = some oi:=by simpa using h
    rw [ho] at h1; cases h1; rfl
  refine fI (κ:=κ) (n:=k) ksω frn hmf hdir hκ H0 (hatκ _ _) (fun i x hx=>?_) (fun i x hx hne hnh=>?_) (fun i hx=>?_) (fun oi c hoi hoc hnb=>by rw [hoi' oi hoi,hop] at hoc; cases hoc; exact absurd rfl (hnb .append)) (fun oi hoi=>by rw [hoi' oi hoi,cp]; exact apr_sound hop hak haz (by rw [hbx]; exact hbl) (by rw [hyx]; exact hyl) (fun s e=>by subst e; simp only [opd] at hx; split at hx <;> first | assumption | cases hx) (fun s e=>by subst e; simp only [opd] at hy; split at hy <;> first | assumption | cases hy) (by rw [hbx,hyx]; exact hsrc)) (fun _=>false) (fun _=>rfl) (fun i e=>by cases e) (fun v s hQ=>?_) (fun v s hQ=>?_) (fun v s hQ i x hne hx=>?_) (fun v s hQ i x hne hx hnh=>?_) (fun v s hQ j s' cs hj=>?_) (fun v s hQ g' w' a' hok=>?_)
  · have hnm:=hnm0 i x hx
    cases x <;> first | rfl | exact absurd rfl (hnm _ _)
  · rcases Nat.lt_trichotomy i κ with hi | hi | hi
    · exact hat1 i x hi _ _ hx
    · exact absurd hi hne
    · obtain ⟨b,gi,_,hb⟩:=bu hoh _ x (hat2 i x hi _ _ hx)
      rcases hb with ⟨_,e⟩ | ⟨_,hb⟩
      · exact absurd e hnh
      · exact hb
  · rcases Nat.lt_trichotomy i κ with hi | hi | hi
    · have:=hat1 i _ hi _ _ hx; cases this
    · subst hi; rw [hatκ] at hx; cases hx
    · obtain ⟨b,gi,hfl,hb⟩:=bu hoh _ _ (hat2 i _ hi _ _ hx)
      rcases hb with ⟨rfl,_⟩ | ⟨_,hb⟩
      · have:=flags_at ops k κ post _ _ _ hfl
        rw [show κ + 1 + (i - κ - 1) = i by omega] at this
        exact this.symm
      · cases hb
  · obtain ⟨hr2,hv2,hc2,hs,hT⟩:=(hω v s hQ).choose_spec.choose_spec
    have hbω:=hk0 (.mk v s) _ rfl hT.1
    refine ⟨fun _ s'=>s' = st∨s' = s,?_,fun _ _ _ _ _ _=>.inr rfl⟩
    rw [hksω v s hQ,hfrn v s hQ]
    refine ⟨h,rfl,hlocs _ hbω,dv hdir true,hcons,hdst',Nat.le_refl k,?_,fun hm=>(by rw [hmf] at hm; cases hm),(d4 hbω).1⟩
    · have hrr:=dq (hr1.weakSS (SS':=fun _ s'=>s' = st∨s' = s) fun _ s' e=>by rcases e with rfl | rfl <;> assumption) (.cons (k:=.mk v s) (by rw [aL]; exact .mk v s hga) hr2)
      exact (congrArg (fun z=>PRun P ops.toArray ρ (fun _ s'=>s' = st∨s' = s) sf.locs z (sp X.n ⟨sf.regs,a8 drop sf.locs⟩) (ks1++.mk v s::(hω v s hQ).choose) (sp X.n (hω v s hQ).choose_spec.choose)) hsplit).mpr hrr
  · rw [hksω v s hQ]; exact hatκ _ _
  · rw [hksω v s hQ] at hx
    obtain ⟨hr2,hv2,hc2,hs,hT⟩:=(hω v s hQ).choose_spec.choose_spec
    rcases Nat.lt_trichotomy i κ with hi | hi | hi
    · exact hat1 i x hi _ _ hx
    · exact absurd hi hne
    · exact hv2 x (List.mem_of_getElem? (hat2 i x hi _ _ hx))
  · rw [hksω v s hQ]
    obtain ⟨hr2,hv2,hc2,hs,hT⟩:=(hω v s hQ).choose_spec.choose_spec
    rcases Nat.lt_trichotomy i κ with hi | hi | hi
    · rw [List.getElem?_append_left (by omega)] at hx ⊢; exact hx
    · exact absurd hi hne
    · have hx2:=hat2 i x hi _ _ hx
      obtain ⟨b,gi,hfl,hb⟩:=bu hoh _ x hx2
      rcases hb with ⟨_,e⟩ | ⟨hbf,_⟩
      · exact absurd e hnh
      · have:=(eI hc2 _ b gi x hfl).1 hx2 hbf
        rw [List.getElem?_append_right (by omega),show i - ks1.length = (i - κ - 1) + 1 by omega]
        simpa using this
  · rw [hksω v s hQ] at hj
    obtain ⟨hr2,hv2,hc2,hs,hT⟩:=(hω v s hQ).choose_spec.choose_spec
    rcases Nat.lt_trichotomy j κ with hi | hi | hi
    · rw [List.getElem?_append_left (by omega)] at hj ⊢; exact hj
    · subst hi; rw [hatκ] at hj; cases hj
    · have hx2:=hat2 j _ hi _ _ hj
      have hlen:=gj hc2
      have hlt:j - κ - 1 < ksh.length:=by rw [hlen]; exact (List.getElem?_eq_some_iff.1 hx2).1
      obtain ⟨b,gi,hfl,_⟩:=bu hoh _ _ (List.getElem?_eq_getElem hlt)
      have:=(eI hc2 _ b gi _ hfl).2 hx2 ⟨_,_,rfl⟩
      rw [List.getElem?_append_right (by omega),show j - ks1.length = (j - κ - 1) + 1 by omega]
      simpa using this
  · rw [hksω v s hQ,hfrn v s hQ,← cg,← ci,fin_in rfl] at hok
    obtain ⟨hr2,hv2,hc2,hs,hT⟩:=(hω v s hQ).choose_spec.choose_spec
    exact bt (Q:=QQ) htl hok hT.2 fun sf st g w a hok hk=>hq _ _ _ _ _ _ (hok.mask _ _) hk
theorem drawC_sound {rd:Option Nat} {p k κ:Nat} {ops:List Oper} {c:AC} (hc:mR P X p ops k κ = some c) (hch:chainB X ops k κ = true) (hdir:dirB ops.toArray k = true) (hcons:jx ops.toArray k = true) (hdst:dstB X.n (ops.take k) = true)
    {Q:Exit→Sf→St→Prop} {QQ:Exit→Act→World→Prop} (h:Ok m E g w (sp X.n sf) st a) (hK:aC P X.F m c sf st Q) (hq:∀ e sf st g w a,Ok m E g w (sp X.n sf) st a→Q e sf st→QQ e a w):cb rd P QQ ops.toArray a w:=by
  classical
  unfold mR at hc
  split at hc
  case h_2=>cases hc
  rename_i o ho
  split at hc
  case h_2=>cases hc
  rename_i f args ts hop
  split at hc
  case isFalse=>cases hc
  rename_i hgk
  obtain ⟨hgd,hκ⟩:=hgk
  split at hc
  case h_2=>cases hc
  rename_i f' args' pre post tl hf hargs hpre hpost htl
  cases hc
  obtain ⟨hmf,hK⟩:=hK
  unfold chainB at hch
  simp only [Bool.and_eq_true] at hch
  obtain ⟨⟨⟨hc1,hc2⟩,hc3⟩,_⟩:=hch
  have hc1:∀ i,i < κ→aF ops.toArray k κ i = true∧∃ oi,ops.toArray[i]? = some oi∧oi.guard = none:=by
    intro i hi
    have h1:=List.all_eq_true.1 hc1 i (List.mem_range.2 hi)
    simp only [Bool.and_eq_true] at h1
    refine ⟨h1.1,?_⟩
    have h2:=h1.2
    split at h2
    · rename_i oi hoi
      exact ⟨oi,by simpa using hoi,by simpa using h2⟩
    · cases h2
  have hc2:∀ i,i < k→κ < i→aF ops.toArray k i κ = true:=by
    intro i hi hik
    have h1:=List.all_eq_true.1 hc2 i (List.mem_range.2 hi)
    simp only [Bool.or_eq_true,decide_eq_true_eq] at h1
    exact h1.resolve_left (by omega)
  have hc3:∀ o1 ∈ ops.take κ,∀ o2 ∈ (ops.take k).drop (κ + 1),o1.dst≠o2.dst:=by
    intro o1 h1 o2 h2
    have:=List.all_eq_true.1 (List.all_eq_true.1 hc3 o1 h1) o2 h2
    simpa using this
  have hkl:k≤ops.length:=by
    have hB:=hdir
    unfold dirB at hB
    simp only [Bool.and_eq_true,decide_eq_true_eq] at hB
    have:=hB.1.1.1.1
    simpa using this
  have hsplit:ops.take k = ops.take κ++o::(ops.take k).drop (κ + 1):=by
    have h1:(ops.take k).take κ = ops.take κ:=by rw [List.take_take,Nat.min_eq_left (by omega)]
    have h2:(ops.take k)[κ]? = some o:=by rw [List.getElem?_take,if_pos hκ]; exact ho
    obtain ⟨hlt,h3⟩:=List.getElem?_eq_some_iff.1 h2
    have h4:=List.drop_eq_getElem_cons hlt
    rw [h3] at h4
    rw [← h4,← h1,List.take_append_drop]
  have hpl:(ops.take κ).length = κ:=by simp; omega
  obtain ⟨ks1,sf1,hr1,hv1,hK⟩:=eZ (SS:=fun s=>s = st) (locs0:=sf.locs) (fun s e=>by rw [e]; exact St.sub_refl st) hpre hK
  have hl1:ks1.length = κ:=by rw [mK hr1,hpl]
  simp only [atC,callC,List.nil_append] at hK
  split at hK
  case h_2=>exact hK.elim
  rename_i q fs cs hfv
  obtain ⟨hnl,hent,hks1,Qc,hA,hK⟩:=hK
  have hks1:∀ x ∈ ks1,x.vs = true:=fun x hx=>List.all_eq_true.1 hks1 x hx
  have hmap:=dw hargs sf1
  have hca:dl (sp X.n sf1) ⟨.value f,args,ts⟩ = some (q,fs++(args'.map (sf1.ev X.F)).map AV.dis++cs):=by
    unfold dl
    simp only [ae hf sf1,hfv,hmap,hnl,if_true]
    congr 3
    rw [← hmap,List.map_map]
    rfl
  have hga:aj ops.toArray (sp X.n sf1) o = some (.lit (.bool true)):=by simp [aj,hgd]
  let ksh:List PK:=((ops.take k).drop (κ + 1)).map fun _=>.hole
  obtain ⟨sfh,hrh⟩:=l3 (ops:=ops.toArray) (ρ:=st) (SS:=fun _ s=>s = st) (locs0:=sf.locs) ((ops.take k).drop (κ + 1)) (sp X.n (sf1.put o.dst .any))
  have hvsA:∀ (ks2:List PK),(∀ x ∈ ks2,x.vs = true∨x = .hole)→∀ x ∈ ks1++ks2,x.vs = true∨x = .hole:=by
    intro ks2 h2 x hx
    rcases List.mem_append.1 hx with h | h
    · exact .inl (hks1 x h)
    · exact h2 x h
  have hkb:∀ (kκ:PK) (ks2:List PK),kκ.inert = true→(∀ x ∈ ks2,x.vs = true∨x = .hole)→ksB [] (ks1++kκ::ks2) = true:=fun kκ ks2 hi h2=>by
    rw [ksB_in hi]; exact (mL (hvsA ks2 h2)).1
  have hlocs:∀ ks:List PK,ksB [] ks = true→∀ s cs,look s (sp X.n sf).locs = some cs→look s (sp X.n sf).locs = some cs∧∀ (i:Nat) cs',ks[i]?≠some (.store s cs')∧ks[i]?≠some (.new s cs') :=
    fun ks hb s cs hc=>⟨hc,fun i cs'=>(d4 hb).2 s rfl i cs'⟩
  have hdst':∀ o ∈ ops.take k,∀ d,o.dst = some d→d < (sp X.n sf).slots.length:=fun o ho d hd=>by
    have:=List.all_eq_true.1 hdst o ho
    rw [hd] at this
    rw [cp]
    simpa using this
  have hcst:PStep P ops.toArray st ((fun _ s=>s = st:Option Nat→St→Prop) o.dst) sf.locs o (sp X.n sf1) (.chole q (fs++(args'.map (sf1.ev X.F)).map AV.dis++cs)) (sp X.n (sf1.put o.dst .any)):=by
    rw [aL]
    exact .chole _ q _ hga hop hca
  have hat1:∀ (i:Nat) (x:PK),i < κ→∀ kκ ks2,(ks1++kκ::ks2)[i]? = some x→x.vs = true:=by
    intro i x hi kκ ks2 hx
    rw [List.getElem?_append_left (by omega)] at hx
    exact hks1 x (List.mem_of_getElem? hx)
  have hat2:∀ (i:Nat) (x:PK),κ < i→∀ kκ ks2,(ks1++kκ::ks2)[i]? = some x→ks2[i - κ - 1]? = some x:=by
    intro i x hi kκ ks2 hx
    rw [List.getElem?_append_right (by omega),show i - ks1.length = (i - κ - 1) + 1 by omega] at hx
    simpa using hx
  have hatκ:∀ kκ ks2,(ks1++kκ::ks2)[κ]? = some kκ:=fun kκ ks2=>by rw [List.getElem?_append_right (by omega)]; simp [hl1]
  have hvr:∀ x:PK,x.vs = true→x.real = true:=fun x hx=>by cases x <;> first | rfl | cases hx
  have hhol:∀ x ∈ ksh,x = PK.hole:=fun x hx=>by
    obtain ⟨_,_,e⟩:=List.mem_map.1 hx
    exact e.symm
  have hb0:=hkb (.chole q (fs++(args'.map (sf1.ev X.F)).map AV.dis++cs)) ksh rfl fun x hx=>.inr (hhol x hx)
  have H0:Head P m E g w (sp X.n sf) st st (fun _ s=>s = st) a ops k k (ks1++.chole q (fs++(args'.map (sf1.ev X.F)).map AV.dis++cs)::ksh) (sp X.n sf) sfh:=by
    refine ⟨h,rfl,hlocs _ hb0,dv hdir true,hcons,hdst',Nat.le_refl k,?_,fun hm=>(by rw [hmf] at hm; cases hm),(d4 hb0).1⟩
    rw [hsplit]
    exact dq hr1 (.cons hcst hrh)
  -- behind it
  let SSω:St→Option Nat→St→Prop:=fun s d s'=>(∀ o1 ∈ ops.take κ,o1.dst≠d)∧s' = s
  have hω:∀ v s,Qc v s→∃ ks2 sf2,PRun P ops.toArray st (SSω s) sf.locs ((ops.take k).drop (κ + 1)) (sp X.n (sf1.put o.dst v)) ks2 (sp X.n sf2)∧ks2.all PK.vs = true∧jE P X.F m (X.ms p).1 (X.ms p).2 tl Q s sf2:=by
    intro v s hQ
    obtain ⟨ks2,sf2,hr2,hv2,hc2,hT⟩:=eZ (SS:=fun s'=>s' = s) (locs0:=sf.locs) (fun s' e=>by rw [e]; exact St.sub_refl s) hpost (hK v s hQ)
    exact ⟨ks2,sf2,hr2.weakSS fun _ _ e=>e.2,by simpa using hc2,hT⟩
  let ksω:AV→St→List PK:=fun v s=>if hQ:Qc v s then ks1++.mk v s::(hω v s hQ).choose else []
  let frn:AV→St→Fr:=fun v s=>if hQ:Qc v s then sp X.n (hω v s hQ).choose_spec.choose else sp X.n sf
  have hksω:∀ v s (hQ:Qc v s),ksω v s = ks1++.mk v s::(hω v s hQ).choose:=fun v s hQ=>dif_pos hQ
  have hfrn:∀ v s (hQ:Qc v s),frn v s = sp X.n (hω v s hQ).choose_spec.choose:=fun v s hQ=>dif_pos hQ
  have hvs2:∀ v s (hQ:Qc v s),∀ x ∈ (hω v s hQ).choose,x.vs = true:=fun v s hQ x hx=>List.all_eq_true.1 (hω v s hQ).choose_spec.choose_spec.2.1 x hx
  have hoi':∀ oi,ops.toArray[κ]? = some oi→oi = o:=fun oi h=>by
    have h1:ops[κ]? = some oi:=by simpa using h
    rw [ho] at h1; cases h1; rfl
  refine fI (κ:=κ) (n:=k) ksω frn hmf hdir hκ H0 (hatκ _ _) (fun i x hx=>?_) (fun i x hx hne hnh=>?_) (fun i hx=>?_) (fun _ _ _ _ _=>⟨hent,hA⟩) (fun oi hoi=>by rw [hoi' oi hoi]; exact apr_none hop) (fun i=>decide (i < κ)) (fun _=>rfl) (fun i e=>?_) (fun v s hQ=>?_) (fun v s hQ=>?_) (fun v s hQ i x hne hx=>?_) (fun v s hQ i x hne hx hnh=>?_) (fun v s hQ j s' cs hj=>?_) (fun v s hQ g' w' a' hok=>?_)
  · rcases Nat.lt_trichotomy i κ with hi | hi | hi
    · have:=hat1 i x hi _ _ hx
      cases x <;> first | rfl | cases this
    · subst hi; rw [hatκ] at hx; cases hx; rfl
    · rw [hhol x (List.mem_of_getElem? (hat2 i x hi _ _ hx))]; rfl
  · rcases Nat.lt_trichotomy i κ with hi | hi | hi
    · exact hvr _ (hat1 i x hi _ _ hx)
    · exact absurd hi hne
    · exact absurd (hhol x (List.mem_of_getElem? (hat2 i x hi _ _ hx))) hnh
  · rcases Nat.lt_trichotomy i κ with hi | hi | hi
    · have:=hat1 i _ hi _ _ hx; cases this
    · subst hi; rw [hatκ] at hx; cases hx
    · have h2:=hat2 i _ hi _ _ hx
      have hlt:=(List.getElem?_eq_some_iff.1 h2).1
      refine hc2 i ?_ hi
      simp only [ksh,List.length_map,List.length_drop,List.length_take] at hlt
      omega
  · have hi:i < κ:=by simpa using e
    exact ⟨by omega,hc1 i hi⟩
  · obtain ⟨hr2,hv2,hT⟩:=(hω v s hQ).choose_spec.choose_spec
    have hbω:=hkb (.mk v s) _ rfl fun x hx=>.inl (hvs2 v s hQ x hx)
    refine ⟨SSω s,?_,fun i oi hi hoi hne hp=>⟨fun o1 h1=>hc3 o1 h1 oi ?_,rfl⟩⟩
    · rw [hksω v s hQ,hfrn v s hQ]
      refine ⟨h,rfl,hlocs _ hbω,dv hdir true,hcons,hdst',Nat.le_refl k,?_,fun hm=>(by rw [hmf] at hm; cases hm),(d4 hbω).1⟩
      have hrr:=dq (hr1.weakSSin (ρ':=st) (SS':=SSω s) fun o1 h1 s' e=>absurd rfl (e.1 o1 h1)) (.cons (k:=.mk v s) (by rw [aL]; exact .mk v s hga) hr2)
      exact (congrArg (fun z=>PRun P ops.toArray st (SSω s) sf.locs z (sp X.n sf) (ks1++.mk v s::(hω v s hQ).choose) (sp X.n (hω v s hQ).choose_spec.choose)) hsplit).mpr hrr
    · have hik:κ < i:=by
        have:¬ i < κ:=by simpa using hp
        omega
      have hoi':(ops.take k)[i]? = some oi:=by rw [List.getElem?_take,if_pos hi]; simpa using hoi
      rw [show i = κ + 1 + (i - κ - 1) by omega] at hoi'
      rw [← List.getElem?_drop] at hoi'
      exact List.mem_of_getElem? hoi'
  · rw [hksω v s hQ]; exact hatκ _ _
  · rw [hksω v s hQ] at hx
    rcases Nat.lt_trichotomy i κ with hi | hi | hi
    · exact hvr _ (hat1 i x hi _ _ hx)
    · exact absurd hi hne
    · exact hvr _ (hvs2 v s hQ x (List.mem_of_getElem? (hat2 i x hi _ _ hx)))
  · rw [hksω v s hQ]
    rcases Nat.lt_trichotomy i κ with hi | hi | hi
    · rw [List.getElem?_append_left (by omega)] at hx ⊢; exact hx
    · exact absurd hi hne
    · exact absurd (hhol x (List.mem_of_getElem? (hat2 i x hi _ _ hx))) hnh
  · rw [hksω v s hQ] at hj
    rcases Nat.lt_trichotomy j κ with hi | hi | hi
    · have:=hat1 j _ hi _ _ hj; cases this
    · subst hi; rw [hatκ] at hj; cases hj
    · have:=hvs2 v s hQ _ (List.mem_of_getElem? (hat2 j _ hi _ _ hj)); cases this
  · rw [hksω v s hQ,hfrn v s hQ,← cg,← ci,fin_in rfl,(mL (drop:=[]) (hvsA _ fun x hx=>.inl (hvs2 v s hQ x hx))).2] at hok
    exact bt (Q:=QQ) htl hok (hω v s hQ).choose_spec.choose_spec.2.2 fun sf st g w a hok hk=>hq _ _ _ _ _ _ (hok.mask _ _) hk
theorem flagsG_snd (l:List Oper) (gl:List GI):(mN X l gl).map (·.2) = gl:=by
  simp only [mN,List.map_map]
  have:((fun x:Bool×GI=>x.2) ∘ fun p:GI×Nat=>((match l[p.2]? with | some o=>isGk X o | none=>false),p.1)) = Prod.fst:=by funext p; rfl
  rw [this,List.zipIdx_map_fst]
theorem drawG_sound {rd:Option Nat} {p k:Nat} {ops:List Oper} {c:AC} (hc:mO P X p ops k = some c) (hdir:dirB ops.toArray k = true) (hcons:jx ops.toArray k = true) (hdst:dstB X.n (ops.take k) = true)
    {Q:Exit→Sf→St→Prop} {QQ:Exit→Act→World→Prop} (h:Ok m E g w (sp X.n sf) st a) (hK:aC P X.F m c sf st Q) (hq:∀ e sf st g w a,Ok m E g w (sp X.n sf) st a→Q e sf st→QQ e a w):cb rd P QQ ops.toArray a w:=by
  unfold mO at hc
  split at hc
  · cases hc
  rename_i hob
  simp only [Bool.not_eq_false] at hob
  split at hc
  case h_2=>cases hc
  rename_i hl tl hhl htl
  cases hc
  obtain ⟨hmf,SX,hS0,hsub,hK⟩:=hK
  generalize gn some (ops.take k) = drop at hK
  obtain ⟨ks,sf1,hrun,hre,hfl,hln,hK⟩:=pre_runX (locs0:=sf.locs) hsub hhl (flagsG_snd _ _) hK
  simp only [List.nil_append,Nat.zero_add] at hK
  obtain ⟨hkb,hK⟩:=hK
  rw [ksB_loc] at hkb
  obtain ⟨hko,hdrop⟩:=d4 hkb
  have hkl:k≤ops.length:=by
    have hd:=hdir
    unfold dirB at hd
    simp only [Bool.and_eq_true,decide_eq_true_eq] at hd
    have:=hd.1.1.1.1
    simpa using this
  have hlk:ks.length = k:=by rw [hln,List.length_take]; omega
  have H:Head P m E g w (sp X.n sf) st st (fun _ s=>∃ j,SX j s) a ops k k ks (sp X.n ⟨sf.regs,a8 drop sf.locs⟩) (sp X.n sf1):=by
    refine ⟨h,rfl,fun s cs hc=>?_,dv hdir true,hcons,fun o ho d hd=>?_,Nat.le_refl k,hrun.run,fun hm=>(by rw [hmf] at hm; cases hm),hko⟩
    · obtain ⟨h1,h2⟩:=dS _ _ _ _ hc
      exact ⟨h1,fun i cs'=>hdrop s h2 i cs'⟩
    · have:=List.all_eq_true.1 hdst o ho
      rw [hd] at this
      rw [cp]
      simpa using this
  have hat:=hrun.at (l:=ops.take k) (ks:=ks) (fr0:=sp X.n ⟨sf.regs,a8 drop sf.locs⟩) [] [] rfl rfl rfl (by simp [phK]) (Tr.start _ _ _) H.ks.app H.cons
  have hgk:∀ (i:Nat) (v:AV) (σ:St),ks[i]? = some (PK.mk v σ)→∃ o,ops[i]? = some o∧isGk X o = true:=fun i v σ hi=>by
    obtain ⟨gi,hg⟩:=hfl i v σ hi
    simp only [mN,List.getElem?_map,Option.map_eq_some_iff,List.getElem?_zipIdx] at hg
    obtain ⟨q,⟨q',hq',rfl⟩,h2⟩:=hg
    simp only [Prod.mk.injEq,Nat.zero_add] at h2
    have hik:i < k:=by
      obtain ⟨hlt,_⟩:=List.getElem?_eq_some_iff.1 hi
      omega
    have h3:=h2.1
    split at h3
    · rename_i o ho
      rw [List.getElem?_take_of_lt hik] at ho
      exact ⟨o,ho,h3⟩
    · cases h3
  refine head_soundK hmf hdir H (fun i o ho=>by
    have:=hat i o ho
    simp only [List.length_nil,Nat.zero_add] at this
    exact this) hS0 hlk (fun i i' v σ v' σ' h1 h2 hlt=>?_) (fun i k hk=>hre k (List.mem_of_getElem? hk)) fun s g' w' a' h1 hok=>?_
  · obtain ⟨o,ho,hg⟩:=hgk i v σ h1
    obtain ⟨o',ho',hg'⟩:=hgk i' v' σ' h2
    have hik:i' < k:=by
      obtain ⟨hlt,_⟩:=List.getElem?_eq_some_iff.1 h2
      omega
    have:=List.all_eq_true.1 (List.all_eq_true.1 hob i' (List.mem_range.2 hik)) i (List.mem_range.2 hlt)
    simp only [ho,ho',hg,hg',Bool.and_self,Bool.not_true,Bool.false_or] at this
    exact this
  rw [← cg,← ci] at hok
  have hph:phK ks k = (ks.map mkN).sum:=by unfold phK; rw [List.take_of_length_le (by omega)]
  have hT:=hK s (hph ▸ h1)
  rw [i9 (fun t=>lV t ks),lX,lW] at hT
  exact bt (Q:=QQ) htl hok hT fun sf st g w a hok hk=>hq _ _ _ _ _ _ (hok.mask _ _) hk
def RegT (g:Gh) (regs:List (Nat×AV)) (tmps:Array Value):Prop:=∀ t,R g (getR regs t) (tmps.getD t undef)∧∀ c ∈ (getR regs t).cells,c.noOwn
theorem getR_mem:∀ (l:List (Nat×AV)) (t:Nat),getR l t = .any∨(t,getR l t) ∈ l
  | [],_=>.inl rfl
  | (q, v) :: r, t => by
    simp only [getR]
    split
    · rename_i e; subst e; exact .inr (List.mem_cons_self ..)
    · exact (getR_mem r t).imp id (List.mem_cons_of_mem _)
theorem RegT.of {g:Gh} {r:Loop} {rs:List (Nat×AV)} (h:RegsR g r rs):RegT g rs r.tmps:=fun t=>by
  rcases getR_mem rs t with e | e
  · rw [e]; exact ⟨R.any _,fun c hc=>by simp [AV.cells] at hc; subst hc; trivial⟩
  · exact h _ e
theorem l5 {v:AV} {c:AV} (h:c ∈ v.dis.cells):c.noOwn:=by
  obtain ⟨i,hi⟩:=List.mem_iff_getElem?.1 h
  exact aq v i c hi
theorem RegT.set {g:Gh} {regs:List (Nat×AV)} {tmps:Array Value} (h:RegT g regs tmps) {p:Nat} (hp:p < tmps.size) {v:AV} {u:Value} (hr:R g v u):RegT g (setR regs p v.dis) (tmps.setIfInBounds p u):=fun t=>by
  rw [hZ]
  by_cases e:p = t
  · subst e
    rw [if_pos rfl]
    refine ⟨?_,fun c hc=>l5 hc⟩
    have:(tmps.setIfInBounds p u).getD p undef = u:=by simp [hp]
    rw [this]; exact hr.dis
  · rw [if_neg e]
    have:(tmps.setIfInBounds p u).getD t undef = tmps.getD t undef:=by simp [Array.getElem?_setIfInBounds_ne e]
    rw [this]; exact h t
theorem RegT.sets {g:Gh}:∀ {ps:List Nat} {vs:List AV} {us:List Value} {regs:List (Nat×AV)} {tmps:Array Value},vs.length = us.length→(∀ (i:Nat) (x:AV) (u:Value),vs[i]? = some x→us[i]? = some u→R g x u)→RegT g regs tmps→(∀ p ∈ ps,p < tmps.size) →
    RegT g (kE regs ps vs) ((ps.zip us).foldl (fun (q:Array Value) p=>q.setIfInBounds p.1 p.2) tmps)∧((ps.zip us).foldl (fun (q:Array Value) p=>q.setIfInBounds p.1 p.2) tmps).size = tmps.size
  | [],vs,us,regs,tmps,hl,hr,h,hp=>by simp only [kE,List.zip_nil_left,List.foldl_nil]; exact ⟨h,trivial⟩
  | p::ps,[],[],regs,tmps,hl,hr,h,hp=>by simp only [kE,List.zip_nil_right,List.foldl_nil]; exact ⟨h,trivial⟩
  | p::ps,v::vs,[],regs,tmps,hl,hr,h,hp=>by cases hl
  | p::ps,[],u::us,regs,tmps,hl,hr,h,hp=>by cases hl
  | p :: ps, v :: vs, u :: us, regs, tmps, hl, hr, h, hp => by
    simp only [kE,List.zip_cons_cons,List.foldl_cons]
    have h1:=h.set (hp p (by simp)) (hr 0 v u rfl rfl)
    obtain ⟨q1,q2⟩:=RegT.sets (ps:=ps) (vs:=vs) (us:=us) (by simpa using hl) (fun i x u hx hu=>hr (i + 1) x u (by simpa using hx) (by simpa using hu)) h1 (fun p hm=>by rw [Array.size_setIfInBounds]; exact hp p (by simp [hm]))
    exact ⟨q1,by rw [q2,Array.size_setIfInBounds]⟩
theorem round_start {D n:Nat} {vs:List AV} {us:Array Value} {r:Loop} {rs:List (Nat×AV)} {ps:List Nat} (hg:Good g w) (hb:BoxR g w st) (ha:en g vs us) (hr:RegsR g r rs) (hn:r.tmps.size = n) (hps:r.params.toList = ps) (hp:∀ p ∈ ps,p < n) :
    Ok false ⟨D,0,g,w,st,w.heap.size⟩ g w (sp n ⟨kE rs ps vs,[]⟩) st { tmps:=(r.params.zip us).foldl (fun tmps (t,a)=>tmps.setIfInBounds t a) r.tmps,defers:=[] }:=by
  obtain ⟨q1,q2⟩:=RegT.sets (ps:=ps) (vs:=vs) (us:=us.toList) (regs:=rs) (tmps:=r.tmps) (by rw [← ha.1]; simp) (fun i x u hx hu=>ha.2 i x u hx (by simpa using hu)) (RegT.of hr) (fun p hm=>by rw [hn]; exact hp p hm)
  have e:(r.params.zip us).foldl (fun tmps (t,a)=>tmps.setIfInBounds t a) r.tmps = (ps.zip us.toList).foldl (fun (q:Array Value) p=>q.setIfInBounds p.1 p.2) r.tmps:=by
    rw [← Array.foldl_toList,Array.toList_zip,hps]
  rw [e]
  refine ⟨by rw [q2,hn,cp],fun s v u hv hu=>?_,⟨hg,fun s cs hc=>by simp [sp,look] at hc,hb⟩,DefsR.nil _,Mv.refl hg,fun e=>(by cases e),Nat.zero_le _,fun _=>rfl⟩
  rw [cc] at hv
  split at hv
  case isFalse=>cases hv
  cases hv
  obtain ⟨r1,r2⟩:=q1 s
  have hu':((ps.zip us.toList).foldl (fun (q:Array Value) p=>q.setIfInBounds p.1 p.2) r.tmps).getD s undef = u:=by simp [hu]
  rw [hu'] at r1
  exact ⟨RS.of r1,fun i c x hc _=>Own.of_no (r2 c (List.mem_of_getElem? hc))⟩
theorem regsB_R {n:Nat} (h:Ok false E g w (sp n sf) st a) {r:Loop} (hr:r.tmps = a.tmps):∀ {lb:List Nat},(∀ t ∈ lb,t < n)→RegsR g r (jD lb sf)
  | [],_=>fun p hp=>by cases hp
  | t :: lb, hl => fun p hp => by
    rcases List.mem_cons.1 hp with rfl | hp
    · have hs:=(cQ h t).1
      rw [cf (hl t (by simp))] at hs
      simp only [AV.keep,hr]
      split
      · rename_i hn
        exact ⟨by have:=(jy hn hs).dis; simpa [Act.eval] using this,fun c hc=>l5 hc⟩
      · exact ⟨R.any _,fun c hc=>by simp [AV.cells] at hc; subst hc; trivial⟩
    · exact regsB_R h hr (fun t ht=>hl t (by simp [ht])) p hp
theorem Ext.mvE {E E':Ent} (h:Ext false E E') {g:Gh} {w:World} (hm:Mv false E'.N E'.d E'.g E'.w g w):Mv false E.N E.d E.g E.w g w:=by
  rcases h with rfl | ⟨_,h2,h3,_,_,h5⟩
  · exact hm
  · rw [h2,h3] at hm; exact h5 _ _ hm
def WalkS (P:Program) (X:Cx) (m:Bool) (c:Code) (ac:AC):Prop :=
  ∀ {rd:Option Nat} {E:Ent} {sf:Sf} {st:St} {g:Gh} {w:World} {a:Act} {Q:Exit→Sf→St→Prop} {QQ:Exit→Act→World→Prop},((rd = none∧1≤E.d∧E.lo≤E.w.heap.size)∨bK c = true) →
    Ok m E g w (sp X.n sf) st a→aC P X.F m ac sf st Q→(∀ E' e sf st g w a,Ext m E E'→Ok m E' g w (sp X.n sf) st a→Q e sf st→QQ e a w)→c.wpIn (FW rd) 0 P QQ a w
theorem ycalls_of {r:Loop} {A B:AC} {ps:List Nat} {id:Nat} {rs:List (Nat×AV)} (hA:WalkS P X false r.assign A) (hB:WalkS P X false r.body B) (hna:bK r.assign = true) (hnb:bK r.body = true) (hst:r.state = .ready) (hpe:r.pending = none)
    (hn:r.tmps.size = X.n) (hps:r.params.toList = ps) (hp:∀ p ∈ ps,p < X.n) {vs:List AV} {st:St} {Q:Bool→St→Prop} (h:roundI (aC P X.F false A) (aC P X.F false B) ps id r rs vs st Q):mA P id vs st Q:=by
  obtain ⟨hlp,hlen,hCA⟩:=h
  intro D g w us b hg hb ha hid
  obtain ⟨b',h1,h2,h3,h4⟩:=hb.lp hlp
  have:b' = b:=Option.some.inj (h1.symm.trans hid)
  subst this
  have hsz:us.size = r.params.size:=by
    rw [ha.1,hlen,← hps]; simp
  refine ⟨_,_,_,_,run_yield h3 hsz,roundIn_of_wpIn trivial ?_⟩
  have h0:=round_start (D:=D) hg hb ha h4 hn hps hp
  show r.assign.wpIn (FW (some b')) 0 P _ _ _
  refine hA (.inr hna) h0 hCA fun E1 e sf1 st1 g1 w1 a1 hx1 hok1 hq=>?_
  cases e with
  | normal =>
    obtain ⟨hlp1,hCB⟩:=hq
    have hb1:g1.bx id = some b':=(hx1.mvE hok1.mv).bx _ _ hid
    obtain ⟨b2,e1,_,e3,_⟩:=hok1.ctx.box.lp hlp1
    have:b2 = b':=Option.some.inj (e1.symm.trans hb1)
    subst this
    refine ⟨_,run_beginRound e3 hst,?_⟩
    have hok2:=hok1.setLp hlp1 hb1 (r':=fP r) rfl
    show r.body.wpIn (FW (some b2)) 0 P _ _ _
    refine hB (.inr hnb) hok2 hCB fun E2 e sf2 st2 g2 w2 a2 hx2 hok3 hq=>?_
    have hx:=hx1.trans hx2
    have hb2:g2.bx id = some b2:=(hx.mvE hok3.mv).bx _ _ hid
    have fin:∀ (jump:Option Code) (r':Loop),st2.isLp id (fP r) rs→r' = { fP r with state:=if jump.isNone then .ready else .done,pending:=jump }→Q jump.isNone (st2.setL id r' rs) →
        ∃ v w',(Instr.endRound b2 jump).run P w2 = .ok v w'∧∃ t st' g',Ending.returned v = .returned (.bool t)∧Q t st'∧Mv false 0 D g w g' w'∧BoxR g' w' st':=by
      intro jump r' hl hr hQ
      obtain ⟨b3,f1,_,f3,_⟩:=hok3.ctx.box.lp hl
      have:b3 = b2:=Option.some.inj (f1.symm.trans hb2)
      subst this
      have hok4:=hok3.setLp hl hb2 (r':=r') (by rw [hr])
      rw [hr] at hok4 hQ
      refine ⟨_,_,run_endRound jump f3,jump.isNone,_,g2,rfl,hQ,hx.mvE hok4.mv,hok4.ctx.box⟩
    cases e with
    | normal=>exact fin none r hq.1 (by cases r; simp only [fP] at *; subst hst; subst hpe; rfl) hq.2
    | ret=>exact fin (some .ret) _ hq.1 rfl hq.2
    | exit k=>exact fin (some (.exit k)) _ hq.1 rfl hq.2
    | goto l=>exact hq.elim
    | panic ch=>exact hq.elim
    | outgrown=>exact hq.elim
  | exit k=>exact hq.elim
  | goto l=>exact hq.elim
  | ret=>exact hq.elim
  | panic ch=>exact hq.elim
  | outgrown=>exact hq.elim
theorem range_sound {x:Operand} {x':Opd} {pp:Array Tmp} {ass body:Code} {A B:AC} {lv ll lb:List Nat} {Q:Exit→Sf→St→Prop} {QQ:Exit→Act→World→Prop} (hA:WalkS P X false ass A) (hB:WalkS P X false body B) (hna:bK ass = true) (hnb:bK body = true)
    (hx:opd X.gOf X.F X.n x = some x') (hp:∀ p ∈ pp.toList,p < X.n) (hlb:∀ p ∈ lb,p < X.n) (hd:1≤E.d) (hl0:E.lo≤E.w.heap.size) (h:Ok false E g w (sp X.n sf) st a) (hK:mM P (aC P X.F false A) (aC P X.F false B) pp.toList lb lv ll (sf.ev X.F x') sf st Q)
    (hq:∀ E' e sf st g w a,Ext false E E'→Ok false E' g w (sp X.n sf) st a→Q e sf st→QQ e a w):(Code.rangeFunc x pp ass body).wpIn (FW none) 0 P QQ a w:=by
  unfold mM at hK
  split at hK
  case h_2=>exact hK.elim
  rename_i q fs cs hfv
  obtain ⟨hent,hK⟩:=hK
  have hev:=h.ev x
  rw [ae hx sf,hfv] at hev
  have hfn:∃ us ws,a.eval x = .func (.func q) us ws∧us.size = fs.length∧ws.size = cs.length∧(∀ (i:Nat) (y:AV) (u:Value),fs[i]? = some y→us[i]? = some u→R g y u)∧(∀ (i:Nat) (y:AV) (u:Value),cs[i]? = some y→ws[i]? = some u→R g y u):=by
    generalize a.eval x = u at hev
    cases hev with
    | fn _ _ _ us ws hu hv h1 h2=>exact ⟨us,ws,rfl,hu,hv,h1,h2⟩
  obtain ⟨us,ws,hax,hus,hws,hu2,hw2⟩:=hfn
  refine wpIn_rangeFunc fun fn _=>?_
  have hg:=h.ctx.good
  let r0:Loop:={ state:=.ready,pending:=none,fn,tmps:=a.tmps,params:=pp,assign:=ass,body,defers:=w.heap.size }
  have hsz:r0.tmps.size = X.n:=by show a.tmps.size = X.n; rw [h.size,cp]
  obtain ⟨Qc,hC,hbehind⟩:=hK r0 (fun vs st' Q' hr=>ycalls_of (r:=r0) hA hB hna hnb rfl rfl hsz rfl hp hr)
  -- the two blocks
  have n1:=cn w (.deferred (some []))
  have hok1:=h.newC n1 (.loc (E.d - 1) 0)
  have n2:=cn (w.alloc (.deferred (some []))) (.loop r0)
  have hok2:=hok1.newLp (r:=r0) (rs:=jD lb sf) n2 (regsB_R hok1 rfl hlb)
  have hs1:(w.alloc (.deferred (some []))).heap.size = w.heap.size + 1:=n1.size
  rw [hs1] at hok2
  have hcls:((g.newC w.heap.size (.loc (E.d - 1) 0)).newB (w.heap.size + 1) st.boxes.length).cls w.heap.size = some (.loc (E.d - 1) 0):=by simp [Gh.newB,Gh.newC]
  have hbx:((g.newC w.heap.size (.loc (E.d - 1) 0)).newB (w.heap.size + 1) st.boxes.length).bx st.boxes.length = some (w.heap.size + 1):=by simp [Gh.newB]
  have hheap:((w.alloc (.deferred (some []))).alloc (.loop r0)).heap[w.heap.size]? = some (.deferred (some [])):=by
    rw [n2.old _ (by rw [hs1]; exact Nat.lt_succ_self _)]; exact n1.new
  have hdef:=hok2.defs hcls (by omega) hheap (Nat.le_trans hl0 h.mv.size) h.mv.size
  have hext:=hok2.ext
  have hok3:=hok2.anew hdef
  generalize hW:(w.alloc (.deferred (some []))).alloc (.loop r0) = W at hok3 hext hheap hdef hok2 n2
  generalize hG:(g.newC w.heap.size (.loc (E.d - 1) 0)).newB (w.heap.size + 1) st.boxes.length = G at hok3 hext hcls hbx hdef hok2
  have hgle:GhLe g G:=by rw [← hG]; exact ⟨fun _ _ _ e=>e,fun i b e=>by
    have hid:=h.ctx.box.1 st.boxes.length (Nat.le_refl _)
    have:¬ i = st.boxes.length:=fun q=>by subst q; rw [hid] at e; cases e
    simp [Gh.newB,Gh.newC,this,e]⟩
  have hargs:en G (fs++[.yld st.boxes.length]++cs) (us++#[.func (.yield (w.heap.size + 1)) #[] #[]]++ws):=by
    refine ⟨by simp [hus,hws]; omega,fun i y u hy hu=>?_⟩
    by_cases c1:i < fs.length
    · rw [List.append_assoc,List.getElem?_append_left c1] at hy
      rw [Array.append_assoc,Array.getElem?_append_left (by omega)] at hu
      exact (hu2 i y u hy hu).mono hgle
    · by_cases c2:i < fs.length + 1
      · have:i = fs.length:=by omega
        subst this
        rw [List.append_assoc,List.getElem?_append_right (Nat.le_refl _)] at hy
        rw [Array.getElem?_append_left (by simp [hus]),Array.getElem?_append_right (by omega)] at hu
        simp [hus] at hy hu
        subst hy; subst hu
        exact .yld _ _ hbx
      · rw [List.getElem?_append_right (by simp; omega)] at hy
        rw [Array.getElem?_append_right (by simp; omega)] at hu
        simp only [List.length_append,List.length_cons,List.length_nil] at hy
        simp only [Array.size_append,List.size_toArray,List.length_cons,List.length_nil,hus] at hu
        exact (hw2 _ y u hy hu).mono hgle
  refine ⟨w.heap.size + 1,[{ target:=.collected w.heap.size,args:=#[] }],W,{ target:=.fn (.func q) ws,args:=us++#[.func (.yield (w.heap.size + 1)) #[] #[]] },W,q,us++#[.func (.yield (w.heap.size + 1)) #[] #[]]++ws,W,?_,?_,fun _ _=>trivial,?_,fun e=>(by cases e),gL.2 ?_⟩
  · rw [← hW]; exact run_enterLoop_outer _ _ _ _ _
  · have e:a.eval (.const (.func (.yield (w.heap.size + 1)) #[] #[])) = .func (.yield (w.heap.size + 1)) #[] #[]:=rfl
    simp [resolve,rangeCall,hax,Deferred.ofValue,e]
  · unfold aZ at hent
    split at hent
    · rename_i fn' hfn'
      simp only [Bool.and_eq_true,bne_iff_ne,ne_eq] at hent
      have hb:fn'.body≠none:=by intro e; simp [e] at hent
      simp [invoke,callFunc,hfn',hent.2,hb]
    · cases hent
  · refine (hC (E.d + 1) G W _ (fun k=>Loc.slot E.d 0 k) hok3.ctx.good hok3.ctx.box hargs).mono fun e w2 ⟨u,v,st',g2,he,hQ,hmv,hb2,_,_⟩=>?_
    subst he
    have hok4:=hok3.call hmv hb2
    have hbx2:g2.bx st.boxes.length = some (w.heap.size + 1):=hmv.bx _ _ hbx
    have fin:∀ r':Loop,st'.isLp st.boxes.length r' (jD lb sf)→r'.state≠.busy→∃ W4,(Instr.endLoop (w.heap.size + 1)).run P w2 = .ok r'.pending W4∧Ok false ⟨E.d,E.N,G,W,st.push (.lp r0 (jD lb sf)),E.lo⟩ g2 W4 (sp X.n sf) (st'.drop st.boxes.length) { a with defers:={ target:=.collected w.heap.size,args:=#[] }::a.defers }:=by
      intro r' hl hbz
      obtain ⟨b3,f1,_,f3,_⟩:=hok4.ctx.box.lp hl
      have:b3 = w.heap.size + 1:=Option.some.inj (f1.symm.trans hbx2)
      subst this
      exact ⟨_,run_endLoop f3 hbz,hok4.dropLp hl hbx2 _⟩
    show ∃ jump w4,_
    rcases hbehind v st' hQ with ⟨hl,hQn⟩ | ⟨hl,hQn⟩ | ⟨k,hl,hQn⟩
    · obtain ⟨W4,h1,h2⟩:=fin r0 hl (by simp [r0])
      exact ⟨none,W4,h1,hq _ _ _ _ _ _ _ hext (h2.mask _ _) hQn⟩
    · obtain ⟨W4,h1,h2⟩:=fin _ hl (by simp [ja])
      exact ⟨some .ret,W4,h1,wpIn_ret (hq _ _ _ _ _ _ _ hext h2 hQn)⟩
    · obtain ⟨W4,h1,h2⟩:=fin _ hl (by simp [ja])
      exact ⟨some (.exit k),W4,h1,wpIn_exit (hq _ _ _ _ _ _ _ hext (h2.mask _ _) hQn)⟩
def noPan (Q:Exit→Sf→St→Prop):Exit→Sf→St→Prop
  | .panic _,_,_=>False
  | e,sf,st=>Q e sf st
def noPanic (Q:Exit→Act→World→Prop):Exit→Act→World→Prop
  | .panic _,_,_=>False
  | e,a,w=>Q e a w
theorem compDr_np {p:Nat} {ops:List Oper} {c:AC} (hc:kF P X p ops = some c) {Q:Exit→Sf→St→Prop} (hK:aC P X.F m c sf st Q):aC P X.F m c sf st (noPan Q):=by
  have plain:∀ k,jb P X p ops k = some c→aC P X.F m c sf st (noPan Q):=fun k hc=>by
    unfold jb at hc
    split at hc
    · cases hc; exact hK
    · cases hc; exact hK
  unfold kF at hc
  split at hc
  · unfold compDL at hc
    split at hc
    · cases hc; exact hK
    split at hc
    · exact plain _ hc
    · cases hc; exact hK
  split at hc
  · cases hc; exact hK
  split at hc
  case isFalse=>cases hc; exact hK
  split at hc
  · split at hc
    · rename_i c hcd
      cases hc
      unfold mO at hcd
      repeat' (split at hcd)
      all_goals first | cases hcd | skip
      all_goals exact hK
    · cases hc; exact hK
  split at hc
  · split at hc
    · split at hc
      · rename_i c hcd
        cases hc
        unfold mR at hcd
        repeat' (split at hcd)
        all_goals first | cases hcd | skip
        all_goals exact hK
      · cases hc; exact hK
    split at hc
    · rename_i c hcd
      cases hc
      unfold mP at hcd
      repeat' (split at hcd)
      all_goals first | cases hcd | skip
      all_goals exact hK
    · cases hc; exact hK
  split at hc
  · split at hc
    · rename_i c hcd
      cases hc
      unfold mQ at hcd
      repeat' (split at hcd)
      all_goals first | cases hcd | skip
      all_goals exact hK
    · cases hc; exact hK
  exact plain _ hc
theorem jF {rd:Option Nat} {p k:Nat} {ops:List Oper} {c:AC} (hc:jb P X p ops k = some c) (hdir:dirL true ops.toArray k = true) (hcons:jx ops.toArray k = true) (hdst:dstB X.n (ops.take k) = true)
    {Q:Exit→Sf→St→Prop} {QQ:Exit→Act→World→Prop} (hQp:∀ c a w,¬ QQ (.panic c) a w) (h:Ok m E g w (sp X.n sf) st a) (hK:aC P X.F m c sf st Q)
    (hq:∀ e sf st g w a,Ok m E g w (sp X.n sf) st a→Q e sf st→QQ e a w):cb rd P QQ ops.toArray a w:=by
  unfold jb at hc
  split at hc
  case h_2=>cases hc; exact hK.elim
  rename_i hl tl hhl htl
  cases hc
  simp only [aC] at hK
  obtain ⟨ks,sf1,hrun,hre,hks,hK⟩:=fL hhl hK
  simp only [List.nil_append] at hks hK
  obtain ⟨hko,hdrop⟩:=d4 hks
  have H:Head P m E g w (sp X.n sf) st st (fun _ s=>s = st) a ops k k ks (sp X.n ⟨sf.regs,a8 (gn some (ops.take k)) sf.locs⟩) (sp X.n sf1):=by
    refine ⟨h,rfl,fun s cs hc=>?_,hdir,hcons,fun o ho d hd=>?_,Nat.le_refl k,hrun,fun _ j v s hj=>absurd (hre _ (List.mem_of_getElem? hj)) (by simp [PK.real]),hko⟩
    · obtain ⟨h1,h2⟩:=dS _ _ _ _ hc
      exact ⟨h1,fun i cs'=>hdrop s h2 i cs'⟩
    · have:=List.all_eq_true.1 hdst o ho
      rw [hd] at this
      rw [cp]
      simpa using this
  refine head_sound H (fun _=>rfl) (fun j k hj=>hre k (List.mem_of_getElem? hj)) hQp fun g' w' a' hok=>?_
  rw [← cg,← ci,dc hre] at hok
  exact bt (Q:=QQ) htl hok hK fun sf st g w a hok hk=>hq _ _ _ _ _ _ (hok.mask _ _) hk
theorem regR_sound {rd:Option Nat} {p:Nat} {ops:List Oper} {c:AC} (hc:kF P X p ops = some c) {Q:Exit→Sf→St→Prop} {QQ:Exit→Act→World→Prop} (hQp:∀ c a w,¬ QQ (.panic c) a w) (h:Ok m E g w (sp X.n sf) st a) (hK:aC P X.F m c sf st Q)
    (hq:∀ e sf st g w a,Ok m E g w (sp X.n sf) st a→Q e sf st→QQ e a w):cb rd P QQ ops.toArray a w:=by
  unfold kF at hc
  split at hc
  · unfold compDL at hc
    split at hc
    · cases hc; exact hK.elim
    split at hc
    · rename_i hB
      simp only [Bool.and_eq_true] at hB
      exact jF hc hB.1.1 hB.1.2 hB.2 hQp h hK hq
    · cases hc; exact hK.elim
  split at hc
  · cases hc; exact hK.elim
  rename_i k hk
  split at hc
  case isFalse=>cases hc; exact hK.elim
  rename_i hB
  simp only [Bool.and_eq_true] at hB
  split at hc
  · split at hc
    · rename_i c hcd
      cases hc
      exact drawG_sound hcd hB.1.1 hB.1.2 hB.2 h hK hq
    · cases hc; exact hK.elim
  split at hc
  · rename_i κ hκ
    split at hc
    · rename_i hch
      split at hc
      · rename_i c hcd
        cases hc
        exact drawC_sound hcd hch hB.1.1 hB.1.2 hB.2 h hK hq
      · cases hc; exact hK.elim
    split at hc
    · rename_i c hcd
      cases hc
      exact drawM_sound hcd hB.1.1 hB.1.2 hB.2 h hK hq
    · cases hc; exact hK.elim
  split at hc
  · split at hc
    · rename_i c hcd
      cases hc
      exact drawA_sound hcd hB.1.1 hB.1.2 hB.2 h hK hq
    · cases hc; exact hK.elim
  exact jF hc (dv hB.1.1 true) hB.1.2 hB.2 hQp h hK hq
theorem aC_sound (hmix:P.follows .mixedOrders = true) (c:Code):∀ (p:Nat) (ac:AC),bP P X p c = some ac→WalkS P X m c ac:=by
  induction c with
  | skip =>
    intro p ac hc rd E sf st g w a Q QQ hrd h hK hq
    simp only [bP] at hc; cases hc
    exact wpIn_skip (hq _ _ _ _ _ _ _ (.refl _ _) h hK)
  | label l =>
    intro p ac hc rd E sf st g w a Q QQ hrd h hK hq
    simp only [bP] at hc; cases hc
    exact wpIn_label (hq _ _ _ _ _ _ _ (.refl _ _) h hK)
  | region id ops draw =>
    intro p ac hc rd E sf st g w a Q QQ hrd h hK hq
    have hq:=fun e sf st g w a=>hq E e sf st g w a (.refl _ _)
    cases draw with
    | false =>
      simp only [bP] at hc
      obtain ⟨gl,hgl,rfl⟩:=map_some hc
      refine wpIn_region_list ?_
      have:=bt (rd:=rd) (Q:=QQ) hgl h hK fun sf st g w a hok hk=>hq _ _ _ _ _ _ (hok.mask _ _) hk
      simpa using this
    | true =>
      simp only [bP] at hc
      have hr:=regR_sound (rd:=rd) (QQ:=noPanic QQ) hc (fun c a w hp=>hp) h (compDr_np hc hK) fun e sf st g w a hok hk=>(by cases e <;> first | exact hk.elim | exact hq _ _ _ _ _ _ hok hk)
      have h2:=eagL_any (fun c a w hp=>hp) _ _ hr
      have hto:ops.toList.toArray = ops:=by simp
      rw [hto] at h2
      exact wpIn_mono (h2.wp hmix) fun e a w hp=>(by cases e <;> first | exact hp.elim | exact hp)
  | seq x y ihx ihy =>
    intro p ac hc rd E sf st g w a Q QQ hrd h hK hq
    simp only [bP] at hc
    split at hc
    case h_2=>cases hc
    rename_i ax ay hx hy
    cases hc
    simp only [bK,Bool.and_eq_true] at hrd
    refine wpIn_seq (ihx _ ax hx (hrd.imp id (·.1)) h hK fun E' e sf st g w a hE hok hk=>?_)
    cases e with
    | normal=>exact ihy _ ay hy (hrd.imp (fun q=>⟨q.1,by rw [hE.dd]; exact q.2.1,by rw [hE.lolo]; exact Nat.le_trans q.2.2 hE.szw⟩) (·.2)) hok hk fun E'' e sf st g w a hE'=>hq _ _ _ _ _ _ _ (hE.trans hE')
    | _=>exact hq _ _ _ _ _ _ _ hE hok hk
  | cond c x y ihx ihy =>
    intro p ac hc rd E sf st g w a Q QQ hrd h hK hq
    simp only [bP] at hc
    split at hc
    case h_2=>cases hc
    rename_i c' ax ay hcc hx hy
    cases hc
    simp only [bK,Bool.and_eq_true] at hrd
    simp only [aC,fo] at hK
    split at hK
    case h_2=>exact hK.elim
    rename_i b hb
    have hev:=h.ev c
    rw [ae hcc sf,hb] at hev
    have hval:=hev.lit_inv.1
    have hset:Ok m E g w (sp X.n (c'.setB sf b)) st a:=by
      cases c' with
      | r t =>
        simp only [Opd.setB]
        have hbt:sf.reg t = .lit (.bool b):=hb
        rw [← hbt,il]; exact h
      | c v=>exact h
      | f q=>exact h
    refine wpIn_cond hval ?_
    cases b with
    | true=>exact ihx _ ax hx (hrd.imp id (·.1)) hset (hK.1 rfl) hq
    | false=>exact ihy _ ay hy (hrd.imp id (·.2)) hset (hK.2 rfl) hq
  | block id b ih =>
    intro p ac hc rd E sf st g w a Q QQ hrd h hK hq
    simp only [bP] at hc
    obtain ⟨ab,hb,rfl⟩:=map_some hc
    refine wpIn_block (ih _ ab hb hrd h hK fun E' e sf st g w a hE hok hk=>?_)
    cases e with
    | exit id' =>
      simp only [e7] at hk
      simp only [Exit.inBlock]
      split
      · rename_i e; rw [if_pos e] at hk; exact hq _ _ _ _ _ _ _ hE hok hk
      · rename_i e; rw [if_neg e] at hk; exact hq _ _ _ _ _ _ _ hE hok hk
    | _=>exact hq _ _ _ _ _ _ _ hE hok hk
  | loop b ih =>
    intro p ac hc rd E sf st g w a Q QQ hrd h hK hq
    simp only [bP] at hc
    obtain ⟨ab,hb,rfl⟩:=map_some hc
    obtain ⟨I,⟨k0,sf0,hle0,hI0⟩,hround⟩:=hK
    refine wpIn_loop_ghost (fun k a w=>∃ E' sf st g,Ext m E E'∧Ok m E' g w (sp X.n sf) st a∧I k sf st) k0 ⟨E,_,_,_,.refl _ _,(h.mask _ _).weakS hle0,hI0⟩ fun k a w ⟨E',sf,st,g,hE,hok,hI⟩=>?_
    refine ih _ ab hb (hrd.imp (fun q=>⟨q.1,by rw [hE.dd]; exact q.2.1,by rw [hE.lolo]; exact Nat.le_trans q.2.2 hE.szw⟩) id) hok (hround k sf st hI) fun E'' e sf st g w a hE' hok hk=>?_
    cases e with
    | normal=>obtain ⟨k',hlt,sf',hle',hI'⟩:=hk; exact ⟨k',hlt,_,_,_,_,hE.trans hE',(hok.mask _ _).weakS hle',hI'⟩
    | _=>exact hq _ _ _ _ _ _ _ (hE.trans hE') hok hk
  | exit id =>
    intro p ac hc rd E sf st g w a Q QQ hrd h hK hq
    simp only [bP] at hc; cases hc
    exact wpIn_exit (hq _ _ _ _ _ _ _ (.refl _ _) (h.mask _ _) hK)
  | scope b ih =>
    intro p ac hc rd E sf st g w a Q QQ hrd h hK hq
    simp only [bP] at hc
    obtain ⟨ab,hb,rfl⟩:=map_some hc
    refine gA (ih _ ab hb hrd h hK fun E' e sf st g w a hE hok hk=>?_)
    cases e with
    | goto l=>exact hk.elim
    | _=>exact hq _ _ _ _ _ _ _ hE hok hk
  | ret =>
    intro p ac hc rd E sf st g w a Q QQ hrd h hK hq
    simp only [bP] at hc; cases hc
    exact wpIn_ret (hq _ _ _ _ _ _ _ (.refl _ _) h hK)
  | goto l=>intro p ac hc rd E sf st g w a Q QQ hrd h hK hq; simp only [bP] at hc; cases hc; exact hK.elim
  | rangeFunc f ps x y ihx ihy =>
    intro p ac hc rd E sf st g w a Q QQ hrd h hK hq
    simp only [bP] at hc
    split at hc
    case h_2=>cases hc; exact hK.elim
    rename_i f' ax ay hf hx hy
    split at hc
    case isFalse=>cases hc; exact hK.elim
    rename_i hB
    cases hc
    simp only [Bool.and_eq_true] at hB
    obtain ⟨⟨⟨hB1,hB2⟩,hB3⟩,hB4⟩:=hB
    obtain ⟨hm,hK⟩:=hK
    subst hm
    rcases hrd with ⟨rfl,hd,hl⟩ | hrd
    · exact range_sound (ihx _ _ hx) (ihy _ _ hy) hB1 hB2 hf (fun t ht=>by simpa using List.all_eq_true.1 hB3 t ht) (fun t ht=>by simpa using List.all_eq_true.1 hB4 t ht) hd hl h hK hq
    · cases hrd
  | refuse s=>intro p ac hc rd E sf st g w a Q QQ hrd h hK hq; simp only [bP] at hc; cases hc; exact hK.elim
end
end Go.Fx
/- Functions, resolved: their contracts. -/
namespace Go.Fx
open Go Go.RowKit Go.Lib
inductive RI where
  | tmp (t:Nat)
  | cell (t:Nat) (k:Option Nat)
structure AFun where
  n:Nat
  rs:List RI
  body:AC
def resI (sf:Sf) (st:St):RI→Res AV
  | .tmp t=>.ok (sf.reg t).dis
  | .cell t k=>(af sf st (sf.reg t)).bind fun cs=>(jA k cs).bind fun v=>.ok v.dis
def resL (sf:Sf) (st:St):List RI→Res (List AV)
  | []=>.ok []
  | r::rs=>(resI sf st r).bind fun v=>(resL sf st rs).bind fun vs=>.ok (v::vs)
def retI (rs:List RI) (sf:Sf) (st:St):Res AV :=
  match rs with
  | [.tmp t]=>.ok (sf.reg t)
  | [r]=>resI sf st r
  | rs=>(resL sf st rs).bind fun vs=>if vs.all AV.noL = true then .ok (.tup vs) else .fail
def retQ (rs:List RI) (K:AV→St→Prop):Exit→Sf→St→Prop
  | .normal,sf,st=>(retI rs sf st).wp fun v=>v.noL = true∧K v st
  | .ret,sf,st=>(retI rs sf st).wp fun v=>v.noL = true∧K v st
  | _,_,_=>False
def gE:Nat→List AV→List (Nat×AV)
  | _,[]=>[]
  | i,v::r=>(i,v.dis)::gE (i + 1) r
def aFun (P:Program) (F:Nat→FuncId) (m:Bool) (fn:AFun) (vs:List AV) (st:St) (K:AV→St→Prop):Prop :=
  aC P F m fn.body ⟨gE 0 vs,[]⟩ st (retQ fn.rs K)
section
variable (P:Program) (X:Cx)
def eJ (n:Nat):List ResultVar→Option (List RI)
  | []=>some []
  | .tmp t::r=>if t < n then (eJ n r).map (.tmp t::·) else none
  | .cell t T::r=>if t < n then (match jB P T,eJ n r with
      | some k,some rs=>some (.cell t k::rs)
      | _,_=>none) else none
def jG (f:FuncId):Option AFun :=
  match P.funcs[f]? with
  | some fn => match fn.body with
    | some c=>if X.n = fn.ntmps∧fn.params.size + fn.nfree≤fn.ntmps then
        match bP P X 1 c,eJ P X.n fn.results.toList with
        | some b,some rs=>some ⟨X.n,rs,b⟩
        | _,_=>none
      else none
    | none=>none
  | none=>none
end
section
variable {P:Program} {X:Cx} {m:Bool} {E:Ent} {g:Gh} {w:World} {sf:Sf} {st:St} {a:Act}
theorem kH:∀ (vs:List AV) (i t:Nat),getR (gE i vs) t = if i≤t∧t < i + vs.length then (vs.getD (t - i) .any).dis else .any
  | [], i, t => by
    have:¬ (i≤t∧t < i + ([]:List AV).length):=by simp
    rw [if_neg this]; rfl
  | v :: r, i, t => by
    simp only [gE,getR,kH r (i + 1) t,List.length_cons]
    by_cases h:i = t
    · subst h
      simp
    · rw [if_neg h]
      by_cases h2:i + 1≤t∧t < i + 1 + r.length
      · have h3:i≤t∧t < i + (r.length + 1):=by omega
        rw [if_pos h2,if_pos h3]
        obtain ⟨q,rfl⟩:∃ q,t = i + 1 + q:=⟨t - (i + 1),by omega⟩
        rw [show i + 1 + q - (i + 1) = q by omega,show i + 1 + q - i = q + 1 by omega]
        simp
      · have h3:¬ (i≤t∧t < i + (r.length + 1)):=by omega
        rw [if_neg h2,if_neg h3]
theorem ok_start {d N n:Nat} {vs:List AV} {us:Array Value} (hg:Good g w) (hb:BoxR g w st) (ha:en g vs us) (hN:N≤w.heap.size) (hm:m = false→N = 0) (hn:us.size≤n) :
    Ok m ⟨d,N,g,w,st,w.heap.size⟩ g w (sp n ⟨gE 0 vs,[]⟩) st { tmps:=us++Array.replicate (n - us.size) undef,defers:=[] }:=by
  refine ⟨by simp [cp]; omega,fun s v u hv hu=>?_,⟨hg,fun s cs hc=>by simp [sp,look] at hc,hb⟩,DefsR.nil _,Mv.refl hg,fun _=>rfl,hN,hm⟩
  rw [cc] at hv
  split at hv
  case isFalse=>cases hv
  cases hv
  simp only [Sf.reg,kH,Nat.zero_le,true_and,Nat.zero_add,Nat.sub_zero]
  split
  · rename_i hs
    have h1:vs[s]? = some (vs.getD s .any):=by simp [List.getD,hs]
    have hs2:s < us.size:=by rw [ha.1]; exact hs
    have h2:us[s]? = some u:=by rw [Array.getElem?_append_left hs2] at hu; exact hu
    exact ⟨RS.of (ha.2 s _ u h1 h2).dis,OwnV.dis⟩
  · exact ⟨R.any _,fun i c x hc _=>Own.of_no (aa (v:=.any) (fun _ e=>by cases e) trivial i c hc)⟩
def fQ (tmps:Array Value):ResultVar→Sem Value
  | .tmp t=>pure (tmps.getD t undef)
  | .cell b t=>do loadVar t (← asAddr (tmps.getD b undef))
theorem jd {n:Nat} (h:Ok m E g w (sp n sf) st a):∀ {rv:List ResultVar} {rs:List RI} {K:List AV→Prop},eJ P n rv = some rs→(resL sf st rs).wp K →
    ∃ vs us,K vs∧us.length = vs.length∧(∀ (i:Nat) (x:AV) (u:Value),vs[i]? = some x→us[i]? = some u→RS g E.d x u∧∀ (j:Nat) (c:AV),x.cells[j]? = some c→c.noOwn) ∧
      ((rv.mapM (fQ a.tmps):Sem (List Value)).run P w = .ok us w)
  | [], rs, K, hc, hK => by
    simp only [eJ] at hc; cases hc
    exact ⟨[],[],hK,rfl,fun i x u hx=>by simp at hx,by simp⟩
  | .tmp t :: rv, rs, K, hc, hK => by
    simp only [eJ] at hc
    split at hc
    case isFalse=>cases hc
    rename_i ht
    obtain ⟨rs',hrs,rfl⟩:=map_some hc
    simp only [resL,resI,Res.bind] at hK
    rw [Res.wp_bind] at hK
    obtain ⟨vs,us,hK,hl,hr,hrun⟩:=jd h hrs hK
    have hs:=(cQ h t).1
    rw [cf ht] at hs
    refine ⟨_,a.tmps.getD t undef::us,hK,by simp [hl],fun i x u hx hu=>?_,by
      simp only [List.mapM_cons,Sem.run_bind,fQ,Sem.run_pure,Result.andThen_ok,hrun]⟩
    cases i with
    | zero=>simp at hx hu; subst hx; subst hu; exact ⟨by simpa [Act.eval] using hs.dis,aq _⟩
    | succ i=>exact hr i x u (by simpa using hx) (by simpa using hu)
  | .cell t T :: rv, rs, K, hc, hK => by
    simp only [eJ] at hc
    split at hc
    case isFalse=>cases hc
    rename_i ht
    split at hc
    case h_2=>cases hc
    rename_i k rs' hk hrs
    cases hc
    simp only [resL,resI,aT] at hK
    rw [Res.wp_bind] at hK
    have hs:=(cQ h t).1
    rw [cf ht] at hs
    rw [← deref_sp (n:=n)] at hK
    obtain ⟨cs,hK,b,o,hu,xs,hxs⟩:=lB h.ctx hs hK
    rw [Res.wp_bind] at hK
    obtain ⟨v,hK,u',hrun',hR⟩:=take_run (P:=P) hxs (gf hk cs _ hK)
    simp only [Res.bind] at hK
    rw [Res.wp_bind] at hK
    obtain ⟨vs,us,hK,hl,hr,hrun⟩:=jd h hrs hK
    have hu':a.tmps.getD t undef = .pointer (some ⟨b,o,none⟩):=hu
    refine ⟨_,u'::us,hK,by simp [hl],fun i x u hx hu2=>?_,by
      simp only [List.mapM_cons,Sem.run_bind,fQ,hu',asAddr,Sem.run_pure,Result.andThen_ok,hrun',hrun]⟩
    cases i with
    | zero=>simp at hx hu2; subst hx; subst hu2; exact ⟨RS.of hR.dis,aq _⟩
    | succ i=>exact hr i x u (by simpa using hx) (by simpa using hu2)
theorem jH {fn:Func} {tmps:Array Value} {w:World} {us:List Value} (h:(fn.results.toList.mapM (fQ tmps):Sem (List Value)).run P w = .ok us w):(results fn tmps).run P w = .ok (if h:us.toArray.size = 1 then us.toArray[0] else .tuple us.toArray) w:=by
  have h0:results fn tmps = (do
      let vs ← fn.results.mapM (fQ tmps)
      pure (if h:vs.size = 1 then vs[0] else .tuple vs)):=by
    unfold results
    congr 1
  rw [h0,Array.mapM_eq_mapM_toList,Sem.run_bind]
  have h2:(Functor.map List.toArray (fn.results.toList.mapM (fQ tmps):Sem (List Value))).run P w = .ok us.toArray w:=by
    rw [map_eq_pure_bind,Sem.run_bind,h]
    simp
  rw [h2]
  simp only [Result.andThen_ok,Sem.run_pure]
theorem ret_sound {n:Nat} {fn:Func} {rs:List RI} {K:AV→Prop} (h:Ok m E g w (sp n sf) st a) (hc:eJ P n fn.results.toList = some rs) (hK:(retI rs sf st).wp fun v=>v.noL = true∧K v) :
    ∃ v u,K v∧v.noL = true∧(results fn a.tmps).run P w = .ok u w∧RS g E.d v u∧((∀ (j:Nat) (c:AV),v.cells[j]? = some c→c.noOwn)∨∃ t,t < n∧v = sf.reg t∧u = a.tmps.getD t undef):=by
  have hlist:∀ K',(resL sf st rs).wp K'→∃ (vs:List AV) (us:List Value),K' vs∧us.length = vs.length∧(∀ (i:Nat) (x:AV) (u:Value),vs[i]? = some x→us[i]? = some u→RS g E.d x u∧∀ (j:Nat) (c:AV),x.cells[j]? = some c→c.noOwn)∧(results fn a.tmps).run P w = .ok (if h:us.toArray.size = 1 then us.toArray[0] else .tuple us.toArray) w:=by
    intro K' hK'
    obtain ⟨vs,us,h1,h2,h3,h4⟩:=jd h hc hK'
    exact ⟨vs,us,h1,h2,h3,jH h4⟩
  unfold retI at hK
  split at hK
  · rename_i t
    obtain ⟨hnl,hK⟩:=hK
    obtain ⟨vs,us,h1,h2,h3,h4⟩:=hlist (fun vs=>vs = [(sf.reg t).dis]) (by simp [resL,resI,Res.bind,Res.wp])
    -- one slot: its value as it stands
    have htn:t < n∧fn.results.toList = [.tmp t]:=by
      cases hr:fn.results.toList with
      | nil=>rw [hr] at hc; simp [eJ] at hc
      | cons x r =>
        rw [hr] at hc
        cases x with
        | tmp t' =>
          simp only [eJ] at hc
          split at hc
          · rename_i hlt
            obtain ⟨q,hq,e⟩:=map_some hc
            cases e
            cases r with
            | nil=>exact ⟨hlt,rfl⟩
            | cons y r =>
              exfalso
              cases y <;> simp only [eJ] at hq <;> split at hq <;> first | (cases hq; done) | skip
              · obtain ⟨_,_,e⟩:=map_some hq; cases e
              · split at hq <;> cases hq
          · cases hc
        | cell t' T =>
          simp only [eJ] at hc
          split at hc
          · split at hc <;> cases hc
          · cases hc
    have hrun:(fn.results.toList.mapM (fQ a.tmps):Sem (List Value)).run P w = .ok [a.tmps.getD t undef] w:=by
      rw [htn.2]
      simp only [List.mapM_cons,List.mapM_nil,Sem.run_bind,fQ,Sem.run_pure,Result.andThen_ok]
    have hs:=(cQ h t).1
    rw [cf htn.1] at hs
    exact ⟨sf.reg t,a.tmps.getD t undef,hK,hnl,by have:=jH hrun; simpa using this,hs,.inr ⟨t,htn.1,rfl,rfl⟩⟩
  · rename_i r hne
    obtain ⟨vs,us,⟨v,rfl,hnl,hK⟩,h2,h3,h4⟩:=hlist (fun vs=>∃ v,vs = [v]∧v.noL = true∧K v) (by
      simp only [resL,Res.bind]
      rw [Res.wp_bind]
      exact Res.wp_mono hK fun v hv=>⟨v,rfl,hv.1,hv.2⟩)
    match us,h2 with
    | [u], _ =>
      obtain ⟨h5,h6⟩:=h3 0 v u rfl rfl
      exact ⟨v,u,hK,hnl,by simpa using h4,h5,.inl h6⟩
  · rename_i hne1 hne2
    rw [Res.wp_bind] at hK
    have hrl:∀ {rs:List RI} {K':List AV→Prop},(resL sf st rs).wp K'→(resL sf st rs).wp fun vs=>K' vs∧vs.length = rs.length:=by
      intro rs
      induction rs with
      | nil=>intro K' h; exact ⟨h,rfl⟩
      | cons r rs ih =>
        intro K' h
        simp only [resL] at h ⊢
        rw [Res.wp_bind] at h ⊢
        refine Res.wp_mono h fun v hv=>?_
        rw [Res.wp_bind] at hv ⊢
        exact Res.wp_mono (ih hv) fun vs hvs=>⟨hvs.1,by simp [hvs.2]⟩
    obtain ⟨vs,us,⟨hK,hvl⟩,h2,h3,h4⟩:=hlist _ (hrl hK)
    split at hK
    case isFalse=>exact hK.elim
    rename_i hall
    obtain ⟨_,hK⟩:=hK
    have hlen:us.length≠1:=by
      intro e
      rw [h2,hvl] at e
      obtain ⟨r,hr⟩:=List.length_eq_one_iff.1 e
      exact hne2 r hr
    refine ⟨.tup vs,.tuple us.toArray,hK,rfl,by rw [h4]; simp [hlen],RS.of (.tup vs us.toArray (by simpa using h2) fun i x u hx hu=>?_),.inl (aa (by simp) trivial)⟩
    have hx':=List.all_eq_true.1 hall x (List.mem_of_getElem? hx)
    exact jy hx' (h3 i x u hx (by simpa using hu)).1
end
end Go.Fx
/- Functions, resolved: from what the resolved code does to a contract. -/
namespace Go.Fx
def msOf:List (Nat×List Nat×List Nat)→Nat→List Nat×List Nat
  | [],_=>([],[])
  | (q,r)::l,p=>if q = p then r else msOf l p
open Go Go.RowKit Go.Lib
section
variable {P:Program} {X:Cx} {f:FuncId} {fn':AFun} {vs:List AV} {st:St}
theorem compF_inv (h:jG P X f = some fn'):∃ fn c b rs,P.funcs[f]? = some fn∧fn.body = some c∧X.n = fn.ntmps∧bP P X 1 c = some b∧eJ P X.n fn.results.toList = some rs∧fn' = ⟨X.n,rs,b⟩:=by
  unfold jG at h
  split at h
  case h_2=>cases h
  rename_i fn hf
  split at h
  case h_2=>cases h
  rename_i c hc
  split at h
  case isFalse=>cases h
  rename_i hn
  split at h
  case h_2=>cases h
  rename_i b rs hb hr
  cases h
  exact ⟨fn,c,b,rs,hf,hc,hn.1,hb,hr,rfl⟩
theorem Ok.toE {m:Bool} {E E':Ent} {g:Gh} {w:World} {fr:Fr} {st:St} {a:Act} (h:Ok false E' g w fr st a) (hE:Ext false E E'):Ok false E g w fr st { a with defers:=[] }:=by
  have hmv:=hE.mvE h.mv
  have h1:=hE.dd
  have h2:=hE.NN
  obtain ⟨d,N,g0,w0,st0,lo⟩:=E
  obtain ⟨d',N',g0',w0',st0',lo'⟩:=E'
  simp only at h1 h2
  subst h1; subst h2
  exact ⟨h.size,h.slots,h.ctx,DefsR.nil _,hmv,fun e=>(by cases e),h.hN,h.hm⟩
theorem l6 {P:Program} {fn:Func} {R:Ending→World→Prop} {E:Ent} {g:Gh} {fr:Fr} {st:St} {a:Act} (hE:∀ D c,E.g.cls D = some c→D < E.lo) (hlo:E.g.base≤E.lo)
    (hfin:∀ w,Ok false E g w fr st a→∃ v,(results fn a.tmps).run P w = .ok v w∧R (.returned v) w):∀ (ds:List Deferred) (w:World),(∀ x ∈ ds,∃ D dd s,x = { target:=.collected D,args:=#[] }∧E.lo≤D∧g.cls D = some (.loc dd s)∧dd < E.d∧w.heap[D]? = some (.deferred (some []))) →
      (ds.map fun x=>x.target).Nodup→Ok false E g w fr st a→LeavesInM (FW none) 0 P fn a.tmps R ds .returning w
  | [],w,_,_,h=>hfin w h
  | x :: ds, w, ha, hn, h => by
    obtain ⟨D,dd,s,rfl,h1,h2,h3,h4⟩:=ha x (by simp)
    simp only [List.map_cons,List.nodup_cons] at hn
    refine ⟨by simp,.inl ⟨D,_,rfl,run_takeDeferred h4,?_⟩⟩
    have hnone:E.g.cls D = none:=by
      cases hc:E.g.cls D with
      | none=>rfl
      | some c=>have:=hE D c hc; omega
    refine l6 hE hlo hfin ds _ (fun y hy=>?_) hn.2 (h.putD h2 (by omega) hnone (Nat.le_trans hlo h1) _)
    obtain ⟨D',dd',s',rfl,k1,k2,k3,k4⟩:=ha y (by simp [hy])
    have hne:D'≠D:=by
      rintro rfl
      exact hn.1 (List.mem_map.2 ⟨_,hy,rfl⟩)
    exact ⟨D',dd',s',rfl,k1,k2,k3,by rw [World.putObj_heap_other hne]; exact k4⟩
theorem l7 (hmix:P.follows .mixedOrders = true) (hf:jG P X f = some fn') (hlen:vs.length≤fn'.n) {K:AV→St→Prop} (h:aFun P X.F false fn' vs st K):az P f vs st K:=by
  obtain ⟨fn,c,b,rs,hfn,hc,hn,hb,hr,rfl⟩:=compF_inv hf
  intro D g w us L hg hbx ha
  have hus:us.size≤X.n:=by rw [ha.1]; exact hlen
  refine gL.1 (callsIn_of_wp_marks (F:=FW none) (n:=0) hfn hc trivial ?_)
  have h0:=ok_start (m:=false) (d:=D + 1) (N:=0) (n:=X.n) (st:=st) hg hbx ha (Nat.zero_le _) (fun _=>rfl) hus
  rw [← hn]
  have key:∀ (sf:Sf) (st':St) (g':Gh) (w':World) (a':Act),Ok false ⟨D + 1,0,g,w,st,w.heap.size⟩ g' w' (sp X.n sf) st' a'→((retI rs sf st').wp fun v=>v.noL = true∧K v st') →
      ∃ v,(results fn a'.tmps).run P w' = .ok v w'∧∃ u v' st' g',Ending.returned v = .returned u∧K v' st'∧Mv false 0 D g w g' w'∧BoxR g' w' st'∧R g' v' u∧OwnV g' w' 0 L v' u:=by
    intro sf st' g' w' a' hok hret
    obtain ⟨v,u,hK,hnl,hrun,hR,hown⟩:=ret_sound (K:=fun v=>K v st') hok hr hret
    refine ⟨u,hrun,u,v,st',?_⟩
    rcases hown with hno | ⟨t,ht,rfl,rfl⟩
    · exact ⟨g',rfl,hK,hok.mv.inner (Nat.le_succ _),hok.ctx.box,jy hnl hR,fun i c x hc _=>Own.of_no (hno i c hc)⟩
    · obtain ⟨h1,h2,h3⟩:=hok.steal t L
      rw [cf ht] at h2 h3
      exact ⟨_,rfl,hK,h1.mv.inner (Nat.le_succ _),h1.ctx.box,jy hnl h2,h3⟩
  have key2:∀ (E':Ent) (sf:Sf) (st':St) (g':Gh) (w':World) (a':Act),Ext false ⟨D + 1,0,g,w,st,w.heap.size⟩ E'→Ok false E' g' w' (sp X.n sf) st' a'→((retI rs sf st').wp fun v=>v.noL = true∧K v st') →
      LeavesInM (FW none) 0 P fn a'.tmps (fun e w'=>∃ u v st' g',e = .returned u∧K v st'∧Mv false 0 D g w g' w'∧BoxR g' w' st'∧R g' v u∧OwnV g' w' 0 L v u) a'.defers .returning w':=by
    intro E' sf st' g' w' a' hE hok hret
    have hok0:=hok.toE (m:=false) hE
    refine l6 (E:=⟨D + 1,0,g,w,st,w.heap.size⟩) (a:={ a' with defers:=[] }) (fun b c hc=>(hg.cls b c hc).2) hg.base (fun w2 hok2=>key sf st' g' w2 _ hok2 hret) a'.defers w' (fun x hx=>?_) hok.defers.nd hok0
    obtain ⟨b,dd,s,h1,h2,h3,h4,h5⟩:=hok.defers.all x hx
    obtain ⟨q1,q2,_⟩:=hok.mv.outer b _ h3 h4
    have hd:=hE.dd
    have hl:=hE.lolo
    simp only at hd hl
    exact ⟨b,dd,s,h1,by rw [← hl]; exact h2,q1,by rw [← hd]; exact h4,by rw [q2]; exact h5⟩
  refine aC_sound hmix c 1 b hb (.inl ⟨rfl,by simp,Nat.le_refl _⟩) h0 h fun E' e sf st' g' w' a' hE hok hq=>?_
  cases e with
  | normal=>exact key2 E' sf st' g' w' a' hE hok hq
  | ret=>exact key2 E' sf st' g' w' a' hE hok hq
  | exit id=>exact hq.elim
  | goto l=>exact hq.elim
  | panic ch=>exact hq.elim
  | outgrown=>exact hq.elim
end
end Go.Fx
/- A function that keeps what it makes to itself leaves all alone. -/
namespace Go.Fx
open Go Go.RowKit Go.Lib
inductive AV.NB:AV→Prop where
  | any:AV.NB .any
  | lit (v:Value):AV.NB (.lit v)
  | cptr (cs:List AV) (h:∀ c ∈ cs,AV.NB c):AV.NB (.cptr cs)
  | sl (o:Bool) (k:Nat) (es:List AV) (h:∀ c ∈ es,AV.NB c):AV.NB (.sl o k es)
  | fn (f:Fn) (fs cs:List AV) (h1:∀ c ∈ fs,AV.NB c) (h2:∀ c ∈ cs,AV.NB c):AV.NB (.fn f fs cs)
  | agg (cs:List AV) (h:∀ c ∈ cs,AV.NB c):AV.NB (.agg cs)
  | tup (cs:List AV) (h:∀ c ∈ cs,AV.NB c):AV.NB (.tup cs)
  | ifc (t:Nat) (v:AV) (h:AV.NB v):AV.NB (.ifc t v)
section
variable {g g':Gh} {w w':World} {N:Nat}
theorem nb_cells {e:AV} (h:e.NB):∀ c ∈ e.cells,c.NB:=by
  cases h with
  | agg cs h=>exact h
  | any=>intro c hc; simp [AV.cells] at hc; subst hc; exact .any
  | lit v=>intro c hc; simp [AV.cells] at hc; subst hc; exact .lit v
  | cptr cs h=>intro c hc; simp [AV.cells] at hc; subst hc; exact .cptr cs h
  | sl o k es h=>intro c hc; simp [AV.cells] at hc; subst hc; exact .sl o k es h
  | fn f fs cs h1 h2=>intro c hc; simp [AV.cells] at hc; subst hc; exact .fn f fs cs h1 h2
  | tup cs h=>intro c hc; simp [AV.cells] at hc; subst hc; exact .tup cs h
  | ifc t v h=>intro c hc; simp [AV.cells] at hc; subst hc; exact .ifc t v h
theorem R.nb (hi:∀ b o u,g.imm b o = some u→g'.imm b o = some u) {v:AV} {u:Value} (h:R g v u):v.NB→R g' v u:=by
  induction h with
  | any u=>exact fun _=>.any u
  | lit v h=>exact fun _=>.lit v h
  | ptr id off b h=>exact fun h=>by cases h
  | cptr cs us b o h1 _ ih =>
    intro hn
    cases hn with
    | cptr _ hn=>exact .cptr cs us b o (fun i c hc=>hi _ _ _ (h1 i c hc)) (fun i c hc=>ih i c hc (hn c (List.mem_of_getElem? hc)))
  | sl own k es us b o c hc hk h1 _ h3 ih =>
    intro hn
    cases hn with
    | sl _ _ _ hn =>
      refine .sl own k es us b o c hc hk (fun i x hx=>hi _ _ _ (h1 i x hx)) (fun i x hx=>ih i x hx ?_) h3
      have:=List.mem_of_getElem? hx
      simp only [List.mem_flatMap] at this
      obtain ⟨e,he,hxe⟩:=this
      exact nb_cells (hn e he) x hxe
  | slE own k a c=>exact fun _=>.slE own k a c
  | slN own k=>exact fun _=>.slN own k
  | bs id k off len cap b h=>exact fun h=>by cases h
  | mit id s l p b=>exact fun h=>by cases h
  | yld id b h=>exact fun h=>by cases h
  | xs k es a _ _=>exact fun h=>by cases h
  | ifc t v u _ ih =>
    intro hn
    cases hn with | ifc _ _ hn=>exact .ifc t v u (ih hn)
  | map id b h=>exact fun h=>by cases h
  | fn f fs cs us vs hu hv _ _ ih1 ih2 =>
    intro hn
    cases hn with
    | fn _ _ _ n1 n2=>exact .fn f fs cs us vs hu hv (fun i x u hx hu=>ih1 i x u hx hu (n1 x (List.mem_of_getElem? hx))) (fun i x u hx hu=>ih2 i x u hx hu (n2 x (List.mem_of_getElem? hx)))
  | agg cs us hu _ ih =>
    intro hn
    cases hn with | agg _ hn=>exact .agg cs us hu (fun i x u hx hu=>ih i x u hx hu (hn x (List.mem_of_getElem? hx)))
  | tup cs us hu _ ih =>
    intro hn
    cases hn with | tup _ hn=>exact .tup cs us hu (fun i x u hx hu=>ih i x u hx hu (hn x (List.mem_of_getElem? hx)))
inductive Frz (st:St):AV→AV→Prop where
  | le (v v0:AV) (h:AV.le v v0) (hn:v0.NB):Frz st v v0
  | bs (id k off len cap:Nat) (cs:List AV) (hg:st.get id = some cs) (hl:off + len * k≤cs.length) (hcap:len≤cap) (hk:∀ c ∈ cs.drop off,c.NB):Frz st (.bs id k off len cap) (.sl false k (grp k len (cs.drop off)))
  | agg (cs ds:List AV) (hl:ds.length = cs.length) (h:∀ (i:Nat) (c d:AV),cs[i]? = some c→ds[i]? = some d→Frz st c d) (hn:∀ d ∈ ds,d.noOwn):Frz st (.agg cs) (.agg ds)
  | tup (cs ds:List AV) (hl:ds.length = cs.length) (h:∀ (i:Nat) (c d:AV),cs[i]? = some c→ds[i]? = some d→Frz st c d):Frz st (.tup cs) (.tup ds)
def frzL (st:St):List AV→List AV→Prop
  | [],[]=>True
  | c::r,d::q=>Frz st c d∧frzL st r q
  | _,_=>False
theorem dt {st:St}:∀ {l k:List AV},frzL st l k→k.length = l.length∧∀ (i:Nat) (c d:AV),l[i]? = some c→k[i]? = some d→Frz st c d
  | [],[],_=>⟨rfl,fun i c d h=>by simp at h⟩
  | [],_::_,h=>h.elim
  | _::_,[],h=>h.elim
  | v :: r, u :: s, ⟨h1, h2⟩ => by
    obtain ⟨q1,q2⟩:=dt h2
    refine ⟨by simp [q1],fun i c d hc hd=>?_⟩
    cases i with
    | zero=>simp at hc hd; subst hc; subst hd; exact h1
    | succ i=>exact q2 i c d (by simpa using hc) (by simpa using hd)
theorem Frz.aggL {st:St} {l k:List AV} (h:frzL st l k) (hn:∀ d ∈ k,d.noOwn):Frz st (.agg l) (.agg k):=.agg l k (dt h).1 (dt h).2 hn
theorem Frz.tupL {st:St} {l k:List AV} (h:frzL st l k):Frz st (.tup l) (.tup k):=.tup l k (dt h).1 (dt h).2
def Gh.hide (g:Gh) (n:Nat):Gh:={ base:=0,imm:=g.imm,bx:=fun _=>none,lb:=g.lb,cls:=fun b=>if b < n then some (.arr (.slot 0 0 0)) else none }
theorem hide_good (h:Good g w):Good (g.hide w.heap.size) w:=by
  refine ⟨h.imm,fun b o u hi=>.inr ⟨_,by simp [Gh.hide,h.lt hi]; rfl⟩,fun b c hc=>?_,Nat.zero_le _⟩
  simp only [Gh.hide] at hc
  split at hc
  · rename_i hl; exact ⟨Nat.zero_le _,hl⟩
  · cases hc
def Gh.show (g g1:Gh) (n:Nat) (L:Nat→Loc) (fb:Nat→Option (Array Value)):Gh :=
  { base:=g.base,bx:=g.bx,lb:=g.lb
    imm:=fun b o=>if b < n then g.imm b o else match fb b with
      | some us=>us[o]?
      | none=>g1.imm b o
    cls:=fun b=>if b < n then g.cls b else match g1.cls b with
      | some (.arr (.slot 5 0 k))=>some (.arr (L k))
      | _=>none }
def frzB (g1:Gh) (w:World) (n:Nat) (b:Nat):Option (Array Value) :=
  if n≤b then (match g1.cls b,w.heap[b]? with
    | some (.box _),some (.cells us _ (0,0))=>some us
    | _,_=>none) else none
def Fzn (g1 gs:Gh) (st:St):Prop:=∀ id cs,st.get id = some cs→∃ (b:Nat) (us:Array Value),g1.bx id = some b∧(∀ o:Nat,gs.imm b o = us[o]?)∧us.size = cs.length ∧
  (∀ (i:Nat) (c:AV) (x:Value),cs[i]? = some c→us[i]? = some x→R g1 c x)∧∀ x ∈ us,x.oneCell' = true
theorem fzn_of {g1 gs:Gh} {w:World} {st:St} {n:Nat} (hb1:BoxR g1 w st) (hbn:∀ id b,g1.bx id = some b→g1.cls b = some (.box id)→n≤b) (kf:∀ b us,frzB g1 w n b = some us→∀ o:Nat,gs.imm b o = us[o]?):Fzn g1 gs st:=by
  intro id cs hgt
  obtain ⟨b,us',T,a1,a2,a3,a4,a5,a6⟩:=hb1.2.1 id cs (by unfold St.get at hgt; split at hgt <;> first | (cases hgt; assumption) | cases hgt)
  have hge:=hbn id b a1 a2
  have hfz:frzB g1 w n b = some us':=by simp [frzB,hge,a2,a3]
  exact ⟨b,us',a1,kf b us' hfz,a4,fun i c x hc hx=>(a5 i c x hc hx).1,a6⟩
theorem frz_R {g1 gs:Gh} {st:St} (hf:Fzn g1 gs st) (k2:∀ b o u,g1.imm b o = some u→gs.imm b o = some u) {v v0:AV} (h:Frz st v v0):∀ {u:Value},R g1 v u→R gs v0 u:=by
  induction h with
  | le v v0 hle hn=>exact fun hR=>(hle.r hR).nb k2 hn
  | agg cs ds hl h hn ih =>
    intro u hR
    obtain ⟨us,rfl,hr⟩:=hR.agg_inv
    refine .agg ds us (by have:=hr.1; simp at this; omega) fun i x u hx hu=>?_
    have hlt:i < cs.length:=by rw [← hl]; exact (List.getElem?_eq_some_iff.1 hx).1
    exact ih i cs[i] x (by simp [hlt]) hx (hr.2 i cs[i] u (by simp [hlt]) (by simpa using hu))
  | tup cs ds hl h ih =>
    intro u hR
    cases hR with
    | tup _ us hu hR =>
      refine .tup ds us (by omega) fun i x u hx hu'=>?_
      have hlt:i < cs.length:=by rw [← hl]; exact (List.getElem?_eq_some_iff.1 hx).1
      exact ih i cs[i] x (by simp [hlt]) hx (hR i cs[i] u (by simp [hlt]) hu')
  | bs id k off len cap cs hgt hl hcap hk =>
    intro u hR
    obtain ⟨b,us',a1,kf,a4,a5,a6⟩:=hf id cs hgt
    cases hR with
    | bs _ _ _ _ _ b' hb' =>
      have:b' = b:=Option.some.inj (hb'.symm.trans a1)
      subst this
      have hone:∀ c ∈ cs.drop off,c.cells = [c]:=by
        intro c hc
        obtain ⟨i,hi⟩:=List.mem_iff_getElem?.1 (List.mem_of_mem_drop hc)
        have hlt:i < us'.size:=by rw [a4]; exact (List.getElem?_eq_some_iff.1 hi).1
        have hx:us'[i]? = some us'[i]:=Array.getElem?_eq_getElem hlt
        exact lC (a5 i c _ hi hx) (a6 _ (Array.getElem_mem hlt))
      obtain ⟨q1,q2,q3⟩:=iO (k:=k) len (cs.drop off) hone (by simp; omega)
      have hcell:∀ (i:Nat) (x:AV),((grp k len (cs.drop off)).flatMap AV.cells)[i]? = some x→i < len * k∧cs[off + i]? = some x:=by
        intro i x hx
        rw [q3,List.getElem?_take] at hx
        split at hx
        · rename_i hil; exact ⟨hil,by simpa using hx⟩
        · cases hx
      have:=R.sl (g:=gs) false k (grp k len (cs.drop off)) (fun i=>us'.getD (off + i) undef) b' off cap (by rw [q1]; exact hcap) q2 (fun i x hx=>?_) (fun i x hx=>?_) (fun i x hx=>?_)
      · rw [q1] at this; exact this
      · obtain ⟨hi,hc⟩:=hcell i x hx
        have hlt:off + i < us'.size:=by omega
        rw [kf]
        simp [hlt]
      · obtain ⟨hi,hc⟩:=hcell i x hx
        have hlt:off + i < us'.size:=by omega
        have e1:us'.getD (off + i) undef = us'[off + i]:=by simp [hlt]
        rw [e1]
        exact (a5 (off + i) x _ hc (Array.getElem?_eq_getElem hlt)).nb k2 (hk x (by rw [List.mem_iff_getElem?]; exact ⟨i,by simpa using hc⟩))
      · obtain ⟨hi,hc⟩:=hcell i x hx
        have hlt:off + i < us'.size:=by omega
        have e1:us'.getD (off + i) undef = us'[off + i]:=by simp [hlt]
        rw [e1]
        exact a6 _ (Array.getElem_mem hlt)
theorem e8 {P:Program} {f:FuncId} {vs:List AV} {v0:AV} (h:az P f vs ⟨[]⟩ fun v st'=>Frz st' v v0) (hvs:∀ v ∈ vs,v.NB) (st:St):aw P f vs st v0:=by
  intro g w us L hg hbx ha
  have ha0:en (g.hide w.heap.size) vs us:=⟨ha.1,fun i x u hx hu=>R.nb (g:=g) (g':=g.hide w.heap.size) (fun _ _ _ h=>h) (ha.2 i x u hx hu) (hvs x (List.mem_of_getElem? hx))⟩
  have hb0:BoxR (g.hide w.heap.size) w ⟨[]⟩:=⟨fun _ _=>rfl,fun id cs hc=>by simp at hc,fun id bx hc=>by simp at hc⟩
  refine (h 1 _ w us (fun k=>.slot 5 0 k) (hide_good hg) hb0 ha0).mono fun e w' ⟨u,v,st',g1,he,hF,hmv,hb1,hR,hO⟩=>?_
  have hout:∀ b,b < w.heap.size→g1.cls b = some (.arr (.slot 0 0 0))∧w'.heap[b]? = w.heap[b]?∧g1.imm b = g.imm b:=fun b hb =>
    hmv.outer b (.arr (.slot 0 0 0)) (by simp [Gh.hide,hb]) (Nat.zero_lt_one)
  have hbel:Below w.heap.size w w':=⟨hmv.os,hmv.tape,hmv.output,hmv.size,fun k hk=>(hout k hk).2.1⟩
  have hfz:∀ b us,frzB g1 w' w.heap.size b = some us→w.heap.size≤b∧b < w'.heap.size∧(∃ id,g1.cls b = some (.box id))∧∃ T,w'.heap[b]? = some (.cells us T (0,0)):=by
    intro b us h
    unfold frzB at h
    split at h
    · rename_i hge
      split at h
      · rename_i id us' T h1 h2
        cases h
        exact ⟨hge,(Array.getElem?_eq_some_iff.1 h2).1,⟨id,h1⟩,T,h2⟩
      · cases h
    · cases h
  have himm:∀ b o u,g1.imm b o = some u→(g.show g1 w.heap.size L (frzB g1 w' w.heap.size)).imm b o = some u:=by
    intro b o u hi
    simp only [Gh.show]
    split
    · rename_i hl; rw [← (hout b hl).2.2]; exact hi
    · split
      · rename_i us e
        obtain ⟨_,_,⟨id,hid⟩,_⟩:=hfz b us e
        rcases hmv.good.immc b o u hi with h1 | ⟨L',h1⟩ <;> rw [hid] at h1 <;> cases h1
      · exact hi
  have k1:LeP g w (g.show g1 w.heap.size L (frzB g1 w' w.heap.size)) w':=by
    refine ⟨hbel,fun b hb=>by funext o; simp [Gh.show,hb],fun b hb=>by simp [Gh.show,hb],rfl,rfl,rfl,fun _=>?_⟩
    refine ⟨fun b o u hi=>?_,fun b o u hi=>?_,fun b c hc=>?_,?_⟩
    · simp only [Gh.show] at hi
      split at hi
      · rename_i hl
        have:=hg.imm b o u hi
        unfold World.cell? at this ⊢
        rw [(hout b hl).2.1]; exact this
      · split at hi
        · rename_i us e
          obtain ⟨_,_,_,T,hT⟩:=hfz b us e
          rw [cell_of_row w' b o us T (0,0) hT]; exact hi
        · exact hmv.good.imm b o u hi
    · simp only [Gh.show] at hi ⊢
      split at hi
      · rename_i hl; simp only [hl,if_true]; exact hg.immc b o u hi
      · rename_i hl
        simp only [hl,if_false]
        split
        · exact .inr ⟨_,rfl⟩
        · exact .inl rfl
    · simp only [Gh.show] at hc
      split at hc
      · rename_i hl
        have:=hg.cls b c hc
        exact ⟨this.1,Nat.lt_of_lt_of_le hl hmv.size⟩
      · rename_i hl
        split at hc
        · rename_i k hk
          have:=(hmv.good.cls b _ hk).2
          have hb:=hg.base
          exact ⟨by simp only [Gh.show]; omega,this⟩
        · cases hc
    · have:=hg.base
      have:=hmv.size
      simp only [Gh.show]; omega
  have hbn:∀ id b,g1.bx id = some b→g1.cls b = some (.box id)→w.heap.size≤b:=by
    intro id b _ h2
    refine Nat.le_of_not_lt fun hlt=>?_
    rw [(hout b hlt).1] at h2; cases h2
  have kf:∀ b us,frzB g1 w' w.heap.size b = some us→∀ o:Nat,(g.show g1 w.heap.size L (frzB g1 w' w.heap.size)).imm b o = us[o]?:=by
    intro b us h o
    have hge:=(hfz b us h).1
    have hnl:¬ b < w.heap.size:=by omega
    simp only [Gh.show,hnl,if_false,h]
  have hRR:=frz_R (fzn_of hb1 hbn kf) himm hF hR
  cases hF with
  | le _ _ hle hn =>
    have hO0:OwnV g1 w' 0 (fun k=>.slot 5 0 k) v0 u:=hle.ownV (d:=0) (RS.of hR) hO
    refine ⟨u,_,he,k1,hRR,fun i c x hc hx=>⟨fun k es e=>?_,fun id s l stp e=>?_⟩⟩
    · rcases (hO0 i c x hc hx).1 k es e with h0 | ⟨b,o,c',cur,T,q1,_,q2,q3,q4,q5,q6⟩
      · exact .inl h0
      · have hge:w.heap.size≤b:=by
          refine Nat.le_of_not_lt fun hl=>?_
          rw [(hout b hl).1] at q2; cases q2
        have hnl:¬ b < w.heap.size:=by omega
        have hf0:frzB g1 w' w.heap.size b = none:=by simp [frzB,q2]
        exact .inr ⟨b,o,c',cur,T,q1,hge,by simp [Gh.show,hnl,q2],q3,q4,q5,fun j hj hj'=>by simp [Gh.show,hnl,hf0,q6 j hj hj']⟩
    · subst e
      have:=nb_cells hn _ (List.mem_of_getElem? hc)
      cases this
  | bs id k off len cap cs hgt hl hcap hk =>
    exact ⟨_,_,he,k1,hRR,fun i c x hc hx=>by
      cases i with
      | succ i=>simp [AV.cells] at hc
      | zero=>simp [AV.cells] at hc; subst hc; exact Own.of_no trivial⟩
  | agg cs ds hl h hn=>exact ⟨_,_,he,k1,hRR,fun i c x hc hx=>Own.of_no (hn c (List.mem_of_getElem? hc))⟩
  | tup cs ds hl h =>
    exact ⟨_,_,he,k1,hRR,fun i c x hc hx=>by
      cases i with
      | succ i=>simp [AV.cells] at hc
      | zero=>simp [AV.cells] at hc; subst hc; exact Own.of_no trivial⟩
end
end Go.Fx
/- Equations for evaluation: each with all its arguments, so that nothing is opened ahead of its turn. -/
namespace Go.Fx
open Go
section
variable (P:Program) (F:Nat→FuncId) (m:Bool) (sf:Sf) (st:St) (Q:Exit→Sf→St→Prop) (K:Sf→St→Prop)
theorem aC_skip:aC P F m .skip sf st Q = Q .normal sf st:=rfl
theorem aC_ops (lv ll:List Nat) (l:List GI):aC P F m (.ops lv ll l) sf st Q = runI P F m l (opsK lv ll Q) sf st:=rfl
theorem aC_draw (lv ll drop:List Nat) (hl tl:List GI):aC P F m (.draw lv ll drop hl tl) sf st Q = ap P F sf.locs st hl (cZ P F m drop lv ll tl Q st) [] ⟨sf.regs,a8 drop sf.locs⟩:=rfl
theorem aC_seq (a b:AC):aC P F m (.seq a b) sf st Q = aC P F m a sf st (seqQ (aC P F m b) Q):=rfl
theorem aC_cond (x:Opd) (a b:AC):aC P F m (.cond x a b) sf st Q = fo x (sf.ev F x) (aC P F m a) (aC P F m b) sf st Q:=rfl
theorem aC_block (id:Nat) (b:AC):aC P F m (.block id b) sf st Q = aC P F m b sf st (e7 id Q):=rfl
theorem aC_loop (lv ll:List Nat) (b:AC):aC P F m (.loop lv ll b) sf st Q = br (aC P F m b) lv ll sf st Q:=rfl
theorem bT (lv ll:List Nat) (id:Nat):aC P F m (.exit lv ll id) sf st Q = Q (.exit id) (sf.mask lv ll) st:=rfl
theorem aC_scope (b:AC):aC P F m (.scope b) sf st Q = aC P F m b sf st (scopeQ Q):=rfl
theorem aC_ret:aC P F m .ret sf st Q = Q .ret sf st:=rfl
theorem jI (C:Sf→St→(Exit→Sf→St→Prop)→Prop):seqQ C Q .normal sf st = C sf st Q:=rfl
theorem seqQ_ret (C:Sf→St→(Exit→Sf→St→Prop)→Prop):seqQ C Q .ret sf st = Q .ret sf st:=rfl
theorem aV (C:Sf→St→(Exit→Sf→St→Prop)→Prop) (id:Nat):seqQ C Q (.exit id) sf st = Q (.exit id) sf st:=rfl
theorem gF (id:Nat):e7 id Q .normal sf st = Q .normal sf st:=rfl
theorem cR (id:Nat):e7 id Q .ret sf st = Q .ret sf st:=rfl
theorem ar (id id':Nat):e7 id Q (.exit id') sf st = if id' = id then Q .normal sf st else Q (.exit id') sf st:=rfl
theorem opsK_eq (lv ll:List Nat):opsK lv ll Q sf st = Q .normal (sf.mask lv ll) st:=rfl
theorem retQ_ret (rs:List RI) (C:AV→St→Prop):retQ rs C .ret sf st = (retI rs sf st).wp (fun v=>v.noL = true∧C v st):=rfl
theorem ir (x:Opd) (b:Bool) (A B:Sf→St→(Exit→Sf→St→Prop)→Prop):fo x (.lit (.bool b)) A B sf st Q = ((b = true→A (x.setB sf true) st Q)∧(b = false→B (x.setB sf false) st Q)):=rfl
theorem runI_nil:runI P F m [] K sf st = K sf st:=rfl
theorem je (i:AI) (r:List GI):runI P F m (⟨none,i⟩::r) K sf st = oneI P F m i (runI P F m r K) sf st:=rfl
theorem a9 (t:Nat) (want:Bool) (i:AI) (r:List GI):runI P F m (⟨some (t,want),i⟩::r) K sf st = dE t want (sf.reg t) (oneI P F m i (runI P F m r K)) (skipI i.dst (runI P F m r K)) sf st:=rfl
theorem guard_tup (t:Nat) (want:Bool) (cs:List AV) (Y N:Sf→St→Prop):dE t want (.tup cs) Y N sf st = N sf st:=rfl
theorem jf (t:Nat) (want b:Bool) (Y N:Sf→St→Prop):dE t want (.lit (.bool b)) Y N sf st = ((b = want→Y (sf.set t (.lit (.bool want))) st)∧(b = (!want)→N (sf.set t (.lit (.bool (!want)))) st)):=by
  unfold dE
  refine propext ⟨fun h=>⟨fun e=>?_,fun e=>?_⟩,fun ⟨h1,h2⟩ c hc=>?_⟩
  · have:=h want e; simpa using this
  · have:=h (!want) e
    rw [if_neg (by cases want <;> simp)] at this
    exact this
  · subst hc
    by_cases hw:b = want
    · subst hw; rw [if_pos rfl]; exact h1 rfl
    · rw [if_neg hw]
      have:b = !want:=by cases b <;> cases want <;> simp_all
      subst this
      exact h2 rfl
theorem iu (d:Option Nat):skipI d K sf st = K (sf.put d (.tup [])) st:=rfl
theorem putP_eq (d:Option Nat) (v:AV):putP K d sf st v = K (sf.put d v) st:=rfl
theorem cy (d:Option Nat) (v:AV):putK K d sf v st = K (sf.put d v) st:=rfl
theorem atS_eq (C:AV→St→Prop) (v:AV):atS C st v = C v st:=rfl
theorem ck (i:AI) (h1:oneI P F m i K sf st = (a7 F m i sf st).wp (eG K)) (h2:a7 F m i sf st = vI i.dst sf st (popI F i sf st)):oneI P F m i K sf st = (popI F i sf st).wp (putP K i.dst sf st):=by
  rw [h1,h2]
  unfold vI
  exact propext Res.wp_bind
def pickV (c a b:AV):Res AV:=match c with
  | .lit (.bool t)=>.ok (if t then a.dis else b.dis)
  | _=>.fail
def extV (v:AV) (i:Nat):Res AV:=match v with
  | .tup vs=>(Res.ofOpt vs[i]?).bind fun v=>.ok v.dis
  | _=>.fail
def ixSV (v i:AV) (k:Nat):Res AV:=match v with
  | .sl _ k' es=>if k' = k then (ixA i es.length).bind fun j=>.ok (.cptr (es.getD j .any).cells) else .fail
  | .bs id k' off len _=>if k' = k then (ixA i len).bind fun j=>.ok (.ptr id (off + j * k)) else .fail
  | _=>.fail
def fR (sf:Sf) (st:St) (v:AV) (k:Option Nat):Res AV:=(af sf st v).bind fun cs=>(jA k cs).bind fun v=>.ok v.dis
def aM (v:AV):Res AV:=match v with
  | .ptr a b=>.ok (.ptr a b)
  | .lptr a b=>.ok (.lptr a b)
  | .cptr cs=>.ok (.cptr cs)
  | _=>.fail
def c3 (v:AV) (lo hi:Option AV) (k:Nat):Res AV:=match v with
  | .sl _ k' es=>if k' = k then (ixTo hi es.length es.length).bind fun h=>(ixTo lo 0 h).bind fun l=>.ok (.sl false k ((es.take h).drop l)) else .fail
  | .lit (.slice none 0 0)=>(ixTo hi 0 0).bind fun h=>(ixTo lo 0 h).bind fun _=>.ok (.lit (.slice none 0 0))
  | .bs id k' off len cap=>if k' = k then sliB none hi lo id k off len cap else .fail
  | _=>.fail
def sli3V (v:AV) (lo hi:Option AV) (mx:AV) (k:Nat):Res AV:=match v with
  | .bs id k' off len cap=>if k' = k then sliB (some mx) hi lo id k off len cap else .fail
  | .sl _ k' es=>if k' = k then sl3 (some mx) hi lo es.length es.length fun l h m=>if m = l then .ok (.sl true k []) else .ok (.sl false k ((es.take h).drop l)) else .fail
  | _=>.fail
def bslV (k len:Nat) (z:AV) (parts:List (Nat×AV)):Res AV:=(dA k parts (List.replicate len z)).bind fun es=>.ok (mkSl k es)
def bstV (places:List (Nat×Nat)) (z:AV) (parts:List (Nat×AV)):Res AV:=(aS (fun i=>places[i]?) parts z.cells).bind fun cs=>.ok (.agg cs)
section
variable (d:Option Nat) (x y i:Opd)
theorem o_mv:oneI P F m (.mv d x) K sf st = K (sf.put d (sf.ev F x).dis) st:=ck P F m sf st K (.mv d x) rfl rfl
theorem e9 (c a b:Opd):oneI P F m (.pick d c a b) K sf st = (pickV (sf.ev F c) (sf.ev F a) (sf.ev F b)).wp (putP K d sf st):=ck P F m sf st K (.pick d c a b) rfl rfl
theorem o_bin (k:BinK) (op:BinOp):oneI P F m (.bin d k op x y) K sf st = (binI k op (sf.ev F x) (sf.ev F y)).wp (putP K d sf st):=ck P F m sf st K (.bin d k op x y) rfl rfl
theorem o_un (op:UnOp):oneI P F m (.un d op x) K sf st = (unA op (sf.ev F x)).wp (putP K d sf st):=ck P F m sf st K (.un d op x) rfl rfl
theorem gS (k:ConvK):oneI P F m (.conv d k x) K sf st = (d2 st k (sf.ev F x)).wp (putP K d sf st):=ck P F m sf st K (.conv d k x) rfl rfl
theorem gG (j:Nat):oneI P F m (.ext d x j) K sf st = (extV (sf.ev F x) j).wp (putP K d sf st):=ck P F m sf st K (.ext d x j) rfl rfl
theorem o_addr (off:Nat):oneI P F m (.addr d x off) K sf st = (addA (sf.ev F x) off).wp (putP K d sf st):=ck P F m sf st K (.addr d x off) rfl rfl
theorem bX (k:Nat):oneI P F m (.ixS d x i k) K sf st = (ixSV (sf.ev F x) (sf.ev F i) k).wp (putP K d sf st):=ck P F m sf st K (.ixS d x i k) rfl rfl
theorem o_load (k:Option Nat):oneI P F m (.load d x k) K sf st = (fR sf st (sf.ev F x) k).wp (putP K d sf st):=ck P F m sf st K (.load d x k) rfl rfl
theorem bh:oneI P F m (.nilck d x) K sf st = (aM (sf.ev F x)).wp (putP K d sf st):=ck P F m sf st K (.nilck d x) rfl rfl
theorem o_sli3 (lo hi:Option Opd) (mx:Opd) (k:Nat):oneI P F m (.sli3 d x lo hi mx k) K sf st = (sli3V (sf.ev F x) (lo.map (sf.ev F)) (hi.map (sf.ev F)) (sf.ev F mx) k).wp (putP K d sf st):=ck P F m sf st K (.sli3 d x lo hi mx k) rfl rfl
theorem kI (k len:Nat) (z:AV) (parts:List (Nat×Opd)):oneI P F m (.bsl d k len z parts) K sf st = (bslV k len z (parts.map fun p=>(p.1,sf.ev F p.2))).wp (putP K d sf st):=ck P F m sf st K (.bsl d k len z parts) rfl rfl
theorem fS (places:List (Nat×Nat)) (z:AV) (parts:List (Nat×Opd)):oneI P F m (.bst d places z parts) K sf st = (bstV places z (parts.map fun p=>(p.1,sf.ev F p.2))).wp (putP K d sf st):=ck P F m sf st K (.bst d places z parts) rfl rfl
theorem o_len (k:LenK):oneI P F m (.len d k x) K sf st = (lenI k st (sf.ev F x)).wp (putP K d sf st):=ck P F m sf st K (.len d k x) rfl rfl
end
def cJ (m:Bool) (d:Nat) (v:AV) (K:Sf→St→Prop) (sf:Sf) (st:St):Prop :=
  match v with
  | .lptr s off=>(Res.ofOpt (look s sf.locs)).wp fun cs=>match cs[off]? with
      | some (.sl true k es)=>K ((sf.setLoc s (cs.set off (.sl false k es))).set d (.sl true k es)) st
      | _=>(fR sf st (.lptr s off) none).wp (putP K (some d) sf st)
  | .ptr id off=>if m then (fR sf st (.ptr id off) none).wp (putP K (some d) sf st) else (Res.ofOpt (st.get id)).wp fun cs=>match cs[off]? with
      | some (.sl true k es)=>K (sf.set d (.sl true k es)) (st.set id (cs.set off (.sl false k es)))
      | _=>(fR sf st (.ptr id off) none).wp (putP K (some d) sf st)
  | v=>(fR sf st v none).wp (putP K (some d) sf st)
theorem fp (d:Option Nat) (r:Res AV):(vI d sf st r).wp (eG K) = r.wp (putP K d sf st):=by
  unfold vI
  exact propext Res.wp_bind
theorem c4 (d:Nat) (x:Opd):oneI P F m (.loadOwn d x) K sf st = cJ m d (sf.ev F x) K sf st:=by
  show (a7 F m (.loadOwn d x) sf st).wp (eG K) = _
  have hld:(popI F (.load (some d) x none) sf st) = fR sf st (sf.ev F x) none:=rfl
  simp only [a7,hld]
  generalize sf.ev F x = v
  unfold cJ
  cases v with
  | lptr s off =>
    simp only
    cases hl:look s sf.locs with
    | none=>rfl
    | some cs =>
      simp only [Res.ofOpt,Res.bind,Res.wp]
      cases hc:cs[off]? with
      | none=>exact fp sf st K (some d) _
      | some c =>
        cases c with
        | sl o k es=>cases o <;> first | rfl | exact fp sf st K (some d) _
        | _=>exact fp sf st K (some d) _
  | ptr id off =>
    simp only
    cases m
    · simp only [Bool.false_eq_true,if_false]
      cases hl:st.get id with
      | none=>rfl
      | some cs =>
        simp only [Res.ofOpt,Res.bind,Res.wp]
        cases hc:cs[off]? with
        | none=>exact fp sf st K (some d) _
        | some c =>
          cases c with
          | sl o k es=>cases o <;> first | rfl | exact fp sf st K (some d) _
          | _=>exact fp sf st K (some d) _
    · simp only [if_true]
      exact fp sf st K (some d) _
  | _=>exact fp sf st K (some d) _
theorem o_own (d s:Nat):oneI P F m (.own d s) K sf st = K ((sf.disAt s).set d (sf.reg s)) st:=rfl
def bL (d s:Nat) (v lo:AV) (k:Nat) (K:Sf→St→Prop) (sf:Sf) (st:St):Prop :=
  match v with
  | .sl true k' es=>k' = k∧(ixTo (some lo) 0 es.length).wp fun l=>K ((sf.disAt s).set d (.sl true k (es.drop l))) st
  | v=>(c3 v (some lo) none k).wp (putP K (some d) sf st)
theorem bD (d s:Nat) (lo:Opd) (k:Nat):oneI P F m (.sliOwn d s lo k) K sf st = bL d s (sf.reg s) (sf.ev F lo) k K sf st:=by
  show (a7 F m (.sliOwn d s lo k) sf st).wp (eG K) = _
  have hld:(popI F (.sliS (some d) (.r s) (some lo) none k) sf st) = c3 (sf.reg s) (some (sf.ev F lo)) none k:=rfl
  simp only [a7,hld]
  unfold bL
  generalize sf.reg s = v
  cases v with
  | sl o k' es =>
    cases o
    · exact fp sf st K (some d) _
    · simp only
      by_cases hk:k' = k
      · subst hk
        simp only [if_true,true_and]
        exact propext Res.wp_bind
      · simp only [hk,if_false,false_and]; rfl
  | _=>exact fp sf st K (some d) _
def eK (d s k bytes:Nat) (v y:AV) (K:Sf→St→Prop) (sf:Sf) (st:St):Prop :=
  match v with
  | .sl true k' es=>(bB st k bytes (.sl true k' es) y).wp fun v=>K ((sf.disAt s).set d v) st
  | v=>(ce st k bytes v y).wp (putP K (some d) sf st)
theorem d5 (d s k bytes:Nat) (y:Opd):oneI P F m (.appS d s k bytes y) K sf st = eK d s k bytes (sf.reg s) (sf.ev F y) K sf st:=by
  show (a7 F m (.appS d s k bytes y) sf st).wp (eG K) = _
  have hld:(popI F (.app (some d) k bytes (.r s) y) sf st) = ce st k bytes (sf.reg s) (sf.ev F y):=rfl
  simp only [a7,hld]
  unfold eK
  generalize sf.reg s = v
  cases v with
  | sl o k' es =>
    cases o
    · exact fp sf st K (some d) _
    · exact propext Res.wp_bind
  | _=>exact fp sf st K (some d) _
theorem de (d:Nat) (cs:List AV):oneI P F m (.newL d cs) K sf st = K (sf.newLoc d cs) st:=rfl
def boxX (n:Nat) (v:AV) (C:Prop):Prop:=v.solid = true∧v.cells.length = n∧C
theorem o_boxL (d n:Nat) (x:Opd):oneI P F m (.boxL d n x) K sf st = boxX n (sf.evOwn F x) (K (sf.newLoc d (sf.evOwn F x).dis.cells) st):=by
  show (a7 F m (.boxL d n x) sf st).wp (eG K) = _
  unfold boxX
  simp only [a7]
  split
  · rename_i h; exact propext ⟨fun q=>⟨h.1,h.2,q⟩,fun q=>q.2.2⟩
  · rename_i h; exact propext ⟨fun q=>q.elim,fun q=>h ⟨q.1,q.2.1⟩⟩
theorem mS (d n:Nat) (x:Opd):oneI P F m (.boxB d n x) K sf st = boxX n (sf.evOwn F x) (m = false∧K ((sf.disOp x).set d (.ptr st.boxes.length 0)) (st.push (.cells (sf.evOwn F x).cells))):=by
  show (a7 F m (.boxB d n x) sf st).wp (eG K) = _
  unfold boxX
  simp only [a7]
  split
  · rename_i h; exact propext ⟨fun q=>⟨h.1,h.2.1,h.2.2,q⟩,fun q=>q.2.2.2⟩
  · rename_i h; exact propext ⟨fun q=>q.elim,fun q=>h ⟨q.1,q.2.1,q.2.2.1⟩⟩
def aD (m:Bool) (a:AV) (vs:List AV) (K:Sf→St→Prop) (sf:Sf) (st:St):Prop :=
  match a with
  | .lptr s off=>(Res.ofOpt (look s sf.locs)).wp fun cs=>off + vs.length≤cs.length∧K (sf.setLoc s (aQ cs off vs)) st
  | .ptr id off=>m = false∧(Res.ofOpt (st.get id)).wp fun cs=>off + vs.length≤cs.length∧K sf (st.set id (aQ cs off vs))
  | _=>False
theorem o_store (n:Nat) (a x:Opd):oneI P F m (.store n a x) K sf st = boxX n (sf.evOwn F x) (aD m (sf.ev F a) (sf.evOwn F x).cells K (sf.disOp x) st):=by
  show (a7 F m (.store n a x) sf st).wp (eG K) = _
  have hw:(mE m (sf.disOp x) st (sf.ev F a) (sf.evOwn F x).cells).wp (eG K) = aD m (sf.ev F a) (sf.evOwn F x).cells K (sf.disOp x) st:=by
    generalize (sf.evOwn F x).cells = vs
    generalize sf.disOp x = sf1
    unfold mE aD
    generalize sf.ev F a = v
    have hif:∀ (c:Prop) [Decidable c] (r:Sf×St),(if c then Res.ok r else Res.fail).wp (eG K) = (c∧K r.1 r.2):=by
      intro c _ r
      by_cases hc:c
      · rw [if_pos hc]; exact propext ⟨fun q=>⟨hc,q⟩,fun q=>q.2⟩
      · rw [if_neg hc]; exact propext ⟨fun q=>q.elim,fun q=>hc q.1⟩
    cases v with
    | lptr s off =>
      simp only
      cases hl:look s sf1.locs with
      | none=>rfl
      | some cs=>exact hif _ _
    | ptr id off =>
      simp only
      cases m
      · simp only [Bool.false_eq_true,if_false,true_and]
        cases hl:st.get id with
        | none=>rfl
        | some cs=>exact hif _ _
      · exact propext ⟨fun q=>q.elim,fun q=>by cases q.1⟩
    | _=>rfl
  unfold boxX
  simp only [a7]
  split
  · rename_i h; rw [hw]; exact propext ⟨fun q=>⟨h.1,h.2,q⟩,fun q=>q.2.2⟩
  · rename_i h; exact propext ⟨fun q=>q.elim,fun q=>h ⟨q.1,q.2.1⟩⟩
theorem o_x (d:Option Nat) (i:XI):oneI P F m (.x d i) K sf st = ak F m i d K sf st:=rfl
theorem bj (d:Option Nat) (p:Bool) (f:Opd) (args:List Opd):oneI P F m (.call d p f args) K sf st = ik P m p d (sf.ev F f) (args.map (sf.ev F)) K sf st:=rfl
theorem callI_eq (p:Bool) (d:Option Nat) (q:FuncId) (fs cs args:List AV):ik P m p d (.fn (.func q) fs cs) args K sf st =
    (args.all AV.noL = true∧(if (p || m) = true then CallP P q (fs++args.map AV.dis++cs) st (putP K d sf st) else CallA P q (fs++args.map AV.dis++cs) st (putK K d sf))):=rfl
theorem wp_ok {A:Type} (a:A) (C:A→Prop):(Res.ok a).wp C = C a:=rfl
theorem wp_req {A:Type} (b:Bool) (r:Res A) (C:A→Prop):(Res.req b r).wp C = (b = true∧r.wp C):=rfl
theorem wp_fail {A:Type} (C:A→Prop):(Res.fail:Res A).wp C = False:=rfl
theorem mT {A B:Type} (a:A) (f:A→Res B):(Res.ok a).bind f = f a:=rfl
theorem bind_req {A B:Type} (b:Bool) (r:Res A) (f:A→Res B):(Res.req b r).bind f = .req b (r.bind f):=rfl
theorem gT {A:Type} (a:A):Res.ofOpt (some a) = .ok a:=rfl
end
section
variable {P:Program} {m:Bool} {d:Option Nat} {q:FuncId} {fs cs args vs:List AV} {sf:Sf} {st:St} {K:Sf→St→Prop} {v:AV}
theorem df {p:Bool} (hvs:fs++args.map AV.dis++cs = vs) (hent:aZ P q = true) (h:aw P q vs st v) (hn:args.all AV.noL = true) (hK:K (sf.put d v) st):ik P m p d (.fn (.func q) fs cs) args K sf st:=by
  rw [callI_eq,hvs]
  refine ⟨hn,?_⟩
  split
  · exact ⟨hent,v,h,hK⟩
  · exact ⟨hent,_,h.acalls,fun v' st' e=>by obtain ⟨rfl,rfl⟩:=e; exact hK⟩
theorem eA {Q:AV→St→Prop} (hvs:fs++args.map AV.dis++cs = vs) (hent:aZ P q = true) (h:az P q vs st Q) (hn:args.all AV.noL = true) (hK:∀ v st',Q v st'→K (sf.put d v) st'):ik P false false d (.fn (.func q) fs cs) args K sf st:=by
  rw [callI_eq,hvs]
  exact ⟨hn,hent,Q,h,hK⟩
end
end Go.Fx
/- From the readings of a row to abstract values, and back. -/
namespace Go.Fx
open Go Go.RowKit Go.ChangeShapes
inductive Sh where
  | bool
  | int (k:IntKind)
  | str
  | sl (e:Sh)
  | unit
  | pair (a r:Sh)
@[reducible] def Sh.T:Sh→Type
  | .bool=>Bool
  | .int _=>Int
  | .str=>ByteArray
  | .sl e=>List e.T
  | .unit=>Unit
  | .pair a r=>a.T×r.T
def Sh.size:Sh→Nat
  | .unit=>0
  | .pair a r=>a.size + r.size
  | _=>1
def Sh.isSt:Sh→Bool
  | .unit=>true
  | .pair _ _=>true
  | _=>false
def fT:Bool→List AV→AV
  | true,cs=>.agg cs
  | false,cs=>cs.headD .any
def Sh.cells:(s:Sh)→s.T→List AV
  | .bool,b=>[.lit (.bool b)]
  | .int k,n=>[.lit (.int k n)]
  | .str,s=>[.lit (.string s)]
  | .sl e,l=>[.sl false e.size (List.map (fun x=>fT e.isSt (e.cells x)) l)]
  | .unit,_=>[]
  | .pair a r,x=>a.cells x.1++r.cells x.2
def Sh.av (s:Sh) (x:s.T):AV:=fT s.isSt (s.cells x)
def Sh.ok:(s:Sh)→s.T→Prop
  | .bool,_=>True
  | .int k,n=>k.min≤n∧n≤k.max
  | .str,s=>s.size≤maxLen
  | .sl e,l=>l.length≤maxLen∧∀ x ∈ l,e.ok x
  | .unit,_=>True
  | .pair a r,x=>a.ok x.1∧r.ok x.2
theorem Sh.cells_len:∀ (s:Sh) (x:s.T),(s.cells x).length = s.size
  | .bool,_=>rfl
  | .int _,_=>rfl
  | .str,_=>rfl
  | .sl _,_=>rfl
  | .unit,_=>rfl
  | .pair a r,x=>by simp [Sh.cells,Sh.size,Sh.cells_len a,Sh.cells_len r]
theorem Sh.av_cells (s:Sh) (x:s.T):(s.av x).cells = s.cells x:=by
  cases s <;> rfl
section
variable (P:Program)
mutual
def iv:Nat→TypeId→Option Sh
  | 0,_=>none
  | n + 1, t => match P.underlying t with
    | some .bool=>some .bool
    | some (.int k)=>some (.int k)
    | some .string=>some .str
    | some (.slice e)=>(iv n e).bind fun s=>if s.size = P.cellsOf e∧0 < s.size then some (.sl s) else none
    | some (.struct fs)=>(eB n 0 fs.toList).bind fun s=>if s.size = P.cellsOf t then some s else none
    | _=>none
def eB:Nat→Nat→List Field→Option Sh
  | 0,_,_=>none
  | _ + 1,_,[]=>some .unit
  | n + 1,off,f::r=>if f.offset = off then (iv n f.type).bind fun a=>if a.size = P.cellsOf f.type then (eB n (off + a.size) r).map (.pair a ·) else none else none
end
end
theorem shapeF_st {P:Program}:∀ {n off:Nat} {l:List Field} {s:Sh},eB P n off l = some s→s.isSt = true
  | 0,_,_,_,h=>by simp [eB] at h
  | n + 1,off,[],s,h=>by simp [eB] at h; subst h; rfl
  | n + 1, off, f :: r, s, h => by
    simp only [eB] at h
    split at h
    · rw [Option.bind_eq_some_iff] at h
      obtain ⟨a,_,h⟩:=h
      split at h
      · obtain ⟨q,_,rfl⟩:=map_some h; rfl
      · cases h
    · cases h
section
variable {H:Type} {enc:TypeId×Value→H} {P:Program} {w:World} {base:Nat} {spare:Nat→Bool} {held:Bool} {g:Gh}
theorem l8 {a:Addr} {q:Nat} {cs:List Value} (h:w.cells? base a q = some cs):cs.length = q∧∀ (i:Nat) (u:Value),cs[i]? = some u→w.cell? (a.add i) = some u:=by
  unfold World.cells? at h
  split at h
  · have key:∀ (l:List Nat) (cs:List Value),l.mapM (fun i=>w.cell? (a.add i)) = some cs→cs.length = l.length∧∀ (i j:Nat) (u:Value),l[i]? = some j→cs[i]? = some u→w.cell? (a.add j) = some u:=by
      intro l
      induction l with
      | nil=>intro cs h; simp at h; subst h; exact ⟨rfl,fun i j u h=>by simp at h⟩
      | cons x r ih =>
        intro cs h
        simp only [List.mapM_cons,bind,Option.bind_eq_some_iff,pure,Option.some.injEq] at h
        obtain ⟨v,hv,l',hl,rfl⟩:=h
        obtain ⟨h1,h2⟩:=ih l' hl
        refine ⟨by simp [h1],fun i j u hi hu=>?_⟩
        cases i with
        | zero=>simp at hi hu; subst hi; subst hu; exact hv
        | succ i=>exact h2 i j u (by simpa using hi) (by simpa using hu)
    obtain ⟨h1,h2⟩:=key _ _ h
    simp at h1
    refine ⟨h1,fun i u hu=>h2 i i u ?_ hu⟩
    have:i < q:=by rw [← h1]; exact (List.getElem?_eq_some_iff.1 hu).1
    simp [this]
  · cases h
theorem add_spot {a:Addr} {i:Nat} {u:Value} (h:w.cell? (a.add i) = some u):i = 0→a.spot = none:=by
  intro e
  subst e
  simp only [Addr.add,if_true] at h
  unfold World.cell? at h
  split at h
  · split at h
    · cases h
    · rename_i hs; simpa using hs
  · cases h
theorem eL {x:AV} {u:Value} (h:R g x u):RL g [x] [u]:=⟨rfl,fun i a b ha hb=>by cases i <;> simp at ha hb; subst ha; subst hb; exact h⟩
def Reads (g:Gh) (s:Sh) (cs:List Value):Prop:=∃ x:s.T,s.ok x∧RL g (s.cells x) cs∧∀ u ∈ cs,u.oneCell' = true
theorem shape_R (hi:∀ b o u,w.cell? ⟨b,o,none⟩ = some u→g.imm b o = some u):∀ (n:Nat),
    (∀ (t:TypeId) (s:Sh) (fuel:Nat) (cs:List Value) (x:DataW H×List MemPlace),iv P n t = some s→DataW.trod enc P w base spare held fuel t cs = some x→Reads g s cs) ∧
    (∀ (off:Nat) (l:List Field) (s:Sh) (fuel:Nat) (cs:List Value) (xs:List (DataW H×List MemPlace)),eB P n off l = some s→cs.length = off + s.size →
      (l.mapM fun f=>DataW.trod enc P w base spare held fuel f.type ((cs.drop f.offset).take (P.cellsOf f.type))) = some xs→Reads g s (cs.drop off)):=by
  intro n
  induction n with
  | zero=>exact ⟨fun t s fuel cs x h=>by simp [iv] at h,fun off l s fuel cs xs h=>by simp [eB] at h⟩
  | succ n ih =>
    obtain ⟨ih1,ih2⟩:=ih
    constructor
    · intro t s fuel cs x hs ht
      cases fuel with
      | zero=>simp [DataW.trod] at ht
      | succ fuel =>
      simp only [iv] at hs
      split at hs
      · rename_i hu
        cases hs
        have:∃ b,cs = [.bool b]:=by
          simp only [DataW.trod,hu] at ht
          split at ht <;> simp_all
        obtain ⟨b,rfl⟩:=this
        exact ⟨b,trivial,eL (R.lit _ rfl),by simp [Value.oneCell']⟩
      · rename_i k hu
        cases hs
        have:∃ m,cs = [.int k m]∧(Lit.int k m).wf = true:=by
          simp only [DataW.trod,hu] at ht
          split at ht <;> simp_all
        obtain ⟨m,rfl,hwf⟩:=this
        simp only [Lit.wf,Bool.and_eq_true,decide_eq_true_eq] at hwf
        exact ⟨m,hwf,eL (R.lit _ rfl),by simp [Value.oneCell']⟩
      · rename_i hu
        cases hs
        have:∃ q,cs = [.string q]∧q.size≤maxLen:=by
          simp only [DataW.trod,hu] at ht
          split at ht <;> simp_all
        obtain ⟨q,rfl,hwf⟩:=this
        exact ⟨q,hwf,eL (R.lit _ rfl),by simp [Value.oneCell']⟩
      · rename_i e hu
        rw [Option.bind_eq_some_iff] at hs
        obtain ⟨se,hse,hs⟩:=hs
        split at hs
        case isFalse=>cases hs
        rename_i hsz
        cases hs
        have:cs = [.slice none 0 0]∨∃ a len cap elems,cs = [.slice (some a) len cap]∧len≤cap∧cap≤maxLen ∧
            (List.range len).mapM (fun i=>(w.cells? base (a.add (i * P.cellsOf e)) (P.cellsOf e)).bind (DataW.trod enc P w base spare held fuel e)) = some elems:=by
          simp only [DataW.trod,hu] at ht
          split at ht
          all_goals try (exfalso; simp_all; done)
          · rename_i e1 h1
            exact .inl rfl
          · rename_i e1 a len cap h1
            cases h1
            split at ht
            · rename_i hc
              rw [Option.bind_eq_some_iff] at ht
              obtain ⟨elems,hm,_⟩:=ht
              exact .inr ⟨a,len,cap,elems,rfl,hc.2.1,hc.2.2,hm⟩
            · cases ht
        rcases this with rfl | ⟨a,len,cap,elems,rfl,hlc,hcm,hm⟩
        · exact ⟨[],⟨Nat.zero_le _,by simp⟩,eL (R.slN _ _),by simp [Value.oneCell']⟩
        · have key:∀ (l:List Nat) (es:List (DataW H×List MemPlace)),l.mapM (fun i=>(w.cells? base (a.add (i * P.cellsOf e)) (P.cellsOf e)).bind (DataW.trod enc P w base spare held fuel e)) = some es →
              ∃ ys:List se.T,ys.length = l.length∧∀ (q j:Nat) (y:se.T),l[q]? = some j→ys[q]? = some y→se.ok y∧∃ cj,w.cells? base (a.add (j * P.cellsOf e)) (P.cellsOf e) = some cj∧RL g (se.cells y) cj∧∀ u ∈ cj,u.oneCell' = true:=by
            intro l
            induction l with
            | nil=>intro es _; exact ⟨[],rfl,fun q j y h=>by simp at h⟩
            | cons z r ihl =>
              intro es h
              simp only [List.mapM_cons,bind,Option.bind_eq_some_iff,pure,Option.some.injEq] at h
              obtain ⟨v,⟨cj,hcj,hv⟩,l',hl,rfl⟩:=h
              obtain ⟨ys,h1,h2⟩:=ihl l' hl
              obtain ⟨y,hy1,hy2,hy3⟩:=ih1 e se fuel cj v hse hv
              refine ⟨y::ys,by simp [h1],fun q j y' hq hy=>?_⟩
              cases q with
              | zero=>simp at hq hy; subst hq; subst hy; exact ⟨hy1,cj,hcj,hy2,hy3⟩
              | succ q=>exact h2 q j y' (by simpa using hq) (by simpa using hy)
          obtain ⟨ys,hyl,hys⟩:=key _ _ hm
          simp at hyl
          have hsz1:=hsz.1
          refine ⟨ys,⟨by rw [hyl]; omega,fun y hy=>?_⟩,eL ?_,by simp [Value.oneCell']⟩
          · obtain ⟨q,hq⟩:=List.mem_iff_getElem?.1 hy
            have hql:q < len:=by rw [← hyl]; exact (List.getElem?_eq_some_iff.1 hq).1
            exact (hys q q y (by simp [hql]) hq).1
          · have hel:(List.map (fun x=>fT se.isSt (se.cells x)) ys).length = len:=by simp [hyl]
            rcases Nat.eq_zero_or_pos len with h0 | h0
            · subst h0
              have:ys = []:=List.eq_nil_of_length_eq_zero hyl
              subst this
              exact R.slE false _ a cap
            · have hsp:a.spot = none:=by
                obtain ⟨y0,hy0⟩:∃ y0,ys[0]? = some y0:=⟨ys[0],by simp⟩
                obtain ⟨_,cj,hcj,hrl,_⟩:=hys 0 0 y0 (by simp [h0]) hy0
                obtain ⟨hl0,hc0⟩:=l8 hcj
                have hpos:0 < cj.length:=by rw [hl0,← hsz1]; exact hsz.2
                have:=hc0 0 cj[0] (by simp [hpos])
                simp only [Nat.zero_mul] at this
                have ha0:(a.add 0).add 0 = a.add 0:=by simp [Addr.add]
                rw [ha0] at this
                exact add_spot this rfl
              obtain ⟨b,o,sp⟩:=a
              simp only at hsp
              subst hsp
              have hcl:∀ x ∈ (List.map (fun x=>fT se.isSt (se.cells x)) ys),x.cells.length = se.size:=by
                intro x hx
                obtain ⟨y,_,rfl⟩:=List.mem_map.1 hx
                have:=Sh.av_cells se y
                unfold Sh.av at this
                rw [this]; exact Sh.cells_len se y
              have hget:∀ (i:Nat) (x:AV),((List.map (fun x=>fT se.isSt (se.cells x)) ys).flatMap AV.cells)[i]? = some x→∃ u,w.cell? ⟨b,o + i,none⟩ = some u∧R g x u∧u.oneCell' = true:=by
                intro i x hx
                obtain ⟨q,r,e',rfl,h2,h3⟩:=dW hcl hx
                simp only [List.getElem?_map,Option.map_eq_some_iff] at h2
                obtain ⟨y,hy,rfl⟩:=h2
                have hql:q < len:=by rw [← hyl]; exact (List.getElem?_eq_some_iff.1 hy).1
                obtain ⟨_,cj,hcj,hrl,hone⟩:=hys q q y (by simp [hql]) hy
                have hav:=Sh.av_cells se y
                unfold Sh.av at hav
                rw [hav] at h3
                obtain ⟨hl0,hc0⟩:=l8 hcj
                have hr:r < cj.length:=by rw [hrl.1]; exact (List.getElem?_eq_some_iff.1 h3).1
                have h4:=hc0 r cj[r] (by simp [hr])
                rw [aY,aY,← hsz1] at h4
                refine ⟨cj[r],?_,hrl.2 r x _ h3 (by simp [hr]),hone _ (List.getElem_mem hr)⟩
                rw [← Nat.add_assoc]; exact h4
              have:=R.sl (g:=g) false se.size _ (fun i=>(w.cell? ⟨b,o + i,none⟩).getD undef) b o cap (by rw [hel]; exact hlc) hcl (fun i x hx=>?_) (fun i x hx=>?_) (fun i x hx=>?_)
              · rw [hel] at this; exact this
              · obtain ⟨u,h1,h2,h3⟩:=hget i x hx
                rw [h1]; exact hi _ _ _ h1
              · obtain ⟨u,h1,h2,h3⟩:=hget i x hx
                rw [h1]; exact h2
              · obtain ⟨u,h1,h2,h3⟩:=hget i x hx
                rw [h1]; exact h3
      · rename_i fs hu
        rw [Option.bind_eq_some_iff] at hs
        obtain ⟨s',hs',hs⟩:=hs
        split at hs
        case isFalse=>cases hs
        rename_i hsz
        have hss:s' = s:=Option.some.inj hs
        subst hss
        have:cs.length = P.cellsOf t∧∃ xs,(fs.toList.mapM fun f=>DataW.trod enc P w base spare held fuel f.type ((cs.drop f.offset).take (P.cellsOf f.type))) = some xs:=by
          simp only [DataW.trod,hu] at ht
          split at ht
          all_goals try (exfalso; simp_all; done)
          rename_i hc
          obtain ⟨xs,hxs,_⟩:=map_some ht
          exact ⟨hc,xs,hxs⟩
        obtain ⟨hlen,xs,hxs⟩:=this
        have:=ih2 0 fs.toList s' fuel cs xs hs' (by rw [hlen,hsz]; simp) hxs
        simpa using this
      · cases hs
    · intro off l s fuel cs xs hs hlen hm
      cases l with
      | nil =>
        simp only [eB] at hs
        cases hs
        refine ⟨(),trivial,?_,?_⟩
        · have:cs.drop off = []:=by apply List.drop_eq_nil_of_le; simp [Sh.size] at hlen; omega
          rw [this]; exact RL.nil
        · have:cs.drop off = []:=by apply List.drop_eq_nil_of_le; simp [Sh.size] at hlen; omega
          rw [this]; simp
      | cons f r =>
        simp only [eB] at hs
        split at hs
        case isFalse=>cases hs
        rename_i hoff
        rw [Option.bind_eq_some_iff] at hs
        obtain ⟨a,ha,hs⟩:=hs
        split at hs
        case isFalse=>cases hs
        rename_i hsz
        obtain ⟨q,hq,rfl⟩:=map_some hs
        simp only [List.mapM_cons,bind,Option.bind_eq_some_iff,pure,Option.some.injEq] at hm
        obtain ⟨x0,hx0,xr,hxr,rfl⟩:=hm
        obtain ⟨y,hy1,hy2,hy3⟩:=ih1 f.type a fuel _ x0 ha hx0
        obtain ⟨z,hz1,hz2,hz3⟩:=ih2 (off + a.size) r q fuel cs xr hq (by rw [hlen]; simp [Sh.size]; omega) hxr
        have hsplit:cs.drop off = (cs.drop f.offset).take (P.cellsOf f.type)++cs.drop (off + a.size):=by
          rw [hoff,← hsz,← List.drop_drop]
          exact (List.take_append_drop a.size (cs.drop off)).symm
        rw [hsplit]
        exact ⟨(y,z),⟨hy1,hz1⟩,hy2.append hz2,fun u hu=>(List.mem_append.1 hu).elim (hy3 u) (hz3 u)⟩
theorem cell_plain {r:Reach} {b0:Nat} {t:TypeId} {v:Value} {s:Sh} {n:Nat} (hs:iv P (n + 1) t = some s) (hv:Value.okWide P w r b0 t v):(s.isSt = true∧∃ cs,v = .agg cs)∨(s.isSt = false∧v.cells = #[v]):=by
  simp only [iv] at hs
  unfold Value.okWide at hv
  split at hs
  · rename_i hu
    cases hs
    simp only [hu,Cell.okWide,Cell.ok] at hv
    right
    refine ⟨rfl,?_⟩
    cases v <;> first | rfl | (simp at hv; done)
  · rename_i k hu
    cases hs
    simp only [hu,Cell.okWide,Cell.ok] at hv
    right
    refine ⟨rfl,?_⟩
    cases v <;> first | rfl | (simp at hv; done)
  · rename_i hu
    cases hs
    simp only [hu,Cell.okWide,Cell.ok] at hv
    right
    refine ⟨rfl,?_⟩
    cases v <;> first | rfl | (simp at hv; done)
  · rename_i e hu
    rw [Option.bind_eq_some_iff] at hs
    obtain ⟨se,hse,hs⟩:=hs
    split at hs
    case isFalse=>cases hs
    cases hs
    simp only [hu,Cell.okWide,Cell.ok] at hv
    right
    refine ⟨rfl,?_⟩
    cases v <;> first | rfl | (simp at hv; done)
  · rename_i fs hu
    rw [Option.bind_eq_some_iff] at hs
    obtain ⟨s',hs',hs⟩:=hs
    split at hs
    case isFalse=>cases hs
    have hss:s' = s:=Option.some.inj hs
    subst hss
    simp only [hu] at hv
    obtain ⟨cs,rfl,_⟩:=hv
    exact .inl ⟨shapeF_st hs',cs,rfl⟩
  · cases hs
theorem trod_sh (hi:∀ b o u,w.cell? ⟨b,o,none⟩ = some u→g.imm b o = some u) {n:Nat} {t:TypeId} {s:Sh} {v:Value} {d:DataW H} {ps:List MemPlace} {r:Reach} {b0:Nat} (hs:iv P (n + 1) t = some s) (h:DataW.Trod enc P w base spare held t v d ps)
    (hv:Value.okWide P w r b0 t v):∃ x:s.T,s.ok x∧R g (s.av x) v:=by
  obtain ⟨fuel,hf⟩:=h
  obtain ⟨x,h1,h2,h3⟩:=(shape_R (enc:=enc) (base:=base) (spare:=spare) (held:=held) hi (n + 1)).1 t s fuel _ _ hs hf
  refine ⟨x,h1,?_⟩
  rcases cell_plain hs hv with ⟨hst,cs,rfl⟩ | ⟨hst,hc⟩
  · unfold Sh.av
    rw [hst]
    have:=RL.agg h2
    simpa [fT,Value.cells] using this
  · rw [hc] at h2
    unfold Sh.av
    rw [hst]
    simp only [fT]
    have hl:=h2.1
    match hcs:s.cells x,hl with
    | [c], _ =>
      rw [hcs] at h2
      exact h2.2 0 c v rfl rfl
def parS (P:Program):List TypeId→Option Sh
  | []=>some .unit
  | t :: r => match iv P 20 t, parS P r with
    | some s,some q=>some (.pair s q)
    | _,_=>none
def d6:(s:Sh)→s.T→List AV
  | .pair a r,x=>a.av x.1::d6 r x.2
  | .bool,_=>[]
  | .int _,_=>[]
  | .str,_=>[]
  | .sl _,_=>[]
  | .unit,_=>[]
theorem args_R (hi:∀ b o u,w.cell? ⟨b,o,none⟩ = some u→g.imm b o = some u) {b0:Nat}:∀ {ts:List TypeId} {vs:List Value} {ds:List (DataW H)} {ps:List MemPlace} {S:Sh},parS P ts = some S→DataW.TrodAll enc P w base spare held ts vs ds ps →
    (∀ (j:Nat) t v,ts[j]? = some t→vs[j]? = some v→Value.okWide P w .any b0 t v)→∃ x:S.T,S.ok x∧en g (d6 S x) vs.toArray
  | [], vs, ds, ps, S, hS, h, _ => by
    simp only [parS] at hS
    cases hS
    cases vs with
    | nil=>exact ⟨(),trivial,rfl,fun i x u hx=>by simp [d6] at hx⟩
    | cons v r=>cases ds <;> exact h.elim
  | t :: ts, vs, ds, ps, S, hS, h, hok => by
    simp only [parS] at hS
    split at hS
    · rename_i s q hs hq
      cases hS
      cases vs with
      | nil=>cases ds <;> exact h.elim
      | cons v vs =>
        cases ds with
        | nil=>exact h.elim
        | cons d ds =>
          obtain ⟨p1,p2,h1,h2,_⟩:=h
          obtain ⟨x,hx1,hx2⟩:=trod_sh hi (n:=19) hs h1 (hok 0 t v rfl rfl)
          obtain ⟨y,hy1,hy2⟩:=args_R hi hq h2 (fun j t v ht hv=>hok (j + 1) t v (by simpa using ht) (by simpa using hv))
          refine ⟨(x,y),⟨hx1,hy1⟩,by simpa [d6] using hy2.1,fun i a u ha hu=>?_⟩
          cases i with
          | zero=>simp [d6] at ha hu; subst ha; subst hu; exact hx2
          | succ i=>exact hy2.2 i a u (by simpa [d6] using ha) (by simpa using hu)
    · cases hS
theorem gH (hl:laidOutB P = true) {W W':World} {sp':Nat→Bool}:∀ {ts:List TypeId} {vs:List Value} {ds:List (DataW H)} {ps:List MemPlace},(∀ t ∈ ts,P.readableRec t = true∧t < P.types.size) →
    DataW.TrodAll enc P W base (fun _=>true) true ts vs ds ps→(∀ p ∈ ps,W.sameAt W' p)→(∀ p ∈ ps,sp' p.block = true)→DataW.TrodAll enc P W' base sp' true ts vs ds ps
  | [],[],[],ps,_,h,_,_=>h
  | [],[],_::_,_,_,h,_,_=>h.elim
  | [],_::_,[],_,_,h,_,_=>h.elim
  | [],_::_,_::_,_,_,h,_,_=>h.elim
  | _::_,[],[],_,_,h,_,_=>h.elim
  | _::_,[],_::_,_,_,h,_,_=>h.elim
  | _::_,_::_,[],_,_,h,_,_=>h.elim
  | t :: ts, v :: vs, d :: ds, ps, ht, h, hs, hp => by
    obtain ⟨p,q,h1,h2,rfl⟩:=h
    exact ⟨p,q,WideElems.Trod_stays hl (ht t (by simp)).1 (ht t (by simp)).2 h1 (fun x hx=>hs x (by simp [hx])) (fun x hx=>hp x (by simp [hx])),
      gH hl (fun t h=>ht t (by simp [h])) h2 (fun x hx=>hs x (by simp [hx])) (fun x hx=>hp x (by simp [hx])),rfl⟩
theorem lz {W W':World} {may:MemPlace→Prop} (hb:Below W.heap.size W W'):W.keptBut W' may:=by
  refine ⟨hb.os,hb.output,fun i hi=>?_⟩
  rw [hb.block i hi]
  cases hh:W.heap[i]? with
  | none=>rfl
  | some o=>cases o <;> first | rfl | exact ⟨rfl,rfl,rfl,fun _ _=>rfl⟩ | exact .inr ⟨rfl,rfl⟩
theorem post_law {f:Func} {s:ChangeSpec} {apart fresh handsOn again:Bool} {W W':World} {args:Array Value} {ds gs:List (DataW H)} {before:List MemPlace} {tb:TypeId} (hl:laidOutB P = true) (ht:∀ t ∈ f.params.toList,P.readableRec t = true∧t < P.types.size)
    (hres:f.resultTypes = #[tb]) (htb:P.underlying tb = some .bool) (hvars:s.vars = []) (hfn:∀ ds:List (DataW H),ds.length = f.params.size→(s.fn H ds).results = [.lit (.bool true)]∧(s.fn H ds).args = ds∧(s.fn H ds).vars = [])
    (hW:DataW.Whole enc P f.params.toList s.vars apart W args.toList ds gs before) (hb:Below W.heap.size W W'):s.post enc P f apart fresh handsOn again W args (.bool true) W':=by
  have hW0:=hW
  obtain ⟨p,q,hA,hV,hpq,hz,hn⟩:=hW
  rw [hvars] at hV
  obtain ⟨rfl,rfl⟩:=trodVars_none hV
  simp only [List.append_nil] at hpq
  subst hpq
  have hlen:ds.length = f.params.size:=by
    have key:∀ {ts:List TypeId} {vs:List Value} {ds:List (DataW H)} {ps:List MemPlace},DataW.TrodAll enc P W 0 (fun _=>true) true ts vs ds ps→ds.length = ts.length:=by
      intro ts
      induction ts with
      | nil=>intro vs ds ps h; cases vs <;> cases ds <;> first | rfl | exact h.elim
      | cons t ts ih =>
        intro vs ds ps h
        cases vs <;> cases ds <;> first | exact h.elim | skip
        obtain ⟨_,_,_,h2,_⟩:=h
        simp [ih h2]
    have:=key hA
    simpa using this
  obtain ⟨hr1,hr2,hr3⟩:=hfn (ds++[]) (by simpa using hlen)
  have hlt:∀ x ∈ before,x.block < W.heap.size:=fun x hx=>by simpa using hW0.lt x hx
  have hsame:∀ x ∈ before,W.sameAt W' x:=fun x hx=>hb.same (hlt x hx)
  have hret:∀ (b:Nat) (sp:Nat→Bool) (hd:Bool),DataW.TrodAll enc P W' b sp hd f.resultTypes.toList ((Value.bool true).resultList f.resultTypes.size) (s.fn H (ds++[])).results []:=by
    intro b sp hd
    rw [hr1,hres]
    refine ⟨[],[],⟨1,?_⟩,rfl,rfl⟩
    simp [DataW.trod,htb,Value.cells]
  have hargs:∀ sp:Nat→Bool,(∀ p ∈ before,sp p.block = true)→DataW.TrodAll enc P W' 0 sp true f.params.toList args.toList (s.fn H (ds++[])).args before:=by
    intro sp hsp
    rw [hr2,List.append_nil]
    exact gH hl ht hA hsame hsp
  have hvs:∀ sp:Nat→Bool,DataW.TrodVars enc P W' sp s.vars (s.fn H (ds++[])).vars []:=by
    intro sp
    rw [hvars,hr3]
    rfl
  refine ⟨ds,[],before,[],before,[],hW0,hret _ _ _,hargs _ (fun x hx=>by simpa using hlt x hx),hvs _,lz hb,fun _=>?_⟩
  refine ⟨fun j t r hj hr=>?_,_,_,([]++before)++[],⟨[]++before,[],trodAll_append (hargs _ (fun _ _=>rfl)) (hret _ _ _),hvs _,rfl,?_,?_⟩,?_⟩
  · rw [hres] at hj hr
    match j with
    | 0 =>
      simp [Value.resultList] at hj hr
      subst hj; subst hr
      simp [Value.okWide,htb,Cell.okWide,Cell.ok]
    | j + 1=>simp at hj
  · intro b off hp
    have hp':(MemPlace.cell b off) ∈ before:=by simpa using hp
    have h1:=hz b off hp'
    have h2:=hlt _ hp'
    unfold World.frozen? at h1 ⊢
    rw [hb.block b h2]; exact h1
  · intro ha
    have:=hn ha
    simpa using this
  · intro x hx _
    simpa using hx
theorem wrap_nb {b:Bool} {l:List AV} (h:∀ c ∈ l,c.NB):(fT b l).NB:=by
  cases b
  · cases l with
    | nil=>exact .any
    | cons c r=>exact h c (List.mem_cons_self ..)
  · exact .agg _ h
theorem iw:∀ (s:Sh) (x:s.T),∀ c ∈ s.cells x,c.NB
  | .bool,b,c,h=>by simp only [Sh.cells,List.mem_singleton] at h; subst h; exact .lit _
  | .int _,b,c,h=>by simp only [Sh.cells,List.mem_singleton] at h; subst h; exact .lit _
  | .str,b,c,h=>by simp only [Sh.cells,List.mem_singleton] at h; subst h; exact .lit _
  | .sl e, l, c, h => by
    simp only [Sh.cells,List.mem_singleton] at h; subst h
    refine .sl _ _ _ fun v hv=>?_
    obtain ⟨y,_,rfl⟩:=List.mem_map.1 hv
    exact wrap_nb (iw e y)
  | .unit,_,c,h=>by simp [Sh.cells] at h
  | .pair a r, x, c, h => by
    simp only [Sh.cells,List.mem_append] at h
    exact h.elim (iw a x.1 c) (iw r x.2 c)
theorem avsOf_nb:∀ (s:Sh) (x:s.T),∀ c ∈ d6 s x,c.NB
  | .pair a r, x, c, h => by
    simp only [d6,List.mem_cons] at h
    rcases h with rfl | h
    · exact wrap_nb (iw a x.1)
    · exact avsOf_nb r x.2 c h
  | .bool,_,c,h=>by simp [d6] at h
  | .int _,_,c,h=>by simp [d6] at h
  | .str,_,c,h=>by simp [d6] at h
  | .sl _,_,c,h=>by simp [d6] at h
  | .unit,_,c,h=>by simp [d6] at h
theorem law_calls {f:FuncId} {fn:Func} {s:ChangeSpec} {apart fresh handsOn again:Bool} {tb:TypeId} {S:Sh} (hl:laidOutB P = true) (ht:∀ t ∈ fn.params.toList,P.readableRec t = true∧t < P.types.size)
    (hS:parS P fn.params.toList = some S) (hres:fn.resultTypes = #[tb]) (htb:P.underlying tb = some .bool) (hvars:s.vars = []) (hfn:∀ ds:List (DataW H),ds.length = fn.params.size→(s.fn H ds).results = [.lit (.bool true)]∧(s.fn H ds).args = ds∧(s.fn H ds).vars = [])
    (hlaw:∀ x:S.T,S.ok x→aw P f (d6 S x) ⟨[]⟩ (.lit (.bool true)))
    (W:World) (b0:Nat) (args:Array Value) (ds gs:List (DataW H)) (before:List MemPlace) (hval:∀ (j:Nat) t v,fn.params[j]? = some t→args[j]? = some v→Value.okWide P W .any b0 t v)
    (hW:DataW.Whole enc P fn.params.toList s.vars apart W args.toList ds gs before):Calls P f args W fun e W'=>∃ v,e = .returned v∧s.post enc P fn apart fresh handsOn again W args v W':=by
  have hW0:=hW
  obtain ⟨p,q,hA,_⟩:=hW
  let g0:Gh:=⟨W.heap.size,fun b o=>W.cell? ⟨b,o,none⟩,fun _=>none,fun _ _=>none,fun _=>none⟩
  have hg:Good g0 W:=⟨fun _ _ _ h=>h,fun _ _ _ _=>.inl rfl,(fun b c hc=>by cases hc),Nat.le_refl _⟩
  have hbx:BoxR g0 W ⟨[]⟩:=⟨fun _ _=>rfl,fun id cs hc=>by simp at hc,fun id bx hc=>by simp at hc⟩
  obtain ⟨x,hx,hargs⟩:=args_R (g:=g0) (b0:=b0) (fun b o u h=>h) hS hA (fun j t v ht hv=>hval j t v (by simpa using ht) (by simpa using hv))
  refine (hlaw x hx g0 W args (fun _=>.box 0 0) hg hbx (by simpa using hargs)).mono fun e W' ⟨u,g',he,hle,hR,_⟩=>?_
  have hu:=hR.lit_inv.1
  subst hu
  exact ⟨_,he,post_law hl ht hres htb hvars hfn hW0 hle.below⟩
theorem law_top {f:FuncId} {fn:Func} {s:ChangeSpec} {apart fresh handsOn again:Bool} {tb:TypeId} {S:Sh} (hl:laidOutB P = true) (ht:(fn.params.toList.all fun t=>P.readableRec t && decide (t < P.types.size)) = true)
    (hS:parS P fn.params.toList = some S) (hres:fn.resultTypes = #[tb]) (htb:P.underlying tb = some .bool) (hvars:s.vars = []) (hfn:∀ ds:List (DataW H),ds.length = fn.params.size→(s.fn H ds).results = [.lit (.bool true)]∧(s.fn H ds).args = ds∧(s.fn H ds).vars = [])
    (hlaw:∀ x:S.T,S.ok x→az P f (d6 S x) ⟨[]⟩ fun v _=>v = .lit (.bool true))
    (W:World) (b0:Nat) (args:Array Value) (ds gs:List (DataW H)) (before:List MemPlace) (hval:∀ (j:Nat) t v,fn.params[j]? = some t→args[j]? = some v→Value.okWide P W .any b0 t v)
    (hW:DataW.Whole enc P fn.params.toList s.vars apart W args.toList ds gs before):Calls P f args W fun e W'=>∃ v,e = .returned v∧s.post enc P fn apart fresh handsOn again W args v W':=by
  refine law_calls hl (fun t h=>by have:=List.all_eq_true.1 ht t h; simpa using this) hS hres htb hvars hfn (fun x hx=>?_) W b0 args ds gs before hval hW
  refine e8 ((hlaw x hx).mono fun v st e=>by subst e; exact .le _ _ (.refl _) (.lit _)) (fun v hv=>avsOf_nb S x v hv) _
end
end Go.Fx
