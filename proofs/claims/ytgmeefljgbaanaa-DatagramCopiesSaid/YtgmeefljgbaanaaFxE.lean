/- An evaluator for resolved code, proved against the model: part 5. -/
import Derived.Test.YtgmeefljgbaanaaFxD
import Derived.RangeFuncIn
import Derived.Deep.LoopGhost
import Derived.Scope
import Derived.ProofKit
import Derived.IntWalk
namespace Go.Fx
open Go Go.RowKit Go.Lib
inductive AC where
 |skip
 |ops (lv ll:List Nat) (l:List GI)
 |draw (lv ll drop:List Nat) (hl tl:List GI)
 |drawM (lv ll:List Nat) (pre:List GI) (d:Option Nat) (f:Opd) (args:List Opd) (post:List (Bool×GI)) (tl:List GI)
 |drawA (lv ll:List Nat) (pre:List GI) (d:Option Nat) (b:Opd) (k bytes:Nat) (y:Opd) (post:List (Bool×GI)) (tl:List GI)
 |drawG (lv ll drop:List Nat) (fl:List (Bool×GI)) (tl:List GI)
 |seq (a b:AC)
 |cond (x:Opd) (a b:AC)
 |block (id:Nat) (b:AC)
 |loop (lv ll:List Nat) (b:AC)
 |exit (lv ll:List Nat) (id:Nat)
 |scope (b:AC)
 |rangeF (lv ll:List Nat) (x:Opd) (ps lb:List Nat) (a b:AC)
 |ret
 |bad
def iD:List Nat→List (Nat×List AV)→List (Nat×List AV)
 | [],_=>[]
 | s :: r, locs => match look s locs with
   |some cs=>(s,cs)::iD r locs
   |none=>iD r locs
def Sf.mask(lv ll:List Nat)(sf:Sf):Sf:=⟨lv.map fun t=>(t,sf.reg t),iD ll sf.locs⟩
def seqQ(C:Sf→St→(Exit→Sf→St→Prop)→Prop)(Q:Exit→Sf→St→Prop):Exit→Sf→St→Prop
 | .normal,sf,st=>C sf st Q
 |e,sf,st=>Q e sf st
def gn(id:Nat)(Q:Exit→Sf→St→Prop):Exit→Sf→St→Prop
 | .exit id',sf,st=>if id'=id then Q .normal sf st else Q (.exit id') sf st
 |e,sf,st=>Q e sf st
def scopeQ(Q:Exit→Sf→St→Prop):Exit→Sf→St→Prop
 | .goto _,_,_=>False
 |e,sf,st=>Q e sf st
def loopQ(I:Nat→Sf→St→Prop)(k:Nat)(lv ll:List Nat)(Q:Exit→Sf→St→Prop):Exit→Sf→St→Prop
 | .normal,sf,st=>∃k',k'<k∧∃sf',Sf.le (sf.mask lv ll) sf'∧I k' sf' st
 |e,sf,st=>Q e sf st
def Opd.setB(x:Opd)(sf:Sf)(b:Bool):Sf:=match x with| .r t=>sf.set t (.lit (.bool b))|_=>sf
def opsK(lv ll:List Nat)(Q:Exit→Sf→St→Prop)(sf:Sf)(st:St):Prop:=Q .normal (sf.mask lv ll) st
def iE(x:Opd)(v:AV)(A B:Sf→St→(Exit→Sf→St→Prop)→Prop)(sf:Sf)(st:St)(Q:Exit→Sf→St→Prop):Prop :=
 match v with
 | .lit (.bool b)=>(b=true→A (x.setB sf true) st Q)∧(b=false→B (x.setB sf false) st Q)
 |_=>False
def aH(C:Sf→St→(Exit→Sf→St→Prop)→Prop)(lv ll:List Nat)(sf:Sf)(st:St)(Q:Exit→Sf→St→Prop):Prop :=
 ∃I:Nat→Sf→St→Prop,(∃k sf',Sf.le (sf.mask lv ll) sf'∧I k sf' st)∧∀k sf st,I k sf st→C sf st (loopQ I k lv ll Q)
def AV.keep(v:AV):AV:=if v.noL then v.dis else .any
def gc:List Nat→Sf→List (Nat×AV)
 | [],_=>[]
 |t::r,sf=>(t,(sf.reg t).keep)::gc r sf
def g9:List (Nat×AV)→List Nat→List AV→List (Nat×AV)
 |regs,p::ps,v::vs=>g9 (setR regs p v.dis) ps vs
 |regs,_,_=>regs
def dS(r:Loop):Loop:={r with state:=.busy}
def lk(r:Loop)(c:Code):Loop:={r with state:=.done,pending:=some c}
def St.isLp(st:St)(id:Nat)(r:Loop)(rs:List (Nat×AV)):Prop:=st.boxes[id]?=some (some (.lp r rs))
def endI(id:Nat)(r:Loop)(rs:List (Nat×AV))(Q:Bool→St→Prop):Exit→Sf→St→Prop
 | .normal,_,st=>st.isLp id (dS r) rs∧Q true (st.setL id r rs)
 | .ret,_,st=>st.isLp id (dS r) rs∧Q false (st.setL id (lk r .ret) rs)
 | .exit k,_,st=>st.isLp id (dS r) rs∧Q false (st.setL id (lk r (.exit k)) rs)
 |_,_,_=>False
def qp(CB:Sf→St→(Exit→Sf→St→Prop)→Prop)(id:Nat)(r:Loop)(rs:List (Nat×AV))(Q:Bool→St→Prop):Exit→Sf→St→Prop
 | .normal,sf,st=>st.isLp id r rs∧CB sf (st.setL id (dS r) rs) (endI id r rs Q)
 |_,_,_=>False
def qq(CA CB:Sf→St→(Exit→Sf→St→Prop)→Prop)(ps:List Nat)(id:Nat)(r:Loop)(rs:List (Nat×AV))(vs:List AV)(st:St)(Q:Bool→St→Prop):Prop :=
 st.isLp id r rs∧vs.length=ps.length∧CA ⟨g9 rs ps vs,[]⟩ st (qp CB id r rs Q)
def behindI(lv ll:List Nat)(id:Nat)(r:Loop)(rs:List (Nat×AV))(sf:Sf)(st:St)(Q:Exit→Sf→St→Prop):Prop :=
 (st.isLp id r rs∧Q .normal (sf.mask lv ll) (st.drop id))∨(st.isLp id (lk r .ret) rs∧Q .ret sf (st.drop id))∨∃k,st.isLp id (lk r (.exit k)) rs∧Q (.exit k) (sf.mask lv ll) (st.drop id)
def lm(P:Program)(CA CB:Sf→St→(Exit→Sf→St→Prop)→Prop)(ps lb lv ll:List Nat)(v:AV)(sf:Sf)(st:St)(Q:Exit→Sf→St→Prop):Prop :=
 match v with
 | .fn (.func q) fs cs=>cr P q=true∧∀r:Loop,(∀vs st' Q',qq CA CB ps st.boxes.length r (gc lb sf) vs st' Q'→gP P st.boxes.length vs st' Q') →
   ∃Qc,aF P q (fs++[.yld st.boxes.length]++cs) (st.push (.lp r (gc lb sf))) Qc∧∀v st',Qc v st'→behindI lv ll st.boxes.length r (gc lb sf) sf st' Q
 |_=>False
section
variable (P:Program) (F:Nat→FuncId) (m:Bool)
def dW(drop lv ll:List Nat)(tl:List GI)(Q:Exit→Sf→St→Prop)(st:St)(ks:List PK)(sf:Sf):Prop :=
 ksB drop ks=true∧runI P F m tl (opsK lv ll Q) (bK ks ks (bU ks sf)) st
def ni(lv ll:List Nat)(tl:List GI)(Q:Exit→Sf→St→Prop)(st:St)(sf:Sf):Prop:=runI P F m tl (opsK lv ll Q) sf st
def tailX(drop lv ll:List Nat)(tl:List GI)(Q:Exit→Sf→St→Prop)(SS:Nat→St→Prop)(j:Nat)(ks:List PK)(sf:Sf):Prop :=
 ksB drop ks=true∧∀s,SS j s→runI P F m tl (opsK lv ll Q) (bK ks ks (bU ks sf)) s
def drawX(locs0:List (Nat×List AV))(st:St)(fl:List (Bool×GI))(K:(Nat→St→Prop)→Nat→List PK→Sf→Prop)(sf:Sf):Prop :=
 ∃SS:Nat→St→Prop,SS 0 st∧(∀j s,SS j s→St.sub st s)∧preX P F locs0 st SS 0 fl (K SS) [] sf
def aC:AC→Sf→St→(Exit→Sf→St→Prop)→Prop
 | .skip,sf,st,Q=>Q .normal sf st
 | .ops lv ll l,sf,st,Q=>runI P F m l (opsK lv ll Q) sf st
 | .draw lv ll drop hl tl,sf,st,Q=>aG P F sf.locs st hl (dW P F m drop lv ll tl Q st) [] ⟨sf.regs,cH drop sf.locs⟩
 | .drawM lv ll pre d f args post tl,sf,st,Q=>m=false∧drawM P F pre d f args post sf st (ni P F m lv ll tl Q)
 | .drawA lv ll pre d b k bytes y post tl,sf,st,Q=>m=false∧drawA P F pre d b k bytes y post sf st (ni P F m lv ll tl Q)
 | .drawG lv ll drop fl tl,sf,st,Q=>m=false∧drawX P F sf.locs st fl (tailX P F m drop lv ll tl Q) ⟨sf.regs,cH drop sf.locs⟩
 | .seq a b,sf,st,Q=>aC a sf st (seqQ (aC b) Q)
 | .cond x a b,sf,st,Q=>iE x (sf.ev F x) (aC a) (aC b) sf st Q
 | .block id b,sf,st,Q=>aC b sf st (gn id Q)
 | .loop lv ll b,sf,st,Q=>aH (aC b) lv ll sf st Q
 | .exit lv ll id,sf,st,Q=>Q (.exit id) (sf.mask lv ll) st
 | .scope b,sf,st,Q=>aC b sf st (scopeQ Q)
 | .rangeF lv ll x ps lb a b,sf,st,Q=>m=false∧lm P (aC a) (aC b) ps lb lv ll (sf.ev F x) sf st Q
 | .ret,sf,st,Q=>Q .ret sf st
 | .bad,_,_,_=>False
end
structure Cx where
 gOf:FuncId→Option Nat
 F:Nat→FuncId
 n:Nat
 heap:Nat→Bool
 mu:Nat→Bool
 ms:Nat→List Nat×List Nat
def dropsOf(sl:Nat→Option Nat):List Oper→List Nat
 | []=>[]
 | o :: r => (match o.op, o.dst with
   | .alloc _,some s=>[s]
   | .store _ (.tmp t) _,none=>(sl t).toList
   |_,_=>[])++dropsOf sl r
def slotOf(l:List Oper):Nat→Nat→Nat
 |0,t=>t
 | f + 1, t => match l.find? fun o => o.dst == some t with
   | some o => match o.op with
     | .fieldAddr _ (.tmp s) _=>slotOf l f s
     |_=>t
   |none=>t
def drops(l:List Oper):List Nat:=dropsOf (fun t=>some (slotOf l 4 t)) l
section
variable (P:Program) (X:Cx)
def headOf(l:List Oper):Option Nat:=(List.range (l.length+1)).find? fun k=>dirB l.toArray k
def dstB(n:Nat)(l:List Oper):Bool:=l.all fun o=>match o.dst with|some d=>decide (d<n)|none=>true
def isMk(o:Oper):Bool :=
 match o.op,o.dst,o.guard with
 | .call {callee:=.value _,.. },some s,none=>X.mu s
 |_,_,_=>false
def isBx(o:Oper):Bool :=
 match o.op,o.dst with
 | .box _ _,some s| .alloc _,some s=>X.heap s
 |_,_=>false
def isGk(o:Oper):Bool :=
 match o.op,o.dst with
 | .box _ _,some s| .alloc _,some s=>X.heap s
 | .call {callee:=.value _,.. },some s=>X.mu s
 |_,_=>false
def growB(l:List Oper):Bool:=(l.filter (isGk X)).any (fun o=>o.guard.isSome)||decide (2≤(l.filter (isGk X)).length)||l.any (isBx X)
def qr(l:List Oper)(gl:List GI):List (Bool×GI):=gl.zipIdx.map fun p=>(match l[p.2]? with|some o=>isGk X o|none=>false,p.1)
def ordG(ops:List Oper)(k:Nat):Bool :=
 (List.range k).all fun i'=>(List.range i').all fun i=>match ops[i]?,ops[i']? with
  |some o,some o'=>!(isGk X o && isGk X o')||cg ops.toArray k i' i
  |_,_=>true
def qs(p:Nat)(ops:List Oper)(k:Nat):Option AC :=
 if ordG X ops k=false then none else match dl P X.gOf X.F X.n X.heap ops (ops.take k),ku P X.gOf X.F X.n X.heap X.mu false ops (ops.drop k)with
 |some hl,some tl=>some (.drawG (X.ms p).1 (X.ms p).2 (drops (ops.take k)) (qr X (ops.take k) hl) tl)
 |_,_=>none
def qt(p:Nat)(ops:List Oper)(k κ:Nat):Option AC :=
 match ops[κ]? with
 | some o => match o.op with
   | .call { callee := .value f, args, .. } =>
     if o.guard=none∧κ<k then
      match opd X.gOf X.F X.n f,opds X.gOf X.F X.n args.toList,dl P X.gOf X.F X.n X.heap ops (ops.take κ),dl P X.gOf X.F X.n X.heap ops ((ops.take k).drop (κ+1)),ku P X.gOf X.F X.n X.heap X.mu false ops (ops.drop k)with
      |some f,some args,some pre,some post,some tl=>some (.drawM (X.ms p).1 (X.ms p).2 pre o.dst f args (gm ops k κ post) tl)
      |_,_,_,_,_=>none
     else none
   |_=>none
 |none=>none
def isMa(o:Oper):Bool :=
 match o.op,o.dst,o.guard with
 | .call {callee:=.builtin .append,.. },some s,none=>X.mu s
 |_,_,_=>false
def qu(p:Nat)(ops:List Oper)(k κ:Nat):Option AC :=
 match ops[κ]? with
 | some o => match o.op with
   | .call { callee := .builtin .append, args, argTypes } =>
     if o.guard=none∧κ<k then
      match args.toList,argTypes.toList with
      | [x,y],[t,t2]=>if apzB P t=true then
        match appK P t t2,opd X.gOf X.F X.n x,opd X.gOf X.F X.n y,dl P X.gOf X.F X.n X.heap ops (ops.take κ),dl P X.gOf X.F X.n X.heap ops ((ops.take k).drop (κ+1)),ku P X.gOf X.F X.n X.heap X.mu false ops (ops.drop k)with
        |some kb,some b,some y,some pre,some post,some tl=>some (.drawA (X.ms p).1 (X.ms p).2 pre o.dst b kb.1 kb.2 y (gm ops k κ post) tl)
        |_,_,_,_,_,_=>none
       else none
      |_,_=>none
     else none
   |_=>none
 |none=>none
def chainB(ops:List Oper)(k κ:Nat):Bool :=
 (List.range κ).all (fun i=>cg ops.toArray k κ i && (match ops[i]? with|some o=>o.guard.isNone|none=>false)) &&
 (List.range k).all (fun i=>decide (i≤κ)||cg ops.toArray k i κ) &&
 (ops.take κ).all (fun o=>((ops.take k).drop (κ+1)).all fun o'=>decide (o.dst≠o'.dst)) &&
 (ops.take κ).any (fun o=>match o.dst with|some d=>X.mu d|none=>false)
def compDC(_:Program)(_:Cx)(_:Nat)(_:List Oper)(_ _:Nat):Option AC:=none
def cS:Code→Bool
 | .seq a b=>cS a && cS b
 | .cond _ a b=>cS a && cS b
 | .block _ b=>cS b
 | .loop b=>cS b
 | .scope b=>cS b
 | .rangeFunc _ _ _ _=>false
 |_=>true
def nj(p:Nat)(ops:List Oper)(k:Nat):Option AC :=
 match dl P X.gOf X.F X.n X.heap ops (ops.take k),ku P X.gOf X.F X.n X.heap X.mu false ops (ops.drop k)with
 |some hl,some tl=>some (.draw (X.ms p).1 (X.ms p).2 (drops (ops.take k)) hl tl)
 |_,_=>some .bad
def nn(p:Nat)(ops:List Oper):Option AC :=
 match headOf ops with
 |none=>some .bad
 | some k =>
   if dirB ops.toArray k && oZ ops.toArray k && dstB X.n (ops.take k)then
    if growB X (ops.take k)then(match qs P X p ops k with
     |some c=>some c
     |none=>some .bad)else
    match(ops.take k).findIdx? (isMk X)with
    | some κ => if chainB X ops k κ then (match compDC P X p ops k κ with
      |some c=>some c
      |none=>some .bad)else(match qt P X p ops k κ with
      |some c=>some c
      |none=>some .bad)
    | none => match (ops.take k).findIdx? (isMa X) with
      | some κ => (match qu P X p ops k κ with
        |some c=>some c
        |none=>some .bad)
      |none=>nj P X p ops k
   else some .bad
def dh:Nat→Code→Option AC
 |_,.skip=>some .skip
 |_,.label _=>some .skip
 |p,.region _ ops false=>(ku P X.gOf X.F X.n X.heap X.mu false ops.toList ops.toList).map (.ops (X.ms p).1 (X.ms p).2)
 |p,.region _ ops true=>nn P X p ops.toList
 | p, .seq a b => match dh (2 * p) a, dh (2 * p + 1) b with
   |some a,some b=>some (.seq a b)
   |_,_=>none
 | p, .cond c a b => match opd X.gOf X.F X.n c, dh (2 * p) a, dh (2 * p + 1) b with
   |some c,some a,some b=>some (.cond c a b)
   |_,_,_=>none
 |p,.block id b=>(dh (2*p) b).map (.block id)
 |p,.loop b=>(dh (2*p) b).map (.loop (X.ms p).1 (X.ms p).2)
 |p,.exit id=>some (.exit (X.ms p).1 (X.ms p).2 id)
 |p,.scope b=>(dh (2*p) b).map .scope
 |_,.ret=>some .ret
 |_,.goto _=>some .bad
 | p, .rangeFunc x ps a b => match opd X.gOf X.F X.n x, dh (2 * p) a, dh (2 * p + 1) b with
   |some x,some a',some b'=>if cS a && cS b && ps.toList.all (fun t=>decide (t<X.n)) && (X.ms (1000000007+p)).1.all (fun t=>decide (t<X.n))then some (.rangeF (X.ms p).1 (X.ms p).2 x ps.toList (X.ms (1000000007+p)).1 a' b')else some .bad
   |_,_,_=>some .bad
 |_,.refuse _=>some .bad
end
section
variable {P:Program} {X:Cx} {m:Bool} {E:Ent} {g:Gh} {w:World} {sf:Sf} {st:St} {a:Act}
theorem ln:∀(ll:List Nat) (locs:List (Nat×List AV)) (s:Nat) (cs:List AV),look s (iD ll locs)=some cs→look s locs=some cs
 | [],_,_,_,h=>by simp[iD,look]at h
 | t :: r, locs, s, cs, h => by
   simp only[iD]at h
   split at h
   ·rename_i cs' hl
    simp only[look]at h
    split at h
    ·rename_i e;subst e;cases h;exact hl
    ·exact ln r locs s cs h
   ·exact ln r locs s cs h
theorem fu:∀(drop:List Nat) (locs:List (Nat×List AV)) (s:Nat) (cs:List AV),look s (cH drop locs)=some cs→look s locs=some cs∧drop.contains s=false
 |_,[],_,_,h=>by simp[cH,look]at h
 | drop, (t, ct) :: r, s, cs, h => by
   simp only[cH]at h
   split at h
   ·rename_i hd
    obtain⟨h1,h2⟩:=fu drop r s cs h
    refine⟨?_,h2⟩
    simp only[look]
    split
    ·rename_i e;subst e;rw[hd]at h2;cases h2
    ·exact h1
   ·rename_i hd
    simp only[look]at h ⊢
    split
    ·rename_i e
     subst e
     simp only[if_true]at h
     exact⟨h,by simpa using hd⟩
    ·rename_i e
     simp only[e,if_false]at h
     exact fu drop r s cs h
theorem ph(f:Nat→AV):∀(lv:List Nat) (t:Nat),getR (lv.map fun t=>(t,f t)) t=f t∨getR (lv.map fun t=>(t,f t)) t= .any
 | [],t=>.inr rfl
 | q :: r, t => by
   simp only[List.map_cons,getR]
   split
   ·rename_i e;subst e;exact .inl rfl
   ·exact ph f r t
theorem Ok.forget{fr fr':Fr}(h:Ok m E g w fr st a)(hl:fr'.slots.length=fr.slots.length)(hs:∀(s:Nat) (v:AV),fr'.slots[s]?=some v→fr.slots[s]?=some v∨v=AV.any)(hlo:∀s cs,look s fr'.locs=some cs→look s fr.locs=some cs):Ok m E g w fr' st a:=by
 refine⟨by rw[h.size,hl],fun s v u hv hu=>?_,⟨h.ctx.good,fun s cs hc=>h.ctx.loc s cs (hlo s cs hc),h.ctx.box⟩,h.defers,h.mv,h.pst,h.hN,h.hm⟩
 rcases hs s v hv with h1|rfl
 ·exact h.slots s v u h1 hu
 ·exact⟨R.any _,fun i c x hc _=>Own.of_no (ak (v:=.any) (fun _ e=>by cases e) trivial i c hc)⟩
theorem Ok.mask{n:Nat}(h:Ok m E g w (sp n sf) st a)(lv ll:List Nat):Ok m E g w (sp n (sf.mask lv ll)) st a:=by
 refine h.forget (by simp[dD]) (fun s v hv=>?_) (fun s cs hc=>ln ll sf.locs s cs hc)
 rw[dj]at hv ⊢
 split at hv
 ·rename_i hl
  rw[if_pos hl]
  cases hv
  rcases ph sf.reg lv s with e|e
  ·left;exact congrArg some e.symm
  ·right;exact e
 ·cases hv
theorem dK{f:PK→Option Nat}:∀{ks:List PK} {l:List Nat},l=ks.filterMap f→aO l=true→∀(i j s:Nat) (x y:PK),ks[i]?=some x→ks[j]?=some y→f x=some s→f y=some s→i=j
 | [],_,_,_,i,j,s,x,y,hx,_,_,_=>by simp at hx
 | k :: ks, l, hl, hd, i, j, s, x, y, hx, hy, fx, fy => by
   have hmem:∀(q:Nat) (z:PK),ks[q]?=some z→f z=some s→s∈ks.filterMap f:=fun q z hz fz=>List.mem_filterMap.2 ⟨z,List.mem_of_getElem? hz,fz⟩
   cases hk:f k with
   | none =>
     have hl':l=ks.filterMap f:=by rw[hl];simp[hk]
     cases i with
     |zero=>simp at hx;subst hx;rw[hk]at fx;cases fx
     | succ i => cases j with
       |zero=>simp at hy;subst hy;rw[hk]at fy;cases fy
       |succ j=>exact congrArg Nat.succ (dK hl' hd i j s x y (by simpa using hx) (by simpa using hy) fx fy)
   | some t =>
     have hl':l=t::ks.filterMap f:=by rw[hl];simp[hk]
     rw[hl']at hd
     simp only[aO,Bool.and_eq_true,Bool.not_eq_true']at hd
     cases i with
     | zero => cases j with
       |zero=>rfl
       | succ j =>
         simp at hx hy;subst hx
         rw[hk]at fx;cases fx
         have:=hmem j y hy fy
         rw[List.contains_eq_mem]at hd
         simp[this]at hd
     | succ i => cases j with
       | zero =>
         simp at hx hy;subst hy
         rw[hk]at fy;cases fy
         have:=hmem i x hx fx
         rw[List.contains_eq_mem]at hd
         simp[this]at hd
       |succ j=>exact congrArg Nat.succ (dK rfl hd.2 i j s x y (by simpa using hx) (by simpa using hy) fx fy)
theorem jJ:∀ks:List PK,aL ks=ks.filterMap fun| .store s _=>some s|_=>none
 | []=>rfl
 |k::r=>by cases k<;>simp[aL,jJ r]
theorem apps_map:∀ks:List PK,bz ks=ks.filterMap fun| .app s _=>some s|_=>none
 | []=>rfl
 |k::r=>by cases k<;>simp[bz,apps_map r]
theorem np:∀ks:List PK,bh ks=ks.filterMap fun| .new s _=>some s|_=>none
 | []=>rfl
 |k::r=>by cases k<;>simp[bh,np r]
theorem nsts_map:∀ks:List PK,bA ks=ks.filterMap fun| .nst s _=>some s|_=>none
 | []=>rfl
 |k::r=>by cases k<;>simp[bA,nsts_map r]
theorem nstB_ok:∀{ks:List PK} {seen:List (Nat×Nat)},nstB seen ks=true→∀(i s:Nat) cs,ks[i]?=some (.nst s cs)→(s,cs.length)∈seen∨∃k cs0,k<i∧ks[k]?=some (.new s cs0)∧cs0.length=cs.length
 | [],_,_,i,s,cs,hi=>by simp at hi
 | k :: r, seen, h, i, s, cs, hi => by
   have hstep:∀seen',nstB seen' r=true→(∀p,p∈seen'→p∈seen∨∃cs0,k= .new p.1 cs0∧cs0.length=p.2)→∀i',i=i'+1→r[i']?=some (.nst s cs)→(s,cs.length)∈seen∨∃k' cs0,k'<i∧(k::r)[k']?=some (.new s cs0)∧cs0.length=cs.length:=by
    intro seen' h' hsub i' e hi'
    rcases nstB_ok h' i' s cs hi' with hm|⟨k',cs0,h1,h2,h3⟩
    ·rcases hsub _ hm with hm|⟨cs0,hk,hl⟩
     ·exact .inl hm
     ·exact .inr ⟨0,cs0,by omega,by simp[hk],hl⟩
    ·exact .inr ⟨k'+1,cs0,by omega,by simpa using h2,h3⟩
   cases i with
   | zero =>
     simp at hi
     subst hi
     simp only[nstB,Bool.and_eq_true]at h
     exact .inl (by simpa [List.contains_eq_mem]using h.1)
   | succ i =>
     simp at hi
     cases k with
     | new t ds =>
       simp only[nstB]at h
       refine hstep _ h (fun p hp=>?_) i rfl hi
       rcases List.mem_cons.1 hp with rfl|hp
       ·exact .inr ⟨ds,rfl,rfl⟩
       ·exact .inl hp
     | nst t ds =>
       simp only[nstB,Bool.and_eq_true]at h
       exact hstep _ h.2 (fun p hp=>.inl hp) i rfl hi
     |_=>exact hstep seen h (fun p hp=>.inl hp) i rfl hi
theorem iF{drop:List Nat}{ks:List PK}(h:ksB drop ks=true):KsOk ks∧∀s,drop.contains s=false→∀(i:Nat) cs,ks[i]?≠some (.store s cs)∧ks[i]?≠some (.new s cs):=by
 unfold ksB at h
 simp only[Bool.and_eq_true]at h
 obtain⟨⟨⟨⟨⟨⟨h5,h6⟩,h7⟩,h1⟩,h2⟩,h3⟩,h4⟩:=h
 have hs:∀(i s:Nat) cs,ks[i]?=some (.store s cs)→s∈aL ks:=fun i s cs hi=>by rw[jJ];exact List.mem_filterMap.2 ⟨_,List.mem_of_getElem? hi,rfl⟩
 have hn:∀(i s:Nat) cs,ks[i]?=some (.new s cs)→s∈bh ks:=fun i s cs hi=>by rw[np];exact List.mem_filterMap.2 ⟨_,List.mem_of_getElem? hi,rfl⟩
 refine⟨⟨fun i j s cs cs' hi hj=>dK (jJ ks) h1 i j s _ _ hi hj rfl rfl,fun i j t v v' hi hj=>dK (apps_map ks) h2 i j t _ _ hi hj rfl rfl,fun i j s cs cs' hi hj=>?_,
  fun i j s cs cs' hi hj=>dK (np ks) h5 i j s _ _ hi hj rfl rfl,fun i j s cs cs' hi hj=>dK (nsts_map ks) h6 i j s _ _ hi hj rfl rfl,fun i s cs hi=>?_⟩,fun s hd i cs=>⟨fun hi=>?_,fun hi=>?_⟩⟩
 ·have:=List.all_eq_true.1 h3 s (hs j s cs' hj)
  have hm:=hn i s cs hi
  rw[List.contains_eq_mem (as:=bh ks)]at this
  simp[hm]at this
 ·rcases nstB_ok h7 i s cs hi with hm|hm
  ·cases hm
  ·exact hm
 ·have:=List.all_eq_true.1 h3 s (hs i s cs hi)
  rw[hd]at this;simp at this
 ·have:=List.all_eq_true.1 h4 s (hn i s cs hi)
  rw[hd]at this;cases this
theorem dL(n:Nat):∀(ks:List PK) (sf:Sf),sp n (bU ks sf)=finS ks (sp n sf)
 | [],_=>rfl
 | .store s cs::r,sf=>dL n r _
 | .val _::r,sf=>dL n r _
 | .skip::r,sf=>dL n r _
 | .new _ _::r,sf=>dL n r _
 | .nst _ _::r,sf=>dL n r _
 | .app _ _::r,sf=>dL n r _
 | .mk _ _::r,sf=>dL n r _
 | .hole::r,sf=>dL n r _
 | .chole _ _::r,sf=>dL n r _
theorem dM(n:Nat)(all:List PK):∀(ks:List PK) (sf:Sf),sp n (bK all ks sf)=finN all ks (sp n sf)
 | [],_=>rfl
 | .new s cs::r,sf=>by simp only[bK,finN];rw[dM n all r,k9]
 | .val _::r,sf=>dM n all r _
 | .skip::r,sf=>dM n all r _
 | .store _ _::r,sf=>dM n all r _
 | .nst _ _::r,sf=>dM n all r _
 | .app _ _::r,sf=>dM n all r _
 | .mk _ _::r,sf=>dM n all r _
 | .hole::r,sf=>dM n all r _
 | .chole _ _::r,sf=>dM n all r _
theorem apr_none{P:Program}{d n:Nat}{st:St}{Qc:AV→St→Prop}{vs:List AV}{o:Oper}{f:Operand}{args:Array Operand}{ts:Array TypeId}(ho:o.op= .call ⟨.value f,args,ts⟩):ApR P d n st Qc vs o:=fun x y t t2 h=>by rw[ho]at h;cases h
theorem drawM_sound{rd:Option Nat}{p k κ:Nat}{ops:List Oper}{c:AC}(hc:qt P X p ops k κ=some c)(hdir:dirB ops.toArray k=true)(hcons:oZ ops.toArray k=true)(hdst:dstB X.n (ops.take k)=true)
  {Q:Exit→Sf→St→Prop} {QQ:Exit→Act→World→Prop} (h:Ok m E g w (sp X.n sf) st a) (hK:aC P X.F m c sf st Q) (hq:∀e sf st g w a,Ok m E g w (sp X.n sf) st a→Q e sf st→QQ e a w):fg rd P QQ ops.toArray a w:=by
 classical
 unfold qt at hc
 split at hc
 case h_2=>cases hc
 rename_i o ho
 split at hc
 case h_2=>cases hc
 rename_i f args ts hop
 split at hc
 case isFalse=>cases hc
 rename_i hgk
 obtain⟨hgd,hκ⟩:=hgk
 split at hc
 case h_2=>cases hc
 rename_i f' args' pre post tl hf hargs hpre hpost htl
 cases hc
 obtain⟨hmf,ρ,hsub,hK⟩:=hK
 generalize fL pre (gm ops k κ post)=drop at hK
 have hkl:k≤ops.length:=by
  have hB:=hdir
  unfold dirB at hB
  simp only[Bool.and_eq_true,decide_eq_true_eq]at hB
  have:=hB.1.1.1.1
  simpa using this
 have hsplit:ops.take k=ops.take κ++o::(ops.take k).drop (κ+1):=by
  have h1:(ops.take k).take κ=ops.take κ:=by rw[List.take_take,Nat.min_eq_left (by omega)]
  have h2:(ops.take k)[κ]?=some o:=by rw[List.getElem?_take,if_pos hκ];exact ho
  obtain⟨hlt,h3⟩:=List.getElem?_eq_some_iff.1 h2
  have h4:=List.drop_eq_getElem_cons hlt
  rw[h3]at h4
  rw[←h4,←h1,List.take_append_drop]
 have hpl:(ops.take κ).length=κ:=by simp;omega
 -- ahead of the call
 obtain⟨ks1,sf1,hr1,hv1,hK⟩:=kA (SS:=St.sub ρ) (locs0:=sf.locs) (fun _ h=>h) hpre hK
 have hl1:ks1.length=κ:=by rw[run_len hr1,hpl]
 simp only[atM,nf,List.nil_append]at hK
 split at hK
 case h_2=>exact hK.elim
 rename_i q fs cs hfv
 obtain⟨hnl,hent,Qc,hA,hK⟩:=hK
 have hmap:=fo hargs sf1
 have hca:fj (sp X.n sf1) ⟨.value f,args,ts⟩=some (q,fs++(args'.map (sf1.ev X.F)).map AV.dis++cs):=by
  unfold fj
  simp only[ap hf sf1,hfv,hmap,hnl,if_true]
  congr 3
  rw[←hmap,List.map_map]
  rfl
 have hga:aX ops.toArray (sp X.n sf1) o=some (.lit (.bool true)):=by simp[aX,hgd]
 -- before the call has ended
 obtain⟨ksh,sfh,hrh,hoh,hK⟩:=kB (SS:=St.sub ρ) (locs0:=sf.locs) (fun _ h=>h) hpost (i7 ops k κ post) hK
 simp only[List.nil_append]at hK
 obtain⟨hkb0,hK⟩:=hK
 have hk0:∀(kκ:PK) (ks2:List PK),kκ.inert=true→ksB drop (ks1++ks2)=true→ksB drop (ks1++kκ::ks2)=true:=fun kκ ks2 hi hb=>by rw[ksB_in hi];exact hb
 have hlocs:∀ks:List PK,ksB drop ks=true→∀s cs,look s (sp X.n ⟨sf.regs,cH drop sf.locs⟩).locs=some cs→look s (sp X.n sf).locs=some cs∧∀(i:Nat) cs',ks[i]?≠some (.store s cs')∧ks[i]?≠some (.new s cs'):=by
  intro ks hb s cs hc
  obtain⟨h1,h2⟩:=fu _ _ _ _ hc
  exact⟨h1,fun i cs'=>(iF hb).2 s h2 i cs'⟩
 have hdst':∀o∈ops.take k,∀d,o.dst=some d→d<(sp X.n sf).slots.length:=fun o ho d hd=>by
  have:=List.all_eq_true.1 hdst o ho
  rw[hd]at this
  rw[dD]
  simpa using this
 have hcst:PStep P ops.toArray ρ ((fun _ s=>s=st:Option Nat→St→Prop) o.dst) sf.locs o (sp X.n sf1) (.chole q (fs++(args'.map (sf1.ev X.F)).map AV.dis++cs)) (sp X.n (sf1.put o.dst .any)):=by
  rw[bV]
  exact .chole _ q _ hga hop hca
 have hr1':PRun P ops.toArray ρ (fun _ s=>s=st) sf.locs (ops.take κ) (sp X.n ⟨sf.regs,cH drop sf.locs⟩) ks1 (sp X.n sf1):=hr1.weakSS fun _ _ e=>by rw[e];assumption
 have hat1:∀(i:Nat) (x:PK),i<κ→∀kκ ks2,(ks1++kκ::ks2)[i]?=some x→x.real=true:=by
  intro i x hi kκ ks2 hx
  rw[List.getElem?_append_left (by omega)]at hx
  exact hv1 x (List.mem_of_getElem? hx)
 have hat2:∀(i:Nat) (x:PK),κ<i→∀kκ ks2,(ks1++kκ::ks2)[i]?=some x→ks2[i-κ-1]?=some x:=by
  intro i x hi kκ ks2 hx
  rw[List.getElem?_append_right (by omega),show i-ks1.length=(i-κ-1)+1 by omega]at hx
  simpa using hx
 have hatκ:∀kκ ks2,(ks1++kκ::ks2)[κ]?=some kκ:=fun kκ ks2=>by rw[List.getElem?_append_right (by omega)];simp[hl1]
 have hnm0:∀(i:Nat) (x:PK),(ks1++.chole q (fs++(args'.map (sf1.ev X.F)).map AV.dis++cs)::ksh)[i]?=some x→∀v s,x≠.mk v s:=by
  intro i x hx v s e
  subst e
  rcases Nat.lt_trichotomy i κ with hi|hi|hi
  ·have:=hat1 i _ hi _ _ hx;cases this
  ·subst hi;rw[hatκ]at hx;cases hx
  ·obtain⟨b,gi,_,hb⟩:=cE hoh _ _ (hat2 i _ hi _ _ hx)
   rcases hb with⟨_,e⟩|⟨_,hb⟩
   ·cases e
   ·cases hb
 have H0:Head P m E g w (sp X.n sf) st ρ (fun _ s=>s=st) a ops k k (ks1++.chole q (fs++(args'.map (sf1.ev X.F)).map AV.dis++cs)::ksh) (sp X.n ⟨sf.regs,cH drop sf.locs⟩) (sp X.n sfh):=by
  have hb0:=hk0 (.chole q (fs++(args'.map (sf1.ev X.F)).map AV.dis++cs)) ksh rfl hkb0
  refine⟨h,rfl,hlocs _ hb0,f9 hdir true,hcons,hdst',Nat.le_refl k,?_,fun hm=>(by rw[hmf]at hm;cases hm),(iF hb0).1⟩
  rw[hsplit]
  exact gS hr1' (.cons hcst (hrh.weakSS fun _ _ e=>by rw[e];assumption))
 -- behind it
 have hω:∀v s,Qc v s→∃ks2 sf2,PRun P ops.toArray ρ (fun _ s'=>s'=st∨s'=s) sf.locs ((ops.take k).drop (κ+1)) (sp X.n (sf1.put o.dst v)) ks2 (sp X.n sf2)∧(∀x∈ks2,x.real=true)∧fa (gm ops k κ post) ksh ks2∧St.sub ρ s∧finK drop (ni P X.F m (X.ms p).1 (X.ms p).2 tl Q s) (ks1++ks2) sf2:=by
  intro v s hQ
  obtain⟨hs,hp⟩:=hK v s hQ
  rw[i7]at hp
  obtain⟨ks2,sf2,hr2,hv2,hc2,hT⟩:=kA (SS:=fun s'=>s'=st∨s'=s) (locs0:=sf.locs) (fun s' e=>by rcases e with rfl|rfl<;>assumption) hpost hp
  exact⟨ks2,sf2,hr2,hv2,by simpa using hc2,hs,hT⟩
 let ksω:AV→St→List PK:=fun v s=>if hQ:Qc v s then ks1++.mk v s::(hω v s hQ).choose else []
 let frn:AV→St→Fr:=fun v s=>if hQ:Qc v s then sp X.n (hω v s hQ).choose_spec.choose else sp X.n sf
 have hksω:∀v s (hQ:Qc v s),ksω v s=ks1++.mk v s::(hω v s hQ).choose:=fun v s hQ=>dif_pos hQ
 have hfrn:∀v s (hQ:Qc v s),frn v s=sp X.n (hω v s hQ).choose_spec.choose:=fun v s hQ=>dif_pos hQ
 have hoi':∀oi,ops.toArray[κ]?=some oi→oi=o:=fun oi h=>by
  have h1:ops[κ]?=some oi:=by simpa using h
  rw[ho]at h1;cases h1;rfl
 refine lW (κ:=κ) (n:=k) ksω frn hmf hdir hκ H0 (hatκ _ _) (fun i x hx=>?_) (fun i x hx hne hnh=>?_) (fun i hx=>?_) (fun _ _ _ _ _=>⟨hent,hA⟩) (fun oi hoi=>by rw[hoi' oi hoi];exact apr_none hop) (fun _=>false) (fun _=>rfl) (fun i e=>by cases e) (fun v s hQ=>?_) (fun v s hQ=>?_) (fun v s hQ i x hne hx=>?_) (fun v s hQ i x hne hx hnh=>?_) (fun v s hQ j s' cs hj=>?_) (fun v s hQ g' w' a' hok=>?_)
 ·have hnm:=hnm0 i x hx
  cases x<;>first|rfl|exact absurd rfl (hnm _ _)
 ·rcases Nat.lt_trichotomy i κ with hi|hi|hi
  ·exact hat1 i x hi _ _ hx
  ·exact absurd hi hne
  ·obtain⟨b,gi,_,hb⟩:=cE hoh _ x (hat2 i x hi _ _ hx)
   rcases hb with⟨_,e⟩|⟨_,hb⟩
   ·exact absurd e hnh
   ·exact hb
 ·rcases Nat.lt_trichotomy i κ with hi|hi|hi
  ·have:=hat1 i _ hi _ _ hx;cases this
  ·subst hi;rw[hatκ]at hx;cases hx
  ·obtain⟨b,gi,hfl,hb⟩:=cE hoh _ _ (hat2 i _ hi _ _ hx)
   rcases hb with⟨rfl,_⟩|⟨_,hb⟩
   ·have:=flags_at ops k κ post _ _ _ hfl
    rw[show κ+1+(i-κ-1)=i by omega]at this
    exact this.symm
   ·cases hb
 ·obtain⟨hr2,hv2,hc2,hs,hT⟩:=(hω v s hQ).choose_spec.choose_spec
  have hbω:=hk0 (.mk v s) _ rfl hT.1
  refine⟨fun _ s'=>s'=st∨s'=s,?_,fun _ _ _ _ _ _=>.inr rfl⟩
  rw[hksω v s hQ,hfrn v s hQ]
  refine⟨h,rfl,hlocs _ hbω,f9 hdir true,hcons,hdst',Nat.le_refl k,?_,fun hm=>(by rw[hmf]at hm;cases hm),(iF hbω).1⟩
  ·have hrr:=gS (hr1.weakSS (SS':=fun _ s'=>s'=st∨s'=s) fun _ s' e=>by rcases e with rfl|rfl<;>assumption) (.cons (k:=.mk v s) (by rw[bV];exact .mk v s hga) hr2)
   exact(congrArg (fun z=>PRun P ops.toArray ρ (fun _ s'=>s'=st∨s'=s) sf.locs z (sp X.n ⟨sf.regs,cH drop sf.locs⟩) (ks1++.mk v s::(hω v s hQ).choose) (sp X.n (hω v s hQ).choose_spec.choose)) hsplit).mpr hrr
 ·rw[hksω v s hQ];exact hatκ _ _
 ·rw[hksω v s hQ]at hx
  obtain⟨hr2,hv2,hc2,hs,hT⟩:=(hω v s hQ).choose_spec.choose_spec
  rcases Nat.lt_trichotomy i κ with hi|hi|hi
  ·exact hat1 i x hi _ _ hx
  ·exact absurd hi hne
  ·exact hv2 x (List.mem_of_getElem? (hat2 i x hi _ _ hx))
 ·rw[hksω v s hQ]
  obtain⟨hr2,hv2,hc2,hs,hT⟩:=(hω v s hQ).choose_spec.choose_spec
  rcases Nat.lt_trichotomy i κ with hi|hi|hi
  ·rw[List.getElem?_append_left (by omega)]at hx ⊢;exact hx
  ·exact absurd hi hne
  ·have hx2:=hat2 i x hi _ _ hx
   obtain⟨b,gi,hfl,hb⟩:=cE hoh _ x hx2
   rcases hb with⟨_,e⟩|⟨hbf,_⟩
   ·exact absurd e hnh
   ·have:=(gz hc2 _ b gi x hfl).1 hx2 hbf
    rw[List.getElem?_append_right (by omega),show i-ks1.length=(i-κ-1)+1 by omega]
    simpa using this
 ·rw[hksω v s hQ]at hj
  obtain⟨hr2,hv2,hc2,hs,hT⟩:=(hω v s hQ).choose_spec.choose_spec
  rcases Nat.lt_trichotomy j κ with hi|hi|hi
  ·rw[List.getElem?_append_left (by omega)]at hj ⊢;exact hj
  ·subst hi;rw[hatκ]at hj;cases hj
  ·have hx2:=hat2 j _ hi _ _ hj
   have hlen:=iZ hc2
   have hlt:j-κ-1<ksh.length:=by rw[hlen];exact(List.getElem?_eq_some_iff.1 hx2).1
   obtain⟨b,gi,hfl,_⟩:=cE hoh _ _ (List.getElem?_eq_getElem hlt)
   have:=(gz hc2 _ b gi _ hfl).2 hx2 ⟨_,_,rfl⟩
   rw[List.getElem?_append_right (by omega),show j-ks1.length=(j-κ-1)+1 by omega]
   simpa using this
 ·rw[hksω v s hQ,hfrn v s hQ,←dL,←dM,fin_in rfl]at hok
  obtain⟨hr2,hv2,hc2,hs,hT⟩:=(hω v s hQ).choose_spec.choose_spec
  exact cW (Q:=QQ) htl hok hT.2 fun sf st g w a hok hk=>hq _ _ _ _ _ _ (hok.mask _ _) hk
theorem drawA_sound{rd:Option Nat}{p k κ:Nat}{ops:List Oper}{c:AC}(hc:qu P X p ops k κ=some c)(hdir:dirB ops.toArray k=true)(hcons:oZ ops.toArray k=true)(hdst:dstB X.n (ops.take k)=true)
  {Q:Exit→Sf→St→Prop} {QQ:Exit→Act→World→Prop} (h:Ok m E g w (sp X.n sf) st a) (hK:aC P X.F m c sf st Q) (hq:∀e sf st g w a,Ok m E g w (sp X.n sf) st a→Q e sf st→QQ e a w):fg rd P QQ ops.toArray a w:=by
 classical
 unfold qu at hc
 split at hc
 case h_2=>cases hc
 rename_i o ho
 split at hc
 case h_2=>cases hc
 rename_i args ts hop
 split at hc
 case isFalse=>cases hc
 rename_i hgk
 obtain⟨hgd,hκ⟩:=hgk
 split at hc
 case h_2=>cases hc
 rename_i ox oy t t2 hargs hts
 split at hc
 case isFalse=>cases hc
 rename_i haz
 split at hc
 case h_2=>cases hc
 rename_i kb b' y' pre post tl hak hx hy hpre hpost htl
 cases hc
 have e1:=args2 hargs
 have e2:=ts2 hts
 subst e1;subst e2
 obtain⟨hmf,ρ,hsub,hK⟩:=hK
 generalize fL pre (gm ops k κ post)=drop at hK
 have hkl:k≤ops.length:=by
  have hB:=hdir
  unfold dirB at hB
  simp only[Bool.and_eq_true,decide_eq_true_eq]at hB
  have:=hB.1.1.1.1
  simpa using this
 have hsplit:ops.take k=ops.take κ++o::(ops.take k).drop (κ+1):=by
  have h1:(ops.take k).take κ=ops.take κ:=by rw[List.take_take,Nat.min_eq_left (by omega)]
  have h2:(ops.take k)[κ]?=some o:=by rw[List.getElem?_take,if_pos hκ];exact ho
  obtain⟨hlt,h3⟩:=List.getElem?_eq_some_iff.1 h2
  have h4:=List.drop_eq_getElem_cons hlt
  rw[h3]at h4
  rw[←h4,←h1,List.take_append_drop]
 have hpl:(ops.take κ).length=κ:=by simp;omega
 -- ahead of the call
 obtain⟨ks1,sf1,hr1,hv1,hK⟩:=kA (SS:=St.sub ρ) (locs0:=sf.locs) (fun _ h=>h) hpre hK
 have hl1:ks1.length=κ:=by rw[run_len hr1,hpl]
 simp only[atA,appM,List.nil_append]at hK
 obtain⟨hbl,hyl,Qc,hsrc,hK⟩:=hK
 have hbx:=ap hx sf1
 have hyx:=ap hy sf1
 have hga:aX ops.toArray (sp X.n sf1) o=some (.lit (.bool true)):=by simp[aX,hgd]
 -- before the call has ended
 obtain⟨ksh,sfh,hrh,hoh,hK⟩:=kB (SS:=St.sub ρ) (locs0:=sf.locs) (fun _ h=>h) hpost (i7 ops k κ post) hK
 simp only[List.nil_append]at hK
 obtain⟨hkb0,hK⟩:=hK
 have hk0:∀(kκ:PK) (ks2:List PK),kκ.inert=true→ksB drop (ks1++ks2)=true→ksB drop (ks1++kκ::ks2)=true:=fun kκ ks2 hi hb=>by rw[ksB_in hi];exact hb
 have hlocs:∀ks:List PK,ksB drop ks=true→∀s cs,look s (sp X.n ⟨sf.regs,cH drop sf.locs⟩).locs=some cs→look s (sp X.n sf).locs=some cs∧∀(i:Nat) cs',ks[i]?≠some (.store s cs')∧ks[i]?≠some (.new s cs'):=by
  intro ks hb s cs hc
  obtain⟨h1,h2⟩:=fu _ _ _ _ hc
  exact⟨h1,fun i cs'=>(iF hb).2 s h2 i cs'⟩
 have hdst':∀o∈ops.take k,∀d,o.dst=some d→d<(sp X.n sf).slots.length:=fun o ho d hd=>by
  have:=List.all_eq_true.1 hdst o ho
  rw[hd]at this
  rw[dD]
  simpa using this
 have hcst:PStep P ops.toArray ρ ((fun _ s=>s=st:Option Nat→St→Prop) o.dst) sf.locs o (sp X.n sf1) (.chole 0 [(sp X.n sf1).ev ox,(sp X.n sf1).ev oy]) (sp X.n (sf1.put o.dst .any)):=by
  rw[bV]
  exact .ahole 0 ox oy t t2 hga hop
 have hr1':PRun P ops.toArray ρ (fun _ s=>s=st) sf.locs (ops.take κ) (sp X.n ⟨sf.regs,cH drop sf.locs⟩) ks1 (sp X.n sf1):=hr1.weakSS fun _ _ e=>by rw[e];assumption
 have hat1:∀(i:Nat) (x:PK),i<κ→∀kκ ks2,(ks1++kκ::ks2)[i]?=some x→x.real=true:=by
  intro i x hi kκ ks2 hx
  rw[List.getElem?_append_left (by omega)]at hx
  exact hv1 x (List.mem_of_getElem? hx)
 have hat2:∀(i:Nat) (x:PK),κ<i→∀kκ ks2,(ks1++kκ::ks2)[i]?=some x→ks2[i-κ-1]?=some x:=by
  intro i x hi kκ ks2 hx
  rw[List.getElem?_append_right (by omega),show i-ks1.length=(i-κ-1)+1 by omega]at hx
  simpa using hx
 have hatκ:∀kκ ks2,(ks1++kκ::ks2)[κ]?=some kκ:=fun kκ ks2=>by rw[List.getElem?_append_right (by omega)];simp[hl1]
 have hnm0:∀(i:Nat) (x:PK),(ks1++.chole 0 [(sp X.n sf1).ev ox,(sp X.n sf1).ev oy]::ksh)[i]?=some x→∀v s,x≠.mk v s:=by
  intro i x hx v s e
  subst e
  rcases Nat.lt_trichotomy i κ with hi|hi|hi
  ·have:=hat1 i _ hi _ _ hx;cases this
  ·subst hi;rw[hatκ]at hx;cases hx
  ·obtain⟨b,gi,_,hb⟩:=cE hoh _ _ (hat2 i _ hi _ _ hx)
   rcases hb with⟨_,e⟩|⟨_,hb⟩
   ·cases e
   ·cases hb
 have H0:Head P m E g w (sp X.n sf) st ρ (fun _ s=>s=st) a ops k k (ks1++.chole 0 [(sp X.n sf1).ev ox,(sp X.n sf1).ev oy]::ksh) (sp X.n ⟨sf.regs,cH drop sf.locs⟩) (sp X.n sfh):=by
  have hb0:=hk0 (.chole 0 [(sp X.n sf1).ev ox,(sp X.n sf1).ev oy]) ksh rfl hkb0
  refine⟨h,rfl,hlocs _ hb0,f9 hdir true,hcons,hdst',Nat.le_refl k,?_,fun hm=>(by rw[hmf]at hm;cases hm),(iF hb0).1⟩
  rw[hsplit]
  exact gS hr1' (.cons hcst (hrh.weakSS fun _ _ e=>by rw[e];assumption))
 -- behind it
 have hω:∀v s,Qc v s→∃ks2 sf2,PRun P ops.toArray ρ (fun _ s'=>s'=st∨s'=s) sf.locs ((ops.take k).drop (κ+1)) (sp X.n (sf1.put o.dst v)) ks2 (sp X.n sf2)∧(∀x∈ks2,x.real=true)∧fa (gm ops k κ post) ksh ks2∧St.sub ρ s∧finK drop (ni P X.F m (X.ms p).1 (X.ms p).2 tl Q s) (ks1++ks2) sf2:=by
  intro v s hQ
  obtain⟨hs,hp⟩:=hK v s hQ
  rw[i7]at hp
  obtain⟨ks2,sf2,hr2,hv2,hc2,hT⟩:=kA (SS:=fun s'=>s'=st∨s'=s) (locs0:=sf.locs) (fun s' e=>by rcases e with rfl|rfl<;>assumption) hpost hp
  exact⟨ks2,sf2,hr2,hv2,by simpa using hc2,hs,hT⟩
 let ksω:AV→St→List PK:=fun v s=>if hQ:Qc v s then ks1++.mk v s::(hω v s hQ).choose else []
 let frn:AV→St→Fr:=fun v s=>if hQ:Qc v s then sp X.n (hω v s hQ).choose_spec.choose else sp X.n sf
 have hksω:∀v s (hQ:Qc v s),ksω v s=ks1++.mk v s::(hω v s hQ).choose:=fun v s hQ=>dif_pos hQ
 have hfrn:∀v s (hQ:Qc v s),frn v s=sp X.n (hω v s hQ).choose_spec.choose:=fun v s hQ=>dif_pos hQ
 have hoi':∀oi,ops.toArray[κ]?=some oi→oi=o:=fun oi h=>by
  have h1:ops[κ]?=some oi:=by simpa using h
  rw[ho]at h1;cases h1;rfl
 refine lW (κ:=κ) (n:=k) ksω frn hmf hdir hκ H0 (hatκ _ _) (fun i x hx=>?_) (fun i x hx hne hnh=>?_) (fun i hx=>?_) (fun oi c hoi hoc hnb=>by rw[hoi' oi hoi,hop]at hoc;cases hoc;exact absurd rfl (hnb .append)) (fun oi hoi=>by rw[hoi' oi hoi,dD];exact apr_sound hop hak haz (by rw[hbx];exact hbl) (by rw[hyx];exact hyl) (fun s e=>by subst e;simp only[opd]at hx;split at hx<;>first|assumption|cases hx) (fun s e=>by subst e;simp only[opd]at hy;split at hy<;>first|assumption|cases hy) (by rw[hbx,hyx];exact hsrc)) (fun _=>false) (fun _=>rfl) (fun i e=>by cases e) (fun v s hQ=>?_) (fun v s hQ=>?_) (fun v s hQ i x hne hx=>?_) (fun v s hQ i x hne hx hnh=>?_) (fun v s hQ j s' cs hj=>?_) (fun v s hQ g' w' a' hok=>?_)
 ·have hnm:=hnm0 i x hx
  cases x<;>first|rfl|exact absurd rfl (hnm _ _)
 ·rcases Nat.lt_trichotomy i κ with hi|hi|hi
  ·exact hat1 i x hi _ _ hx
  ·exact absurd hi hne
  ·obtain⟨b,gi,_,hb⟩:=cE hoh _ x (hat2 i x hi _ _ hx)
   rcases hb with⟨_,e⟩|⟨_,hb⟩
   ·exact absurd e hnh
   ·exact hb
 ·rcases Nat.lt_trichotomy i κ with hi|hi|hi
  ·have:=hat1 i _ hi _ _ hx;cases this
  ·subst hi;rw[hatκ]at hx;cases hx
  ·obtain⟨b,gi,hfl,hb⟩:=cE hoh _ _ (hat2 i _ hi _ _ hx)
   rcases hb with⟨rfl,_⟩|⟨_,hb⟩
   ·have:=flags_at ops k κ post _ _ _ hfl
    rw[show κ+1+(i-κ-1)=i by omega]at this
    exact this.symm
   ·cases hb
 ·obtain⟨hr2,hv2,hc2,hs,hT⟩:=(hω v s hQ).choose_spec.choose_spec
  have hbω:=hk0 (.mk v s) _ rfl hT.1
  refine⟨fun _ s'=>s'=st∨s'=s,?_,fun _ _ _ _ _ _=>.inr rfl⟩
  rw[hksω v s hQ,hfrn v s hQ]
  refine⟨h,rfl,hlocs _ hbω,f9 hdir true,hcons,hdst',Nat.le_refl k,?_,fun hm=>(by rw[hmf]at hm;cases hm),(iF hbω).1⟩
  ·have hrr:=gS (hr1.weakSS (SS':=fun _ s'=>s'=st∨s'=s) fun _ s' e=>by rcases e with rfl|rfl<;>assumption) (.cons (k:=.mk v s) (by rw[bV];exact .mk v s hga) hr2)
   exact(congrArg (fun z=>PRun P ops.toArray ρ (fun _ s'=>s'=st∨s'=s) sf.locs z (sp X.n ⟨sf.regs,cH drop sf.locs⟩) (ks1++.mk v s::(hω v s hQ).choose) (sp X.n (hω v s hQ).choose_spec.choose)) hsplit).mpr hrr
 ·rw[hksω v s hQ];exact hatκ _ _
 ·rw[hksω v s hQ]at hx
  obtain⟨hr2,hv2,hc2,hs,hT⟩:=(hω v s hQ).choose_spec.choose_spec
  rcases Nat.lt_trichotomy i κ with hi|hi|hi
  ·exact hat1 i x hi _ _ hx
  ·exact absurd hi hne
  ·exact hv2 x (List.mem_of_getElem? (hat2 i x hi _ _ hx))
 ·rw[hksω v s hQ]
  obtain⟨hr2,hv2,hc2,hs,hT⟩:=(hω v s hQ).choose_spec.choose_spec
  rcases Nat.lt_trichotomy i κ with hi|hi|hi
  ·rw[List.getElem?_append_left (by omega)]at hx ⊢;exact hx
  ·exact absurd hi hne
  ·have hx2:=hat2 i x hi _ _ hx
   obtain⟨b,gi,hfl,hb⟩:=cE hoh _ x hx2
   rcases hb with⟨_,e⟩|⟨hbf,_⟩
   ·exact absurd e hnh
   ·have:=(gz hc2 _ b gi x hfl).1 hx2 hbf
    rw[List.getElem?_append_right (by omega),show i-ks1.length=(i-κ-1)+1 by omega]
    simpa using this
 ·rw[hksω v s hQ]at hj
  obtain⟨hr2,hv2,hc2,hs,hT⟩:=(hω v s hQ).choose_spec.choose_spec
  rcases Nat.lt_trichotomy j κ with hi|hi|hi
  ·rw[List.getElem?_append_left (by omega)]at hj ⊢;exact hj
  ·subst hi;rw[hatκ]at hj;cases hj
  ·have hx2:=hat2 j _ hi _ _ hj
   have hlen:=iZ hc2
   have hlt:j-κ-1<ksh.length:=by rw[hlen];exact(List.getElem?_eq_some_iff.1 hx2).1
   obtain⟨b,gi,hfl,_⟩:=cE hoh _ _ (List.getElem?_eq_getElem hlt)
   have:=(gz hc2 _ b gi _ hfl).2 hx2 ⟨_,_,rfl⟩
   rw[List.getElem?_append_right (by omega),show j-ks1.length=(j-κ-1)+1 by omega]
   simpa using this
 ·rw[hksω v s hQ,hfrn v s hQ,←dL,←dM,fin_in rfl]at hok
  obtain⟨hr2,hv2,hc2,hs,hT⟩:=(hω v s hQ).choose_spec.choose_spec
  exact cW (Q:=QQ) htl hok hT.2 fun sf st g w a hok hk=>hq _ _ _ _ _ _ (hok.mask _ _) hk
theorem flagsG_snd(l:List Oper)(gl:List GI):(qr X l gl).map (·.2)=gl:=by
 simp only[qr,List.map_map]
 have:((fun x:Bool×GI=>x.2)∘ fun p:GI×Nat=>((match l[p.2]? with|some o=>isGk X o|none=>false),p.1))=Prod.fst:=by funext p;rfl
 rw[this,List.zipIdx_map_fst]
theorem drawG_sound{rd:Option Nat}{p k:Nat}{ops:List Oper}{c:AC}(hc:qs P X p ops k=some c)(hdir:dirB ops.toArray k=true)(hcons:oZ ops.toArray k=true)(hdst:dstB X.n (ops.take k)=true)
  {Q:Exit→Sf→St→Prop} {QQ:Exit→Act→World→Prop} (h:Ok m E g w (sp X.n sf) st a) (hK:aC P X.F m c sf st Q) (hq:∀e sf st g w a,Ok m E g w (sp X.n sf) st a→Q e sf st→QQ e a w):fg rd P QQ ops.toArray a w:=by
 unfold qs at hc
 split at hc
 ·cases hc
 rename_i hob
 simp only[Bool.not_eq_false]at hob
 split at hc
 case h_2=>cases hc
 rename_i hl tl hhl htl
 cases hc
 obtain⟨hmf,SX,hS0,hsub,hK⟩:=hK
 generalize drops (ops.take k)=drop at hK
 obtain⟨ks,sf1,hrun,hre,hfl,hln,hK⟩:=pre_runX (locs0:=sf.locs) hsub hhl (flagsG_snd _ _) hK
 simp only[List.nil_append,Nat.zero_add]at hK
 obtain⟨hkb,hK⟩:=hK
 rw[ksB_loc]at hkb
 obtain⟨hko,hdrop⟩:=iF hkb
 have hkl:k≤ops.length:=by
  have hd:=hdir
  unfold dirB at hd
  simp only[Bool.and_eq_true,decide_eq_true_eq]at hd
  have:=hd.1.1.1.1
  simpa using this
 have hlk:ks.length=k:=by rw[hln,List.length_take];omega
 have H:Head P m E g w (sp X.n sf) st st (fun _ s=>∃j,SX j s) a ops k k ks (sp X.n ⟨sf.regs,cH drop sf.locs⟩) (sp X.n sf1):=by
  refine⟨h,rfl,fun s cs hc=>?_,f9 hdir true,hcons,fun o ho d hd=>?_,Nat.le_refl k,hrun.run,fun hm=>(by rw[hmf]at hm;cases hm),hko⟩
  ·obtain⟨h1,h2⟩:=fu _ _ _ _ hc
   exact⟨h1,fun i cs'=>hdrop s h2 i cs'⟩
  ·have:=List.all_eq_true.1 hdst o ho
   rw[hd]at this
   rw[dD]
   simpa using this
 have hat:=hrun.at (l:=ops.take k) (ks:=ks) (fr0:=sp X.n ⟨sf.regs,cH drop sf.locs⟩) [] [] rfl rfl rfl (by simp[phK]) (Tr.start _ _ _) H.ks.app H.cons
 have hgk:∀(i:Nat) (v:AV) (σ:St),ks[i]?=some (PK.mk v σ)→∃o,ops[i]?=some o∧isGk X o=true:=fun i v σ hi=>by
  obtain⟨gi,hg⟩:=hfl i v σ hi
  simp only[qr,List.getElem?_map,Option.map_eq_some_iff,List.getElem?_zipIdx]at hg
  obtain⟨q,⟨q',hq',rfl⟩,h2⟩:=hg
  simp only[Prod.mk.injEq,Nat.zero_add]at h2
  have hik:i<k:=by
   obtain⟨hlt,_⟩:=List.getElem?_eq_some_iff.1 hi
   omega
  have h3:=h2.1
  split at h3
  ·rename_i o ho
   rw[List.getElem?_take_of_lt hik]at ho
   exact⟨o,ho,h3⟩
  ·cases h3
 refine head_soundK hmf hdir H (fun i o ho=>by
  have:=hat i o ho
  simp only[List.length_nil,Nat.zero_add]at this
  exact this) hS0 hlk (fun i i' v σ v' σ' h1 h2 hlt=>?_) (fun i k hk=>hre k (List.mem_of_getElem? hk)) fun s g' w' a' h1 hok=>?_
 ·obtain⟨o,ho,hg⟩:=hgk i v σ h1
  obtain⟨o',ho',hg'⟩:=hgk i' v' σ' h2
  have hik:i'<k:=by
   obtain⟨hlt,_⟩:=List.getElem?_eq_some_iff.1 h2
   omega
  have:=List.all_eq_true.1 (List.all_eq_true.1 hob i' (List.mem_range.2 hik)) i (List.mem_range.2 hlt)
  simp only[ho,ho',hg,hg',Bool.and_self,Bool.not_true,Bool.false_or]at this
  exact this
 rw[←dL,←dM]at hok
 have hph:phK ks k=(ks.map mkN).sum:=by unfold phK;rw[List.take_of_length_le (by omega)]
 have hT:=hK s (hph▸ h1)
 rw[lj (fun t=>pc t ks),pf,pe]at hT
 exact cW (Q:=QQ) htl hok hT fun sf st g w a hok hk=>hq _ _ _ _ _ _ (hok.mask _ _) hk
def RegT(g:Gh)(regs:List (Nat×AV))(tmps:Array Value):Prop:=∀t,R g (getR regs t) (tmps.getD t undef)∧∀c∈(getR regs t).cells,c.noOwn
theorem getR_mem:∀(l:List (Nat×AV)) (t:Nat),getR l t= .any∨(t,getR l t)∈l
 | [],_=>.inl rfl
 | (q, v) :: r, t => by
   simp only[getR]
   split
   ·rename_i e;subst e;exact .inr (List.mem_cons_self ..)
   ·exact(getR_mem r t).imp id (List.mem_cons_of_mem _)
theorem RegT.of{g:Gh}{r:Loop}{rs:List (Nat×AV)}(h:RegsR g r rs):RegT g rs r.tmps:=fun t=>by
 rcases getR_mem rs t with e|e
 ·rw[e];exact⟨R.any _,fun c hc=>by simp[AV.cells]at hc;subst hc;trivial⟩
 ·exact h _ e
theorem pi{v:AV}{c:AV}(h:c∈v.dis.cells):c.noOwn:=by
 obtain⟨i,hi⟩:=List.mem_iff_getElem?.1 h
 exact bf v i c hi
theorem RegT.set{g:Gh}{regs:List (Nat×AV)}{tmps:Array Value}(h:RegT g regs tmps){p:Nat}(hp:p<tmps.size){v:AV}{u:Value}(hr:R g v u):RegT g (setR regs p v.dis) (tmps.setIfInBounds p u):=fun t=>by
 rw[iw]
 by_cases e:p=t
 ·subst e
  rw[if_pos rfl]
  refine⟨?_,fun c hc=>pi hc⟩
  have:(tmps.setIfInBounds p u).getD p undef=u:=by simp[hp]
  rw[this];exact hr.dis
 ·rw[if_neg e]
  have:(tmps.setIfInBounds p u).getD t undef=tmps.getD t undef:=by simp[Array.getElem?_setIfInBounds_ne e]
  rw[this];exact h t
theorem RegT.sets{g:Gh}:∀{ps:List Nat} {vs:List AV} {us:List Value} {regs:List (Nat×AV)} {tmps:Array Value},vs.length=us.length→(∀(i:Nat) (x:AV) (u:Value),vs[i]?=some x→us[i]?=some u→R g x u)→RegT g regs tmps→(∀p∈ps,p<tmps.size) →
  RegT g (g9 regs ps vs) ((ps.zip us).foldl (fun(q:Array Value) p=>q.setIfInBounds p.1 p.2) tmps)∧((ps.zip us).foldl (fun(q:Array Value) p=>q.setIfInBounds p.1 p.2) tmps).size=tmps.size
 | [],vs,us,regs,tmps,hl,hr,h,hp=>by simp only[g9,List.zip_nil_left,List.foldl_nil];exact⟨h,trivial⟩
 |p::ps,[],[],regs,tmps,hl,hr,h,hp=>by simp only[g9,List.zip_nil_right,List.foldl_nil];exact⟨h,trivial⟩
 |p::ps,v::vs,[],regs,tmps,hl,hr,h,hp=>by cases hl
 |p::ps,[],u::us,regs,tmps,hl,hr,h,hp=>by cases hl
 | p :: ps, v :: vs, u :: us, regs, tmps, hl, hr, h, hp => by
   simp only[g9,List.zip_cons_cons,List.foldl_cons]
   have h1:=h.set (hp p (by simp)) (hr 0 v u rfl rfl)
   obtain⟨q1,q2⟩:=RegT.sets (ps:=ps) (vs:=vs) (us:=us) (by simpa using hl) (fun i x u hx hu=>hr (i+1) x u (by simpa using hx) (by simpa using hu)) h1 (fun p hm=>by rw[Array.size_setIfInBounds];exact hp p (by simp[hm]))
   exact⟨q1,by rw[q2,Array.size_setIfInBounds]⟩
theorem round_start{D n:Nat}{vs:List AV}{us:Array Value}{r:Loop}{rs:List (Nat×AV)}{ps:List Nat}(hg:Good g w)(hb:BoxR g w st)(ha:gy g vs us)(hr:RegsR g r rs)(hn:r.tmps.size=n)(hps:r.params.toList=ps)(hp:∀p∈ps,p<n) :
  Ok false ⟨D,0,g,w,st,w.heap.size⟩ g w (sp n ⟨g9 rs ps vs,[]⟩) st {tmps:=(r.params.zip us).foldl (fun tmps (t,a)=>tmps.setIfInBounds t a) r.tmps,defers:=[]}:=by
 obtain⟨q1,q2⟩:=RegT.sets (ps:=ps) (vs:=vs) (us:=us.toList) (regs:=rs) (tmps:=r.tmps) (by rw[←ha.1];simp) (fun i x u hx hu=>ha.2 i x u hx (by simpa using hu)) (RegT.of hr) (fun p hm=>by rw[hn];exact hp p hm)
 have e:(r.params.zip us).foldl (fun tmps (t,a)=>tmps.setIfInBounds t a) r.tmps=(ps.zip us.toList).foldl (fun(q:Array Value) p=>q.setIfInBounds p.1 p.2) r.tmps:=by
  rw[←Array.foldl_toList,Array.toList_zip,hps]
 rw[e]
 refine⟨by rw[q2,hn,dD],fun s v u hv hu=>?_,⟨hg,fun s cs hc=>by simp[sp,look]at hc,hb⟩,DefsR.nil _,Mv.refl hg,fun e=>(by cases e),Nat.zero_le _,fun _=>rfl⟩
 rw[dj]at hv
 split at hv
 case isFalse=>cases hv
 cases hv
 obtain⟨r1,r2⟩:=q1 s
 have hu':((ps.zip us.toList).foldl (fun(q:Array Value) p=>q.setIfInBounds p.1 p.2) r.tmps).getD s undef=u:=by simp[hu]
 rw[hu']at r1
 exact⟨RS.of r1,fun i c x hc _=>Own.of_no (r2 c (List.mem_of_getElem? hc))⟩
theorem regsB_R{n:Nat}(h:Ok false E g w (sp n sf) st a){r:Loop}(hr:r.tmps=a.tmps):∀{lb:List Nat},(∀t∈lb,t<n)→RegsR g r (gc lb sf)
 | [],_=>fun p hp=>by cases hp
 | t :: lb, hl => fun p hp => by
   rcases List.mem_cons.1 hp with rfl|hp
   ·have hs:=(ea h t).1
    rw[dk (hl t (by simp))]at hs
    simp only[AV.keep,hr]
    split
    ·rename_i hn
     exact⟨by have:=(jp hn hs).dis;simpa [Act.eval]using this,fun c hc=>pi hc⟩
    ·exact⟨R.any _,fun c hc=>by simp[AV.cells]at hc;subst hc;trivial⟩
   ·exact regsB_R h hr (fun t ht=>hl t (by simp[ht])) p hp
theorem Ext.mvE{E E':Ent}(h:Ext false E E'){g:Gh}{w:World}(hm:Mv false E'.N E'.d E'.g E'.w g w):Mv false E.N E.d E.g E.w g w:=by
 rcases h with rfl|⟨_,h2,h3,_,_,h5⟩
 ·exact hm
 ·rw[h2,h3]at hm;exact h5 _ _ hm
def WalkS(P:Program)(X:Cx)(m:Bool)(c:Code)(ac:AC):Prop :=
 ∀{rd:Option Nat} {E:Ent} {sf:Sf} {st:St} {g:Gh} {w:World} {a:Act} {Q:Exit→Sf→St→Prop} {QQ:Exit→Act→World→Prop},((rd=none∧1≤E.d∧E.lo≤E.w.heap.size)∨cS c=true) →
   Ok m E g w (sp X.n sf) st a→aC P X.F m ac sf st Q→(∀E' e sf st g w a,Ext m E E'→Ok m E' g w (sp X.n sf) st a→Q e sf st→QQ e a w)→c.wpIn (FW rd) 0 P QQ a w
theorem ycalls_of{r:Loop}{A B:AC}{ps:List Nat}{id:Nat}{rs:List (Nat×AV)}(hA:WalkS P X false r.assign A)(hB:WalkS P X false r.body B)(hna:cS r.assign=true)(hnb:cS r.body=true)(hst:r.state= .ready)(hpe:r.pending=none)
  (hn:r.tmps.size=X.n) (hps:r.params.toList=ps) (hp:∀p∈ps,p<X.n) {vs:List AV} {st:St} {Q:Bool→St→Prop} (h:qq (aC P X.F false A) (aC P X.F false B) ps id r rs vs st Q):gP P id vs st Q:=by
 obtain⟨hlp,hlen,hCA⟩:=h
 intro D g w us b hg hb ha hid
 obtain⟨b',h1,h2,h3,h4⟩:=hb.lp hlp
 have:b'=b:=Option.some.inj (h1.symm.trans hid)
 subst this
 have hsz:us.size=r.params.size:=by
  rw[ha.1,hlen,←hps];simp
 refine⟨_,_,_,_,run_yield h3 hsz,roundIn_of_wpIn trivial ?_⟩
 have h0:=round_start (D:=D) hg hb ha h4 hn hps hp
 show r.assign.wpIn (FW (some b')) 0 P _ _ _
 refine hA (.inr hna) h0 hCA fun E1 e sf1 st1 g1 w1 a1 hx1 hok1 hq=>?_
 cases e with
 | normal =>
   obtain⟨hlp1,hCB⟩:=hq
   have hb1:g1.bx id=some b':=(hx1.mvE hok1.mv).bx _ _ hid
   obtain⟨b2,e1,_,e3,_⟩:=hok1.ctx.box.lp hlp1
   have:b2=b':=Option.some.inj (e1.symm.trans hb1)
   subst this
   refine⟨_,run_beginRound e3 hst,?_⟩
   have hok2:=hok1.setLp hlp1 hb1 (r':=dS r) rfl
   show r.body.wpIn (FW (some b2)) 0 P _ _ _
   refine hB (.inr hnb) hok2 hCB fun E2 e sf2 st2 g2 w2 a2 hx2 hok3 hq=>?_
   have hx:=hx1.trans hx2
   have hb2:g2.bx id=some b2:=(hx.mvE hok3.mv).bx _ _ hid
   have fin:∀(jump:Option Code) (r':Loop),st2.isLp id (dS r) rs→r'= {dS r with state:=if jump.isNone then .ready else .done,pending:=jump}→Q jump.isNone (st2.setL id r' rs) →
     ∃v w',(Instr.endRound b2 jump).run P w2= .ok v w'∧∃t st' g',Ending.returned v= .returned (.bool t)∧Q t st'∧Mv false 0 D g w g' w'∧BoxR g' w' st':=by
    intro jump r' hl hr hQ
    obtain⟨b3,f1,_,f3,_⟩:=hok3.ctx.box.lp hl
    have:b3=b2:=Option.some.inj (f1.symm.trans hb2)
    subst this
    have hok4:=hok3.setLp hl hb2 (r':=r') (by rw[hr])
    rw[hr]at hok4 hQ
    refine⟨_,_,run_endRound jump f3,jump.isNone,_,g2,rfl,hQ,hx.mvE hok4.mv,hok4.ctx.box⟩
   cases e with
   |normal=>exact fin none r hq.1 (by cases r;simp only[dS]at *;subst hst;subst hpe;rfl) hq.2
   |ret=>exact fin (some .ret) _ hq.1 rfl hq.2
   |exit k=>exact fin (some (.exit k)) _ hq.1 rfl hq.2
   |goto l=>exact hq.elim
   |panic ch=>exact hq.elim
   |outgrown=>exact hq.elim
 |exit k=>exact hq.elim
 |goto l=>exact hq.elim
 |ret=>exact hq.elim
 |panic ch=>exact hq.elim
 |outgrown=>exact hq.elim
theorem range_sound{x:Operand}{x':Opd}{pp:Array Tmp}{ass body:Code}{A B:AC}{lv ll lb:List Nat}{Q:Exit→Sf→St→Prop}{QQ:Exit→Act→World→Prop}(hA:WalkS P X false ass A)(hB:WalkS P X false body B)(hna:cS ass=true)(hnb:cS body=true)
  (hx:opd X.gOf X.F X.n x=some x') (hp:∀p∈pp.toList,p<X.n) (hlb:∀p∈lb,p<X.n) (hd:1≤E.d) (hl0:E.lo≤E.w.heap.size) (h:Ok false E g w (sp X.n sf) st a) (hK:lm P (aC P X.F false A) (aC P X.F false B) pp.toList lb lv ll (sf.ev X.F x') sf st Q)
  (hq:∀E' e sf st g w a,Ext false E E'→Ok false E' g w (sp X.n sf) st a→Q e sf st→QQ e a w):(Code.rangeFunc x pp ass body).wpIn (FW none) 0 P QQ a w:=by
 unfold lm at hK
 split at hK
 case h_2=>exact hK.elim
 rename_i q fs cs hfv
 obtain⟨hent,hK⟩:=hK
 have hev:=h.ev x
 rw[ap hx sf,hfv]at hev
 have hfn:∃us ws,a.eval x= .func (.func q) us ws∧us.size=fs.length∧ws.size=cs.length∧(∀(i:Nat) (y:AV) (u:Value),fs[i]?=some y→us[i]?=some u→R g y u)∧(∀(i:Nat) (y:AV) (u:Value),cs[i]?=some y→ws[i]?=some u→R g y u):=by
  generalize a.eval x=u at hev
  cases hev with
  |fn _ _ _ us ws hu hv h1 h2=>exact⟨us,ws,rfl,hu,hv,h1,h2⟩
 obtain⟨us,ws,hax,hus,hws,hu2,hw2⟩:=hfn
 refine wpIn_rangeFunc fun fn _=>?_
 have hg:=h.ctx.good
 let r0:Loop:={state:=.ready,pending:=none,fn,tmps:=a.tmps,params:=pp,assign:=ass,body,defers:=w.heap.size}
 have hsz:r0.tmps.size=X.n:=by show a.tmps.size=X.n;rw[h.size,dD]
 obtain⟨Qc,hC,hbehind⟩:=hK r0 (fun vs st' Q' hr=>ycalls_of (r:=r0) hA hB hna hnb rfl rfl hsz rfl hp hr)
 -- the two blocks
 have n1:=cV w (.deferred (some []))
 have hok1:=h.newC n1 (.loc (E.d-1) 0)
 have n2:=cV (w.alloc (.deferred (some []))) (.loop r0)
 have hok2:=hok1.newLp (r:=r0) (rs:=gc lb sf) n2 (regsB_R hok1 rfl hlb)
 have hs1:(w.alloc (.deferred (some []))).heap.size=w.heap.size+1:=n1.size
 rw[hs1]at hok2
 have hcls:((g.newC w.heap.size (.loc (E.d-1) 0)).newB (w.heap.size+1) st.boxes.length).cls w.heap.size=some (.loc (E.d-1) 0):=by simp[Gh.newB,Gh.newC]
 have hbx:((g.newC w.heap.size (.loc (E.d-1) 0)).newB (w.heap.size+1) st.boxes.length).bx st.boxes.length=some (w.heap.size+1):=by simp[Gh.newB]
 have hheap:((w.alloc (.deferred (some []))).alloc (.loop r0)).heap[w.heap.size]?=some (.deferred (some [])):=by
  rw[n2.old _ (by rw[hs1];exact Nat.lt_succ_self _)];exact n1.new
 have hdef:=hok2.defs hcls (by omega) hheap (Nat.le_trans hl0 h.mv.size) h.mv.size
 have hext:=hok2.ext
 have hok3:=hok2.anew hdef
 generalize hW:(w.alloc (.deferred (some []))).alloc (.loop r0)=W at hok3 hext hheap hdef hok2 n2
 generalize hG:(g.newC w.heap.size (.loc (E.d-1) 0)).newB (w.heap.size+1) st.boxes.length=G at hok3 hext hcls hbx hdef hok2
 have hgle:GhLe g G:=by rw[←hG];exact⟨fun _ _ _ e=>e,fun i b e=>by
  have hid:=h.ctx.box.1 st.boxes.length (Nat.le_refl _)
  have:¬i=st.boxes.length:=fun q=>by subst q;rw[hid]at e;cases e
  simp[Gh.newB,Gh.newC,this,e]⟩
 have hargs:gy G (fs++[.yld st.boxes.length]++cs) (us++#[.func (.yield (w.heap.size+1)) #[] #[]]++ws):=by
  refine⟨by simp[hus,hws];omega,fun i y u hy hu=>?_⟩
  by_cases c1:i<fs.length
  ·rw[List.append_assoc,List.getElem?_append_left c1]at hy
   rw[Array.append_assoc,Array.getElem?_append_left (by omega)]at hu
   exact(hu2 i y u hy hu).mono hgle
  ·by_cases c2:i<fs.length+1
   ·have:i=fs.length:=by omega
    subst this
    rw[List.append_assoc,List.getElem?_append_right (Nat.le_refl _)]at hy
    rw[Array.getElem?_append_left (by simp[hus]),Array.getElem?_append_right (by omega)]at hu
    simp[hus]at hy hu
    subst hy;subst hu
    exact .yld _ _ hbx
   ·rw[List.getElem?_append_right (by simp;omega)]at hy
    rw[Array.getElem?_append_right (by simp;omega)]at hu
    simp only[List.length_append,List.length_cons,List.length_nil]at hy
    simp only[Array.size_append,List.size_toArray,List.length_cons,List.length_nil,hus]at hu
    exact(hw2 _ y u hy hu).mono hgle
 refine⟨w.heap.size+1,[{target:=.collected w.heap.size,args:=#[]}],W,{target:=.fn (.func q) ws,args:=us++#[.func (.yield (w.heap.size+1)) #[] #[]]},W,q,us++#[.func (.yield (w.heap.size+1)) #[] #[]]++ws,W,?_,?_,fun _ _=>trivial,?_,fun e=>(by cases e),jF.2 ?_⟩
 ·rw[←hW];exact run_enterLoop_outer _ _ _ _ _
 ·have e:a.eval (.const (.func (.yield (w.heap.size+1)) #[] #[]))= .func (.yield (w.heap.size+1)) #[] #[]:=rfl
  simp[resolve,rangeCall,hax,Deferred.ofValue,e]
 ·unfold cr at hent
  split at hent
  ·rename_i fn' hfn'
   simp only[Bool.and_eq_true,bne_iff_ne,ne_eq]at hent
   have hb:fn'.body≠none:=by intro e;simp[e]at hent
   simp[invoke,callFunc,hfn',hent.2,hb]
  ·cases hent
 ·refine(hC (E.d+1) G W _ (fun k=>Loc.slot E.d 0 k) hok3.ctx.good hok3.ctx.box hargs).mono fun e w2 ⟨u,v,st',g2,he,hQ,hmv,hb2,_,_⟩=>?_
  subst he
  have hok4:=hok3.call hmv hb2
  have hbx2:g2.bx st.boxes.length=some (w.heap.size+1):=hmv.bx _ _ hbx
  have fin:∀r':Loop,st'.isLp st.boxes.length r' (gc lb sf)→r'.state≠.busy→∃W4,(Instr.endLoop (w.heap.size+1)).run P w2= .ok r'.pending W4∧Ok false ⟨E.d,E.N,G,W,st.push (.lp r0 (gc lb sf)),E.lo⟩ g2 W4 (sp X.n sf) (st'.drop st.boxes.length) {a with defers:={target:=.collected w.heap.size,args:=#[]}::a.defers}:=by
   intro r' hl hbz
   obtain⟨b3,f1,_,f3,_⟩:=hok4.ctx.box.lp hl
   have:b3=w.heap.size+1:=Option.some.inj (f1.symm.trans hbx2)
   subst this
   exact⟨_,run_endLoop f3 hbz,hok4.dropLp hl hbx2 _⟩
  show ∃jump w4,_
  rcases hbehind v st' hQ with⟨hl,hQn⟩|⟨hl,hQn⟩|⟨k,hl,hQn⟩
  ·obtain⟨W4,h1,h2⟩:=fin r0 hl (by simp[r0])
   exact⟨none,W4,h1,hq _ _ _ _ _ _ _ hext (h2.mask _ _) hQn⟩
  ·obtain⟨W4,h1,h2⟩:=fin _ hl (by simp[lk])
   exact⟨some .ret,W4,h1,wpIn_ret (hq _ _ _ _ _ _ _ hext h2 hQn)⟩
  ·obtain⟨W4,h1,h2⟩:=fin _ hl (by simp[lk])
   exact⟨some (.exit k),W4,h1,wpIn_exit (hq _ _ _ _ _ _ _ hext (h2.mask _ _) hQn)⟩
def noPan(Q:Exit→Sf→St→Prop):Exit→Sf→St→Prop
 | .panic _,_,_=>False
 |e,sf,st=>Q e sf st
def noPanic(Q:Exit→Act→World→Prop):Exit→Act→World→Prop
 | .panic _,_,_=>False
 |e,a,w=>Q e a w
theorem compDr_np{p:Nat}{ops:List Oper}{c:AC}(hc:nn P X p ops=some c){Q:Exit→Sf→St→Prop}(hK:aC P X.F m c sf st Q):aC P X.F m c sf st (noPan Q):=by
 have plain:∀k,nj P X p ops k=some c→aC P X.F m c sf st (noPan Q):=fun k hc=>by
  unfold nj at hc
  split at hc
  ·cases hc;exact hK
  ·cases hc;exact hK
 unfold nn at hc
 split at hc
 ·cases hc;exact hK
 split at hc
 case isFalse=>cases hc;exact hK
 split at hc
 ·split at hc
  ·rename_i c hcd
   cases hc
   unfold qs at hcd
   repeat' (split at hcd)
   all_goals first|cases hcd|skip
   all_goals exact hK
  ·cases hc;exact hK
 split at hc
 ·split at hc
  ·split at hc
   ·rename_i c hcd
    cases hc
    unfold compDC at hcd
    repeat' (split at hcd)
    all_goals first|cases hcd|skip
    all_goals exact hK
   ·cases hc;exact hK
  split at hc
  ·rename_i c hcd
   cases hc
   unfold qt at hcd
   repeat' (split at hcd)
   all_goals first|cases hcd|skip
   all_goals exact hK
  ·cases hc;exact hK
 split at hc
 ·split at hc
  ·rename_i c hcd
   cases hc
   unfold qu at hcd
   repeat' (split at hcd)
   all_goals first|cases hcd|skip
   all_goals exact hK
  ·cases hc;exact hK
 exact plain _ hc
theorem drawP_sound{rd:Option Nat}{p k:Nat}{ops:List Oper}{c:AC}(hc:nj P X p ops k=some c)(hdir:dirL true ops.toArray k=true)(hcons:oZ ops.toArray k=true)(hdst:dstB X.n (ops.take k)=true)
  {Q:Exit→Sf→St→Prop} {QQ:Exit→Act→World→Prop} (hQp:∀c a w,¬QQ (.panic c) a w) (h:Ok m E g w (sp X.n sf) st a) (hK:aC P X.F m c sf st Q)
  (hq:∀e sf st g w a,Ok m E g w (sp X.n sf) st a→Q e sf st→QQ e a w):fg rd P QQ ops.toArray a w:=by
 unfold nj at hc
 split at hc
 case h_2=>cases hc;exact hK.elim
 rename_i hl tl hhl htl
 cases hc
 simp only[aC]at hK
 obtain⟨ks,sf1,hrun,hre,hks,hK⟩:=iA hhl hK
 simp only[List.nil_append]at hks hK
 obtain⟨hko,hdrop⟩:=iF hks
 have H:Head P m E g w (sp X.n sf) st st (fun _ s=>s=st) a ops k k ks (sp X.n ⟨sf.regs,cH (drops (ops.take k)) sf.locs⟩) (sp X.n sf1):=by
  refine⟨h,rfl,fun s cs hc=>?_,hdir,hcons,fun o ho d hd=>?_,Nat.le_refl k,hrun,fun _ j v s hj=>absurd (hre _ (List.mem_of_getElem? hj)) (by simp[PK.real]),hko⟩
  ·obtain⟨h1,h2⟩:=fu _ _ _ _ hc
   exact⟨h1,fun i cs'=>hdrop s h2 i cs'⟩
  ·have:=List.all_eq_true.1 hdst o ho
   rw[hd]at this
   rw[dD]
   simpa using this
 refine head_sound H (fun _=>rfl) (fun j k hj=>hre k (List.mem_of_getElem? hj)) hQp fun g' w' a' hok=>?_
 rw[←dL,←dM,eo hre]at hok
 exact cW (Q:=QQ) htl hok hK fun sf st g w a hok hk=>hq _ _ _ _ _ _ (hok.mask _ _) hk
theorem regR_sound{rd:Option Nat}{p:Nat}{ops:List Oper}{c:AC}(hc:nn P X p ops=some c){Q:Exit→Sf→St→Prop}{QQ:Exit→Act→World→Prop}(hQp:∀c a w,¬QQ (.panic c) a w)(h:Ok m E g w (sp X.n sf) st a)(hK:aC P X.F m c sf st Q)
  (hq:∀e sf st g w a,Ok m E g w (sp X.n sf) st a→Q e sf st→QQ e a w):fg rd P QQ ops.toArray a w:=by
 unfold nn at hc
 split at hc
 ·cases hc;exact hK.elim
 rename_i k hk
 split at hc
 case isFalse=>cases hc;exact hK.elim
 rename_i hB
 simp only[Bool.and_eq_true]at hB
 split at hc
 ·split at hc
  ·rename_i c hcd
   cases hc
   exact drawG_sound hcd hB.1.1 hB.1.2 hB.2 h hK hq
  ·cases hc;exact hK.elim
 split at hc
 ·rename_i κ hκ
  split at hc
  ·rename_i hch
   split at hc
   ·rename_i c hcd
    cases hc
    cases hcd
   ·cases hc;exact hK.elim
  split at hc
  ·rename_i c hcd
   cases hc
   exact drawM_sound hcd hB.1.1 hB.1.2 hB.2 h hK hq
  ·cases hc;exact hK.elim
 split at hc
 ·split at hc
  ·rename_i c hcd
   cases hc
   exact drawA_sound hcd hB.1.1 hB.1.2 hB.2 h hK hq
  ·cases hc;exact hK.elim
 exact drawP_sound hc (f9 hB.1.1 true) hB.1.2 hB.2 hQp h hK hq
theorem aC_sound(hmix:P.follows .mixedOrders=true)(c:Code):∀(p:Nat) (ac:AC),dh P X p c=some ac→WalkS P X m c ac:=by
 induction c with
 | skip =>
   intro p ac hc rd E sf st g w a Q QQ hrd h hK hq
   simp only[dh]at hc;cases hc
   exact wpIn_skip (hq _ _ _ _ _ _ _ (.refl _ _) h hK)
 | label l =>
   intro p ac hc rd E sf st g w a Q QQ hrd h hK hq
   simp only[dh]at hc;cases hc
   exact wpIn_label (hq _ _ _ _ _ _ _ (.refl _ _) h hK)
 | region id ops draw =>
   intro p ac hc rd E sf st g w a Q QQ hrd h hK hq
   have hq:=fun e sf st g w a=>hq E e sf st g w a (.refl _ _)
   cases draw with
   | false =>
     simp only[dh]at hc
     obtain⟨gl,hgl,rfl⟩:=map_some hc
     refine wpIn_region_list ?_
     have:=cW (rd:=rd) (Q:=QQ) hgl h hK fun sf st g w a hok hk=>hq _ _ _ _ _ _ (hok.mask _ _) hk
     simpa using this
   | true =>
     simp only[dh]at hc
     have hr:=regR_sound (rd:=rd) (QQ:=noPanic QQ) hc (fun c a w hp=>hp) h (compDr_np hc hK) fun e sf st g w a hok hk=>(by cases e<;>first|exact hk.elim|exact hq _ _ _ _ _ _ hok hk)
     have h2:=hr
     have hto:ops.toList.toArray=ops:=by simp
     rw[hto]at h2
     exact wpIn_mono (h2.wp hmix) fun e a w hp=>(by cases e<;>first|exact hp.elim|exact hp)
 | seq x y ihx ihy =>
   intro p ac hc rd E sf st g w a Q QQ hrd h hK hq
   simp only[dh]at hc
   split at hc
   case h_2=>cases hc
   rename_i ax ay hx hy
   cases hc
   simp only[cS,Bool.and_eq_true]at hrd
   refine wpIn_seq (ihx _ ax hx (hrd.imp id (·.1)) h hK fun E' e sf st g w a hE hok hk=>?_)
   cases e with
   |normal=>exact ihy _ ay hy (hrd.imp (fun q=>⟨q.1,by rw[hE.dd];exact q.2.1,by rw[hE.lolo];exact Nat.le_trans q.2.2 hE.szw⟩) (·.2)) hok hk fun E'' e sf st g w a hE'=>hq _ _ _ _ _ _ _ (hE.trans hE')
   |_=>exact hq _ _ _ _ _ _ _ hE hok hk
 | cond c x y ihx ihy =>
   intro p ac hc rd E sf st g w a Q QQ hrd h hK hq
   simp only[dh]at hc
   split at hc
   case h_2=>cases hc
   rename_i c' ax ay hcc hx hy
   cases hc
   simp only[cS,Bool.and_eq_true]at hrd
   simp only[aC,iE]at hK
   split at hK
   case h_2=>exact hK.elim
   rename_i b hb
   have hev:=h.ev c
   rw[ap hcc sf,hb]at hev
   have hval:=hev.lit_inv.1
   have hset:Ok m E g w (sp X.n (c'.setB sf b)) st a:=by
    cases c' with
    | r t =>
      simp only[Opd.setB]
      have hbt:sf.reg t= .lit (.bool b):=hb
      rw[←hbt,kw];exact h
    |c v=>exact h
    |f q=>exact h
   refine wpIn_cond hval ?_
   cases b with
   |true=>exact ihx _ ax hx (hrd.imp id (·.1)) hset (hK.1 rfl) hq
   |false=>exact ihy _ ay hy (hrd.imp id (·.2)) hset (hK.2 rfl) hq
 | block id b ih =>
   intro p ac hc rd E sf st g w a Q QQ hrd h hK hq
   simp only[dh]at hc
   obtain⟨ab,hb,rfl⟩:=map_some hc
   refine wpIn_block (ih _ ab hb hrd h hK fun E' e sf st g w a hE hok hk=>?_)
   cases e with
   | exit id' =>
     simp only[gn]at hk
     simp only[Exit.inBlock]
     split
     ·rename_i e;rw[if_pos e]at hk;exact hq _ _ _ _ _ _ _ hE hok hk
     ·rename_i e;rw[if_neg e]at hk;exact hq _ _ _ _ _ _ _ hE hok hk
   |_=>exact hq _ _ _ _ _ _ _ hE hok hk
 | loop b ih =>
   intro p ac hc rd E sf st g w a Q QQ hrd h hK hq
   simp only[dh]at hc
   obtain⟨ab,hb,rfl⟩:=map_some hc
   obtain⟨I,⟨k0,sf0,hle0,hI0⟩,hround⟩:=hK
   refine wpIn_loop_ghost (fun k a w=>∃E' sf st g,Ext m E E'∧Ok m E' g w (sp X.n sf) st a∧I k sf st) k0 ⟨E,_,_,_,.refl _ _,(h.mask _ _).weakS hle0,hI0⟩ fun k a w ⟨E',sf,st,g,hE,hok,hI⟩=>?_
   refine ih _ ab hb (hrd.imp (fun q=>⟨q.1,by rw[hE.dd];exact q.2.1,by rw[hE.lolo];exact Nat.le_trans q.2.2 hE.szw⟩) id) hok (hround k sf st hI) fun E'' e sf st g w a hE' hok hk=>?_
   cases e with
   |normal=>obtain⟨k',hlt,sf',hle',hI'⟩:=hk;exact⟨k',hlt,_,_,_,_,hE.trans hE',(hok.mask _ _).weakS hle',hI'⟩
   |_=>exact hq _ _ _ _ _ _ _ (hE.trans hE') hok hk
 | exit id =>
   intro p ac hc rd E sf st g w a Q QQ hrd h hK hq
   simp only[dh]at hc;cases hc
   exact wpIn_exit (hq _ _ _ _ _ _ _ (.refl _ _) (h.mask _ _) hK)
 | scope b ih =>
   intro p ac hc rd E sf st g w a Q QQ hrd h hK hq
   simp only[dh]at hc
   obtain⟨ab,hb,rfl⟩:=map_some hc
   refine jn (ih _ ab hb hrd h hK fun E' e sf st g w a hE hok hk=>?_)
   cases e with
   |goto l=>exact hk.elim
   |_=>exact hq _ _ _ _ _ _ _ hE hok hk
 | ret =>
   intro p ac hc rd E sf st g w a Q QQ hrd h hK hq
   simp only[dh]at hc;cases hc
   exact wpIn_ret (hq _ _ _ _ _ _ _ (.refl _ _) h hK)
 |goto l=>intro p ac hc rd E sf st g w a Q QQ hrd h hK hq;simp only[dh]at hc;cases hc;exact hK.elim
 | rangeFunc f ps x y ihx ihy =>
   intro p ac hc rd E sf st g w a Q QQ hrd h hK hq
   simp only[dh]at hc
   split at hc
   case h_2=>cases hc;exact hK.elim
   rename_i f' ax ay hf hx hy
   split at hc
   case isFalse=>cases hc;exact hK.elim
   rename_i hB
   cases hc
   simp only[Bool.and_eq_true]at hB
   obtain⟨⟨⟨hB1,hB2⟩,hB3⟩,hB4⟩:=hB
   obtain⟨hm,hK⟩:=hK
   subst hm
   rcases hrd with⟨rfl,hd,hl⟩|hrd
   ·exact range_sound (ihx _ _ hx) (ihy _ _ hy) hB1 hB2 hf (fun t ht=>by simpa using List.all_eq_true.1 hB3 t ht) (fun t ht=>by simpa using List.all_eq_true.1 hB4 t ht) hd hl h hK hq
   ·cases hrd
 |refuse s=>intro p ac hc rd E sf st g w a Q QQ hrd h hK hq;simp only[dh]at hc;cases hc;exact hK.elim
end
end Go.Fx
namespace Go.Fx
open Go Go.RowKit Go.Lib
inductive RI where
 |tmp (t:Nat)
 |cell (t:Nat) (k:Option Nat)
structure AFun where
 n:Nat
 rs:List RI
 body:AC
def resI(sf:Sf)(st:St):RI→Res AV
 | .tmp t=>.ok (sf.reg t).dis
 | .cell t k=>(aa sf st (sf.reg t)).bind fun cs=>(kj k cs).bind fun v=>.ok v.dis
def resL(sf:Sf)(st:St):List RI→Res (List AV)
 | []=>.ok []
 |r::rs=>(resI sf st r).bind fun v=>(resL sf st rs).bind fun vs=>.ok (v::vs)
def retI(rs:List RI)(sf:Sf)(st:St):Res AV :=
 match rs with
 | [.tmp t]=>.ok (sf.reg t)
 | [r]=>resI sf st r
 |rs=>(resL sf st rs).bind fun vs=>if vs.all AV.noL=true then .ok (.tup vs)else .fail
def retQ(rs:List RI)(K:AV→St→Prop):Exit→Sf→St→Prop
 | .normal,sf,st=>(retI rs sf st).wp fun v=>v.noL=true∧K v st
 | .ret,sf,st=>(retI rs sf st).wp fun v=>v.noL=true∧K v st
 |_,_,_=>False
def kC:Nat→List AV→List (Nat×AV)
 |_,[]=>[]
 |i,v::r=>(i,v.dis)::kC (i+1) r
def aFun(P:Program)(F:Nat→FuncId)(m:Bool)(fn:AFun)(vs:List AV)(st:St)(K:AV→St→Prop):Prop :=
 aC P F m fn.body ⟨kC 0 vs,[]⟩ st (retQ fn.rs K)
section
variable (P:Program) (X:Cx)
def gA(n:Nat):List ResultVar→Option (List RI)
 | []=>some []
 | .tmp t::r=>if t<n then(gA n r).map (.tmp t::·)else none
 | .cell t T::r=>if t<n then(match lX P T,gA n r with
   |some k,some rs=>some (.cell t k::rs)
   |_,_=>none)else none
def iG(f:FuncId):Option AFun :=
 match P.funcs[f]? with
 | some fn => match fn.body with
   |some c=>if X.n=fn.ntmps∧fn.params.size+fn.nfree≤fn.ntmps then
     match dh P X 1 c,gA P X.n fn.results.toList with
     |some b,some rs=>some ⟨X.n,rs,b⟩
     |_,_=>none
    else none
   |none=>none
 |none=>none
end
section
variable {P:Program} {X:Cx} {m:Bool} {E:Ent} {g:Gh} {w:World} {sf:Sf} {st:St} {a:Act}
theorem nr:∀(vs:List AV) (i t:Nat),getR (kC i vs) t=if i≤t∧t<i+vs.length then(vs.getD (t-i) .any).dis else .any
 | [], i, t => by
   have:¬(i≤t∧t<i+([]:List AV).length):=by simp
   rw[if_neg this];rfl
 | v :: r, i, t => by
   simp only[kC,getR,nr r (i+1) t,List.length_cons]
   by_cases h:i=t
   ·subst h
    simp
   ·rw[if_neg h]
    by_cases h2:i+1≤t∧t<i+1+r.length
    ·have h3:i≤t∧t<i+(r.length+1):=by omega
     rw[if_pos h2,if_pos h3]
     obtain⟨q,rfl⟩:∃q,t=i+1+q:=⟨t-(i+1),by omega⟩
     rw[show i+1+q-(i+1)=q by omega,show i+1+q-i=q+1 by omega]
     simp
    ·have h3:¬(i≤t∧t<i+(r.length+1)):=by omega
     rw[if_neg h2,if_neg h3]
theorem ok_start{d N n:Nat}{vs:List AV}{us:Array Value}(hg:Good g w)(hb:BoxR g w st)(ha:gy g vs us)(hN:N≤w.heap.size)(hm:m=false→N=0)(hn:us.size≤n) :
  Ok m ⟨d,N,g,w,st,w.heap.size⟩ g w (sp n ⟨kC 0 vs,[]⟩) st {tmps:=us++Array.replicate (n-us.size) undef,defers:=[]}:=by
 refine⟨by simp[dD];omega,fun s v u hv hu=>?_,⟨hg,fun s cs hc=>by simp[sp,look]at hc,hb⟩,DefsR.nil _,Mv.refl hg,fun _=>rfl,hN,hm⟩
 rw[dj]at hv
 split at hv
 case isFalse=>cases hv
 cases hv
 simp only[Sf.reg,nr,Nat.zero_le,true_and,Nat.zero_add,Nat.sub_zero]
 split
 ·rename_i hs
  have h1:vs[s]?=some (vs.getD s .any):=by simp[List.getD,hs]
  have hs2:s<us.size:=by rw[ha.1];exact hs
  have h2:us[s]?=some u:=by rw[Array.getElem?_append_left hs2]at hu;exact hu
  exact⟨RS.of (ha.2 s _ u h1 h2).dis,OwnV.dis⟩
 ·exact⟨R.any _,fun i c x hc _=>Own.of_no (ak (v:=.any) (fun _ e=>by cases e) trivial i c hc)⟩
def iH(tmps:Array Value):ResultVar→Sem Value
 | .tmp t=>pure (tmps.getD t undef)
 | .cell b t=>do loadVar t (←asAddr (tmps.getD b undef))
theorem lq{n:Nat}(h:Ok m E g w (sp n sf) st a):∀{rv:List ResultVar} {rs:List RI} {K:List AV→Prop},gA P n rv=some rs→(resL sf st rs).wp K →
  ∃vs us,K vs∧us.length=vs.length∧(∀(i:Nat) (x:AV) (u:Value),vs[i]?=some x→us[i]?=some u→RS g E.d x u∧∀(j:Nat) (c:AV),x.cells[j]?=some c→c.noOwn) ∧
   ((rv.mapM (iH a.tmps):Sem (List Value)).run P w= .ok us w)
 | [], rs, K, hc, hK => by
   simp only[gA]at hc;cases hc
   exact⟨[],[],hK,rfl,fun i x u hx=>by simp at hx,by simp⟩
 | .tmp t :: rv, rs, K, hc, hK => by
   simp only[gA]at hc
   split at hc
   case isFalse=>cases hc
   rename_i ht
   obtain⟨rs',hrs,rfl⟩:=map_some hc
   simp only[resL,resI,Res.bind]at hK
   rw[Res.wp_bind]at hK
   obtain⟨vs,us,hK,hl,hr,hrun⟩:=lq h hrs hK
   have hs:=(ea h t).1
   rw[dk ht]at hs
   refine⟨_,a.tmps.getD t undef::us,hK,by simp[hl],fun i x u hx hu=>?_,by
    simp only[List.mapM_cons,Sem.run_bind,iH,Sem.run_pure,Result.andThen_ok,hrun]⟩
   cases i with
   |zero=>simp at hx hu;subst hx;subst hu;exact⟨by simpa [Act.eval]using hs.dis,bf _⟩
   |succ i=>exact hr i x u (by simpa using hx) (by simpa using hu)
 | .cell t T :: rv, rs, K, hc, hK => by
   simp only[gA]at hc
   split at hc
   case isFalse=>cases hc
   rename_i ht
   split at hc
   case h_2=>cases hc
   rename_i k rs' hk hrs
   cases hc
   simp only[resL,resI,bY]at hK
   rw[Res.wp_bind]at hK
   have hs:=(ea h t).1
   rw[dk ht]at hs
   rw[←deref_sp (n:=n)]at hK
   obtain⟨cs,hK,b,o,hu,xs,hxs⟩:=oO h.ctx hs hK
   rw[Res.wp_bind]at hK
   obtain⟨v,hK,u',hrun',hR⟩:=take_run (P:=P) hxs (iY hk cs _ hK)
   simp only[Res.bind]at hK
   rw[Res.wp_bind]at hK
   obtain⟨vs,us,hK,hl,hr,hrun⟩:=lq h hrs hK
   have hu':a.tmps.getD t undef= .pointer (some ⟨b,o,none⟩):=hu
   refine⟨_,u'::us,hK,by simp[hl],fun i x u hx hu2=>?_,by
    simp only[List.mapM_cons,Sem.run_bind,iH,hu',asAddr,Sem.run_pure,Result.andThen_ok,hrun',hrun]⟩
   cases i with
   |zero=>simp at hx hu2;subst hx;subst hu2;exact⟨RS.of hR.dis,bf _⟩
   |succ i=>exact hr i x u (by simpa using hx) (by simpa using hu2)
theorem l6{fn:Func}{tmps:Array Value}{w:World}{us:List Value}(h:(fn.results.toList.mapM (iH tmps):Sem (List Value)).run P w= .ok us w):(results fn tmps).run P w= .ok (if h:us.toArray.size=1 then us.toArray[0]else .tuple us.toArray) w:=by
 have h0:results fn tmps=(do
   let vs ←fn.results.mapM (iH tmps)
   pure (if h:vs.size=1 then vs[0]else .tuple vs)):=by
  unfold results
  congr 1
 rw[h0,Array.mapM_eq_mapM_toList,Sem.run_bind]
 have h2:(Functor.map List.toArray (fn.results.toList.mapM (iH tmps):Sem (List Value))).run P w= .ok us.toArray w:=by
  rw[map_eq_pure_bind,Sem.run_bind,h]
  simp
 rw[h2]
 simp only[Result.andThen_ok,Sem.run_pure]
theorem pj{n:Nat}{fn:Func}{rs:List RI}{K:AV→Prop}(h:Ok m E g w (sp n sf) st a)(hc:gA P n fn.results.toList=some rs)(hK:(retI rs sf st).wp fun v=>v.noL=true∧K v) :
  ∃v u,K v∧v.noL=true∧(results fn a.tmps).run P w= .ok u w∧RS g E.d v u∧((∀(j:Nat) (c:AV),v.cells[j]?=some c→c.noOwn)∨∃t,t<n∧v=sf.reg t∧u=a.tmps.getD t undef):=by
 have hlist:∀K',(resL sf st rs).wp K'→∃(vs:List AV) (us:List Value),K' vs∧us.length=vs.length∧(∀(i:Nat) (x:AV) (u:Value),vs[i]?=some x→us[i]?=some u→RS g E.d x u∧∀(j:Nat) (c:AV),x.cells[j]?=some c→c.noOwn)∧(results fn a.tmps).run P w= .ok (if h:us.toArray.size=1 then us.toArray[0]else .tuple us.toArray) w:=by
  intro K' hK'
  obtain⟨vs,us,h1,h2,h3,h4⟩:=lq h hc hK'
  exact⟨vs,us,h1,h2,h3,l6 h4⟩
 unfold retI at hK
 split at hK
 ·rename_i t
  obtain⟨hnl,hK⟩:=hK
  obtain⟨vs,us,h1,h2,h3,h4⟩:=hlist (fun vs=>vs= [(sf.reg t).dis]) (by simp[resL,resI,Res.bind,Res.wp])
  -- one slot: its value as it stands
  have htn:t<n∧fn.results.toList= [.tmp t]:=by
   cases hr:fn.results.toList with
   |nil=>rw[hr]at hc;simp[gA]at hc
   | cons x r =>
     rw[hr]at hc
     cases x with
     | tmp t' =>
       simp only[gA]at hc
       split at hc
       ·rename_i hlt
        obtain⟨q,hq,e⟩:=map_some hc
        cases e
        cases r with
        |nil=>exact⟨hlt,rfl⟩
        | cons y r =>
          exfalso
          cases y<;>simp only[gA]at hq<;>split at hq<;>first|(cases hq;done)|skip
          ·obtain⟨_,_,e⟩:=map_some hq;cases e
          ·split at hq<;>cases hq
       ·cases hc
     | cell t' T =>
       simp only[gA]at hc
       split at hc
       ·split at hc<;>cases hc
       ·cases hc
  have hrun:(fn.results.toList.mapM (iH a.tmps):Sem (List Value)).run P w= .ok [a.tmps.getD t undef] w:=by
   rw[htn.2]
   simp only[List.mapM_cons,List.mapM_nil,Sem.run_bind,iH,Sem.run_pure,Result.andThen_ok]
  have hs:=(ea h t).1
  rw[dk htn.1]at hs
  exact⟨sf.reg t,a.tmps.getD t undef,hK,hnl,by have:=l6 hrun;simpa using this,hs,.inr ⟨t,htn.1,rfl,rfl⟩⟩
 ·rename_i r hne
  obtain⟨vs,us,⟨v,rfl,hnl,hK⟩,h2,h3,h4⟩:=hlist (fun vs=>∃v,vs= [v]∧v.noL=true∧K v) (by
   simp only[resL,Res.bind]
   rw[Res.wp_bind]
   exact Res.wp_mono hK fun v hv=>⟨v,rfl,hv.1,hv.2⟩)
  match us,h2 with
  | [u], _ =>
    obtain⟨h5,h6⟩:=h3 0 v u rfl rfl
    exact⟨v,u,hK,hnl,by simpa using h4,h5,.inl h6⟩
 ·rename_i hne1 hne2
  rw[Res.wp_bind]at hK
  have hrl:∀{rs:List RI} {K':List AV→Prop},(resL sf st rs).wp K'→(resL sf st rs).wp fun vs=>K' vs∧vs.length=rs.length:=by
   intro rs
   induction rs with
   |nil=>intro K' h;exact⟨h,rfl⟩
   | cons r rs ih =>
     intro K' h
     simp only[resL]at h ⊢
     rw[Res.wp_bind]at h ⊢
     refine Res.wp_mono h fun v hv=>?_
     rw[Res.wp_bind]at hv ⊢
     exact Res.wp_mono (ih hv) fun vs hvs=>⟨hvs.1,by simp[hvs.2]⟩
  obtain⟨vs,us,⟨hK,hvl⟩,h2,h3,h4⟩:=hlist _ (hrl hK)
  split at hK
  case isFalse=>exact hK.elim
  rename_i hall
  obtain⟨_,hK⟩:=hK
  have hlen:us.length≠1:=by
   intro e
   rw[h2,hvl]at e
   obtain⟨r,hr⟩:=List.length_eq_one_iff.1 e
   exact hne2 r hr
  refine⟨.tup vs,.tuple us.toArray,hK,rfl,by rw[h4];simp[hlen],RS.of (.tup vs us.toArray (by simpa using h2) fun i x u hx hu=>?_),.inl (ak (by simp) trivial)⟩
  have hx':=List.all_eq_true.1 hall x (List.mem_of_getElem? hx)
  exact jp hx' (h3 i x u hx (by simpa using hu)).1
end
end Go.Fx
namespace Go.Fx
def msOf:List (Nat×List Nat×List Nat)→Nat→List Nat×List Nat
 | [],_=>([],[])
 |(q,r)::l,p=>if q=p then r else msOf l p
open Go Go.RowKit Go.Lib
section
variable {P:Program} {X:Cx} {f:FuncId} {fn':AFun} {vs:List AV} {st:St}
theorem pk(h:iG P X f=some fn'):∃fn c b rs,P.funcs[f]?=some fn∧fn.body=some c∧X.n=fn.ntmps∧dh P X 1 c=some b∧gA P X.n fn.results.toList=some rs∧fn'=⟨X.n,rs,b⟩:=by
 unfold iG at h
 split at h
 case h_2=>cases h
 rename_i fn hf
 split at h
 case h_2=>cases h
 rename_i c hc
 split at h
 case isFalse=>cases h
 rename_i hn
 split at h
 case h_2=>cases h
 rename_i b rs hb hr
 cases h
 exact⟨fn,c,b,rs,hf,hc,hn.1,hb,hr,rfl⟩
theorem Ok.toE{m:Bool}{E E':Ent}{g:Gh}{w:World}{fr:Fr}{st:St}{a:Act}(h:Ok false E' g w fr st a)(hE:Ext false E E'):Ok false E g w fr st {a with defers:=[]}:=by
 have hmv:=hE.mvE h.mv
 have h1:=hE.dd
 have h2:=hE.NN
 obtain⟨d,N,g0,w0,st0,lo⟩:=E
 obtain⟨d',N',g0',w0',st0',lo'⟩:=E'
 simp only at h1 h2
 subst h1;subst h2
 exact⟨h.size,h.slots,h.ctx,DefsR.nil _,hmv,fun e=>(by cases e),h.hN,h.hm⟩
theorem pl{P:Program}{fn:Func}{R:Ending→World→Prop}{E:Ent}{g:Gh}{fr:Fr}{st:St}{a:Act}(hE:∀D c,E.g.cls D=some c→D<E.lo)(hlo:E.g.base≤E.lo)
  (hfin:∀w,Ok false E g w fr st a→∃v,(results fn a.tmps).run P w= .ok v w∧R (.returned v) w):∀(ds:List Deferred) (w:World),(∀x∈ds,∃D dd s,x= {target:=.collected D,args:=#[]}∧E.lo≤D∧g.cls D=some (.loc dd s)∧dd<E.d∧w.heap[D]?=some (.deferred (some []))) →
   (ds.map fun x=>x.target).Nodup→Ok false E g w fr st a→LeavesInM (FW none) 0 P fn a.tmps R ds .returning w
 | [],w,_,_,h=>hfin w h
 | x :: ds, w, ha, hn, h => by
   obtain⟨D,dd,s,rfl,h1,h2,h3,h4⟩:=ha x (by simp)
   simp only[List.map_cons,List.nodup_cons]at hn
   refine⟨by simp,.inl ⟨D,_,rfl,run_takeDeferred h4,?_⟩⟩
   have hnone:E.g.cls D=none:=by
    cases hc:E.g.cls D with
    |none=>rfl
    |some c=>have:=hE D c hc;omega
   refine pl hE hlo hfin ds _ (fun y hy=>?_) hn.2 (h.putD h2 (by omega) hnone (Nat.le_trans hlo h1) _)
   obtain⟨D',dd',s',rfl,k1,k2,k3,k4⟩:=ha y (by simp[hy])
   have hne:D'≠D:=by
    rintro rfl
    exact hn.1 (List.mem_map.2 ⟨_,hy,rfl⟩)
   exact⟨D',dd',s',rfl,k1,k2,k3,by rw[World.putObj_heap_other hne];exact k4⟩
theorem acalls_of(hmix:P.follows .mixedOrders=true)(hf:iG P X f=some fn')(hlen:vs.length≤fn'.n){K:AV→St→Prop}(h:aFun P X.F false fn' vs st K):aF P f vs st K:=by
 obtain⟨fn,c,b,rs,hfn,hc,hn,hb,hr,rfl⟩:=pk hf
 intro D g w us L hg hbx ha
 have hus:us.size≤X.n:=by rw[ha.1];exact hlen
 refine jF.1 (callsIn_of_wp_marks (F:=FW none) (n:=0) hfn hc trivial ?_)
 have h0:=ok_start (m:=false) (d:=D+1) (N:=0) (n:=X.n) (st:=st) hg hbx ha (Nat.zero_le _) (fun _=>rfl) hus
 rw[←hn]
 have key:∀(sf:Sf) (st':St) (g':Gh) (w':World) (a':Act),Ok false ⟨D+1,0,g,w,st,w.heap.size⟩ g' w' (sp X.n sf) st' a'→((retI rs sf st').wp fun v=>v.noL=true∧K v st') →
   ∃v,(results fn a'.tmps).run P w'= .ok v w'∧∃u v' st' g',Ending.returned v= .returned u∧K v' st'∧Mv false 0 D g w g' w'∧BoxR g' w' st'∧R g' v' u∧OwnV g' w' 0 L v' u:=by
  intro sf st' g' w' a' hok hret
  obtain⟨v,u,hK,hnl,hrun,hR,hown⟩:=pj (K:=fun v=>K v st') hok hr hret
  refine⟨u,hrun,u,v,st',?_⟩
  rcases hown with hno|⟨t,ht,rfl,rfl⟩
  ·exact⟨g',rfl,hK,hok.mv.inner (Nat.le_succ _),hok.ctx.box,jp hnl hR,fun i c x hc _=>Own.of_no (hno i c hc)⟩
  ·obtain⟨h1,h2,h3⟩:=hok.steal t L
   rw[dk ht]at h2 h3
   exact⟨_,rfl,hK,h1.mv.inner (Nat.le_succ _),h1.ctx.box,jp hnl h2,h3⟩
 have key2:∀(E':Ent) (sf:Sf) (st':St) (g':Gh) (w':World) (a':Act),Ext false ⟨D+1,0,g,w,st,w.heap.size⟩ E'→Ok false E' g' w' (sp X.n sf) st' a'→((retI rs sf st').wp fun v=>v.noL=true∧K v st') →
   LeavesInM (FW none) 0 P fn a'.tmps (fun e w'=>∃u v st' g',e= .returned u∧K v st'∧Mv false 0 D g w g' w'∧BoxR g' w' st'∧R g' v u∧OwnV g' w' 0 L v u) a'.defers .returning w':=by
  intro E' sf st' g' w' a' hE hok hret
  have hok0:=hok.toE (m:=false) hE
  refine pl (E:=⟨D+1,0,g,w,st,w.heap.size⟩) (a:={a' with defers:=[]}) (fun b c hc=>(hg.cls b c hc).2) hg.base (fun w2 hok2=>key sf st' g' w2 _ hok2 hret) a'.defers w' (fun x hx=>?_) hok.defers.nd hok0
  obtain⟨b,dd,s,h1,h2,h3,h4,h5⟩:=hok.defers.all x hx
  obtain⟨q1,q2,_⟩:=hok.mv.outer b _ h3 h4
  have hd:=hE.dd
  have hl:=hE.lolo
  simp only at hd hl
  exact⟨b,dd,s,h1,by rw[←hl];exact h2,q1,by rw[←hd];exact h4,by rw[q2];exact h5⟩
 refine aC_sound hmix c 1 b hb (.inl ⟨rfl,by simp,Nat.le_refl _⟩) h0 h fun E' e sf st' g' w' a' hE hok hq=>?_
 cases e with
 |normal=>exact key2 E' sf st' g' w' a' hE hok hq
 |ret=>exact key2 E' sf st' g' w' a' hE hok hq
 |exit id=>exact hq.elim
 |goto l=>exact hq.elim
 |panic ch=>exact hq.elim
 |outgrown=>exact hq.elim
theorem pcalls_of(hmix:P.follows .mixedOrders=true)(hf:iG P X f=some fn')(hlen:vs.length≤fn'.n){v0:AV}(h:aFun P X.F true fn' vs st fun v st'=>v=v0):az P f vs st v0:=by
 obtain⟨fn,c,b,rs,hfn,hc,hn,hb,hr,rfl⟩:=pk hf
 intro g w us L hg hbx ha
 have hus:us.size≤X.n:=by rw[ha.1];exact hlen
 refine calls_of_wp hfn hc ?_
 have h0:=ok_start (m:=true) (d:=1) (N:=w.heap.size) (n:=X.n) (st:=st) hg hbx ha (Nat.le_refl _) (fun e=>by cases e) hus
 rw[←hn]
 have fin:∀(g':Gh) (w':World),Mv true w.heap.size 1 g w g' w'→LeP g w {g' with lb:=g.lb} w':=by
  intro g' w' hm
  obtain⟨h1,h2⟩:=hm.pure rfl
  exact⟨⟨hm.os,hm.tape,hm.output,hm.size,fun k hk=>(h1 k hk).1⟩,fun b hb=>(h1 b hb).2.1,fun b hb=>(h1 b hb).2.2,h2,rfl,hm.base,fun _=>⟨hm.good.imm,hm.good.immc,hm.good.cls,hm.good.base⟩⟩
 have hle:∀g':Gh,GhLe g' {g' with lb:=g.lb}:=fun g'=>⟨fun _ _ _ h=>h,fun _ _ h=>h⟩
 have key:∀(sf:Sf) (st':St) (g':Gh) (w':World) (a':Act),Ok true ⟨1,w.heap.size,g,w,st,w.heap.size⟩ g' w' (sp X.n sf) st' a'→((retI rs sf st').wp fun v=>v.noL=true∧v=v0) →
   a'.defers= []∧∃v,(results fn a'.tmps).run P w'= .ok v w'∧∃u g',Ending.returned v= .returned u∧LeP g w g' w'∧R g' v0 u∧OwnV g' w' w.heap.size L v0 u:=by
  intro sf st' g' w' a' hok hret
  obtain⟨v,u,hK,hnl,hrun,hR,hown⟩:=pj (K:=fun v=>v=v0) hok hr hret
  subst hK
  have hdf:a'.defers= []:=by
   cases hds:a'.defers with
   |nil=>rfl
   | cons x r =>
     obtain⟨b,dd,s,h1,h2,h3,h4,h5⟩:=hok.defers.all x (by rw[hds];simp)
     have:=(hg.cls b _ h3).2
     simp only at h2
     omega
  refine⟨hdf,u,hrun,u,?_⟩
  rcases hown with hno|⟨t,ht,rfl,rfl⟩
  ·exact⟨_,rfl,fin g' w' hok.mv,(jp hnl hR).mono (hle g'),fun i c x hc _=>Own.of_no (hno i c hc)⟩
  ·obtain⟨h1,h2,h3⟩:=hok.steal t L
   rw[dk ht]at h2 h3
   exact⟨_,rfl,fin _ w' h1.mv,(jp hnl h2).mono (hle _),fun i c x hc hx=>h3 i c x hc hx⟩
 refine(wpIn_wide (n:=0)).1 (aC_sound hmix c 1 b hb (.inl ⟨rfl,by simp,Nat.le_refl _⟩) h0 h fun E' e sf st' g' w' a' hE hok hq=>?_)
 rcases hE with rfl|⟨hE,_⟩
 case inr=>cases hE
 cases e with
 |normal=>exact key sf st' g' w' a' hok hq
 |ret=>exact key sf st' g' w' a' hok hq
 |exit id=>exact hq.elim
 |goto l=>exact hq.elim
 |panic ch=>exact hq.elim
 |outgrown=>exact hq.elim
end
end Go.Fx
namespace Go.Fx
open Go Go.RowKit Go.Lib
inductive AV.NB:AV→Prop where
 |any:AV.NB .any
 |lit (v:Value):AV.NB (.lit v)
 |cptr (cs:List AV) (h:∀c∈cs,AV.NB c):AV.NB (.cptr cs)
 |sl (o:Bool) (k:Nat) (es:List AV) (h:∀c∈es,AV.NB c):AV.NB (.sl o k es)
 |fn (f:Fn) (fs cs:List AV) (h1:∀c∈fs,AV.NB c) (h2:∀c∈cs,AV.NB c):AV.NB (.fn f fs cs)
 |agg (cs:List AV) (h:∀c∈cs,AV.NB c):AV.NB (.agg cs)
 |tup (cs:List AV) (h:∀c∈cs,AV.NB c):AV.NB (.tup cs)
 |ifc (t:Nat) (v:AV) (h:AV.NB v):AV.NB (.ifc t v)
theorem nb_lit(v:Value):(AV.lit v).NB↔True:=⟨fun _=>trivial,fun _=>.lit v⟩
section
variable {g g':Gh} {w w':World} {N:Nat}
theorem nb_cells{e:AV}(h:e.NB):∀c∈e.cells,c.NB:=by
 cases h with
 |agg cs h=>exact h
 |any=>intro c hc;simp[AV.cells]at hc;subst hc;exact .any
 |lit v=>intro c hc;simp[AV.cells]at hc;subst hc;exact .lit v
 |cptr cs h=>intro c hc;simp[AV.cells]at hc;subst hc;exact .cptr cs h
 |sl o k es h=>intro c hc;simp[AV.cells]at hc;subst hc;exact .sl o k es h
 |fn f fs cs h1 h2=>intro c hc;simp[AV.cells]at hc;subst hc;exact .fn f fs cs h1 h2
 |tup cs h=>intro c hc;simp[AV.cells]at hc;subst hc;exact .tup cs h
 |ifc t v h=>intro c hc;simp[AV.cells]at hc;subst hc;exact .ifc t v h
theorem R.nb(hi:∀b o u,g.imm b o=some u→g'.imm b o=some u){v:AV}{u:Value}(h:R g v u):v.NB→R g' v u:=by
 induction h with
 |any u=>exact fun _=>.any u
 |lit v h=>exact fun _=>.lit v h
 |ptr id off b h=>exact fun h=>by cases h
 | cptr cs us b o h1 _ ih =>
   intro hn
   cases hn with
   |cptr _ hn=>exact .cptr cs us b o (fun i c hc=>hi _ _ _ (h1 i c hc)) (fun i c hc=>ih i c hc (hn c (List.mem_of_getElem? hc)))
 | sl own k es us b o c hc hk h1 _ h3 ih =>
   intro hn
   cases hn with
   | sl _ _ _ hn =>
     refine .sl own k es us b o c hc hk (fun i x hx=>hi _ _ _ (h1 i x hx)) (fun i x hx=>ih i x hx ?_) h3
     have:=List.mem_of_getElem? hx
     simp only[List.mem_flatMap]at this
     obtain⟨e,he,hxe⟩:=this
     exact nb_cells (hn e he) x hxe
 |slE own k a c=>exact fun _=>.slE own k a c
 |slN own k=>exact fun _=>.slN own k
 |bs id k off len cap b h=>exact fun h=>by cases h
 |mit id s l p b=>exact fun h=>by cases h
 |yld id b h=>exact fun h=>by cases h
 |xs k es a _ _=>exact fun h=>by cases h
 | ifc t v u _ ih =>
   intro hn
   cases hn with|ifc _ _ hn=>exact .ifc t v u (ih hn)
 |map id b h=>exact fun h=>by cases h
 | fn f fs cs us vs hu hv _ _ ih1 ih2 =>
   intro hn
   cases hn with
   |fn _ _ _ n1 n2=>exact .fn f fs cs us vs hu hv (fun i x u hx hu=>ih1 i x u hx hu (n1 x (List.mem_of_getElem? hx))) (fun i x u hx hu=>ih2 i x u hx hu (n2 x (List.mem_of_getElem? hx)))
 | agg cs us hu _ ih =>
   intro hn
   cases hn with|agg _ hn=>exact .agg cs us hu (fun i x u hx hu=>ih i x u hx hu (hn x (List.mem_of_getElem? hx)))
 | tup cs us hu _ ih =>
   intro hn
   cases hn with|tup _ hn=>exact .tup cs us hu (fun i x u hx hu=>ih i x u hx hu (hn x (List.mem_of_getElem? hx)))
inductive Frz (st:St):AV→AV→Prop where
 |le (v v0:AV) (h:AV.le v v0) (hn:v0.NB):Frz st v v0
 |bs (id k off len cap:Nat) (cs:List AV) (hg:st.get id=some cs) (hl:off+len*k≤cs.length) (hcap:len≤cap) (hk:∀c∈cs.drop off,c.NB):Frz st (.bs id k off len cap) (.sl false k (grp k len (cs.drop off)))
 |agg (cs ds:List AV) (hl:ds.length=cs.length) (h:∀(i:Nat) (c d:AV),cs[i]?=some c→ds[i]?=some d→Frz st c d) (hn:∀d∈ds,d.noOwn):Frz st (.agg cs) (.agg ds)
 |tup (cs ds:List AV) (hl:ds.length=cs.length) (h:∀(i:Nat) (c d:AV),cs[i]?=some c→ds[i]?=some d→Frz st c d):Frz st (.tup cs) (.tup ds)
def frzL(st:St):List AV→List AV→Prop
 | [],[]=>True
 |c::r,d::q=>Frz st c d∧frzL st r q
 |_,_=>False
theorem jK{st:St}:∀{l k:List AV},frzL st l k→k.length=l.length∧∀(i:Nat) (c d:AV),l[i]?=some c→k[i]?=some d→Frz st c d
 | [],[],_=>⟨rfl,fun i c d h=>by simp at h⟩
 | [],_::_,h=>h.elim
 |_::_,[],h=>h.elim
 | v :: r, u :: s, ⟨h1, h2⟩ => by
   obtain⟨q1,q2⟩:=jK h2
   refine⟨by simp[q1],fun i c d hc hd=>?_⟩
   cases i with
   |zero=>simp at hc hd;subst hc;subst hd;exact h1
   |succ i=>exact q2 i c d (by simpa using hc) (by simpa using hd)
theorem Frz.aggL{st:St}{l k:List AV}(h:frzL st l k)(hn:∀d∈k,d.noOwn):Frz st (.agg l) (.agg k):=.agg l k (jK h).1 (jK h).2 hn
def Gh.hide(g:Gh)(n:Nat):Gh:={base:=0,imm:=g.imm,bx:=fun _=>none,lb:=g.lb,cls:=fun b=>if b<n then some (.arr (.slot 0 0 0))else none}
theorem hide_good(h:Good g w):Good (g.hide w.heap.size) w:=by
 refine⟨h.imm,fun b o u hi=>.inr ⟨_,by simp[Gh.hide,h.lt hi];rfl⟩,fun b c hc=>?_,Nat.zero_le _⟩
 simp only[Gh.hide]at hc
 split at hc
 ·rename_i hl;exact⟨Nat.zero_le _,hl⟩
 ·cases hc
def Gh.show(g g1:Gh)(n:Nat)(L:Nat→Loc)(fb:Nat→Option (Array Value)):Gh :=
 { base:=g.base,bx:=g.bx,lb:=g.lb
   imm:=fun b o=>if b<n then g.imm b o else match fb b with
    |some us=>us[o]?
    |none=>g1.imm b o
   cls:=fun b=>if b<n then g.cls b else match g1.cls b with
    |some (.arr (.slot 5 0 k))=>some (.arr (L k))
    |_=>none}
def frzB(g1:Gh)(w:World)(n:Nat)(b:Nat):Option (Array Value) :=
 if n≤b then(match g1.cls b,w.heap[b]? with
  |some (.box _),some (.cells us _ (0,0))=>some us
  |_,_=>none)else none
def Fzn(g1 gs:Gh)(st:St):Prop:=∀id cs,st.get id=some cs→∃(b:Nat) (us:Array Value),g1.bx id=some b∧(∀o:Nat,gs.imm b o=us[o]?)∧us.size=cs.length ∧
 (∀(i:Nat) (c:AV) (x:Value),cs[i]?=some c→us[i]?=some x→R g1 c x)∧∀x∈us,x.oneCell'=true
theorem fzn_of{g1 gs:Gh}{w:World}{st:St}{n:Nat}(hb1:BoxR g1 w st)(hbn:∀id b,g1.bx id=some b→g1.cls b=some (.box id)→n≤b)(kf:∀b us,frzB g1 w n b=some us→∀o:Nat,gs.imm b o=us[o]?):Fzn g1 gs st:=by
 intro id cs hgt
 obtain⟨b,us',T,a1,a2,a3,a4,a5,a6⟩:=hb1.2.1 id cs (by unfold St.get at hgt;split at hgt<;>first|(cases hgt;assumption)|cases hgt)
 have hge:=hbn id b a1 a2
 have hfz:frzB g1 w n b=some us':=by simp[frzB,hge,a2,a3]
 exact⟨b,us',a1,kf b us' hfz,a4,fun i c x hc hx=>(a5 i c x hc hx).1,a6⟩
theorem frz_R{g1 gs:Gh}{st:St}(hf:Fzn g1 gs st)(k2:∀b o u,g1.imm b o=some u→gs.imm b o=some u){v v0:AV}(h:Frz st v v0):∀{u:Value},R g1 v u→R gs v0 u:=by
 induction h with
 |le v v0 hle hn=>exact fun hR=>(hle.r hR).nb k2 hn
 | agg cs ds hl h hn ih =>
   intro u hR
   obtain⟨us,rfl,hr⟩:=hR.agg_inv
   refine .agg ds us (by have:=hr.1;simp at this;omega) fun i x u hx hu=>?_
   have hlt:i<cs.length:=by rw[←hl];exact(List.getElem?_eq_some_iff.1 hx).1
   exact ih i cs[i] x (by simp[hlt]) hx (hr.2 i cs[i] u (by simp[hlt]) (by simpa using hu))
 | tup cs ds hl h ih =>
   intro u hR
   cases hR with
   | tup _ us hu hR =>
     refine .tup ds us (by omega) fun i x u hx hu'=>?_
     have hlt:i<cs.length:=by rw[←hl];exact(List.getElem?_eq_some_iff.1 hx).1
     exact ih i cs[i] x (by simp[hlt]) hx (hR i cs[i] u (by simp[hlt]) hu')
 | bs id k off len cap cs hgt hl hcap hk =>
   intro u hR
   obtain⟨b,us',a1,kf,a4,a5,a6⟩:=hf id cs hgt
   cases hR with
   | bs _ _ _ _ _ b' hb' =>
     have:b'=b:=Option.some.inj (hb'.symm.trans a1)
     subst this
     have hone:∀c∈cs.drop off,c.cells= [c]:=by
      intro c hc
      obtain⟨i,hi⟩:=List.mem_iff_getElem?.1 (List.mem_of_mem_drop hc)
      have hlt:i<us'.size:=by rw[a4];exact(List.getElem?_eq_some_iff.1 hi).1
      have hx:us'[i]?=some us'[i]:=Array.getElem?_eq_getElem hlt
      exact oP (a5 i c _ hi hx) (a6 _ (Array.getElem_mem hlt))
     obtain⟨q1,q2,q3⟩:=kS (k:=k) len (cs.drop off) hone (by simp;omega)
     have hcell:∀(i:Nat) (x:AV),((grp k len (cs.drop off)).flatMap AV.cells)[i]?=some x→i<len*k∧cs[off+i]?=some x:=by
      intro i x hx
      rw[q3,List.getElem?_take]at hx
      split at hx
      ·rename_i hil;exact⟨hil,by simpa using hx⟩
      ·cases hx
     have:=R.sl (g:=gs) false k (grp k len (cs.drop off)) (fun i=>us'.getD (off+i) undef) b' off cap (by rw[q1];exact hcap) q2 (fun i x hx=>?_) (fun i x hx=>?_) (fun i x hx=>?_)
     ·rw[q1]at this;exact this
     ·obtain⟨hi,hc⟩:=hcell i x hx
      have hlt:off+i<us'.size:=by omega
      rw[kf]
      simp[hlt]
     ·obtain⟨hi,hc⟩:=hcell i x hx
      have hlt:off+i<us'.size:=by omega
      have e1:us'.getD (off+i) undef=us'[off+i]:=by simp[hlt]
      rw[e1]
      exact(a5 (off+i) x _ hc (Array.getElem?_eq_getElem hlt)).nb k2 (hk x (by rw[List.mem_iff_getElem?];exact⟨i,by simpa using hc⟩))
     ·obtain⟨hi,hc⟩:=hcell i x hx
      have hlt:off+i<us'.size:=by omega
      have e1:us'.getD (off+i) undef=us'[off+i]:=by simp[hlt]
      rw[e1]
      exact a6 _ (Array.getElem_mem hlt)
theorem mt{P:Program}{f:FuncId}{vs:List AV}{v0:AV}(h:aF P f vs ⟨[]⟩ fun v st'=>Frz st' v v0)(hvs:∀v∈vs,v.NB)(st:St):az P f vs st v0:=by
 intro g w us L hg hbx ha
 have ha0:gy (g.hide w.heap.size) vs us:=⟨ha.1,fun i x u hx hu=>R.nb (g:=g) (g':=g.hide w.heap.size) (fun _ _ _ h=>h) (ha.2 i x u hx hu) (hvs x (List.mem_of_getElem? hx))⟩
 have hb0:BoxR (g.hide w.heap.size) w ⟨[]⟩:=⟨fun _ _=>rfl,fun id cs hc=>by simp at hc,fun id bx hc=>by simp at hc⟩
 refine(h 1 _ w us (fun k=>.slot 5 0 k) (hide_good hg) hb0 ha0).mono fun e w' ⟨u,v,st',g1,he,hF,hmv,hb1,hR,hO⟩=>?_
 have hout:∀b,b<w.heap.size→g1.cls b=some (.arr (.slot 0 0 0))∧w'.heap[b]?=w.heap[b]?∧g1.imm b=g.imm b:=fun b hb =>
  hmv.outer b (.arr (.slot 0 0 0)) (by simp[Gh.hide,hb]) (Nat.zero_lt_one)
 have hbel:Below w.heap.size w w':=⟨hmv.os,hmv.tape,hmv.output,hmv.size,fun k hk=>(hout k hk).2.1⟩
 have hfz:∀b us,frzB g1 w' w.heap.size b=some us→w.heap.size≤b∧b<w'.heap.size∧(∃id,g1.cls b=some (.box id))∧∃T,w'.heap[b]?=some (.cells us T (0,0)):=by
  intro b us h
  unfold frzB at h
  split at h
  ·rename_i hge
   split at h
   ·rename_i id us' T h1 h2
    cases h
    exact⟨hge,(Array.getElem?_eq_some_iff.1 h2).1,⟨id,h1⟩,T,h2⟩
   ·cases h
  ·cases h
 have himm:∀b o u,g1.imm b o=some u→(g.show g1 w.heap.size L (frzB g1 w' w.heap.size)).imm b o=some u:=by
  intro b o u hi
  simp only[Gh.show]
  split
  ·rename_i hl;rw[←(hout b hl).2.2];exact hi
  ·split
   ·rename_i us e
    obtain⟨_,_,⟨id,hid⟩,_⟩:=hfz b us e
    rcases hmv.good.immc b o u hi with h1|⟨L',h1⟩<;>rw[hid]at h1<;>cases h1
   ·exact hi
 have k1:LeP g w (g.show g1 w.heap.size L (frzB g1 w' w.heap.size)) w':=by
  refine⟨hbel,fun b hb=>by funext o;simp[Gh.show,hb],fun b hb=>by simp[Gh.show,hb],rfl,rfl,rfl,fun _=>?_⟩
  refine⟨fun b o u hi=>?_,fun b o u hi=>?_,fun b c hc=>?_,?_⟩
  ·simp only[Gh.show]at hi
   split at hi
   ·rename_i hl
    have:=hg.imm b o u hi
    unfold World.cell? at this ⊢
    rw[(hout b hl).2.1];exact this
   ·split at hi
    ·rename_i us e
     obtain⟨_,_,_,T,hT⟩:=hfz b us e
     rw[cell_of_row w' b o us T (0,0) hT];exact hi
    ·exact hmv.good.imm b o u hi
  ·simp only[Gh.show]at hi ⊢
   split at hi
   ·rename_i hl;simp only[hl,if_true];exact hg.immc b o u hi
   ·rename_i hl
    simp only[hl,if_false]
    split
    ·exact .inr ⟨_,rfl⟩
    ·exact .inl rfl
  ·simp only[Gh.show]at hc
   split at hc
   ·rename_i hl
    have:=hg.cls b c hc
    exact⟨this.1,Nat.lt_of_lt_of_le hl hmv.size⟩
   ·rename_i hl
    split at hc
    ·rename_i k hk
     have:=(hmv.good.cls b _ hk).2
     have hb:=hg.base
     exact⟨by simp only[Gh.show];omega,this⟩
    ·cases hc
  ·have:=hg.base
   have:=hmv.size
   simp only[Gh.show];omega
 have hbn:∀id b,g1.bx id=some b→g1.cls b=some (.box id)→w.heap.size≤b:=by
  intro id b _ h2
  refine Nat.le_of_not_lt fun hlt=>?_
  rw[(hout b hlt).1]at h2;cases h2
 have kf:∀b us,frzB g1 w' w.heap.size b=some us→∀o:Nat,(g.show g1 w.heap.size L (frzB g1 w' w.heap.size)).imm b o=us[o]?:=by
  intro b us h o
  have hge:=(hfz b us h).1
  have hnl:¬b<w.heap.size:=by omega
  simp only[Gh.show,hnl,if_false,h]
 have hRR:=frz_R (fzn_of hb1 hbn kf) himm hF hR
 cases hF with
 | le _ _ hle hn =>
   have hO0:OwnV g1 w' 0 (fun k=>.slot 5 0 k) v0 u:=hle.ownV (d:=0) (RS.of hR) hO
   refine⟨u,_,he,k1,hRR,fun i c x hc hx=>⟨fun k es e=>?_,fun id s l stp e=>?_⟩⟩
   ·rcases(hO0 i c x hc hx).1 k es e with h0|⟨b,o,c',cur,T,q1,_,q2,q3,q4,q5,q6⟩
    ·exact .inl h0
    ·have hge:w.heap.size≤b:=by
      refine Nat.le_of_not_lt fun hl=>?_
      rw[(hout b hl).1]at q2;cases q2
     have hnl:¬b<w.heap.size:=by omega
     have hf0:frzB g1 w' w.heap.size b=none:=by simp[frzB,q2]
     exact .inr ⟨b,o,c',cur,T,q1,hge,by simp[Gh.show,hnl,q2],q3,q4,q5,fun j hj hj'=>by simp[Gh.show,hnl,hf0,q6 j hj hj']⟩
   ·subst e
    have:=nb_cells hn _ (List.mem_of_getElem? hc)
    cases this
 | bs id k off len cap cs hgt hl hcap hk =>
   exact⟨_,_,he,k1,hRR,fun i c x hc hx=>by
    cases i with
    |succ i=>simp[AV.cells]at hc
    |zero=>simp[AV.cells]at hc;subst hc;exact Own.of_no trivial⟩
 |agg cs ds hl h hn=>exact⟨_,_,he,k1,hRR,fun i c x hc hx=>Own.of_no (hn c (List.mem_of_getElem? hc))⟩
 | tup cs ds hl h =>
   exact⟨_,_,he,k1,hRR,fun i c x hc hx=>by
    cases i with
    |succ i=>simp[AV.cells]at hc
    |zero=>simp[AV.cells]at hc;subst hc;exact Own.of_no trivial⟩
end
end Go.Fx
namespace Go.Fx
open Go
section
variable (P:Program) (F:Nat→FuncId) (m:Bool) (sf:Sf) (st:St) (Q:Exit→Sf→St→Prop) (K:Sf→St→Prop)
theorem aC_skip:aC P F m .skip sf st Q=Q .normal sf st:=rfl
theorem aC_exit(lv ll:List Nat)(id:Nat):aC P F m (.exit lv ll id) sf st Q=Q (.exit id) (sf.mask lv ll) st:=rfl
theorem aC_ret:aC P F m .ret sf st Q=Q .ret sf st:=rfl
theorem l7(C:Sf→St→(Exit→Sf→St→Prop)→Prop):seqQ C Q .normal sf st=C sf st Q:=rfl
theorem seqQ_ret(C:Sf→St→(Exit→Sf→St→Prop)→Prop):seqQ C Q .ret sf st=Q .ret sf st:=rfl
theorem pm(C:Sf→St→(Exit→Sf→St→Prop)→Prop)(id:Nat):seqQ C Q (.exit id) sf st=Q (.exit id) sf st:=rfl
theorem ju(id:Nat):gn id Q .normal sf st=Q .normal sf st:=rfl
theorem nt(id:Nat):gn id Q .ret sf st=Q .ret sf st:=rfl
theorem l8(id id':Nat):gn id Q (.exit id') sf st=if id'=id then Q .normal sf st else Q (.exit id') sf st:=rfl
theorem opsK_eq(lv ll:List Nat):opsK lv ll Q sf st=Q .normal (sf.mask lv ll) st:=rfl
theorem retQ_ret(rs:List RI)(C:AV→St→Prop):retQ rs C .ret sf st=(retI rs sf st).wp (fun v=>v.noL=true∧C v st):=rfl
theorem l9(rs:List RI)(C:AV→St→Prop):retQ rs C .normal sf st=(retI rs sf st).wp (fun v=>v.noL=true∧C v st):=rfl
theorem condI_eq(x:Opd)(b:Bool)(A B:Sf→St→(Exit→Sf→St→Prop)→Prop):iE x (.lit (.bool b)) A B sf st Q=((b=true→A (x.setB sf true) st Q)∧(b=false→B (x.setB sf false) st Q)):=rfl
theorem runI_nil:runI P F m [] K sf st=K sf st:=rfl
theorem po(i:AI)(r:List GI):runI P F m (⟨none,i⟩::r) K sf st=oneI P F m i (runI P F m r K) sf st:=rfl
theorem pq(t:Nat)(want:Bool)(i:AI)(r:List GI):runI P F m (⟨some (t,want),i⟩::r) K sf st=fh t want (sf.reg t) (oneI P F m i (runI P F m r K)) (skipI i.dst (runI P F m r K)) sf st:=rfl
theorem gB(t:Nat)(want:Bool)(cs:List AV)(Y N:Sf→St→Prop):fh t want (.tup cs) Y N sf st=N sf st:=rfl
theorem pr(t:Nat)(want b:Bool)(Y N:Sf→St→Prop):fh t want (.lit (.bool b)) Y N sf st=((b=want→Y (sf.set t (.lit (.bool want))) st)∧(b=(!want)→N (sf.set t (.lit (.bool (!want)))) st)):=by
 unfold fh
 refine propext ⟨fun h=>⟨fun e=>?_,fun e=>?_⟩,fun⟨h1,h2⟩ c hc=>?_⟩
 ·have:=h want e;simpa using this
 ·have:=h (!want) e
  rw[if_neg (by cases want<;>simp)]at this
  exact this
 ·subst hc
  by_cases hw:b=want
  ·subst hw;rw[if_pos rfl];exact h1 rfl
  ·rw[if_neg hw]
   have:b= !want:=by cases b<;>cases want<;>simp_all
   subst this
   exact h2 rfl
theorem skipI_eq(d:Option Nat):skipI d K sf st=K (sf.put d (.tup [])) st:=rfl
theorem putP_eq(d:Option Nat)(v:AV):putP K d sf st v=K (sf.put d v) st:=rfl
theorem bD(d:Option Nat)(v:AV):putK K d sf v st=K (sf.put d v) st:=rfl
theorem lu(C:AV→St→Prop)(v:AV):atS C st v=C v st:=rfl
theorem bS(i:AI)(h1:oneI P F m i K sf st=(cc F m i sf st).wp (ga K))(h2:cc F m i sf st=vI i.dst sf st (popI F i sf st)):oneI P F m i K sf st=(popI F i sf st).wp (putP K i.dst sf st):=by
 rw[h1,h2]
 unfold vI
 exact propext Res.wp_bind
def pickV(c a b:AV):Res AV:=match c with
 | .lit (.bool t)=>.ok (if t then a.dis else b.dis)
 |_=>.fail
def extV(v:AV)(i:Nat):Res AV:=match v with
 | .tup vs=>(Res.ofOpt vs[i]?).bind fun v=>.ok v.dis
 |_=>.fail
def eJ(v:AV)(off:Nat)(k:Option Nat):Res AV:=match v with
 | .agg cs=>(kj k (cs.drop off)).bind fun v=>.ok v.dis
 |_=>.fail
def ixSV(v i:AV)(k:Nat):Res AV:=match v with
 | .sl _ k' es=>if k'=k then(ixA i es.length).bind fun j=>.ok (.cptr (es.getD j .any).cells)else .fail
 | .bs id k' off len _=>if k'=k then(ixA i len).bind fun j=>.ok (.ptr id (off+j*k))else .fail
 |_=>.fail
def ixStrV(v i:AV):Res AV:=match v with
 | .lit (.string s)=>(Fx.ixA i s.size).bind fun j=>.ok (.lit (.int .u8 (s.data.getD j 0).toNat))
 |_=>.fail
def jv(sf:Sf)(st:St)(v:AV)(k:Option Nat):Res AV:=(aa sf st v).bind fun cs=>(kj k cs).bind fun v=>.ok v.dis
def au(v:AV):Res AV:=match v with
 | .ptr a b=>.ok (.ptr a b)
 | .lptr a b=>.ok (.lptr a b)
 | .cptr cs=>.ok (.cptr cs)
 |_=>.fail
def cu(v:AV)(lo hi:Option AV)(k:Nat):Res AV:=match v with
 | .sl _ k' es=>if k'=k then(ixTo hi es.length es.length).bind fun h=>(ixTo lo 0 h).bind fun l=>.ok (.sl false k ((es.take h).drop l))else .fail
 | .lit (.slice none 0 0)=>(ixTo hi 0 0).bind fun h=>(ixTo lo 0 h).bind fun _=>.ok (.lit (.slice none 0 0))
 | .bs id k' off len cap=>if k'=k then sliB none hi lo id k off len cap else .fail
 |_=>.fail
def sli3V(v:AV)(lo hi:Option AV)(mx:AV)(k:Nat):Res AV:=match v with
 | .bs id k' off len cap=>if k'=k then sliB (some mx) hi lo id k off len cap else .fail
 | .sl _ k' es=>if k'=k then sl3 (some mx) hi lo es.length es.length fun l h m=>if m=l then .ok (.sl true k [])else .ok (.sl false k ((es.take h).drop l))else .fail
 |_=>.fail
def tasV(v:AV)(t:Nat):Res AV:=match v with
 | .ifc t' v=>if t'=t then .ok v.dis else .fail
 |_=>.fail
def mkfnV(q:FuncId)(fs cs:List AV):Res AV:=if(fs++cs).all AV.solid1=true then .ok (.fn (.func q) fs cs)else .fail
def mkifV(v:AV)(t:Nat):Res AV:=if v.solid1=true then .ok (.ifc t v.dis)else .fail
def bslV(k len:Nat)(z:AV)(parts:List (Nat×AV)):Res AV:=(cd k parts (List.replicate len z)).bind fun es=>.ok (mkSl k es)
def bstV(places:List (Nat×Nat))(z:AV)(parts:List (Nat×AV)):Res AV:=(di (fun i=>places[i]?) parts z.cells).bind fun cs=>.ok (.agg cs)
section
variable (d:Option Nat) (x y i:Opd)
theorem o_mv:oneI P F m (.mv d x) K sf st=K (sf.put d (sf.ev F x).dis) st:=bS P F m sf st K (.mv d x) rfl rfl
theorem o_pick(c a b:Opd):oneI P F m (.pick d c a b) K sf st=(pickV (sf.ev F c) (sf.ev F a) (sf.ev F b)).wp (putP K d sf st):=bS P F m sf st K (.pick d c a b) rfl rfl
theorem o_bin(k:BinK)(op:BinOp):oneI P F m (.bin d k op x y) K sf st=(binI k op (sf.ev F x) (sf.ev F y)).wp (putP K d sf st):=bS P F m sf st K (.bin d k op x y) rfl rfl
theorem o_un(op:UnOp):oneI P F m (.un d op x) K sf st=(unA op (sf.ev F x)).wp (putP K d sf st):=bS P F m sf st K (.un d op x) rfl rfl
theorem o_conv(k:ConvK):oneI P F m (.conv d k x) K sf st=(jr st k (sf.ev F x)).wp (putP K d sf st):=bS P F m sf st K (.conv d k x) rfl rfl
theorem o_ext(j:Nat):oneI P F m (.ext d x j) K sf st=(extV (sf.ev F x) j).wp (putP K d sf st):=bS P F m sf st K (.ext d x j) rfl rfl
theorem eT(off:Nat)(k:Option Nat):oneI P F m (.field d x off k) K sf st=(eJ (sf.ev F x) off k).wp (putP K d sf st):=bS P F m sf st K (.field d x off k) rfl rfl
theorem o_addr(off:Nat):oneI P F m (.addr d x off) K sf st=(addA (sf.ev F x) off).wp (putP K d sf st):=bS P F m sf st K (.addr d x off) rfl rfl
theorem o_ixS(k:Nat):oneI P F m (.ixS d x i k) K sf st=(ixSV (sf.ev F x) (sf.ev F i) k).wp (putP K d sf st):=bS P F m sf st K (.ixS d x i k) rfl rfl
theorem o_ixStr:oneI P F m (.ixStr d x i) K sf st=(ixStrV (sf.ev F x) (sf.ev F i)).wp (putP K d sf st):=bS P F m sf st K (.ixStr d x i) rfl rfl
theorem o_load(k:Option Nat):oneI P F m (.load d x k) K sf st=(jv sf st (sf.ev F x) k).wp (putP K d sf st):=bS P F m sf st K (.load d x k) rfl rfl
theorem o_nilck:oneI P F m (.nilck d x) K sf st=(au (sf.ev F x)).wp (putP K d sf st):=bS P F m sf st K (.nilck d x) rfl rfl
theorem iI(lo hi:Option Opd)(k:Nat):oneI P F m (.sliS d x lo hi k) K sf st=(cu (sf.ev F x) (lo.map (sf.ev F)) (hi.map (sf.ev F)) k).wp (putP K d sf st):=bS P F m sf st K (.sliS d x lo hi k) rfl rfl
theorem o_sli3(lo hi:Option Opd)(mx:Opd)(k:Nat):oneI P F m (.sli3 d x lo hi mx k) K sf st=(sli3V (sf.ev F x) (lo.map (sf.ev F)) (hi.map (sf.ev F)) (sf.ev F mx) k).wp (putP K d sf st):=bS P F m sf st K (.sli3 d x lo hi mx k) rfl rfl
theorem o_mkif(t:Nat):oneI P F m (.mkif d t x) K sf st=(mkifV (sf.ev F x) t).wp (putP K d sf st):=bS P F m sf st K (.mkif d t x) rfl rfl
theorem o_tas(t:Nat):oneI P F m (.tas d t x) K sf st=(tasV (sf.ev F x) t).wp (putP K d sf st):=bS P F m sf st K (.tas d t x) rfl rfl
theorem dX(k len:Nat)(z:AV)(parts:List (Nat×Opd)):oneI P F m (.bsl d k len z parts) K sf st=(bslV k len z (parts.map fun p=>(p.1,sf.ev F p.2))).wp (putP K d sf st):=bS P F m sf st K (.bsl d k len z parts) rfl rfl
theorem o_bst(places:List (Nat×Nat))(z:AV)(parts:List (Nat×Opd)):oneI P F m (.bst d places z parts) K sf st=(bstV places z (parts.map fun p=>(p.1,sf.ev F p.2))).wp (putP K d sf st):=bS P F m sf st K (.bst d places z parts) rfl rfl
theorem bt(k:KeyK)(z:AV)(ok:Bool)(mp key:Opd):oneI P F m (.lookup d k z ok mp key) K sf st=(cA k z ok st (sf.ev F mp) (sf.ev F key)).wp (putP K d sf st):=bS P F m sf st K (.lookup d k z ok mp key) rfl rfl
theorem o_mkfn(g:Nat)(first cap:List Opd):oneI P F m (.mkfn d g first cap) K sf st=(mkfnV (F g) (first.map (sf.ev F)) (cap.map (sf.ev F))).wp (putP K d sf st):=bS P F m sf st K (.mkfn d g first cap) rfl rfl
theorem o_len(k:LenK):oneI P F m (.len d k x) K sf st=(lenI k st (sf.ev F x)).wp (putP K d sf st):=bS P F m sf st K (.len d k x) rfl rfl
theorem o_mn(lt:Bool):oneI P F m (.mn d lt x y) K sf st=(dZ lt (sf.ev F x) (sf.ev F y)).wp (putP K d sf st):=bS P F m sf st K (.mn d lt x y) rfl rfl
theorem nu(k bytes:Nat):oneI P F m (.app d k bytes x y) K sf st=(bd st k bytes (sf.ev F x) (sf.ev F y)).wp (putP K d sf st):=bS P F m sf st K (.app d k bytes x y) rfl rfl
end
def dp(m:Bool)(d:Nat)(v:AV)(K:Sf→St→Prop)(sf:Sf)(st:St):Prop :=
 match v with
 | .lptr s off=>(Res.ofOpt (look s sf.locs)).wp fun cs=>match cs[off]? with
   |some (.sl true k es)=>K ((sf.setLoc s (cs.set off (.sl false k es))).set d (.sl true k es)) st
   |_=>(jv sf st (.lptr s off) none).wp (putP K (some d) sf st)
 | .ptr id off=>if m then(jv sf st (.ptr id off) none).wp (putP K (some d) sf st)else(Res.ofOpt (st.get id)).wp fun cs=>match cs[off]? with
   |some (.sl true k es)=>K (sf.set d (.sl true k es)) (st.set id (cs.set off (.sl false k es)))
   |_=>(jv sf st (.ptr id off) none).wp (putP K (some d) sf st)
 |v=>(jv sf st v none).wp (putP K (some d) sf st)
theorem hH(d:Option Nat)(r:Res AV):(vI d sf st r).wp (ga K)=r.wp (putP K d sf st):=by
 unfold vI
 exact propext Res.wp_bind
theorem dt(d:Nat)(x:Opd):oneI P F m (.loadOwn d x) K sf st=dp m d (sf.ev F x) K sf st:=by
 show(cc F m (.loadOwn d x) sf st).wp (ga K)=_
 have hld:(popI F (.load (some d) x none) sf st)=jv sf st (sf.ev F x) none:=rfl
 simp only[cc,hld]
 generalize sf.ev F x=v
 unfold dp
 cases v with
 | lptr s off =>
   simp only
   cases hl:look s sf.locs with
   |none=>rfl
   | some cs =>
     simp only[Res.ofOpt,Res.bind,Res.wp]
     cases hc:cs[off]? with
     |none=>exact hH sf st K (some d) _
     | some c =>
       cases c with
       |sl o k es=>cases o<;>first|rfl|exact hH sf st K (some d) _
       |_=>exact hH sf st K (some d) _
 | ptr id off =>
   simp only
   cases m
   ·simp only[Bool.false_eq_true,if_false]
    cases hl:st.get id with
    |none=>rfl
    | some cs =>
      simp only[Res.ofOpt,Res.bind,Res.wp]
      cases hc:cs[off]? with
      |none=>exact hH sf st K (some d) _
      | some c =>
        cases c with
        |sl o k es=>cases o<;>first|rfl|exact hH sf st K (some d) _
        |_=>exact hH sf st K (some d) _
   ·simp only[if_true]
    exact hH sf st K (some d) _
 |_=>exact hH sf st K (some d) _
theorem o_own(d s:Nat):oneI P F m (.own d s) K sf st=K ((sf.disAt s).set d (sf.reg s)) st:=rfl
def eU(d s:Nat)(v lo:AV)(k:Nat)(K:Sf→St→Prop)(sf:Sf)(st:St):Prop :=
 match v with
 | .sl true k' es=>k'=k∧(ixTo (some lo) 0 es.length).wp fun l=>K ((sf.disAt s).set d (.sl true k (es.drop l))) st
 |v=>(cu v (some lo) none k).wp (putP K (some d) sf st)
theorem fc(d s:Nat)(lo:Opd)(k:Nat):oneI P F m (.sliOwn d s lo k) K sf st=eU d s (sf.reg s) (sf.ev F lo) k K sf st:=by
 show(cc F m (.sliOwn d s lo k) sf st).wp (ga K)=_
 have hld:(popI F (.sliS (some d) (.r s) (some lo) none k) sf st)=cu (sf.reg s) (some (sf.ev F lo)) none k:=rfl
 simp only[cc,hld]
 unfold eU
 generalize sf.reg s=v
 cases v with
 | sl o k' es =>
   cases o
   ·exact hH sf st K (some d) _
   ·simp only
    by_cases hk:k'=k
    ·subst hk
     simp only[if_true,true_and]
     exact propext Res.wp_bind
    ·simp only[hk,if_false,false_and];rfl
 |_=>exact hH sf st K (some d) _
def cX(d s k bytes:Nat)(v y:AV)(K:Sf→St→Prop)(sf:Sf)(st:St):Prop :=
 match v with
 | .sl true k' es=>(ce st k bytes (.sl true k' es) y).wp fun v=>K ((sf.disAt s).set d v) st
 |v=>(bd st k bytes v y).wp (putP K (some d) sf st)
theorem ci(d s k bytes:Nat)(y:Opd):oneI P F m (.appS d s k bytes y) K sf st=cX d s k bytes (sf.reg s) (sf.ev F y) K sf st:=by
 show(cc F m (.appS d s k bytes y) sf st).wp (ga K)=_
 have hld:(popI F (.app (some d) k bytes (.r s) y) sf st)=bd st k bytes (sf.reg s) (sf.ev F y):=rfl
 simp only[cc,hld]
 unfold cX
 generalize sf.reg s=v
 cases v with
 | sl o k' es =>
   cases o
   ·exact hH sf st K (some d) _
   ·exact propext Res.wp_bind
 |_=>exact hH sf st K (some d) _
theorem o_newL(d:Nat)(cs:List AV):oneI P F m (.newL d cs) K sf st=K (sf.newLoc d cs) st:=rfl
theorem o_newB(d:Nat)(cs:List AV):oneI P F m (.newB d cs) K sf st=(m=false∧K (sf.set d (.ptr st.boxes.length 0)) (st.push (.cells cs))):=by
 cases m
 ·exact propext ⟨fun h=>⟨rfl,h⟩,fun h=>h.2⟩
 ·exact propext ⟨fun h=>h.elim,fun h=>by cases h.1⟩
def boxX(n:Nat)(v:AV)(C:Prop):Prop:=v.solid=true∧v.cells.length=n∧C
theorem o_boxL(d n:Nat)(x:Opd):oneI P F m (.boxL d n x) K sf st=boxX n (sf.evOwn F x) (K (sf.newLoc d (sf.evOwn F x).dis.cells) st):=by
 show(cc F m (.boxL d n x) sf st).wp (ga K)=_
 unfold boxX
 simp only[cc]
 split
 ·rename_i h;exact propext ⟨fun q=>⟨h.1,h.2,q⟩,fun q=>q.2.2⟩
 ·rename_i h;exact propext ⟨fun q=>q.elim,fun q=>h ⟨q.1,q.2.1⟩⟩
theorem nv(d n:Nat)(x:Opd):oneI P F m (.boxB d n x) K sf st=boxX n (sf.evOwn F x) (m=false∧K ((sf.disOp x).set d (.ptr st.boxes.length 0)) (st.push (.cells (sf.evOwn F x).cells))):=by
 show(cc F m (.boxB d n x) sf st).wp (ga K)=_
 unfold boxX
 simp only[cc]
 split
 ·rename_i h;exact propext ⟨fun q=>⟨h.1,h.2.1,h.2.2,q⟩,fun q=>q.2.2.2⟩
 ·rename_i h;exact propext ⟨fun q=>q.elim,fun q=>h ⟨q.1,q.2.1,q.2.2.1⟩⟩
def af(m:Bool)(a:AV)(vs:List AV)(K:Sf→St→Prop)(sf:Sf)(st:St):Prop :=
 match a with
 | .lptr s off=>(Res.ofOpt (look s sf.locs)).wp fun cs=>off+vs.length≤cs.length∧K (sf.setLoc s (ca cs off vs)) st
 | .ptr id off=>m=false∧(Res.ofOpt (st.get id)).wp fun cs=>off+vs.length≤cs.length∧K sf (st.set id (ca cs off vs))
 |_=>False
theorem o_store(n:Nat)(a x:Opd):oneI P F m (.store n a x) K sf st=boxX n (sf.evOwn F x) (af m (sf.ev F a) (sf.evOwn F x).cells K (sf.disOp x) st):=by
 show(cc F m (.store n a x) sf st).wp (ga K)=_
 have hw:(qg m (sf.disOp x) st (sf.ev F a) (sf.evOwn F x).cells).wp (ga K)=af m (sf.ev F a) (sf.evOwn F x).cells K (sf.disOp x) st:=by
  generalize (sf.evOwn F x).cells=vs
  generalize sf.disOp x=sf1
  unfold qg af
  generalize sf.ev F a=v
  have hif:∀(c:Prop) [Decidable c] (r:Sf×St),(if c then Res.ok r else Res.fail).wp (ga K)=(c∧K r.1 r.2):=by
   intro c _ r
   by_cases hc:c
   ·rw[if_pos hc];exact propext ⟨fun q=>⟨hc,q⟩,fun q=>q.2⟩
   ·rw[if_neg hc];exact propext ⟨fun q=>q.elim,fun q=>hc q.1⟩
  cases v with
  | lptr s off =>
    simp only
    cases hl:look s sf1.locs with
    |none=>rfl
    |some cs=>exact hif _ _
  | ptr id off =>
    simp only
    cases m
    ·simp only[Bool.false_eq_true,if_false,true_and]
     cases hl:st.get id with
     |none=>rfl
     |some cs=>exact hif _ _
    ·exact propext ⟨fun q=>q.elim,fun q=>by cases q.1⟩
  |_=>rfl
 unfold boxX
 simp only[cc]
 split
 ·rename_i h;rw[hw];exact propext ⟨fun q=>⟨h.1,h.2,q⟩,fun q=>q.2.2⟩
 ·rename_i h;exact propext ⟨fun q=>q.elim,fun q=>h ⟨q.1,q.2.1⟩⟩
def delX(m:Bool)(k:KeyK)(mp key:AV)(K:Sf→St→Prop)(sf:Sf)(st:St):Prop :=
 keyI k key=true∧m=false∧match mp with
 | .map id=>(Res.ofOpt (st.getM id)).wp fun es=>(cU key es 0).wp fun r=>match r with
   |some (i,_)=>K sf (st.delM id es i)
   |none=>K sf st
 |_=>False
theorem pt(k:KeyK)(mp key:Opd):oneI P F m (.del k mp key) K sf st=delX m k (sf.ev F mp) (sf.ev F key) K sf st:=by
 show(cc F m (.del k mp key) sf st).wp (ga K)=_
 simp only[cc]
 unfold delX
 generalize sf.ev F key=kv
 generalize sf.ev F mp=v
 by_cases h:keyI k kv=true∧m=false
 ·have:∀A:Prop,(keyI k kv=true∧m=false∧A)=A:=fun A=>propext ⟨fun q=>q.2.2,fun q=>⟨h.1,h.2,q⟩⟩
  rw[if_pos h,this]
  cases v with
  | map id =>
    simp only
    cases hl:st.getM id with
    |none=>rfl
    | some es =>
      refine propext ((Res.wp_bind (r:=cU kv es 0)).trans ?_)
      refine⟨fun q=>Res.wp_mono (r:=cU kv es 0) q fun r hr=>?_,fun q=>Res.wp_mono (r:=cU kv es 0) q fun r hr=>?_⟩<;>(cases r<;>exact hr)
  |_=>rfl
 ·rw[if_neg h]
  exact propext ⟨fun q=>q.elim,fun q=>h ⟨q.1,q.2.1⟩⟩
theorem qw(d:Nat):oneI P F m (.mkmap d) K sf st=(m=false∧K (sf.set d (.map st.boxes.length)) (st.push (.mp [] [] 0))):=by
 cases m
 ·exact propext ⟨fun h=>⟨rfl,h⟩,fun h=>h.2⟩
 ·exact propext ⟨fun h=>h.elim,fun h=>by cases h.1⟩
def updX(m:Bool)(k:KeyK)(mp key x:AV)(K:Sf→St→Prop)(sf:Sf)(st:St):Prop :=
 keyI k key=true∧m=false∧x.solid=true∧match mp with
 | .map id=>(Res.ofOpt (st.getM id)).wp fun es=>(cU key es 0).wp fun r=>K sf (st.updM id es key x.dis r)
 |_=>False
theorem jx(k:KeyK)(mp key x:Opd):oneI P F m (.upd k mp key x) K sf st=updX m k (sf.ev F mp) (sf.ev F key) (sf.ev F x) K sf st:=by
 show(cc F m (.upd k mp key x) sf st).wp (ga K)=_
 simp only[cc]
 unfold updX
 generalize sf.ev F key=kv
 generalize sf.ev F mp=v
 generalize sf.ev F x=xv
 by_cases h:keyI k kv=true∧m=false∧xv.solid=true
 ·have:∀A:Prop,(keyI k kv=true∧m=false∧xv.solid=true∧A)=A:=fun A=>propext ⟨fun q=>q.2.2.2,fun q=>⟨h.1,h.2.1,h.2.2,q⟩⟩
  rw[if_pos h,this]
  cases v with
  | map id =>
    simp only
    cases hl:st.getM id with
    |none=>rfl
    |some es=>exact propext (Res.wp_bind (r:=cU kv es 0))
  |_=>rfl
 ·rw[if_neg h]
  exact propext ⟨fun q=>q.elim,fun q=>h ⟨q.1,q.2.1,q.2.2.1⟩⟩
theorem o_x(d:Option Nat)(i:XI):oneI P F m (.x d i) K sf st=a9 F m i d K sf st:=rfl
theorem o_call(d:Option Nat)(p:Bool)(f:Opd)(args:List Opd):oneI P F m (.call d p f args) K sf st=ix P m p d (sf.ev F f) (args.map (sf.ev F)) K sf st:=rfl
theorem callI_eq(p:Bool)(d:Option Nat)(q:FuncId)(fs cs args:List AV):ix P m p d (.fn (.func q) fs cs) args K sf st =
  (args.all AV.noL=true∧(if(p||m)=true then CallP P q (fs++args.map AV.dis++cs) st (putP K d sf st)else CallA P q (fs++args.map AV.dis++cs) st (putK K d sf))):=rfl
theorem pu{A:Type}(a:A)(C:A→Prop):(Res.ok a).wp C=C a:=rfl
theorem wp_req{A:Type}(b:Bool)(r:Res A)(C:A→Prop):(Res.req b r).wp C=(b=true∧r.wp C):=rfl
theorem wp_fail{A:Type}(C:A→Prop):(Res.fail:Res A).wp C=False:=rfl
theorem qx{A B:Type}(a:A)(f:A→Res B):(Res.ok a).bind f=f a:=rfl
theorem bind_req{A B:Type}(b:Bool)(r:Res A)(f:A→Res B):(Res.req b r).bind f= .req b (r.bind f):=rfl
theorem jL{A:Type}(a:A):Res.ofOpt (some a)= .ok a:=rfl
end
section
variable {P:Program} {m:Bool} {d:Option Nat} {q:FuncId} {fs cs args vs:List AV} {sf:Sf} {st:St} {K:Sf→St→Prop} {v:AV}
theorem ag{p:Bool}(hvs:fs++args.map AV.dis++cs=vs)(hent:cr P q=true)(h:az P q vs st v)(hn:args.all AV.noL=true)(hK:K (sf.put d v) st):ix P m p d (.fn (.func q) fs cs) args K sf st:=by
 rw[callI_eq,hvs]
 refine⟨hn,?_⟩
 split
 ·exact⟨hent,v,h,hK⟩
 ·exact⟨hent,_,h.acalls,fun v' st' e=>by obtain⟨rfl,rfl⟩:=e;exact hK⟩
theorem aR{Q:AV→St→Prop}(hvs:fs++args.map AV.dis++cs=vs)(hent:cr P q=true)(h:aF P q vs st Q)(hn:args.all AV.noL=true)(hK:∀v st',Q v st'→K (sf.put d v) st'):ix P false false d (.fn (.func q) fs cs) args K sf st:=by
 rw[callI_eq,hvs]
 exact⟨hn,hent,Q,h,hK⟩
theorem call_y{id:Nat}{Q:Bool→St→Prop}(hvs:args.map AV.dis=vs)(h:gP P id vs st Q)(hn:args.all AV.noL=true)(hK:∀t st',Q t st'→K (sf.put d (.lit (.bool t))) st'):ix P false false d (.yld id) args K sf st:=by
 subst hvs
 exact⟨hn,rfl,Q,h,hK⟩
end
theorem range_a{P:Program}{CA CB:Sf→St→(Exit→Sf→St→Prop)→Prop}{ps lb lv ll:List Nat}{q:FuncId}{fs cs:List AV}{sf:Sf}{st:St}{Q:Exit→Sf→St→Prop}(hent:cr P q=true)
  (h:∀r:Loop,(∀vs st' Q',qq CA CB ps st.boxes.length r (gc lb sf) vs st' Q'→gP P st.boxes.length vs st' Q') →
   ∃Qc,aF P q (fs++[.yld st.boxes.length]++cs) (st.push (.lp r (gc lb sf))) Qc∧∀v st',Qc v st'→behindI lv ll st.boxes.length r (gc lb sf) sf st' Q):lm P CA CB ps lb lv ll (.fn (.func q) fs cs) sf st Q:=⟨hent,h⟩
end Go.Fx
namespace Go.Fx
open Go Go.RowKit Go.ChangeShapes
inductive Sh where
 |bool
 |int (k:IntKind)
 |str
 |sl (e:Sh)
 |unit
 |pair (a r:Sh)
@[reducible] def Sh.T:Sh→Type
 | .bool=>Bool
 | .int _=>Int
 | .str=>ByteArray
 | .sl e=>List e.T
 | .unit=>Unit
 | .pair a r=>a.T×r.T
def Sh.size:Sh→Nat
 | .unit=>0
 | .pair a r=>a.size+r.size
 |_=>1
def Sh.isSt:Sh→Bool
 | .unit=>true
 | .pair _ _=>true
 |_=>false
def iJ:Bool→List AV→AV
 |true,cs=>.agg cs
 |false,cs=>cs.headD .any
def Sh.cells:(s:Sh)→s.T→List AV
 | .bool,b=>[.lit (.bool b)]
 | .int k,n=>[.lit (.int k n)]
 | .str,s=>[.lit (.string s)]
 | .sl e,l=>[.sl false e.size (List.map (fun x=>iJ e.isSt (e.cells x)) l)]
 | .unit,_=>[]
 | .pair a r,x=>a.cells x.1++r.cells x.2
def Sh.av(s:Sh)(x:s.T):AV:=iJ s.isSt (s.cells x)
def Sh.ok:(s:Sh)→s.T→Prop
 | .bool,_=>True
 | .int k,n=>k.min≤n∧n≤k.max
 | .str,s=>s.size≤maxLen
 | .sl e,l=>l.length≤maxLen∧∀x∈l,e.ok x
 | .unit,_=>True
 | .pair a r,x=>a.ok x.1∧r.ok x.2
theorem Sh.cells_len:∀(s:Sh) (x:s.T),(s.cells x).length=s.size
 | .bool,_=>rfl
 | .int _,_=>rfl
 | .str,_=>rfl
 | .sl _,_=>rfl
 | .unit,_=>rfl
 | .pair a r,x=>by simp[Sh.cells,Sh.size,Sh.cells_len a,Sh.cells_len r]
theorem Sh.av_cells(s:Sh)(x:s.T):(s.av x).cells=s.cells x:=by
 cases s<;>rfl
section
variable (P:Program)
mutual
def kD:Nat→TypeId→Option Sh
 |0,_=>none
 | n + 1, t => match P.underlying t with
   |some .bool=>some .bool
   |some (.int k)=>some (.int k)
   |some .string=>some .str
   |some (.slice e)=>(kD n e).bind fun s=>if s.size=P.cellsOf e∧0<s.size then some (.sl s)else none
   |some (.struct fs)=>(gp n 0 fs.toList).bind fun s=>if s.size=P.cellsOf t then some s else none
   |_=>none
def gp:Nat→Nat→List Field→Option Sh
 |0,_,_=>none
 |_+1,_,[]=>some .unit
 |n+1,off,f::r=>if f.offset=off then(kD n f.type).bind fun a=>if a.size=P.cellsOf f.type then(gp n (off+a.size) r).map (.pair a ·)else none else none
end
end
theorem shapeF_st{P:Program}:∀{n off:Nat} {l:List Field} {s:Sh},gp P n off l=some s→s.isSt=true
 |0,_,_,_,h=>by simp[gp]at h
 |n+1,off,[],s,h=>by simp[gp]at h;subst h;rfl
 | n + 1, off, f :: r, s, h => by
   simp only[gp]at h
   split at h
   ·rw[Option.bind_eq_some_iff]at h
    obtain⟨a,_,h⟩:=h
    split at h
    ·obtain⟨q,_,rfl⟩:=map_some h;rfl
    ·cases h
   ·cases h
section
variable {H:Type} {enc:TypeId×Value→H} {P:Program} {w:World} {base:Nat} {spare:Nat→Bool} {held:Bool} {g:Gh}
theorem pv{a:Addr}{q:Nat}{cs:List Value}(h:w.cells? base a q=some cs):cs.length=q∧∀(i:Nat) (u:Value),cs[i]?=some u→w.cell? (a.add i)=some u:=by
 unfold World.cells? at h
 split at h
 ·have key:∀(l:List Nat) (cs:List Value),l.mapM (fun i=>w.cell? (a.add i))=some cs→cs.length=l.length∧∀(i j:Nat) (u:Value),l[i]?=some j→cs[i]?=some u→w.cell? (a.add j)=some u:=by
   intro l
   induction l with
   |nil=>intro cs h;simp at h;subst h;exact⟨rfl,fun i j u h=>by simp at h⟩
   | cons x r ih =>
     intro cs h
     simp only[List.mapM_cons,bind,Option.bind_eq_some_iff,pure,Option.some.injEq]at h
     obtain⟨v,hv,l',hl,rfl⟩:=h
     obtain⟨h1,h2⟩:=ih l' hl
     refine⟨by simp[h1],fun i j u hi hu=>?_⟩
     cases i with
     |zero=>simp at hi hu;subst hi;subst hu;exact hv
     |succ i=>exact h2 i j u (by simpa using hi) (by simpa using hu)
  obtain⟨h1,h2⟩:=key _ _ h
  simp at h1
  refine⟨h1,fun i u hu=>h2 i i u ?_ hu⟩
  have:i<q:=by rw[←h1];exact(List.getElem?_eq_some_iff.1 hu).1
  simp[this]
 ·cases h
theorem add_spot{a:Addr}{i:Nat}{u:Value}(h:w.cell? (a.add i)=some u):i=0→a.spot=none:=by
 intro e
 subst e
 simp only[Addr.add,if_true]at h
 unfold World.cell? at h
 split at h
 ·split at h
  ·cases h
  ·rename_i hs;simpa using hs
 ·cases h
theorem gC{x:AV}{u:Value}(h:R g x u):RL g [x] [u]:=⟨rfl,fun i a b ha hb=>by cases i<;>simp at ha hb;subst ha;subst hb;exact h⟩
def Reads(g:Gh)(s:Sh)(cs:List Value):Prop:=∃x:s.T,s.ok x∧RL g (s.cells x) cs∧∀u∈cs,u.oneCell'=true
theorem shape_R(hi:∀b o u,w.cell? ⟨b,o,none⟩=some u→g.imm b o=some u):∀(n:Nat),
  (∀(t:TypeId) (s:Sh) (fuel:Nat) (cs:List Value) (x:DataW H×List MemPlace),kD P n t=some s→DataW.trod enc P w base spare held fuel t cs=some x→Reads g s cs) ∧
  (∀(off:Nat) (l:List Field) (s:Sh) (fuel:Nat) (cs:List Value) (xs:List (DataW H×List MemPlace)),gp P n off l=some s→cs.length=off+s.size →
   (l.mapM fun f=>DataW.trod enc P w base spare held fuel f.type ((cs.drop f.offset).take (P.cellsOf f.type)))=some xs→Reads g s (cs.drop off)):=by
 intro n
 induction n with
 |zero=>exact⟨fun t s fuel cs x h=>by simp[kD]at h,fun off l s fuel cs xs h=>by simp[gp]at h⟩
 | succ n ih =>
   obtain⟨ih1,ih2⟩:=ih
   constructor
   ·intro t s fuel cs x hs ht
    cases fuel with
    |zero=>simp[DataW.trod]at ht
    |succ fuel =>
    simp only[kD]at hs
    split at hs
    ·rename_i hu
     cases hs
     have:∃b,cs= [.bool b]:=by
      simp only[DataW.trod,hu]at ht
      split at ht<;>simp_all
     obtain⟨b,rfl⟩:=this
     exact⟨b,trivial,gC (R.lit _ rfl),by simp[Value.oneCell']⟩
    ·rename_i k hu
     cases hs
     have:∃m,cs= [.int k m]∧(Lit.int k m).wf=true:=by
      simp only[DataW.trod,hu]at ht
      split at ht<;>simp_all
     obtain⟨m,rfl,hwf⟩:=this
     simp only[Lit.wf,Bool.and_eq_true,decide_eq_true_eq]at hwf
     exact⟨m,hwf,gC (R.lit _ rfl),by simp[Value.oneCell']⟩
    ·rename_i hu
     cases hs
     have:∃q,cs= [.string q]∧q.size≤maxLen:=by
      simp only[DataW.trod,hu]at ht
      split at ht<;>simp_all
     obtain⟨q,rfl,hwf⟩:=this
     exact⟨q,hwf,gC (R.lit _ rfl),by simp[Value.oneCell']⟩
    ·rename_i e hu
     rw[Option.bind_eq_some_iff]at hs
     obtain⟨se,hse,hs⟩:=hs
     split at hs
     case isFalse=>cases hs
     rename_i hsz
     cases hs
     have:cs= [.slice none 0 0]∨∃a len cap elems,cs= [.slice (some a) len cap]∧len≤cap∧cap≤maxLen ∧
       (List.range len).mapM (fun i=>(w.cells? base (a.add (i*P.cellsOf e)) (P.cellsOf e)).bind (DataW.trod enc P w base spare held fuel e))=some elems:=by
      simp only[DataW.trod,hu]at ht
      split at ht
      all_goals try (exfalso;simp_all;done)
      ·rename_i e1 h1
       exact .inl rfl
      ·rename_i e1 a len cap h1
       cases h1
       split at ht
       ·rename_i hc
        rw[Option.bind_eq_some_iff]at ht
        obtain⟨elems,hm,_⟩:=ht
        exact .inr ⟨a,len,cap,elems,rfl,hc.2.1,hc.2.2,hm⟩
       ·cases ht
     rcases this with rfl|⟨a,len,cap,elems,rfl,hlc,hcm,hm⟩
     ·exact⟨[],⟨Nat.zero_le _,by simp⟩,gC (R.slN _ _),by simp[Value.oneCell']⟩
     ·have key:∀(l:List Nat) (es:List (DataW H×List MemPlace)),l.mapM (fun i=>(w.cells? base (a.add (i*P.cellsOf e)) (P.cellsOf e)).bind (DataW.trod enc P w base spare held fuel e))=some es →
        ∃ys:List se.T,ys.length=l.length∧∀(q j:Nat) (y:se.T),l[q]?=some j→ys[q]?=some y→se.ok y∧∃cj,w.cells? base (a.add (j*P.cellsOf e)) (P.cellsOf e)=some cj∧RL g (se.cells y) cj∧∀u∈cj,u.oneCell'=true:=by
       intro l
       induction l with
       |nil=>intro es _;exact⟨[],rfl,fun q j y h=>by simp at h⟩
       | cons z r ihl =>
         intro es h
         simp only[List.mapM_cons,bind,Option.bind_eq_some_iff,pure,Option.some.injEq]at h
         obtain⟨v,⟨cj,hcj,hv⟩,l',hl,rfl⟩:=h
         obtain⟨ys,h1,h2⟩:=ihl l' hl
         obtain⟨y,hy1,hy2,hy3⟩:=ih1 e se fuel cj v hse hv
         refine⟨y::ys,by simp[h1],fun q j y' hq hy=>?_⟩
         cases q with
         |zero=>simp at hq hy;subst hq;subst hy;exact⟨hy1,cj,hcj,hy2,hy3⟩
         |succ q=>exact h2 q j y' (by simpa using hq) (by simpa using hy)
      obtain⟨ys,hyl,hys⟩:=key _ _ hm
      simp at hyl
      have hsz1:=hsz.1
      refine⟨ys,⟨by rw[hyl];omega,fun y hy=>?_⟩,gC ?_,by simp[Value.oneCell']⟩
      ·obtain⟨q,hq⟩:=List.mem_iff_getElem?.1 hy
       have hql:q<len:=by rw[←hyl];exact(List.getElem?_eq_some_iff.1 hq).1
       exact(hys q q y (by simp[hql]) hq).1
      ·have hel:(List.map (fun x=>iJ se.isSt (se.cells x)) ys).length=len:=by simp[hyl]
       rcases Nat.eq_zero_or_pos len with h0|h0
       ·subst h0
        have:ys= []:=List.eq_nil_of_length_eq_zero hyl
        subst this
        exact R.slE false _ a cap
       ·have hsp:a.spot=none:=by
         obtain⟨y0,hy0⟩:∃y0,ys[0]?=some y0:=⟨ys[0],by simp⟩
         obtain⟨_,cj,hcj,hrl,_⟩:=hys 0 0 y0 (by simp[h0]) hy0
         obtain⟨hl0,hc0⟩:=pv hcj
         have hpos:0<cj.length:=by rw[hl0,←hsz1];exact hsz.2
         have:=hc0 0 cj[0] (by simp[hpos])
         simp only[Nat.zero_mul]at this
         have ha0:(a.add 0).add 0=a.add 0:=by simp[Addr.add]
         rw[ha0]at this
         exact add_spot this rfl
        obtain⟨b,o,sp⟩:=a
        simp only at hsp
        subst hsp
        have hcl:∀x∈(List.map (fun x=>iJ se.isSt (se.cells x)) ys),x.cells.length=se.size:=by
         intro x hx
         obtain⟨y,_,rfl⟩:=List.mem_map.1 hx
         have:=Sh.av_cells se y
         unfold Sh.av at this
         rw[this];exact Sh.cells_len se y
        have hget:∀(i:Nat) (x:AV),((List.map (fun x=>iJ se.isSt (se.cells x)) ys).flatMap AV.cells)[i]?=some x→∃u,w.cell? ⟨b,o+i,none⟩=some u∧R g x u∧u.oneCell'=true:=by
         intro i x hx
         obtain⟨q,r,e',rfl,h2,h3⟩:=fD hcl hx
         simp only[List.getElem?_map,Option.map_eq_some_iff]at h2
         obtain⟨y,hy,rfl⟩:=h2
         have hql:q<len:=by rw[←hyl];exact(List.getElem?_eq_some_iff.1 hy).1
         obtain⟨_,cj,hcj,hrl,hone⟩:=hys q q y (by simp[hql]) hy
         have hav:=Sh.av_cells se y
         unfold Sh.av at hav
         rw[hav]at h3
         obtain⟨hl0,hc0⟩:=pv hcj
         have hr:r<cj.length:=by rw[hrl.1];exact(List.getElem?_eq_some_iff.1 h3).1
         have h4:=hc0 r cj[r] (by simp[hr])
         rw[cq,cq,←hsz1]at h4
         refine⟨cj[r],?_,hrl.2 r x _ h3 (by simp[hr]),hone _ (List.getElem_mem hr)⟩
         rw[←Nat.add_assoc];exact h4
        have:=R.sl (g:=g) false se.size _ (fun i=>(w.cell? ⟨b,o+i,none⟩).getD undef) b o cap (by rw[hel];exact hlc) hcl (fun i x hx=>?_) (fun i x hx=>?_) (fun i x hx=>?_)
        ·rw[hel]at this;exact this
        ·obtain⟨u,h1,h2,h3⟩:=hget i x hx
         rw[h1];exact hi _ _ _ h1
        ·obtain⟨u,h1,h2,h3⟩:=hget i x hx
         rw[h1];exact h2
        ·obtain⟨u,h1,h2,h3⟩:=hget i x hx
         rw[h1];exact h3
    ·rename_i fs hu
     rw[Option.bind_eq_some_iff]at hs
     obtain⟨s',hs',hs⟩:=hs
     split at hs
     case isFalse=>cases hs
     rename_i hsz
     have hss:s'=s:=Option.some.inj hs
     subst hss
     have:cs.length=P.cellsOf t∧∃xs,(fs.toList.mapM fun f=>DataW.trod enc P w base spare held fuel f.type ((cs.drop f.offset).take (P.cellsOf f.type)))=some xs:=by
      simp only[DataW.trod,hu]at ht
      split at ht
      all_goals try (exfalso;simp_all;done)
      rename_i hc
      obtain⟨xs,hxs,_⟩:=map_some ht
      exact⟨hc,xs,hxs⟩
     obtain⟨hlen,xs,hxs⟩:=this
     have:=ih2 0 fs.toList s' fuel cs xs hs' (by rw[hlen,hsz];simp) hxs
     simpa using this
    ·cases hs
   ·intro off l s fuel cs xs hs hlen hm
    cases l with
    | nil =>
      simp only[gp]at hs
      cases hs
      refine⟨(),trivial,?_,?_⟩
      ·have:cs.drop off= []:=by apply List.drop_eq_nil_of_le;simp[Sh.size]at hlen;omega
       rw[this];exact RL.nil
      ·have:cs.drop off= []:=by apply List.drop_eq_nil_of_le;simp[Sh.size]at hlen;omega
       rw[this];simp
    | cons f r =>
      simp only[gp]at hs
      split at hs
      case isFalse=>cases hs
      rename_i hoff
      rw[Option.bind_eq_some_iff]at hs
      obtain⟨a,ha,hs⟩:=hs
      split at hs
      case isFalse=>cases hs
      rename_i hsz
      obtain⟨q,hq,rfl⟩:=map_some hs
      simp only[List.mapM_cons,bind,Option.bind_eq_some_iff,pure,Option.some.injEq]at hm
      obtain⟨x0,hx0,xr,hxr,rfl⟩:=hm
      obtain⟨y,hy1,hy2,hy3⟩:=ih1 f.type a fuel _ x0 ha hx0
      obtain⟨z,hz1,hz2,hz3⟩:=ih2 (off+a.size) r q fuel cs xr hq (by rw[hlen];simp[Sh.size];omega) hxr
      have hsplit:cs.drop off=(cs.drop f.offset).take (P.cellsOf f.type)++cs.drop (off+a.size):=by
       rw[hoff,←hsz,←List.drop_drop]
       exact(List.take_append_drop a.size (cs.drop off)).symm
      rw[hsplit]
      exact⟨(y,z),⟨hy1,hz1⟩,hy2.append hz2,fun u hu=>(List.mem_append.1 hu).elim (hy3 u) (hz3 u)⟩
theorem cell_plain{r:Reach}{b0:Nat}{t:TypeId}{v:Value}{s:Sh}{n:Nat}(hs:kD P (n+1) t=some s)(hv:Value.okWide P w r b0 t v):(s.isSt=true∧∃cs,v= .agg cs)∨(s.isSt=false∧v.cells= #[v]):=by
 simp only[kD]at hs
 unfold Value.okWide at hv
 split at hs
 ·rename_i hu
  cases hs
  simp only[hu,Cell.okWide,Cell.ok]at hv
  right
  refine⟨rfl,?_⟩
  cases v<;>first|rfl|(simp at hv;done)
 ·rename_i k hu
  cases hs
  simp only[hu,Cell.okWide,Cell.ok]at hv
  right
  refine⟨rfl,?_⟩
  cases v<;>first|rfl|(simp at hv;done)
 ·rename_i hu
  cases hs
  simp only[hu,Cell.okWide,Cell.ok]at hv
  right
  refine⟨rfl,?_⟩
  cases v<;>first|rfl|(simp at hv;done)
 ·rename_i e hu
  rw[Option.bind_eq_some_iff]at hs
  obtain⟨se,hse,hs⟩:=hs
  split at hs
  case isFalse=>cases hs
  cases hs
  simp only[hu,Cell.okWide,Cell.ok]at hv
  right
  refine⟨rfl,?_⟩
  cases v<;>first|rfl|(simp at hv;done)
 ·rename_i fs hu
  rw[Option.bind_eq_some_iff]at hs
  obtain⟨s',hs',hs⟩:=hs
  split at hs
  case isFalse=>cases hs
  have hss:s'=s:=Option.some.inj hs
  subst hss
  simp only[hu]at hv
  obtain⟨cs,rfl,_⟩:=hv
  exact .inl ⟨shapeF_st hs',cs,rfl⟩
 ·cases hs
theorem trod_sh(hi:∀b o u,w.cell? ⟨b,o,none⟩=some u→g.imm b o=some u){n:Nat}{t:TypeId}{s:Sh}{v:Value}{d:DataW H}{ps:List MemPlace}{r:Reach}{b0:Nat}(hs:kD P (n+1) t=some s)(h:DataW.Trod enc P w base spare held t v d ps)
  (hv:Value.okWide P w r b0 t v):∃x:s.T,s.ok x∧R g (s.av x) v:=by
 obtain⟨fuel,hf⟩:=h
 obtain⟨x,h1,h2,h3⟩:=(shape_R (enc:=enc) (base:=base) (spare:=spare) (held:=held) hi (n+1)).1 t s fuel _ _ hs hf
 refine⟨x,h1,?_⟩
 rcases cell_plain hs hv with⟨hst,cs,rfl⟩|⟨hst,hc⟩
 ·unfold Sh.av
  rw[hst]
  have:=RL.agg h2
  simpa [iJ,Value.cells]using this
 ·rw[hc]at h2
  unfold Sh.av
  rw[hst]
  simp only[iJ]
  have hl:=h2.1
  match hcs:s.cells x,hl with
  | [c], _ =>
    rw[hcs]at h2
    exact h2.2 0 c v rfl rfl
def parS(P:Program):List TypeId→Option Sh
 | []=>some .unit
 | t :: r => match kD P 20 t, parS P r with
   |some s,some q=>some (.pair s q)
   |_,_=>none
def fM:(s:Sh)→s.T→List AV
 | .pair a r,x=>a.av x.1::fM r x.2
 | .bool,_=>[]
 | .int _,_=>[]
 | .str,_=>[]
 | .sl _,_=>[]
 | .unit,_=>[]
theorem args_R(hi:∀b o u,w.cell? ⟨b,o,none⟩=some u→g.imm b o=some u){b0:Nat}:∀{ts:List TypeId} {vs:List Value} {ds:List (DataW H)} {ps:List MemPlace} {S:Sh},parS P ts=some S→DataW.TrodAll enc P w base spare held ts vs ds ps →
  (∀(j:Nat) t v,ts[j]?=some t→vs[j]?=some v→Value.okWide P w .any b0 t v)→∃x:S.T,S.ok x∧gy g (fM S x) vs.toArray
 | [], vs, ds, ps, S, hS, h, _ => by
   simp only[parS]at hS
   cases hS
   cases vs with
   |nil=>exact⟨(),trivial,rfl,fun i x u hx=>by simp[fM]at hx⟩
   |cons v r=>cases ds<;>exact h.elim
 | t :: ts, vs, ds, ps, S, hS, h, hok => by
   simp only[parS]at hS
   split at hS
   ·rename_i s q hs hq
    cases hS
    cases vs with
    |nil=>cases ds<;>exact h.elim
    | cons v vs =>
      cases ds with
      |nil=>exact h.elim
      | cons d ds =>
        obtain⟨p1,p2,h1,h2,_⟩:=h
        obtain⟨x,hx1,hx2⟩:=trod_sh hi (n:=19) hs h1 (hok 0 t v rfl rfl)
        obtain⟨y,hy1,hy2⟩:=args_R hi hq h2 (fun j t v ht hv=>hok (j+1) t v (by simpa using ht) (by simpa using hv))
        refine⟨(x,y),⟨hx1,hy1⟩,by simpa [fM]using hy2.1,fun i a u ha hu=>?_⟩
        cases i with
        |zero=>simp[fM]at ha hu;subst ha;subst hu;exact hx2
        |succ i=>exact hy2.2 i a u (by simpa [fM]using ha) (by simpa using hu)
   ·cases hS
theorem jy(hl:laidOutB P=true){W W':World}{sp':Nat→Bool}:∀{ts:List TypeId} {vs:List Value} {ds:List (DataW H)} {ps:List MemPlace},(∀t∈ts,P.readableRec t=true∧t<P.types.size) →
  DataW.TrodAll enc P W base (fun _=>true) true ts vs ds ps→(∀p∈ps,W.sameAt W' p)→(∀p∈ps,sp' p.block=true)→DataW.TrodAll enc P W' base sp' true ts vs ds ps
 | [],[],[],ps,_,h,_,_=>h
 | [],[],_::_,_,_,h,_,_=>h.elim
 | [],_::_,[],_,_,h,_,_=>h.elim
 | [],_::_,_::_,_,_,h,_,_=>h.elim
 |_::_,[],[],_,_,h,_,_=>h.elim
 |_::_,[],_::_,_,_,h,_,_=>h.elim
 |_::_,_::_,[],_,_,h,_,_=>h.elim
 | t :: ts, v :: vs, d :: ds, ps, ht, h, hs, hp => by
   obtain⟨p,q,h1,h2,rfl⟩:=h
   exact⟨p,q,WideElems.Trod_stays hl (ht t (by simp)).1 (ht t (by simp)).2 h1 (fun x hx=>hs x (by simp[hx])) (fun x hx=>hp x (by simp[hx])),
    jy hl (fun t h=>ht t (by simp[h])) h2 (fun x hx=>hs x (by simp[hx])) (fun x hx=>hp x (by simp[hx])),rfl⟩
theorem oK{W W':World}{may:MemPlace→Prop}(hb:Below W.heap.size W W'):W.keptBut W' may:=by
 refine⟨hb.os,hb.output,fun i hi=>?_⟩
 rw[hb.block i hi]
 cases hh:W.heap[i]? with
 |none=>rfl
 |some o=>cases o<;>first|rfl|exact⟨rfl,rfl,rfl,fun _ _=>rfl⟩|exact .inr ⟨rfl,rfl⟩
theorem post_law{f:Func}{s:ChangeSpec}{apart fresh handsOn again:Bool}{W W':World}{args:Array Value}{ds gs:List (DataW H)}{before:List MemPlace}{tb:TypeId}(hl:laidOutB P=true)(ht:∀t∈f.params.toList,P.readableRec t=true∧t<P.types.size)
  (hres:f.resultTypes= #[tb]) (htb:P.underlying tb=some .bool) (hvars:s.vars= []) (hfn:∀ds:List (DataW H),ds.length=f.params.size→(s.fn H ds).results= [.lit (.bool true)]∧(s.fn H ds).args=ds∧(s.fn H ds).vars= [])
  (hW:DataW.Whole enc P f.params.toList s.vars apart W args.toList ds gs before) (hb:Below W.heap.size W W'):s.post enc P f apart fresh handsOn again W args (.bool true) W':=by
 have hW0:=hW
 obtain⟨p,q,hA,hV,hpq,hz,hn⟩:=hW
 rw[hvars]at hV
 obtain⟨rfl,rfl⟩:=trodVars_none hV
 simp only[List.append_nil]at hpq
 subst hpq
 have hlen:ds.length=f.params.size:=by
  have key:∀{ts:List TypeId} {vs:List Value} {ds:List (DataW H)} {ps:List MemPlace},DataW.TrodAll enc P W 0 (fun _=>true) true ts vs ds ps→ds.length=ts.length:=by
   intro ts
   induction ts with
   |nil=>intro vs ds ps h;cases vs<;>cases ds<;>first|rfl|exact h.elim
   | cons t ts ih =>
     intro vs ds ps h
     cases vs<;>cases ds<;>first|exact h.elim|skip
     obtain⟨_,_,_,h2,_⟩:=h
     simp[ih h2]
  have:=key hA
  simpa using this
 obtain⟨hr1,hr2,hr3⟩:=hfn (ds++[]) (by simpa using hlen)
 have hlt:∀x∈before,x.block<W.heap.size:=fun x hx=>by simpa using hW0.lt x hx
 have hsame:∀x∈before,W.sameAt W' x:=fun x hx=>hb.same (hlt x hx)
 have hret:∀(b:Nat) (sp:Nat→Bool) (hd:Bool),DataW.TrodAll enc P W' b sp hd f.resultTypes.toList ((Value.bool true).resultList f.resultTypes.size) (s.fn H (ds++[])).results []:=by
  intro b sp hd
  rw[hr1,hres]
  refine⟨[],[],⟨1,?_⟩,rfl,rfl⟩
  simp[DataW.trod,htb,Value.cells]
 have hargs:∀sp:Nat→Bool,(∀p∈before,sp p.block=true)→DataW.TrodAll enc P W' 0 sp true f.params.toList args.toList (s.fn H (ds++[])).args before:=by
  intro sp hsp
  rw[hr2,List.append_nil]
  exact jy hl ht hA hsame hsp
 have hvs:∀sp:Nat→Bool,DataW.TrodVars enc P W' sp s.vars (s.fn H (ds++[])).vars []:=by
  intro sp
  rw[hvars,hr3]
  rfl
 refine⟨ds,[],before,[],before,[],hW0,hret _ _ _,hargs _ (fun x hx=>by simpa using hlt x hx),hvs _,oK hb,fun _=>?_⟩
 refine⟨fun j t r hj hr=>?_,_,_,([]++before)++[],⟨[]++before,[],trodAll_append (hargs _ (fun _ _=>rfl)) (hret _ _ _),hvs _,rfl,?_,?_⟩,?_⟩
 ·rw[hres]at hj hr
  match j with
  | 0 =>
    simp[Value.resultList]at hj hr
    subst hj;subst hr
    simp[Value.okWide,htb,Cell.okWide,Cell.ok]
  |j+1=>simp at hj
 ·intro b off hp
  have hp':(MemPlace.cell b off)∈before:=by simpa using hp
  have h1:=hz b off hp'
  have h2:=hlt _ hp'
  unfold World.frozen? at h1 ⊢
  rw[hb.block b h2];exact h1
 ·intro ha
  have:=hn ha
  simpa using this
 ·intro x hx _
  simpa using hx
theorem wrap_nb{b:Bool}{l:List AV}(h:∀c∈l,c.NB):(iJ b l).NB:=by
 cases b
 ·cases l with
  |nil=>exact .any
  |cons c r=>exact h c (List.mem_cons_self ..)
 ·exact .agg _ h
theorem kE:∀(s:Sh) (x:s.T),∀c∈s.cells x,c.NB
 | .bool,b,c,h=>by simp only[Sh.cells,List.mem_singleton]at h;subst h;exact .lit _
 | .int _,b,c,h=>by simp only[Sh.cells,List.mem_singleton]at h;subst h;exact .lit _
 | .str,b,c,h=>by simp only[Sh.cells,List.mem_singleton]at h;subst h;exact .lit _
 | .sl e, l, c, h => by
   simp only[Sh.cells,List.mem_singleton]at h;subst h
   refine .sl _ _ _ fun v hv=>?_
   obtain⟨y,_,rfl⟩:=List.mem_map.1 hv
   exact wrap_nb (kE e y)
 | .unit,_,c,h=>by simp[Sh.cells]at h
 | .pair a r, x, c, h => by
   simp only[Sh.cells,List.mem_append]at h
   exact h.elim (kE a x.1 c) (kE r x.2 c)
theorem avsOf_nb:∀(s:Sh) (x:s.T),∀c∈fM s x,c.NB
 | .pair a r, x, c, h => by
   simp only[fM,List.mem_cons]at h
   rcases h with rfl|h
   ·exact wrap_nb (kE a x.1)
   ·exact avsOf_nb r x.2 c h
 | .bool,_,c,h=>by simp[fM]at h
 | .int _,_,c,h=>by simp[fM]at h
 | .str,_,c,h=>by simp[fM]at h
 | .sl _,_,c,h=>by simp[fM]at h
 | .unit,_,c,h=>by simp[fM]at h
theorem law_calls{f:FuncId}{fn:Func}{s:ChangeSpec}{apart fresh handsOn again:Bool}{tb:TypeId}{S:Sh}(hl:laidOutB P=true)(ht:∀t∈fn.params.toList,P.readableRec t=true∧t<P.types.size)
  (hS:parS P fn.params.toList=some S) (hres:fn.resultTypes= #[tb]) (htb:P.underlying tb=some .bool) (hvars:s.vars= []) (hfn:∀ds:List (DataW H),ds.length=fn.params.size→(s.fn H ds).results= [.lit (.bool true)]∧(s.fn H ds).args=ds∧(s.fn H ds).vars= [])
  (hlaw:∀x:S.T,S.ok x→az P f (fM S x) ⟨[]⟩ (.lit (.bool true)))
  (W:World) (b0:Nat) (args:Array Value) (ds gs:List (DataW H)) (before:List MemPlace) (hval:∀(j:Nat) t v,fn.params[j]?=some t→args[j]?=some v→Value.okWide P W .any b0 t v)
  (hW:DataW.Whole enc P fn.params.toList s.vars apart W args.toList ds gs before):Calls P f args W fun e W'=>∃v,e= .returned v∧s.post enc P fn apart fresh handsOn again W args v W':=by
 have hW0:=hW
 obtain⟨p,q,hA,_⟩:=hW
 let g0:Gh:=⟨W.heap.size,fun b o=>W.cell? ⟨b,o,none⟩,fun _=>none,fun _ _=>none,fun _=>none⟩
 have hg:Good g0 W:=⟨fun _ _ _ h=>h,fun _ _ _ _=>.inl rfl,(fun b c hc=>by cases hc),Nat.le_refl _⟩
 have hbx:BoxR g0 W ⟨[]⟩:=⟨fun _ _=>rfl,fun id cs hc=>by simp at hc,fun id bx hc=>by simp at hc⟩
 obtain⟨x,hx,hargs⟩:=args_R (g:=g0) (b0:=b0) (fun b o u h=>h) hS hA (fun j t v ht hv=>hval j t v (by simpa using ht) (by simpa using hv))
 refine(hlaw x hx g0 W args (fun _=>.box 0 0) hg hbx (by simpa using hargs)).mono fun e W' ⟨u,g',he,hle,hR,_⟩=>?_
 have hu:=hR.lit_inv.1
 subst hu
 exact⟨_,he,post_law hl ht hres htb hvars hfn hW0 hle.below⟩
theorem law_top{f:FuncId}{fn:Func}{s:ChangeSpec}{apart fresh handsOn again:Bool}{tb:TypeId}{S:Sh}(hl:laidOutB P=true)(ht:(fn.params.toList.all fun t=>P.readableRec t && decide (t<P.types.size))=true)
  (hS:parS P fn.params.toList=some S) (hres:fn.resultTypes= #[tb]) (htb:P.underlying tb=some .bool) (hvars:s.vars= []) (hfn:∀ds:List (DataW H),ds.length=fn.params.size→(s.fn H ds).results= [.lit (.bool true)]∧(s.fn H ds).args=ds∧(s.fn H ds).vars= [])
  (hlaw:∀x:S.T,S.ok x→aF P f (fM S x) ⟨[]⟩ fun v _=>v= .lit (.bool true))
  (W:World) (b0:Nat) (args:Array Value) (ds gs:List (DataW H)) (before:List MemPlace) (hval:∀(j:Nat) t v,fn.params[j]?=some t→args[j]?=some v→Value.okWide P W .any b0 t v)
  (hW:DataW.Whole enc P fn.params.toList s.vars apart W args.toList ds gs before):Calls P f args W fun e W'=>∃v,e= .returned v∧s.post enc P fn apart fresh handsOn again W args v W':=by
 refine law_calls hl (fun t h=>by have:=List.all_eq_true.1 ht t h;simpa using this) hS hres htb hvars hfn (fun x hx=>?_) W b0 args ds gs before hval hW
 refine mt ((hlaw x hx).mono fun v st e=>by subst e;exact .le _ _ (.refl _) (.lit _)) (fun v hv=>avsOf_nb S x v hv) _
end
end Go.Fx
namespace Go.Fx
open Go
def TabOk(P:Program)(F:Nat→FuncId)(T:FuncId→Option AFun):Prop:=∀q fn,T q=some fn→cr P q=true∧∃X:Cx,X.F=F∧iG P X q=some fn
end Go.Fx
namespace Go.Fx
open Go
section
variable (v:Value) (vs cs:List AV) (i o k s t n l c:Nat) (b:Bool) (x:AV) (f:Fn) (w:Option Nat)
theorem dis_any:AV.any.dis= .any:=rfl
theorem ar:(AV.lit v).dis= .lit v:=rfl
theorem i8:(AV.ptr i o).dis= .ptr i o:=rfl
theorem aM:(AV.sl b k cs).dis= .sl false k cs:=rfl
theorem dis_map:(AV.map i).dis= .map i:=rfl
theorem dis_yld(i:Nat):(AV.yld i).dis= .yld i:=rfl
theorem nx(k:Nat):mkSl k []= .sl true k []:=rfl
theorem ny(k:Nat)(v:Value)(r:List AV):mkSl k (.lit v::r)= .sl true k (.lit v::r):=rfl
theorem bN(k:Nat)(v:List AV)(r:List AV):mkSl k (.agg v::r)= .sl true k (.agg v::r):=rfl
theorem dis_fn:(AV.fn f vs cs).dis= .fn f vs cs:=rfl
theorem am:(AV.agg cs).dis= .agg (cs.map AV.own1):=rfl
theorem dis_tup:(AV.tup cs).dis= .tup (cs.map AV.own2):=rfl
theorem gT:(AV.bs i k o l c).dis= .bs i k o l c:=rfl
theorem ai:(AV.lit v).own1= .lit v:=rfl
theorem own1_ptr:(AV.ptr i o).own1= .ptr i o:=rfl
theorem aw:(AV.sl b k cs).own1= .sl false k cs:=rfl
theorem kF:(AV.map i).own1= .map i:=rfl
theorem own1_bs:(AV.bs i k o l c).own1= .bs i k o l c:=rfl
theorem own2_lit:(AV.lit v).own2= .lit v:=rfl
theorem own2_ptr:(AV.ptr i o).own2= .ptr i o:=rfl
theorem own2_agg:(AV.agg cs).own2= .agg (cs.map AV.own1):=rfl
theorem lw:(AV.lit v).cells= [.lit v]:=rfl
theorem i9:(AV.ptr i o).cells= [.ptr i o]:=rfl
theorem bu:(AV.sl b k cs).cells= [.sl b k cs]:=rfl
theorem ja:(AV.map i).cells= [.map i]:=rfl
theorem pw:(AV.agg cs).cells=cs:=rfl
theorem cells_bs:(AV.bs i k o l c).cells= [.bs i k o l c]:=rfl
theorem nz:(AV.lit v).solid1=true:=rfl
theorem eK:(AV.ptr i o).solid1=true:=rfl
theorem px:(AV.sl b k cs).solid1=true:=rfl
theorem fO:(AV.map i).solid1=true:=rfl
theorem solid1_bs:(AV.bs i k o l c).solid1=true:=rfl
theorem solid_eq:x.solid=x.cells.all AV.solid1:=rfl
theorem noL_any:AV.any.noL=true:=rfl
theorem aq:(AV.lit v).noL=true:=rfl
theorem eV:(AV.ptr i o).noL=true:=rfl
theorem aI:(AV.sl b k cs).noL=true:=rfl
theorem noL_map:(AV.map i).noL=true:=rfl
theorem noL_fn:(AV.fn f vs cs).noL=true:=rfl
theorem ao:(AV.agg cs).noL=true:=rfl
theorem noL_tup:(AV.tup cs).noL=true:=rfl
theorem noL_bs:(AV.bs i k o l c).noL=true:=rfl
theorem ep:kill s .any= .any:=rfl
theorem kill_lit:kill s (.lit v)= .lit v:=rfl
theorem kill_ptr:kill s (.ptr i o)= .ptr i o:=rfl
theorem py:kill s (.lptr t o)=if t=s then .any else .lptr t o:=rfl
theorem eL:kill s (.cptr cs)= .cptr cs:=rfl
theorem cI:kill s (.sl b k cs)= .sl b k cs:=rfl
theorem dq:kill s (.map i)= .map i:=rfl
theorem kill_agg:kill s (.agg cs)= .agg cs:=rfl
theorem cx:kill s (.tup cs)= .tup cs:=rfl
theorem kill_bs:kill s (.bs i k o l c)= .bs i k o l c:=rfl
end
section
variable (F:Nat→FuncId) (sf:Sf) (t g:Nat) (v:AV) (st:St)
theorem ev_r:sf.ev F (.r t)=sf.reg t:=rfl
theorem ev_c:sf.ev F (.c v)=v:=rfl
theorem ev_f:sf.ev F (.f g)= .fn (.func (F g)) [] []:=rfl
theorem evOwn_r:sf.evOwn F (.r t)=sf.reg t:=rfl
theorem disOp_r:sf.disOp (.r t)=sf.disAt t:=rfl
theorem setB_r(b:Bool):(Opd.r t).setB sf b=sf.set t (.lit (.bool b)):=rfl
theorem putS(d:Nat):sf.put (some d) v=sf.set d v:=rfl
theorem putN:sf.put none v=sf:=rfl
variable (k k':IntKind) (a b:Int) (p q:Bool) (sa sb:ByteArray)
theorem n_add:binI .num .add (.lit (.int k a)) (.lit (.int k b))= .ok (.lit (.int k (k.wrap (a+b)))):=by cases k<;>rfl
theorem n_sub:binI .num .sub (.lit (.int k a)) (.lit (.int k b))= .ok (.lit (.int k (k.wrap (a-b)))):=by cases k<;>rfl
theorem n_eql:binI .num .eql (.lit (.int k a)) (.lit (.int k b))= .ok (.lit (.bool (decide (a=b)))):=by cases k<;>rfl
theorem n_neq:binI .num .neq (.lit (.int k a)) (.lit (.int k b))= .ok (.lit (.bool (decide (¬a=b)))):=by
 have h:(a !=b)=decide (¬a=b):=by rw[bne_eq,decide_not];rfl
 rw[←h]
 cases k<;>rfl
theorem n_lss:binI .num .lss (.lit (.int k a)) (.lit (.int k b))= .ok (.lit (.bool (decide (a<b)))):=by cases k<;>rfl
theorem nD:binI .num .leq (.lit (.int k a)) (.lit (.int k b))= .ok (.lit (.bool (decide (a≤b)))):=by cases k<;>rfl
theorem n_gtr:binI .num .gtr (.lit (.int k a)) (.lit (.int k b))= .ok (.lit (.bool (decide (a > b)))):=by cases k<;>rfl
theorem n_geq:binI .num .geq (.lit (.int k a)) (.lit (.int k b))= .ok (.lit (.bool (decide (a ≥ b)))):=by cases k<;>rfl
end
theorem req_dec{A:Type}{p:Prop}[Decidable p]{r:Res A}{K:A→Prop}(h:p):(Res.req (decide p) r).wp K=r.wp K:=by
 rw[wp_req,decide_eq_true h]
 exact propext ⟨fun q=>q.2,fun q=>⟨rfl,q⟩⟩
theorem req_tt{A:Type}{r:Res A}{K:A→Prop}:(Res.req true r).wp K=r.wp K:=propext ⟨fun q=>q.2,fun q=>⟨rfl,q⟩⟩
section
variable {x:Opd} {p:Prop} [Decidable p] {A B:Sf→St→(Exit→Sf→St→Prop)→Prop} {sf:Sf} {st:St} {Q:Exit→Sf→St→Prop} {t:Nat} {b:Bool} {Y N:Sf→St→Prop}
theorem qy:iE x (.lit (.bool true)) A B sf st Q=A (x.setB sf true) st Q:=by
 rw[condI_eq];exact propext ⟨fun h=>h.1 rfl,fun h=>⟨fun _=>h,fun e=>by cases e⟩⟩
theorem qz:iE x (.lit (.bool false)) A B sf st Q=B (x.setB sf false) st Q:=by
 rw[condI_eq];exact propext ⟨fun h=>h.2 rfl,fun h=>⟨fun e=>(by cases e),fun _=>h⟩⟩
theorem nE(h:p):iE x (.lit (.bool (decide p))) A B sf st Q=A (x.setB sf true) st Q:=by
 rw[decide_eq_true h,qy]
theorem qA(h:¬p):iE x (.lit (.bool (decide p))) A B sf st Q=B (x.setB sf false) st Q:=by
 rw[decide_eq_false h,qz]
theorem aA(h1:p→A (x.setB sf true) st Q)(h2:¬p→B (x.setB sf false) st Q):iE x (.lit (.bool (decide p))) A B sf st Q:=by
 by_cases h:p
 ·rw[nE h];exact h1 h
 ·rw[qA h];exact h2 h
theorem nF{want:Bool}:fh t want (.lit (.bool true)) Y N sf st=if want=true then Y (sf.set t (.lit (.bool true))) st else N (sf.set t (.lit (.bool true))) st:=by
 rw[pr]
 cases want
 ·exact propext ⟨fun h=>h.2 rfl,fun h=>⟨fun e=>(by cases e),fun _=>h⟩⟩
 ·exact propext ⟨fun h=>h.1 rfl,fun h=>⟨fun _=>h,fun e=>(by cases e)⟩⟩
theorem nG{want:Bool}:fh t want (.lit (.bool false)) Y N sf st=if want=true then N (sf.set t (.lit (.bool false))) st else Y (sf.set t (.lit (.bool false))) st:=by
 rw[pr]
 cases want
 ·exact propext ⟨fun h=>h.1 rfl,fun h=>⟨fun _=>h,fun e=>(by cases e)⟩⟩
 ·exact propext ⟨fun h=>h.2 rfl,fun h=>⟨fun e=>(by cases e),fun _=>h⟩⟩
theorem ba(h:p){want:Bool}:fh t want (.lit (.bool (decide p))) Y N sf st=if want=true then Y (sf.set t (.lit (.bool true))) st else N (sf.set t (.lit (.bool true))) st:=by
 rw[decide_eq_true h,nF]
theorem nH(h:¬p){want:Bool}:fh t want (.lit (.bool (decide p))) Y N sf st=if want=true then N (sf.set t (.lit (.bool false))) st else Y (sf.set t (.lit (.bool false))) st:=by
 rw[decide_eq_false h,nG]
theorem bj{want:Bool}(h1:p→if want=true then Y (sf.set t (.lit (.bool true))) st else N (sf.set t (.lit (.bool true))) st)(h2:¬p→if want=true then N (sf.set t (.lit (.bool false))) st else Y (sf.set t (.lit (.bool false))) st):fh t want (.lit (.bool (decide p))) Y N sf st:=by
 by_cases h:p
 ·rw[ba h];exact h1 h
 ·rw[nH h];exact h2 h
end
def nI:List Nat→List (Nat×AV)→List (Nat×AV)
 | [],_=>[]
 |t::r,l=>(t,getR l t)::nI r l
theorem pz(l:List (Nat×AV)):nI [] l= []:=rfl
theorem nJ(t:Nat)(r:List Nat)(l:List (Nat×AV)):nI (t::r) l=(t,getR l t)::nI r l:=rfl
theorem mask_eq(sf:Sf)(lv ll:List Nat):sf.mask lv ll=⟨nI lv sf.regs,iD ll sf.locs⟩:=by
 have:∀lv:List Nat,(lv.map fun t=>(t,sf.reg t))=nI lv sf.regs:=by
  intro lv
  induction lv with
  |nil=>rfl
  |cons t r ih=>simp only[List.map_cons,nI,ih];rfl
 unfold Sf.mask
 rw[this]
theorem and_pre{p q:Prop}(h:p):(p∧q)=q:=propext ⟨fun a=>a.2,fun a=>⟨h,a⟩⟩
theorem bg{n bytes:Nat}(h:n*bytes≤140737488355328∧n≤1000000000000000):eZ n bytes=true:=decide_eq_true h
theorem bE(k:NilK)(x y:AV):binI (.nil k) .eql x y=(Res.ofOpt (gk k x y)).bind fun b=>.ok (.lit (.bool b)):=rfl
theorem mw(k:NilK)(x y:AV):binI (.nil k) .neq x y=(Res.ofOpt (gk k x y)).bind fun b=>.ok (.lit (.bool !b)):=rfl
theorem nilX_nil(op:BinOp)(C:AV→St→Prop)(st:St):nilX op (.lit (.slice none 0 0)) (.lit (.slice none 0 0)) C st=(binI (.nil .sl) op (.lit (.slice none 0 0)) (.lit (.slice none 0 0))).wp (atS C st):=rfl
theorem nilX_bs(op:BinOp)(i k o l c:Nat)(C:AV→St→Prop)(st:St):nilX op (.bs i k o l c) (.lit (.slice none 0 0)) C st=(binI (.nil .sl) op (.bs i k o l c) (.lit (.slice none 0 0))).wp (atS C st):=rfl
theorem pA(op:BinOp)(o:Bool)(k:Nat)(x:AV)(l:List AV)(C:AV→St→Prop)(st:St):nilX op (.sl o k (x::l)) (.lit (.slice none 0 0)) C st=(binI (.nil .sl) op (.sl o k (x::l)) (.lit (.slice none 0 0))).wp (atS C st):=rfl
theorem nK(op:BinOp)(o:Bool)(k:Nat)(C:AV→St→Prop)(st:St):nilX op (.sl o k []) (.lit (.slice none 0 0)) C st= ∀b:Bool,C (.lit (.bool b)) st:=rfl
theorem nL(c:AV)(r:List AV):kj none (c::r)= .ok c:=rfl
theorem nM(n:Nat)(r:List AV):kj (some n) r= .req (decide (n≤r.length)) (.ok (.agg (r.take n))):=rfl
section
variable (c a b:AV) (q:Bool) (vs:List AV) (i:Nat)
theorem pick_tt:pickV (.lit (.bool true)) a b= .ok a.dis:=rfl
theorem pick_ff:pickV (.lit (.bool false)) a b= .ok b.dis:=rfl
theorem not_dec(p:Prop)[Decidable p]:(!decide p)=decide (¬p):=(decide_not).symm
end
end Go.Fx
namespace Go.Fx
open Go
section
variable {P:Program} {F:Nat→FuncId} {m:Bool}
theorem callI_mono{p:Bool}{d:Option Nat}{f:AV}{args:List AV}{K K':Sf→St→Prop}{sf:Sf}{st:St}(h:∀sf st,K sf st→K' sf st):ix P m p d f args K sf st→ix P m p d f args K' sf st:=by
 unfold ix
 split
 ·rintro⟨h1,h2⟩
  refine⟨h1,?_⟩
  split
  ·rename_i e;rw[if_pos e]at h2;obtain⟨a,v,b,c⟩:=h2;exact⟨a,v,b,h _ _ c⟩
  ·rename_i e;rw[if_neg e]at h2;obtain⟨a,Q,b,c⟩:=h2;exact⟨a,Q,b,fun v st' q=>h _ _ (c v st' q)⟩
 ·rintro⟨h1,h2,Q,h3,h4⟩;exact⟨h1,h2,Q,h3,fun t st' q=>h _ _ (h4 t st' q)⟩
 ·exact id
theorem appX_mono{m:Bool}{k bytes:Nat}{b:AV}{C C':AV→St→Prop}{st:St}{new:List AV}(h:∀v st,C v st→C' v st):appX m k bytes b C st new→appX m k bytes b C' st new:=by
 unfold appX
 split
 ·rintro⟨h1,h2,h3,h4⟩
  refine⟨h1,h2,h3,Res.wp_mono h4 fun cs hc=>?_⟩
  split
  ·rename_i e;rw[if_pos e]at hc;exact⟨hc.1,h _ _ hc.2⟩
  ·rename_i e;rw[if_neg e]at hc;exact⟨hc.1,fun c hc'=>h _ _ (hc.2 c hc')⟩
 ·rintro⟨h1,h2,h3⟩
  refine⟨h1,h2,?_⟩
  split
  ·rename_i e;rw[if_pos e]at h3;exact h _ _ h3
  ·rename_i e;rw[if_neg e]at h3;exact fun c hc=>h _ _ (h3 c hc)
 ·exact id
theorem stepX_mono{i:XI}{d:Option Nat}{K K':Sf→St→Prop}{sf:Sf}{st:St}(h:∀sf st,K sf st→K' sf st):a9 F m i d K sf st→a9 F m i d K' sf st:=by
 have hk:∀v st,putK K d sf v st→putK K' d sf v st:=fun v st=>h _ _
 cases i with
 |bad=>exact id
 | nilU op x y =>
   simp only[a9,nilX]
   split
   ·exact fun q b=>hk _ _ (q b)
   ·exact fun q=>Res.wp_mono q fun v=>hk v st
 |appB s k bytes y=>exact fun q=>Res.wp_mono q fun es=>appX_mono hk
 | clrB k z x =>
   simp only[a9,clrX]
   split
   ·rintro⟨h1,h2,h4⟩;exact⟨h1,h2,Res.wp_mono h4 fun cs hc=>⟨hc.1,hk _ _ hc.2⟩⟩
   ·exact hk _ _
   ·exact hk _ _
   ·exact id
 | mksB k bytes z l c =>
   simp only[a9,lY]
   split
   ·rintro⟨h1,h2,h3,h4,h5,h6⟩;exact⟨h1,h2,h3,h4,h5,hk _ _ h6⟩
   ·exact id
 | rng x =>
   simp only[a9,rngX]
   split
   ·exact fun q=>Res.wp_mono q fun _=>hk _ _
   ·exact hk _ _
   ·exact id
 | nxt s =>
   simp only[a9,nxtX]
   split
   ·exact h _ _
   ·refine fun q=>Res.wp_mono q fun es ⟨h1,h2,h3,h4⟩=>⟨h1,h2,fun i k x b a1 a2 a3=>h _ _ (h3 i k x b a1 a2 a3),fun a=>h _ _ (h4 a)⟩
   ·exact id
 | cmpS x y =>
   simp only[a9,cmpSX]
   split
   ·exact hk _ _
   ·exact id
 | rngS x =>
   simp only[a9,rngSX]
   split
   ·exact hk _ _
   ·exact id
 | nxtS s =>
   simp only[a9,mZ]
   split
   ·split
    ·exact h _ _
    ·exact fun q=>⟨q.1,fun e=>h _ _ (q.2.1 e),fun e c wd a b=>h _ _ (q.2.2 e c wd a b)⟩
   ·exact id
 | ent s =>
   simp only[a9,entX]
   split
   ·exact fun q=>Res.wp_mono q fun es ⟨h1,i,k,x,b,h2,h3,h4,h5⟩=>⟨h1,i,k,x,b,h2,h3,h4,hk _ _ h5⟩
   ·exact id
 | mclone x =>
   simp only[a9,kq]
   split
   ·rintro⟨h1,h4⟩;exact⟨h1,Res.wp_mono h4 fun cs hc=>hk _ _ hc⟩
   ·exact id
 | mark s =>
   simp only[a9,o9]
   split
   ·exact h _ _
   ·exact id
theorem lx{i:AI}{K K':Sf→St→Prop}{sf:Sf}{st:St}(h:∀sf st,K sf st→K' sf st):oneI P F m i K sf st→oneI P F m i K' sf st:=by
 unfold oneI
 split
 ·exact callI_mono h
 ·exact stepX_mono h
 ·exact fun q=>Res.wp_mono q fun r=>h r.1 r.2
theorem cY:∀{l:List GI} {K K':Sf→St→Prop} {sf:Sf} {st:St},(∀sf st,K sf st→K' sf st)→runI P F m l K sf st→runI P F m l K' sf st
 | [],K,K',sf,st,h=>h _ _
 | ⟨none, i⟩ :: r, K, K', sf, st, h => by
   simp only[runI]
   exact lx fun sf st=>cY h
 | ⟨some (t, want), i⟩ :: r, K, K', sf, st, h => by
   simp only[runI,fh]
   split
   ·intro q c hc
    have q:=q c hc
    split
    ·rename_i e;rw[if_pos e]at q;exact lx (fun sf st=>cY h) q
    ·rename_i e;rw[if_neg e]at q;exact cY h q
   ·exact fun⟨a,b⟩=>⟨lx (fun sf st=>cY h) a,cY h b⟩
   ·exact cY h
   ·exact id
theorem kG{locs0:List (Nat×List AV)}{st:St}{i:AI}{C C':PK→Sf→Prop}{sf:Sf}(h:∀k sf,C k sf→C' k sf):bk P F locs0 st i C sf→bk P F locs0 st i C' sf:=by
 unfold bk
 split
 ·unfold iz
  split
  ·rintro⟨h1,h2,v,h3,h4⟩;exact⟨h1,h2,v,h3,h _ _ h4⟩
  ·exact id
 ·exact h _ _
 ·unfold dU
  split
  ·unfold eI
   split
   ·rintro⟨h1,h2,h3,h4⟩;exact⟨h1,h2,h3,h _ _ h4⟩
   ·exact id
  ·unfold ky
   split
   ·rintro⟨h1,h2,h3⟩;exact⟨h1,h2,h _ _ h3⟩
   ·exact id
  ·unfold fK
   split
   ·rintro⟨h1,h2,h3,h4⟩;exact⟨h1,h2,h3,h _ _ h4⟩
   ·exact id
  ·exact id
 ·unfold ql
  split
  ·exact fun q=>Res.wp_mono q fun v=>h _ _
  ·exact fun q=>Res.wp_mono q fun v=>h _ _
 ·exact fun q=>Res.wp_mono q fun v=>h _ _
theorem fP{locs0:List (Nat×List AV)}{st:St}:∀{l:List GI} {K K':List PK→Sf→Prop} {ks:List PK} {sf:Sf},(∀ks sf,K ks sf→K' ks sf)→aG P F locs0 st l K ks sf→aG P F locs0 st l K' ks sf
 | [],K,K',ks,sf,h=>h _ _
 | ⟨none, i⟩ :: r, K, K', ks, sf, h => by
   simp only[aG]
   exact kG fun k sf=>fP h
 | ⟨some (t, want), i⟩ :: r, K, K', ks, sf, h => by
   simp only[aG,cC]
   split
   ·intro q c hc
    have q:=q c hc
    split
    ·rename_i e;rw[if_pos e]at q;exact kG (fun k sf=>fP h) q
    ·rename_i e;rw[if_neg e]at q;exact fP h q
   ·exact fP h
   ·exact id
theorem fv{locs0:List (Nat×List AV)}{ρ:St}{i:AI}{C C':PK→Sf→Prop}{sf:Sf}(h:∀k sf,C k sf→C' k sf):oneM P F locs0 ρ i C sf→oneM P F locs0 ρ i C' sf:=by
 unfold oneM
 split
 ·unfold callM1
  split
  ·rintro⟨h1,h2,v,h3,h4⟩;exact⟨h1,h2,v,h3,h _ _ h4⟩
  ·exact id
 ·exact h _ _
 ·unfold dU
  split
  ·unfold eI
   split
   ·rintro⟨h1,h2,h3,h4⟩;exact⟨h1,h2,h3,h _ _ h4⟩
   ·exact id
  ·unfold ky
   split
   ·rintro⟨h1,h2,h3⟩;exact⟨h1,h2,h _ _ h3⟩
   ·exact id
  ·unfold fK
   split
   ·rintro⟨h1,h2,h3,h4⟩;exact⟨h1,h2,h3,h _ _ h4⟩
   ·exact id
  ·exact id
 ·exact fun q=>Res.wp_mono q fun v=>h _ _
theorem iK{t:Nat}{want:Bool}{v:AV}{Y Y' N N':Sf→Prop}{sf:Sf}(hy:∀sf,Y sf→Y' sf)(hn:∀sf,N sf→N' sf):cC t want v Y N sf→cC t want v Y' N' sf:=by
 unfold cC
 split
 ·intro q c hc
  have q:=q c hc
  split
  ·rename_i e;rw[if_pos e]at q;exact hy _ q
  ·rename_i e;rw[if_neg e]at q;exact hn _ q
 ·exact hn _
 ·exact id
theorem eM{locs0:List (Nat×List AV)}{ρ:St}:∀{l:List GI} {K K':List PK→Sf→Prop} {ks:List PK} {sf:Sf},(∀ks sf,K ks sf→K' ks sf)→preM P F locs0 ρ l K ks sf→preM P F locs0 ρ l K' ks sf
 | [],K,K',ks,sf,h=>h _ _
 | ⟨none, i⟩ :: r, K, K', ks, sf, h => by
   simp only[preM]
   exact fv fun v sf=>eM h
 | ⟨some (t, want), i⟩ :: r, K, K', ks, sf, h => by
   simp only[preM]
   exact iK (fun sf=>fv fun v sf=>eM h) fun sf=>eM h
theorem eN{locs0:List (Nat×List AV)}{ρ:St}:∀{l:List (Bool×GI)} {K K':List PK→Prop} {ks:List PK} {sf:Sf},(∀ks,K ks→K' ks)→dg P F locs0 ρ l K ks sf→dg P F locs0 ρ l K' ks sf
 | [],K,K',ks,sf,h=>h _
 | (true, g) :: r, K, K', ks, sf, h => by
   simp only[dg]
   exact eN h
 | (false, ⟨none, i⟩) :: r, K, K', ks, sf, h => by
   simp only[dg]
   exact fv fun v sf=>eN h
 | (false, ⟨some (t, want), i⟩) :: r, K, K', ks, sf, h => by
   simp only[dg]
   exact iK (fun sf=>fv fun v sf=>eN h) fun sf=>eN h
theorem callM_mono{locs0:List (Nat×List AV)}{ρ st:St}{d:Option Nat}{f:AV}{args:List AV}{post:List (Bool×GI)}{drop:List Nat}{T T':St→Sf→Prop}{ks1:List PK}{sf:Sf}(h:∀st sf,T st sf→T' st sf):nf P F locs0 ρ st d f args post drop T ks1 sf→nf P F locs0 ρ st d f args post drop T' ks1 sf:=by
 unfold nf
 split
 ·rintro⟨h1,h2,Qc,h3,h4⟩
  exact⟨h1,h2,Qc,h3,eN (fun ks hk=>⟨hk.1,fun v s hq=>⟨(hk.2 v s hq).1,eM (fun ks sf hp=>⟨hp.1,hp.2.1,h _ _ hp.2.2⟩) (hk.2 v s hq).2⟩⟩) h4⟩
 ·exact id
theorem appM_mono{locs0:List (Nat×List AV)}{ρ st:St}{d:Option Nat}{k bytes:Nat}{b y:AV}{post:List (Bool×GI)}{drop:List Nat}{T T':St→Sf→Prop}{ks1:List PK}{sf:Sf}(h:∀st sf,T st sf→T' st sf):appM P F locs0 ρ st d k bytes b y post drop T ks1 sf→appM P F locs0 ρ st d k bytes b y post drop T' ks1 sf:=by
 rintro⟨h1,h2,Qc,h3,h4⟩
 exact⟨h1,h2,Qc,h3,eN (fun ks hk=>⟨hk.1,fun v s hq=>⟨(hk.2 v s hq).1,eM (fun ks sf hp=>⟨hp.1,hp.2.1,h _ _ hp.2.2⟩) (hk.2 v s hq).2⟩⟩) h4⟩
theorem oneX1_mono{ρ:St}{SX:Nat→St→Prop}{j:Nat}{i:AI}{C C':PK→Sf→Prop}{sf:Sf}(h:∀k sf,C k sf→C' k sf):iC P F ρ SX j i C sf→iC P F ρ SX j i C' sf:=by
 unfold iC
 split
 ·unfold newX1
  rintro⟨v,h3,h4⟩;exact⟨v,h3,h _ _ h4⟩
 ·unfold boxX1
  rintro⟨h1,h2,v,h3,h4⟩;exact⟨h1,h2,v,h3,h _ _ h4⟩
 ·unfold nh
  split
  ·rintro⟨h1,h2,v,h3,h4⟩;exact⟨h1,h2,v,h3,h _ _ h4⟩
  ·exact id
 ·exact id
theorem gD{locs0:List (Nat×List AV)}{ρ:St}{SX:Nat→St→Prop}:∀{l:List (Bool×GI)} {j:Nat} {K K':Nat→List PK→Sf→Prop} {ks:List PK} {sf:Sf},(∀j ks sf,K j ks sf→K' j ks sf)→preX P F locs0 ρ SX j l K ks sf→preX P F locs0 ρ SX j l K' ks sf
 | [],j,K,K',ks,sf,h=>by simp only[preX];exact h _ _ _
 | (true, ⟨none, i⟩) :: r, j, K, K', ks, sf, h => by
   simp only[preX]
   exact oneX1_mono fun v sf=>gD h
 | (true, ⟨some _, i⟩) :: r, j, K, K', ks, sf, h => by
   simp only[preX]
   exact id
 | (false, ⟨none, i⟩) :: r, j, K, K', ks, sf, h => by
   simp only[preX]
   exact fv fun v sf=>gD h
 | (false, ⟨some (t, want), i⟩) :: r, j, K, K', ks, sf, h => by
   simp only[preX]
   exact iK (fun sf=>fv fun v sf=>gD h) fun sf=>gD h
theorem aC_mono:∀{c:AC} {Q Q':Exit→Sf→St→Prop} {sf:Sf} {st:St},(∀e sf st,Q e sf st→Q' e sf st)→aC P F m c sf st Q→aC P F m c sf st Q':=by
 intro c
 induction c with
 |skip=>intro Q Q' sf st h;exact h _ _ _
 |ops lv ll l=>intro Q Q' sf st h;exact cY fun sf st=>h _ _ _
 |draw lv ll dr hl tl=>intro Q Q' sf st h;exact fP fun ks sf ⟨h1,h2⟩=>⟨h1,cY (fun sf st=>h _ _ _) h2⟩
 | drawM lv ll pre d f args post tl =>
   intro Q Q' sf st h
   rintro⟨hm,ρ,hs,hp⟩
   exact⟨hm,ρ,hs,eM (fun ks sf=>callM_mono fun st sf=>cY fun sf st=>h _ _ _) hp⟩
 | drawA lv ll pre d b k bytes y post tl =>
   intro Q Q' sf st h
   rintro⟨hm,ρ,hs,hp⟩
   exact⟨hm,ρ,hs,eM (fun ks sf=>appM_mono fun st sf=>cY fun sf st=>h _ _ _) hp⟩
 | drawG lv ll dr fl tl =>
   intro Q Q' sf st h
   rintro⟨hm,SX,h0,hs,q⟩
   exact⟨hm,SX,h0,hs,gD (fun j ks sf ⟨h1,h2⟩=>⟨h1,fun s a=>cY (fun sf st=>h _ _ _) (h2 s a)⟩) q⟩
 | seq a b iha ihb =>
   intro Q Q' sf st h
   exact iha fun e sf st=>by
    cases e with
    |normal=>exact ihb h
    |_=>exact h _ _ _
 | cond x a b iha ihb =>
   intro Q Q' sf st h
   simp only[aC,iE]
   split
   ·exact fun q=>⟨fun e=>iha h (q.1 e),fun e=>ihb h (q.2 e)⟩
   ·exact id
 | block id b ih =>
   intro Q Q' sf st h
   exact ih fun e sf st=>by
    cases e with
    | exit i =>
      simp only[gn]
      split
      ·exact h _ _ _
      ·exact h _ _ _
    |_=>exact h _ _ _
 | loop lv ll b ih =>
   intro Q Q' sf st h
   rintro⟨I,h0,hr⟩
   exact⟨I,h0,fun k sf st hi=>ih (fun e sf st=>by
    cases e with
    |normal=>exact fun q=>q
    |_=>exact h _ _ _) (hr k sf st hi)⟩
 |exit lv ll id=>intro Q Q' sf st h;exact h _ _ _
 | scope b ih =>
   intro Q Q' sf st h
   exact ih fun e sf st=>by
    cases e with
    |goto l=>exact fun q=>q
    |_=>exact h _ _ _
 | rangeF lv ll x ps lb a b _ _ =>
   intro Q Q' sf st h
   rintro⟨hm,hr⟩
   refine⟨hm,?_⟩
   unfold lm at hr ⊢
   split at hr
   ·obtain⟨h1,h2⟩:=hr
    refine⟨h1,fun r hy=>?_⟩
    obtain⟨Qc,h3,h4⟩:=h2 r hy
    refine⟨Qc,h3,fun v st' q=>?_⟩
    rcases h4 v st' q with⟨a,b⟩|⟨a,b⟩|⟨k,a,b⟩
    ·exact .inl ⟨a,h _ _ _ b⟩
    ·exact .inr (.inl ⟨a,h _ _ _ b⟩)
    ·exact .inr (.inr ⟨k,a,h _ _ _ b⟩)
   ·exact hr.elim
 |ret=>intro Q Q' sf st h;exact h _ _ _
 |bad=>intro Q Q' sf st h;exact fun q=>q
end
theorem tabOk_nil{P:Program}{F:Nat→FuncId}:TabOk P F (fun _=>none):=fun q fn h=>by cases h
theorem ae{P:Program}{F:Nat→FuncId}{T:FuncId→Option AFun}{n:FuncId}{X:Cx}{c:AFun}(h1:cr P n=true)(h2:iG P X n=some c)(h3:X.F=F)(hT:TabOk P F T):TabOk P F (fun q=>if q=n then some c else T q):=by
 intro q fn h
 by_cases e:q=n
 ·subst e
  simp only[if_true,Option.some.injEq]at h
  subst h
  exact⟨h1,X,h3,h2⟩
 ·simp only[e,if_false]at h
  exact hT q fn h
def unrQ(L:Sf→St→Prop)(Q:Exit→Sf→St→Prop):Exit→Sf→St→Prop
 | .normal,sf,st=>L sf st
 |e,sf,st=>Q e sf st
section
variable {P:Program} {F:Nat→FuncId} {m:Bool} {b:AC} {lv ll:List Nat} {Q:Exit→Sf→St→Prop}
def loopN(P:Program)(F:Nat→FuncId)(m:Bool)(b:AC)(lv ll:List Nat)(Q:Exit→Sf→St→Prop):Nat→Sf→St→Prop
 |0,_,_=>False
 |n+1,sf,st=>aC P F m b (sf.mask lv ll) st (unrQ (loopN P F m b lv ll Q n) Q)
theorem loop_rounds(n:Nat){sf:Sf}{st:St}(h:loopN P F m b lv ll Q n sf st):aH (aC P F m b) lv ll sf st Q:=by
 cases n with
 |zero=>exact h.elim
 | succ n =>
   refine⟨fun k sf st=>aC P F m b sf st (unrQ (loopN P F m b lv ll Q k) Q),⟨n,_,Sf.le_refl _,h⟩,fun k sf st hk=>aC_mono (fun e sf st=>?_) hk⟩
   cases e with
   | normal =>
     cases k with
     |zero=>exact fun q=>q.elim
     |succ k=>exact fun q=>⟨k,Nat.lt_succ_self k,_,Sf.le_refl _,q⟩
   |_=>exact fun q=>q
variable (sf:Sf) (st:St) (L:Sf→St→Prop) (n:Nat)
theorem jM:loopN P F m b lv ll Q (n+1) sf st=aC P F m b (sf.mask lv ll) st (unrQ (loopN P F m b lv ll Q n) Q):=rfl
theorem ma:unrQ L Q .normal sf st=L sf st:=rfl
theorem unrQ_ret:unrQ L Q .ret sf st=Q .ret sf st:=rfl
theorem unrQ_exit(id:Nat):unrQ L Q (.exit id) sf st=Q (.exit id) sf st:=rfl
end
end Go.Fx
namespace Go.Fx
open Go
theorem jN(a b:Nat):(a:Int)+(b:Int)=((a+b:Nat):Int):=by omega
theorem up_addL(a k:Nat):(a:Int)+(no_index (OfNat.ofNat k))=((a+OfNat.ofNat k:Nat):Int):=by exact id rfl
theorem qB{a b:Nat}(h:b≤a):(a:Int)-(b:Int)=((a-b:Nat):Int):=(Int.ofNat_sub h).symm
theorem bF{α β:Type}(f:α→β)(L:List α):List.take L.length (L.map f)=L.map f:=List.take_of_length_le (by simp)
theorem cZ:∀(vs cs:List AV) (i:Nat),(ca cs i vs).length=cs.length
 | [],cs,i=>rfl
 |v::vs,cs,i=>by simp only[ca];rw[cZ vs];simp
theorem pB(cs:List AV)(i:Nat):ca cs i []=cs:=by cases cs<;>rfl
theorem cellsD_nil:Fx.cellsD []= []:=rfl
theorem ly:∀(vs xs rs:List AV),vs.length≤rs.length→ca (xs++rs) xs.length vs=xs++(vs++rs.drop vs.length)
 | [],xs,rs,_=>by simp[ca]
 |v::vs,xs,[],h=>by simp at h
 | v :: vs, xs, r :: rs, h => by
   simp only[ca]
   have h1:(xs++r::rs).set xs.length v=(xs++[v])++rs:=by simp
   have h2:xs.length+1=(xs++[v]).length:=by simp
   rw[h1,h2,ly vs (xs++[v]) rs (by simpa using h)]
   simp
theorem setAt_zero{vs cs:List AV}(h:vs.length≤cs.length):ca cs 0 vs=vs++cs.drop vs.length:=ly vs [] cs h
theorem gE{vs xs rs:List AV}{n:Nat}(hn:n=xs.length)(h:vs.length≤rs.length):ca (xs++rs) n vs=xs++(vs++rs.drop vs.length):=by subst hn;exact ly vs xs rs h
def Lits(l:List AV):Prop:=∀x∈l,∃v,x= .lit v
theorem Lits.nil:Lits []:=fun _ h=>by cases h
theorem Lits.app{l l':List AV}(h:Lits l)(h':Lits l'):Lits (l++l'):=fun x hx=>(List.mem_append.1 hx).elim (h x) (h' x)
theorem Lits.drop{l:List AV}(h:Lits l)(n:Nat):Lits (l.drop n):=fun x hx=>h x (List.mem_of_mem_drop hx)
theorem Lits.take{l:List AV}(h:Lits l)(n:Nat):Lits (l.take n):=fun x hx=>h x (List.mem_of_mem_take hx)
theorem Lits.map{A:Type}(f:A→Value)(l:List A):Lits (l.map fun a=>.lit (f a)):=fun x hx=>by
 obtain⟨a,_,rfl⟩:=List.mem_map.1 hx;exact⟨_,rfl⟩
theorem Lits.dis{l:List AV}(h:Lits l):l.map AV.dis=l:=by
 induction l with
 |nil=>rfl
 | cons x r ih =>
   obtain⟨v,rfl⟩:=h x (List.mem_cons_self ..)
   simp only[List.map_cons,ar]
   rw[ih fun y hy=>h y (List.mem_cons_of_mem _ hy)]
theorem Lits.own{l:List AV}(h:Lits l):l.map AV.own1=l:=by
 induction l with
 |nil=>rfl
 | cons x r ih =>
   obtain⟨v,rfl⟩:=h x (List.mem_cons_self ..)
   simp only[List.map_cons,ai]
   rw[ih fun y hy=>h y (List.mem_cons_of_mem _ hy)]
theorem Lits.cells{l:List AV}(h:Lits l):l.flatMap AV.cells=l:=by
 induction l with
 |nil=>rfl
 | cons x r ih =>
   obtain⟨v,rfl⟩:=h x (List.mem_cons_self ..)
   simp only[List.flatMap_cons,lw]
   rw[ih fun y hy=>h y (List.mem_cons_of_mem _ hy)]
   rfl
theorem Lits.cellsD{l:List AV}(h:Lits l):Fx.cellsD l=l:=by unfold Fx.cellsD;rw[h.dis,h.cells]
theorem Lits.grp{l:List AV}:∀(n:Nat) (l:List AV),n≤l.length→Fx.grp 1 n l=l.take n
 |0,l,_=>by simp[Fx.grp]
 |n+1,[],h=>by simp at h
 |n+1,x::l,h=>by simp only[Fx.grp,if_true,List.getD_cons_zero,List.drop_succ_cons,List.drop_zero,List.take_succ_cons];rw[Lits.grp (l:=l) n l (by simpa using h)]
theorem qC{n:Nat}{l:List AV}(h:n≤l.length):grp 1 n l=l.take n:=Lits.grp (l:=l) n l h
theorem Lits.nb{l:List AV}(h:Lits l):∀x∈l,x.NB:=fun x hx=>by obtain⟨v,rfl⟩:=h x hx;exact .lit v
theorem acalls_id{P:Program}{X:Cx}{f:FuncId}{fn:AFun}{vs:List AV}{st:St}(hmix:P.follows .mixedOrders=true)(hf:iG P X f=some fn)(hX:X.F=id)(hlen:Nat.ble vs.length fn.n=true){K:AV→St→Prop}(h:aFun P id false fn vs st K):aF P f vs st K:=by
 refine acalls_of hmix hf (Nat.le_of_ble_eq_true hlen) ?_
 rw[hX];exact h
theorem bG(st:St)(cs:List AV):(st.push (.cells cs)).get st.boxes.length=some cs:=by simp[St.push,St.get]
theorem pC(st:St)(es:List (AV×AV))(bs:List Nat)(k:Nat):(st.push (.mp es bs k)).getM st.boxes.length=some es:=by simp[St.push,St.getM]
theorem pD(st:St)(es:List (AV×AV))(bs:List Nat)(k:Nat):(st.push (.mp es bs k)).getB st.boxes.length=(bs,k):=by simp[St.push,St.getB]
theorem set_push(st:St)(b:Box)(cs:List AV):(st.push b).set st.boxes.length cs=st.push (.cells cs):=by simp[St.push,St.set]
theorem aJ(st:St)(b:Box):(st.push b).boxes.length=st.boxes.length+1:=by simp[St.push]
theorem gU(st:St)(id:Nat)(cs:List AV):(st.set id cs).boxes.length=st.boxes.length:=by simp[St.set]
theorem gV{st:St}{b:Box}{id:Nat}(h:id<st.boxes.length):(st.push b).get id=st.get id:=by simp[St.push,St.get,List.getElem?_append_left h]
theorem bI{st:St}{id:Nat}{cs:List AV}(h:st.get id=some cs):id<st.boxes.length:=by
 rcases Nat.lt_or_ge id st.boxes.length with hl|hl
 ·exact hl
 ·simp[St.get,List.getElem?_eq_none hl]at h
theorem aY{st:St}{id:Nat}{cs:List AV}(h:id<st.boxes.length):(st.set id cs).get id=some cs:=by simp[St.set,St.get,h]
theorem jO{st:St}{id id':Nat}{cs:List AV}(h:id≠id'):(st.set id cs).get id'=st.get id':=by simp[St.set,St.get,List.getElem?_set_ne h]
theorem ge(st:St)(id:Nat)(cs ds:List AV):(st.set id cs).set id ds=st.set id ds:=by simp[St.set]
theorem nN(cs:List AV)(i:Nat)(v:AV)(vs:List AV):ca cs i (v::vs)=ca (cs.set i v) (i+1) vs:=rfl
end Go.Fx
