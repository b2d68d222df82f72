/- An evaluator for resolved code, proved against the model: part 6. -/
import Derived.Test.YtoiokbmgdcaaoaaFxE
import Derived.ProofKit
import Derived.IntWalk
namespace Go.Fx
open Go
section
variable (P:Program) (F:Nat→FuncId) (m:Bool) (sf:Sf) (st:St) (Q:Exit→Sf→St→Prop) (K:Sf→St→Prop)
theorem aC_skip:aC P F m .skip sf st Q = Q .normal sf st:=rfl
theorem aC_ops (lv ll:List Nat) (l:List GI):aC P F m (.ops lv ll l) sf st Q = runI P F m l (opsK lv ll Q) sf st:=rfl
theorem aC_draw (lv ll drop:List Nat) (hl tl:List GI):aC P F m (.draw lv ll drop hl tl) sf st Q = ap P F sf.locs st hl (cQ P F m drop lv ll tl Q st) [] ⟨sf.regs,aM drop sf.locs⟩:=rfl
theorem aC_seq (a b:AC):aC P F m (.seq a b) sf st Q = aC P F m a sf st (seqQ (aC P F m b) Q):=rfl
theorem aC_cond (x:Opd) (a b:AC):aC P F m (.cond x a b) sf st Q = ip x (sf.ev F x) (aC P F m a) (aC P F m b) sf st Q:=rfl
theorem aC_block (id:Nat) (b:AC):aC P F m (.block id b) sf st Q = aC P F m b sf st (fK id Q):=rfl
theorem aC_loop (lv ll:List Nat) (b:AC):aC P F m (.loop lv ll b) sf st Q = am (aC P F m b) lv ll sf st Q:=rfl
theorem bp (lv ll:List Nat) (id:Nat):aC P F m (.exit lv ll id) sf st Q = Q (.exit id) (sf.mask lv ll) st:=rfl
theorem aC_scope (b:AC):aC P F m (.scope b) sf st Q = aC P F m b sf st (mS Q):=rfl
theorem aC_ret:aC P F m .ret sf st Q = Q .ret sf st:=rfl
theorem rW:aC P F m .bad sf st Q = False:=rfl
theorem ny (C:Sf→St→(Exit→Sf→St→Prop)→Prop):seqQ C Q .normal sf st = C sf st Q:=rfl
theorem seqQ_ret (C:Sf→St→(Exit→Sf→St→Prop)→Prop):seqQ C Q .ret sf st = Q .ret sf st:=rfl
theorem az (C:Sf→St→(Exit→Sf→St→Prop)→Prop) (id:Nat):seqQ C Q (.exit id) sf st = Q (.exit id) sf st:=rfl
theorem jG (id:Nat):fK id Q .normal sf st = Q .normal sf st:=rfl
theorem pP (id:Nat):fK id Q .ret sf st = Q .ret sf st:=rfl
theorem aj (id id':Nat):fK id Q (.exit id') sf st = if id' = id then Q .normal sf st else Q (.exit id') sf st:=rfl
theorem opsK_eq (lv ll:List Nat):opsK lv ll Q sf st = Q .normal (sf.mask lv ll) st:=rfl
theorem d8:mS Q .normal sf st = Q .normal sf st:=rfl
theorem gw:mS Q .ret sf st = Q .ret sf st:=rfl
theorem fA (id:Nat):mS Q (.exit id) sf st = Q (.exit id) sf st:=rfl
theorem retQ_ret (rs:List RI) (C:AV→St→Prop):retQ rs C .ret sf st = (retI rs sf st).wp (fun v=>v.noL = true∧C v st):=rfl
theorem fB (rs:List RI) (C:AV→St→Prop):retQ rs C .normal sf st = (retI rs sf st).wp (fun v=>v.noL = true∧C v st):=rfl
theorem kL (x:Opd) (b:Bool) (A B:Sf→St→(Exit→Sf→St→Prop)→Prop):ip x (.lit (.bool b)) A B sf st Q = ((b = true→A (x.setB sf true) st Q)∧(b = false→B (x.setB sf false) st Q)):=rfl
theorem runI_nil:runI P F m [] K sf st = K sf st:=rfl
theorem mW (i:AI) (r:List GI):runI P F m (⟨none,i⟩::r) K sf st = oneI P F m i (runI P F m r K) sf st:=rfl
theorem iM (t:Nat) (want:Bool) (i:AI) (r:List GI):runI P F m (⟨some (t,want),i⟩::r) K sf st = eo t want (sf.reg t) (oneI P F m i (runI P F m r K)) (skipI i.dst (runI P F m r K)) sf st:=rfl
theorem eM (t:Nat) (want:Bool) (cs:List AV) (Y N:Sf→St→Prop):eo t want (.tup cs) Y N sf st = N sf st:=rfl
theorem mX (t:Nat) (want b:Bool) (Y N:Sf→St→Prop):eo t want (.lit (.bool b)) Y N sf st = ((b = want→Y (sf.set t (.lit (.bool want))) st)∧(b = (!want)→N (sf.set t (.lit (.bool (!want)))) st)):=by
 unfold eo
 refine propext ⟨fun h=>⟨fun e=>?_,fun e=>?_⟩,fun ⟨h1,h2⟩ c hc=>?_⟩
 ·have:=h want e; simpa using this
 ·have:=h (!want) e
  rw [if_neg (by cases want <;> simp)] at this
  exact this
 ·subst hc
  by_cases hw:b = want
  ·subst hw; rw [if_pos rfl]; exact h1 rfl
  ·rw [if_neg hw]
   have:b = !want:=by cases b <;> cases want <;> simp_all
   subst this
   exact h2 rfl
theorem kM (q:Sf×St):ew K q = K q.1 q.2:=rfl
theorem kN (d:Option Nat):skipI d K sf st = K (sf.put d (.tup [])) st:=rfl
theorem putP_eq (d:Option Nat) (v:AV):putP K d sf st v = K (sf.put d v) st:=rfl
theorem iN (d:Option Nat) (v:AV):putK K d sf v st = K (sf.put d v) st:=rfl
theorem rX (C:AV→St→Prop) (v:AV):atS C st v = C v st:=rfl
theorem aB (i:AI) (h1:oneI P F m i K sf st = (aW F m i sf st).wp (ew K)) (h2:aW F m i sf st = vI i.dst sf st (popI F i sf st)):oneI P F m i K sf st = (popI F i sf st).wp (putP K i.dst sf st):=by
 rw [h1,h2]
 unfold vI
 exact propext Res.wp_bind
def pickV (c a b:AV):Res AV:=match c with
 | .lit (.bool t)=>.ok (if t then a.dis else b.dis)
 | _=>.fail
def extV (v:AV) (i:Nat):Res AV:=match v with
 | .tup vs=>(Res.ofOpt vs[i]?).bind fun v=>.ok v.dis
 | _=>.fail
def jS (v:AV) (off:Nat) (k:Option Nat):Res AV:=match v with
 | .agg cs=>(jy k (cs.drop off)).bind fun v=>.ok v.dis
 | _=>.fail
def ixSV (v i:AV) (k:Nat):Res AV:=match v with
 | .sl _ k' es=>if k' = k then (ixA i es.length).bind fun j=>.ok (.cptr (es.getD j .any).cells) else .fail
 | .bs id k' off len _=>if k' = k then (ixA i len).bind fun j=>.ok (.ptr id (off + j * k)) else .fail
 | _=>.fail
def jT (v i:AV):Res AV:=match v with
 | .lit (.string s)=>(Fx.ixA i s.size).bind fun j=>.ok (.lit (.int .u8 (s.data.getD j 0).toNat))
 | _=>.fail
def jU (v i:AV) (n k:Nat) (t:Option Nat):Res AV:=match v with
 | .agg cs=>(Fx.ixA i n).bind fun j=>(jy t (cs.drop (j * k))).bind fun v=>.ok v.dis
 | _=>.fail
def iv (sf:Sf) (st:St) (v:AV) (k:Option Nat):Res AV:=(ag sf st v).bind fun cs=>(jy k cs).bind fun v=>.ok v.dis
def jV (v:AV):Res AV:=match v with
 | .ptr a b=>.ok (.ptr a b)
 | .lptr a b=>.ok (.lptr a b)
 | .cptr cs=>.ok (.cptr cs)
 | _=>.fail
def cK (v:AV) (lo hi:Option AV) (k:Nat):Res AV:=match v with
 | .sl _ k' es=>if k' = k then (ixTo hi es.length es.length).bind fun h=>(ixTo lo 0 h).bind fun l=>.ok (.sl false k ((es.take h).drop l)) else .fail
 | .lit (.slice none 0 0)=>(ixTo hi 0 0).bind fun h=>(ixTo lo 0 h).bind fun _=>.ok (.lit (.slice none 0 0))
 | .bs id k' off len cap=>if k' = k then sliB none hi lo id k off len cap else .fail
 | _=>.fail
def pQ (v:AV) (lo hi:Option AV) (mx:AV) (k:Nat):Res AV:=match v with
 | .bs id k' off len cap=>if k' = k then sliB (some mx) hi lo id k off len cap else .fail
 | .sl _ k' es=>if k' = k then sl3 (some mx) hi lo es.length es.length fun l h m=>if m = l then .ok (.sl true k []) else .ok (.sl false k ((es.take h).drop l)) else .fail
 | _=>.fail
def gx (v:AV) (lo hi:Option AV):Res AV:=match v with
 | .lit (.string s)=>(ixTo hi s.size s.size).bind fun h=>(ixTo lo 0 h).bind fun l=>.ok (.lit (.string (s.extract l h)))
 | _=>.fail
def tasV (v:AV) (t:Nat):Res AV:=match v with
 | .ifc t' v=>if t' = t then .ok v.dis else .fail
 | _=>.fail
def nz (q:FuncId) (fs cs:List AV):Res AV:=if (fs++cs).all AV.solid1 = true then .ok (.fn (.func q) fs cs) else .fail
def pR (v:AV) (t:Nat):Res AV:=if v.solid1 = true then .ok (.ifc t v.dis) else .fail
def bslV (k len:Nat) (z:AV) (parts:List (Nat×AV)):Res AV:=(eT k parts (List.replicate len z)).bind fun es=>.ok (mkSl k es)
def bstV (places:List (Nat×Nat)) (z:AV) (parts:List (Nat×AV)):Res AV:=(br (fun i=>places[i]?) parts z.cells).bind fun cs=>.ok (.agg cs)
def barV (k:Nat) (z:AV) (parts:List (Nat×AV)):Res AV:=(br (fun i=>some (i * k,k)) parts z.cells).bind fun cs=>.ok (.agg cs)
section
variable (d:Option Nat) (x y i:Opd)
theorem o_mv:oneI P F m (.mv d x) K sf st = K (sf.put d (sf.ev F x).dis) st:=aB P F m sf st K (.mv d x) rfl rfl
theorem o_pick (c a b:Opd):oneI P F m (.pick d c a b) K sf st = (pickV (sf.ev F c) (sf.ev F a) (sf.ev F b)).wp (putP K d sf st):=aB P F m sf st K (.pick d c a b) rfl rfl
theorem o_bin (k:BinK) (op:BinOp):oneI P F m (.bin d k op x y) K sf st = (binI k op (sf.ev F x) (sf.ev F y)).wp (putP K d sf st):=aB P F m sf st K (.bin d k op x y) rfl rfl
theorem o_un (op:UnOp):oneI P F m (.un d op x) K sf st = (unA op (sf.ev F x)).wp (putP K d sf st):=aB P F m sf st K (.un d op x) rfl rfl
theorem pS (k:ConvK):oneI P F m (.conv d k x) K sf st = (e7 st k (sf.ev F x)).wp (putP K d sf st):=aB P F m sf st K (.conv d k x) rfl rfl
theorem de (j:Nat):oneI P F m (.ext d x j) K sf st = (extV (sf.ev F x) j).wp (putP K d sf st):=aB P F m sf st K (.ext d x j) rfl rfl
theorem nI (off:Nat) (k:Option Nat):oneI P F m (.field d x off k) K sf st = (jS (sf.ev F x) off k).wp (putP K d sf st):=aB P F m sf st K (.field d x off k) rfl rfl
theorem o_addr (off:Nat):oneI P F m (.addr d x off) K sf st = (addA (sf.ev F x) off).wp (putP K d sf st):=aB P F m sf st K (.addr d x off) rfl rfl
theorem o_ixS (k:Nat):oneI P F m (.ixS d x i k) K sf st = (ixSV (sf.ev F x) (sf.ev F i) k).wp (putP K d sf st):=aB P F m sf st K (.ixS d x i k) rfl rfl
theorem o_ixA (n k:Nat):oneI P F m (.ixA d x i n k) K sf st = ((Fx.ixA (sf.ev F i) n).bind fun j=>addA (sf.ev F x) (j * k)).wp (putP K d sf st):=aB P F m sf st K (.ixA d x i n k) rfl rfl
theorem nJ:oneI P F m (.ixStr d x i) K sf st = (jT (sf.ev F x) (sf.ev F i)).wp (putP K d sf st):=aB P F m sf st K (.ixStr d x i) rfl rfl
theorem nK (n k:Nat) (t:Option Nat):oneI P F m (.ixArr d x i n k t) K sf st = (jU (sf.ev F x) (sf.ev F i) n k t).wp (putP K d sf st):=aB P F m sf st K (.ixArr d x i n k t) rfl rfl
theorem o_load (k:Option Nat):oneI P F m (.load d x k) K sf st = (iv sf st (sf.ev F x) k).wp (putP K d sf st):=aB P F m sf st K (.load d x k) rfl rfl
theorem nL:oneI P F m (.nilck d x) K sf st = (jV (sf.ev F x)).wp (putP K d sf st):=aB P F m sf st K (.nilck d x) rfl rfl
theorem fc (lo hi:Option Opd) (k:Nat):oneI P F m (.sliS d x lo hi k) K sf st = (cK (sf.ev F x) (lo.map (sf.ev F)) (hi.map (sf.ev F)) k).wp (putP K d sf st):=aB P F m sf st K (.sliS d x lo hi k) rfl rfl
theorem kP (lo hi:Option Opd):oneI P F m (.sliStr d x lo hi) K sf st = (gx (sf.ev F x) (lo.map (sf.ev F)) (hi.map (sf.ev F))).wp (putP K d sf st):=aB P F m sf st K (.sliStr d x lo hi) rfl rfl
theorem rY (lo hi:Option Opd) (mx:Opd) (k:Nat):oneI P F m (.sli3 d x lo hi mx k) K sf st = (pQ (sf.ev F x) (lo.map (sf.ev F)) (hi.map (sf.ev F)) (sf.ev F mx) k).wp (putP K d sf st):=aB P F m sf st K (.sli3 d x lo hi mx k) rfl rfl
theorem rZ (t:Nat):oneI P F m (.mkif d t x) K sf st = (pR (sf.ev F x) t).wp (putP K d sf st):=aB P F m sf st K (.mkif d t x) rfl rfl
theorem o_tas (t:Nat):oneI P F m (.tas d t x) K sf st = (tasV (sf.ev F x) t).wp (putP K d sf st):=aB P F m sf st K (.tas d t x) rfl rfl
theorem rf (k len:Nat) (z:AV) (parts:List (Nat×Opd)):oneI P F m (.bsl d k len z parts) K sf st = (bslV k len z (parts.map fun p=>(p.1,sf.ev F p.2))).wp (putP K d sf st):=aB P F m sf st K (.bsl d k len z parts) rfl rfl
theorem kQ (places:List (Nat×Nat)) (z:AV) (parts:List (Nat×Opd)):oneI P F m (.bst d places z parts) K sf st = (bstV places z (parts.map fun p=>(p.1,sf.ev F p.2))).wp (putP K d sf st):=aB P F m sf st K (.bst d places z parts) rfl rfl
theorem o_bar (k:Nat) (z:AV) (parts:List (Nat×Opd)):oneI P F m (.bar d k z parts) K sf st = (barV k z (parts.map fun p=>(p.1,sf.ev F p.2))).wp (putP K d sf st):=aB P F m sf st K (.bar d k z parts) rfl rfl
theorem el (k:KeyK) (z:AV) (ok:Bool) (mp key:Opd):oneI P F m (.lookup d k z ok mp key) K sf st = (fu k z ok st (sf.ev F mp) (sf.ev F key)).wp (putP K d sf st):=aB P F m sf st K (.lookup d k z ok mp key) rfl rfl
theorem pT (g:Nat) (first cap:List Opd):oneI P F m (.mkfn d g first cap) K sf st = (nz (F g) (first.map (sf.ev F)) (cap.map (sf.ev F))).wp (putP K d sf st):=aB P F m sf st K (.mkfn d g first cap) rfl rfl
theorem o_len (k:LenK):oneI P F m (.len d k x) K sf st = (lenI k st (sf.ev F x)).wp (putP K d sf st):=aB P F m sf st K (.len d k x) rfl rfl
theorem o_mn (lt:Bool):oneI P F m (.mn d lt x y) K sf st = (bh lt (sf.ev F x) (sf.ev F y)).wp (putP K d sf st):=aB P F m sf st K (.mn d lt x y) rfl rfl
theorem o_app (k bytes:Nat):oneI P F m (.app d k bytes x y) K sf st = (bE st k bytes (sf.ev F x) (sf.ev F y)).wp (putP K d sf st):=aB P F m sf st K (.app d k bytes x y) rfl rfl
end
def fV (m:Bool) (d:Nat) (v:AV) (K:Sf→St→Prop) (sf:Sf) (st:St):Prop :=
 match v with
 | .lptr s off=>(Res.ofOpt (look s sf.locs)).wp fun cs=>match cs[off]? with
   | some (.sl true k es)=>K ((sf.setLoc s (cs.set off (.sl false k es))).set d (.sl true k es)) st
   | _=>(iv sf st (.lptr s off) none).wp (putP K (some d) sf st)
 | .ptr id off=>if m then (iv sf st (.ptr id off) none).wp (putP K (some d) sf st) else (Res.ofOpt (st.get id)).wp fun cs=>match cs[off]? with
   | some (.sl true k es)=>K (sf.set d (.sl true k es)) (st.set id (cs.set off (.sl false k es)))
   | _=>(iv sf st (.ptr id off) none).wp (putP K (some d) sf st)
 | v=>(iv sf st v none).wp (putP K (some d) sf st)
theorem gX (d:Option Nat) (r:Res AV):(vI d sf st r).wp (ew K) = r.wp (putP K d sf st):=by
 unfold vI
 exact propext Res.wp_bind
theorem iO (d:Nat) (x:Opd):oneI P F m (.loadOwn d x) K sf st = fV m d (sf.ev F x) K sf st:=by
 show (aW F m (.loadOwn d x) sf st).wp (ew K) = _
 have hld:(popI F (.load (some d) x none) sf st) = iv sf st (sf.ev F x) none:=rfl
 simp only [aW,hld]
 generalize sf.ev F x = v
 unfold fV
 cases v with
 | lptr s off =>
   simp only
   cases hl:look s sf.locs with
   | none=>rfl
   | some cs =>
     simp only [Res.ofOpt,Res.bind,Res.wp]
     cases hc:cs[off]? with
     | none=>exact gX sf st K (some d) _
     | some c =>
       cases c with
       | sl o k es=>cases o <;> first | rfl | exact gX sf st K (some d) _
       | _=>exact gX sf st K (some d) _
 | ptr id off =>
   simp only
   cases m
   ·simp only [Bool.false_eq_true,if_false]
    cases hl:st.get id with
    | none=>rfl
    | some cs =>
      simp only [Res.ofOpt,Res.bind,Res.wp]
      cases hc:cs[off]? with
      | none=>exact gX sf st K (some d) _
      | some c =>
        cases c with
        | sl o k es=>cases o <;> first | rfl | exact gX sf st K (some d) _
        | _=>exact gX sf st K (some d) _
   ·simp only [if_true]
    exact gX sf st K (some d) _
 | _=>exact gX sf st K (some d) _
theorem o_own (d s:Nat):oneI P F m (.own d s) K sf st = K ((sf.disAt s).set d (sf.reg s)) st:=rfl
def fC (d s:Nat) (v lo:AV) (k:Nat) (K:Sf→St→Prop) (sf:Sf) (st:St):Prop :=
 match v with
 | .sl true k' es=>k' = k∧(ixTo (some lo) 0 es.length).wp fun l=>K ((sf.disAt s).set d (.sl true k (es.drop l))) st
 | v=>(cK v (some lo) none k).wp (putP K (some d) sf st)
theorem fW (d s:Nat) (lo:Opd) (k:Nat):oneI P F m (.sliOwn d s lo k) K sf st = fC d s (sf.reg s) (sf.ev F lo) k K sf st:=by
 show (aW F m (.sliOwn d s lo k) sf st).wp (ew K) = _
 have hld:(popI F (.sliS (some d) (.r s) (some lo) none k) sf st) = cK (sf.reg s) (some (sf.ev F lo)) none k:=rfl
 simp only [aW,hld]
 unfold fC
 generalize sf.reg s = v
 cases v with
 | sl o k' es =>
   cases o
   ·exact gX sf st K (some d) _
   ·simp only
    by_cases hk:k' = k
    ·subst hk
     simp only [if_true,true_and]
     exact propext Res.wp_bind
    ·simp only [hk,if_false,false_and]; rfl
 | _=>exact gX sf st K (some d) _
def ey (d s k bytes:Nat) (v y:AV) (K:Sf→St→Prop) (sf:Sf) (st:St):Prop :=
 match v with
 | .sl true k' es=>(cg st k bytes (.sl true k' es) y).wp fun v=>K ((sf.disAt s).set d v) st
 | v=>(bE st k bytes v y).wp (putP K (some d) sf st)
theorem dJ (d s k bytes:Nat) (y:Opd):oneI P F m (.appS d s k bytes y) K sf st = ey d s k bytes (sf.reg s) (sf.ev F y) K sf st:=by
 show (aW F m (.appS d s k bytes y) sf st).wp (ew K) = _
 have hld:(popI F (.app (some d) k bytes (.r s) y) sf st) = bE st k bytes (sf.reg s) (sf.ev F y):=rfl
 simp only [aW,hld]
 unfold ey
 generalize sf.reg s = v
 cases v with
 | sl o k' es =>
   cases o
   ·exact gX sf st K (some d) _
   ·exact propext Res.wp_bind
 | _=>exact gX sf st K (some d) _
theorem o_newL (d:Nat) (cs:List AV):oneI P F m (.newL d cs) K sf st = K (sf.newLoc d cs) st:=rfl
theorem mY (d:Nat) (cs:List AV):oneI P F m (.newB d cs) K sf st = (m = false∧K (sf.set d (.ptr st.boxes.length 0)) (st.push (.cells cs))):=by
 cases m
 ·exact propext ⟨fun h=>⟨rfl,h⟩,fun h=>h.2⟩
 ·exact propext ⟨fun h=>h.elim,fun h=>by cases h.1⟩
def boxX (n:Nat) (v:AV) (C:Prop):Prop:=v.solid = true∧v.cells.length = n∧C
theorem dn (d n:Nat) (x:Opd):oneI P F m (.boxL d n x) K sf st = boxX n (sf.evOwn F x) (K (sf.newLoc d (sf.evOwn F x).dis.cells) st):=by
 show (aW F m (.boxL d n x) sf st).wp (ew K) = _
 unfold boxX
 simp only [aW]
 split
 ·rename_i h; exact propext ⟨fun q=>⟨h.1,h.2,q⟩,fun q=>q.2.2⟩
 ·rename_i h; exact propext ⟨fun q=>q.elim,fun q=>h ⟨q.1,q.2.1⟩⟩
theorem sc (d n:Nat) (x:Opd):oneI P F m (.boxB d n x) K sf st = boxX n (sf.evOwn F x) (m = false∧K ((sf.disOp x).set d (.ptr st.boxes.length 0)) (st.push (.cells (sf.evOwn F x).cells))):=by
 show (aW F m (.boxB d n x) sf st).wp (ew K) = _
 unfold boxX
 simp only [aW]
 split
 ·rename_i h; exact propext ⟨fun q=>⟨h.1,h.2.1,h.2.2,q⟩,fun q=>q.2.2.2⟩
 ·rename_i h; exact propext ⟨fun q=>q.elim,fun q=>h ⟨q.1,q.2.1,q.2.2.1⟩⟩
def ar (m:Bool) (a:AV) (vs:List AV) (K:Sf→St→Prop) (sf:Sf) (st:St):Prop :=
 match a with
 | .lptr s off=>(Res.ofOpt (look s sf.locs)).wp fun cs=>off + vs.length≤cs.length∧K (sf.setLoc s (aG cs off vs)) st
 | .ptr id off=>m = false∧(Res.ofOpt (st.get id)).wp fun cs=>off + vs.length≤cs.length∧K sf (st.set id (aG cs off vs))
 | _=>False
theorem o_store (n:Nat) (a x:Opd):oneI P F m (.store n a x) K sf st = boxX n (sf.evOwn F x) (ar m (sf.ev F a) (sf.evOwn F x).cells K (sf.disOp x) st):=by
 show (aW F m (.store n a x) sf st).wp (ew K) = _
 have hw:(rJ m (sf.disOp x) st (sf.ev F a) (sf.evOwn F x).cells).wp (ew K) = ar m (sf.ev F a) (sf.evOwn F x).cells K (sf.disOp x) st:=by
  generalize (sf.evOwn F x).cells = vs
  generalize sf.disOp x = sf1
  unfold rJ ar
  generalize sf.ev F a = v
  have hif:∀ (c:Prop) [Decidable c] (r:Sf×St),(if c then Res.ok r else Res.fail).wp (ew K) = (c∧K r.1 r.2):=by
   intro c _ r
   by_cases hc:c
   ·rw [if_pos hc]; exact propext ⟨fun q=>⟨hc,q⟩,fun q=>q.2⟩
   ·rw [if_neg hc]; exact propext ⟨fun q=>q.elim,fun q=>hc q.1⟩
  cases v with
  | lptr s off =>
    simp only
    cases hl:look s sf1.locs with
    | none=>rfl
    | some cs=>exact hif _ _
  | ptr id off =>
    simp only
    cases m
    ·simp only [Bool.false_eq_true,if_false,true_and]
     cases hl:st.get id with
     | none=>rfl
     | some cs=>exact hif _ _
    ·exact propext ⟨fun q=>q.elim,fun q=>by cases q.1⟩
  | _=>rfl
 unfold boxX
 simp only [aW]
 split
 ·rename_i h; rw [hw]; exact propext ⟨fun q=>⟨h.1,h.2,q⟩,fun q=>q.2.2⟩
 ·rename_i h; exact propext ⟨fun q=>q.elim,fun q=>h ⟨q.1,q.2.1⟩⟩
def delX (m:Bool) (k:KeyK) (mp key:AV) (K:Sf→St→Prop) (sf:Sf) (st:St):Prop :=
 keyI k key = true∧m = false∧match mp with
 | .map id=>(Res.ofOpt (st.getM id)).wp fun es=>(bU key es 0).wp fun r=>match r with
   | some (i,_)=>K sf (st.delM id es i)
   | none=>K sf st
 | _=>False
theorem o_del (k:KeyK) (mp key:Opd):oneI P F m (.del k mp key) K sf st = delX m k (sf.ev F mp) (sf.ev F key) K sf st:=by
 show (aW F m (.del k mp key) sf st).wp (ew K) = _
 simp only [aW]
 unfold delX
 generalize sf.ev F key = kv
 generalize sf.ev F mp = v
 by_cases h:keyI k kv = true∧m = false
 ·have:∀ A:Prop,(keyI k kv = true∧m = false∧A) = A:=fun A=>propext ⟨fun q=>q.2.2,fun q=>⟨h.1,h.2,q⟩⟩
  rw [if_pos h,this]
  cases v with
  | map id =>
    simp only
    cases hl:st.getM id with
    | none=>rfl
    | some es =>
      refine propext ((Res.wp_bind (r:=bU kv es 0)).trans ?_)
      refine ⟨fun q=>Res.wp_mono (r:=bU kv es 0) q fun r hr=>?_,fun q=>Res.wp_mono (r:=bU kv es 0) q fun r hr=>?_⟩ <;> (cases r <;> exact hr)
  | _=>rfl
 ·rw [if_neg h]
  exact propext ⟨fun q=>q.elim,fun q=>h ⟨q.1,q.2.1⟩⟩
theorem kR (d:Nat):oneI P F m (.mkmap d) K sf st = (m = false∧K (sf.set d (.map st.boxes.length)) (st.push (.mp [] [] 0))):=by
 cases m
 ·exact propext ⟨fun h=>⟨rfl,h⟩,fun h=>h.2⟩
 ·exact propext ⟨fun h=>h.elim,fun h=>by cases h.1⟩
def updX (m:Bool) (k:KeyK) (mp key x:AV) (K:Sf→St→Prop) (sf:Sf) (st:St):Prop :=
 keyI k key = true∧m = false∧x.solid = true∧match mp with
 | .map id=>(Res.ofOpt (st.getM id)).wp fun es=>(bU key es 0).wp fun r=>K sf (st.updM id es key x.dis r)
 | _=>False
theorem o_upd (k:KeyK) (mp key x:Opd):oneI P F m (.upd k mp key x) K sf st = updX m k (sf.ev F mp) (sf.ev F key) (sf.ev F x) K sf st:=by
 show (aW F m (.upd k mp key x) sf st).wp (ew K) = _
 simp only [aW]
 unfold updX
 generalize sf.ev F key = kv
 generalize sf.ev F mp = v
 generalize sf.ev F x = xv
 by_cases h:keyI k kv = true∧m = false∧xv.solid = true
 ·have:∀ A:Prop,(keyI k kv = true∧m = false∧xv.solid = true∧A) = A:=fun A=>propext ⟨fun q=>q.2.2.2,fun q=>⟨h.1,h.2.1,h.2.2,q⟩⟩
  rw [if_pos h,this]
  cases v with
  | map id =>
    simp only
    cases hl:st.getM id with
    | none=>rfl
    | some es=>exact propext (Res.wp_bind (r:=bU kv es 0))
  | _=>rfl
 ·rw [if_neg h]
  exact propext ⟨fun q=>q.elim,fun q=>h ⟨q.1,q.2.1,q.2.2.1⟩⟩
theorem o_x (d:Option Nat) (i:XI):oneI P F m (.x d i) K sf st = al F m i d K sf st:=rfl
theorem o_call (d:Option Nat) (p:Bool) (f:Opd) (args:List Opd):oneI P F m (.call d p f args) K sf st = kF P m p d (sf.ev F f) (args.map (sf.ev F)) K sf st:=rfl
theorem callI_eq (p:Bool) (d:Option Nat) (q:FuncId) (fs cs args:List AV):kF P m p d (.fn (.func q) fs cs) args K sf st =
  (args.all AV.noL = true∧(if (p || m) = true then CallP P q (fs++args.map AV.dis++cs) st (putP K d sf st) else CallA P q (fs++args.map AV.dis++cs) st (putK K d sf))):=rfl
theorem wp_ok {A:Type} (a:A) (C:A→Prop):(Res.ok a).wp C = C a:=rfl
theorem wp_req {A:Type} (b:Bool) (r:Res A) (C:A→Prop):(Res.req b r).wp C = (b = true∧r.wp C):=rfl
theorem nM {A:Type} (C:A→Prop):(Res.fail:Res A).wp C = False:=rfl
theorem gy {A B:Type} (a:A) (f:A→Res B):(Res.ok a).bind f = f a:=rfl
theorem bind_req {A B:Type} (b:Bool) (r:Res A) (f:A→Res B):(Res.req b r).bind f = .req b (r.bind f):=rfl
theorem iP {A B:Type} (f:A→Res B):(Res.fail:Res A).bind f = .fail:=rfl
theorem gz {A:Type} (a:A):Res.ofOpt (some a) = .ok a:=rfl
theorem gA {A:Type}:Res.ofOpt (none:Option A) = .fail:=rfl
end
theorem nN (k:IntKind) (i n:Nat):ixA (.lit (.int k (i:Int))) n = .req (decide (i < n)) (.ok i):=by
 have h1:decide (0≤(i:Int)∧(i:Int) < n) = decide (i < n):=by
  by_cases h:i < n
  ·simp [h]
  ·simp [h]
 have h2:(i:Int).toNat = i:=rfl
 simp only [ixA,h1,h2]
section
variable {P:Program} {m:Bool} {d:Option Nat} {q:FuncId} {fs cs args vs:List AV} {sf:Sf} {st:St} {K:Sf→St→Prop} {v:AV}
theorem aK {p:Bool} (hvs:fs++args.map AV.dis++cs = vs) (hent:bt P q = true) (h:aF P q vs st v) (hn:args.all AV.noL = true) (hK:K (sf.put d v) st):kF P m p d (.fn (.func q) fs cs) args K sf st:=by
 rw [callI_eq,hvs]
 refine ⟨hn,?_⟩
 split
 ·exact ⟨hent,v,h,hK⟩
 ·exact ⟨hent,_,h.acalls,fun v' st' e=>by obtain ⟨rfl,rfl⟩:=e; exact hK⟩
theorem jW {Q:AV→St→Prop} (hvs:fs++args.map AV.dis++cs = vs) (hent:bt P q = true) (h:aX P q vs st Q) (hn:args.all AV.noL = true) (hK:∀ v st',Q v st'→K (sf.put d v) st'):kF P false false d (.fn (.func q) fs cs) args K sf st:=by
 rw [callI_eq,hvs]
 exact ⟨hn,hent,Q,h,hK⟩
end
end Go.Fx
namespace Go.Fx
open Go Go.RowKit Go.ChangeShapes
inductive Sh where
 | bool
 | int (k:IntKind)
 | str
 | sl (e:Sh)
 | unit
 | pair (a r:Sh)
@[reducible] def Sh.T:Sh→Type
 | .bool=>Bool
 | .int _=>Int
 | .str=>ByteArray
 | .sl e=>List e.T
 | .unit=>Unit
 | .pair a r=>a.T×r.T
def Sh.size:Sh→Nat
 | .unit=>0
 | .pair a r=>a.size + r.size
 | _=>1
def Sh.isSt:Sh→Bool
 | .unit=>true
 | .pair _ _=>true
 | _=>false
def iw:Bool→List AV→AV
 | true,cs=>.agg cs
 | false,cs=>cs.headD .any
def Sh.cells:(s:Sh)→s.T→List AV
 | .bool,b=>[.lit (.bool b)]
 | .int k,n=>[.lit (.int k n)]
 | .str,s=>[.lit (.string s)]
 | .sl e,l=>[.sl false e.size (List.map (fun x=>iw e.isSt (e.cells x)) l)]
 | .unit,_=>[]
 | .pair a r,x=>a.cells x.1++r.cells x.2
def Sh.av (s:Sh) (x:s.T):AV:=iw s.isSt (s.cells x)
def Sh.ok:(s:Sh)→s.T→Prop
 | .bool,_=>True
 | .int k,n=>k.min≤n∧n≤k.max
 | .str,s=>s.size≤maxLen
 | .sl e,l=>l.length≤maxLen∧∀ x ∈ l,e.ok x
 | .unit,_=>True
 | .pair a r,x=>a.ok x.1∧r.ok x.2
def Sh.wok:(s:Sh)→s.T→Prop
 | .bool,_=>True
 | .int _,_=>True
 | .str,_=>True
 | .sl e,l=>l.length≤reachBytes∧∀ x ∈ l,e.wok x
 | .unit,_=>True
 | .pair a r,x=>a.wok x.1∧r.wok x.2
theorem Sh.cells_len:∀ (s:Sh) (x:s.T),(s.cells x).length = s.size
 | .bool,_=>rfl
 | .int _,_=>rfl
 | .str,_=>rfl
 | .sl _,_=>rfl
 | .unit,_=>rfl
 | .pair a r,x=>by simp [Sh.cells,Sh.size,Sh.cells_len a,Sh.cells_len r]
theorem Sh.av_cells (s:Sh) (x:s.T):(s.av x).cells = s.cells x:=by
 cases s <;> rfl
section
variable (P:Program)
mutual
def kS:Nat→TypeId→Option Sh
 | 0,_=>none
 | n + 1, t => match P.underlying t with
   | some .bool=>some .bool
   | some (.int k)=>some (.int k)
   | some .string=>some .str
   | some (.slice e)=>(kS n e).bind fun s=>if s.size = P.cellsOf e∧0 < s.size∧0 < P.bytesOf e then some (.sl s) else none
   | some (.struct fs)=>(fL n 0 fs.toList).bind fun s=>if s.size = P.cellsOf t then some s else none
   | _=>none
def fL:Nat→Nat→List Field→Option Sh
 | 0,_,_=>none
 | _ + 1,_,[]=>some .unit
 | n + 1,off,f::r=>if f.offset = off then (kS n f.type).bind fun a=>if a.size = P.cellsOf f.type then (fL n (off + a.size) r).map (.pair a ·) else none else none
end
end
theorem shapeF_st {P:Program}:∀ {n off:Nat} {l:List Field} {s:Sh},fL P n off l = some s→s.isSt = true
 | 0,_,_,_,h=>by simp [fL] at h
 | n + 1,off,[],s,h=>by simp [fL] at h; subst h; rfl
 | n + 1, off, f :: r, s, h => by
   simp only [fL] at h
   split at h
   ·rw [Option.bind_eq_some_iff] at h
    obtain ⟨a,_,h⟩:=h
    split at h
    ·obtain ⟨q,_,rfl⟩:=map_some h; rfl
    ·cases h
   ·cases h
section
variable {H:Type} {enc:TypeId×Value→H} {P:Program} {w:World} {base:Nat} {spare:Nat→Bool} {held:Bool} {g:Gh}
theorem rh {a:Addr} {q:Nat} {cs:List Value} (h:w.cells? base a q = some cs):cs.length = q∧∀ (i:Nat) (u:Value),cs[i]? = some u→w.cell? (a.add i) = some u:=by
 unfold World.cells? at h
 split at h
 ·have key:∀ (l:List Nat) (cs:List Value),l.mapM (fun i=>w.cell? (a.add i)) = some cs→cs.length = l.length∧∀ (i j:Nat) (u:Value),l[i]? = some j→cs[i]? = some u→w.cell? (a.add j) = some u:=by
   intro l
   induction l with
   | nil=>intro cs h; simp at h; subst h; exact ⟨rfl,fun i j u h=>by simp at h⟩
   | cons x r ih =>
     intro cs h
     simp only [List.mapM_cons,bind,Option.bind_eq_some_iff,pure,Option.some.injEq] at h
     obtain ⟨v,hv,l',hl,rfl⟩:=h
     obtain ⟨h1,h2⟩:=ih l' hl
     refine ⟨by simp [h1],fun i j u hi hu=>?_⟩
     cases i with
     | zero=>simp at hi hu; subst hi; subst hu; exact hv
     | succ i=>exact h2 i j u (by simpa using hi) (by simpa using hu)
  obtain ⟨h1,h2⟩:=key _ _ h
  simp at h1
  refine ⟨h1,fun i u hu=>h2 i i u ?_ hu⟩
  have:i < q:=by rw [← h1]; exact (List.getElem?_eq_some_iff.1 hu).1
  simp [this]
 ·cases h
theorem add_spot {a:Addr} {i:Nat} {u:Value} (h:w.cell? (a.add i) = some u):i = 0→a.spot = none:=by
 intro e
 subst e
 simp only [Addr.add,if_true] at h
 unfold World.cell? at h
 split at h
 ·split at h
  ·cases h
  ·rename_i hs; simpa using hs
 ·cases h
theorem fX {x:AV} {u:Value} (h:R g x u):RL g [x] [u]:=⟨rfl,fun i a b ha hb=>by cases i <;> simp at ha hb; subst ha; subst hb; exact h⟩
def Reads (g:Gh) (s:Sh) (ws:List Nat) (cs:List Value):Prop:=∃ x:s.T,s.ok x∧RL g (s.cells x) cs∧(∀ u ∈ cs,u.oneCell' = true)∧((∀ b ∈ ws,b≤reachBytes)→s.wok x)
theorem wall_mem {P:Program} {e:TypeId} {b:Nat}:∀ {l:List (DataW H)} {v:DataW H},v ∈ l→b ∈ v.weights P e→b ∈ DataW.weightsAll P e l
 | [],_,h,_=>by cases h
 | d :: r, v, h, hb => by
   unfold DataW.weightsAll
   rcases List.mem_cons.1 h with rfl | h
   ·exact List.mem_append.2 (.inl hb)
   ·exact List.mem_append.2 (.inr (wall_mem h hb))
theorem shape_R (hi:∀ b o u,w.cell? ⟨b,o,none⟩ = some u→g.imm b o = some u):∀ (n:Nat),
  (∀ (t:TypeId) (s:Sh) (fuel:Nat) (cs:List Value) (x:DataW H×List MemPlace),kS P n t = some s→DataW.trod enc P w base spare held fuel t cs = some x→Reads g s (x.1.weights P t) cs) ∧
  (∀ (off:Nat) (l:List Field) (s:Sh) (fuel:Nat) (cs:List Value) (xs:List (DataW H×List MemPlace)),fL P n off l = some s→cs.length = off + s.size →
   (l.mapM fun f=>DataW.trod enc P w base spare held fuel f.type ((cs.drop f.offset).take (P.cellsOf f.type))) = some xs→Reads g s (DataW.weightsEach P (l.map (·.type)) (xs.map (·.1))) (cs.drop off)):=by
 intro n
 induction n with
 | zero=>exact ⟨fun t s fuel cs x h=>by simp [kS] at h,fun off l s fuel cs xs h=>by simp [fL] at h⟩
 | succ n ih =>
   obtain ⟨ih1,ih2⟩:=ih
   constructor
   ·intro t s fuel cs x hs ht
    cases fuel with
    | zero=>simp [DataW.trod] at ht
    | succ fuel =>
    simp only [kS] at hs
    split at hs
    ·rename_i hu
     cases hs
     have:∃ b,cs = [.bool b]:=by
      simp only [DataW.trod,hu] at ht
      split at ht <;> simp_all
     obtain ⟨b,rfl⟩:=this
     exact ⟨b,trivial,fX (R.lit _ rfl),by simp [Value.oneCell'],fun _=>trivial⟩
    ·rename_i k hu
     cases hs
     have:∃ m,cs = [.int k m]∧(Lit.int k m).wf = true:=by
      simp only [DataW.trod,hu] at ht
      split at ht <;> simp_all
     obtain ⟨m,rfl,hwf⟩:=this
     simp only [Lit.wf,Bool.and_eq_true,decide_eq_true_eq] at hwf
     exact ⟨m,hwf,fX (R.lit _ rfl),by simp [Value.oneCell'],fun _=>trivial⟩
    ·rename_i hu
     cases hs
     have:∃ q,cs = [.string q]∧q.size≤maxLen:=by
      simp only [DataW.trod,hu] at ht
      split at ht <;> simp_all
     obtain ⟨q,rfl,hwf⟩:=this
     exact ⟨q,hwf,fX (R.lit _ rfl),by simp [Value.oneCell'],fun _=>trivial⟩
    ·rename_i e hu
     rw [Option.bind_eq_some_iff] at hs
     obtain ⟨se,hse,hs⟩:=hs
     split at hs
     case isFalse=>cases hs
     rename_i hsz
     cases hs
     have:cs = [.slice none 0 0]∨∃ a len cap elems,cs = [.slice (some a) len cap]∧len≤cap∧cap≤maxLen ∧
       (List.range len).mapM (fun i=>(w.cells? base (a.add (i * P.cellsOf e)) (P.cellsOf e)).bind (DataW.trod enc P w base spare held fuel e)) = some elems∧∃ sp,x.1 = .slice (elems.map (·.1)) sp:=by
      simp only [DataW.trod,hu] at ht
      split at ht
      all_goals try (exfalso; simp_all; done)
      ·rename_i e1 h1
       exact .inl rfl
      ·rename_i e1 a len cap h1
       cases h1
       split at ht
       ·rename_i hc
        rw [Option.bind_eq_some_iff] at ht
        obtain ⟨elems,hm,ht⟩:=ht
        obtain ⟨rest,_,hx⟩:=map_some ht
        exact .inr ⟨a,len,cap,elems,rfl,hc.2.1,hc.2.2,hm,rest.map (·.1),by rw [← hx]⟩
       ·cases ht
     rcases this with rfl | ⟨a,len,cap,elems,rfl,hlc,hcm,hm,sp,hxsp⟩
     ·exact ⟨[],⟨Nat.zero_le _,by simp⟩,fX (R.slN _ _),by simp [Value.oneCell'],fun _=>⟨Nat.zero_le _,by simp⟩⟩
     ·have key:∀ (l:List Nat) (es:List (DataW H×List MemPlace)),l.mapM (fun i=>(w.cells? base (a.add (i * P.cellsOf e)) (P.cellsOf e)).bind (DataW.trod enc P w base spare held fuel e)) = some es →
        ∃ ys:List se.T,ys.length = l.length∧(∀ (q j:Nat) (y:se.T),l[q]? = some j→ys[q]? = some y→se.ok y∧∃ cj,w.cells? base (a.add (j * P.cellsOf e)) (P.cellsOf e) = some cj∧RL g (se.cells y) cj∧∀ u ∈ cj,u.oneCell' = true)∧es.length = l.length∧∀ (q:Nat) (y:se.T) (v:DataW H×List MemPlace),ys[q]? = some y→es[q]? = some v→(∀ b ∈ v.1.weights P e,b≤reachBytes)→se.wok y:=by
       intro l
       induction l with
       | nil=>intro es h0; simp at h0; subst h0; exact ⟨[],rfl,⟨fun q j y h=>by simp at h,rfl,fun q y v h=>by simp at h⟩⟩
       | cons z r ihl =>
         intro es h
         simp only [List.mapM_cons,bind,Option.bind_eq_some_iff,pure,Option.some.injEq] at h
         obtain ⟨v,⟨cj,hcj,hv⟩,l',hl,rfl⟩:=h
         obtain ⟨ys,h1,h2,h3,h4⟩:=ihl l' hl
         obtain ⟨y,hy1,hy2,hy3,hy4⟩:=ih1 e se fuel cj v hse hv
         refine ⟨y::ys,by simp [h1],fun q j y' hq hy=>?_,by simp [h3],fun q y' v' hy hv'=>?_⟩
         ·cases q with
          | zero=>simp at hq hy; subst hq; subst hy; exact ⟨hy1,cj,hcj,hy2,hy3⟩
          | succ q=>exact h2 q j y' (by simpa using hq) (by simpa using hy)
         ·cases q with
          | zero=>simp at hv' hy; subst hv'; subst hy; exact hy4
          | succ q=>exact h4 q y' v' (by simpa using hy) (by simpa using hv')
      obtain ⟨ys,hyl,hys,hel0,hwk⟩:=key _ _ hm
      simp at hyl
      have hsz1:=hsz.1
      refine ⟨ys,⟨by rw [hyl]; omega,fun y hy=>?_⟩,fX ?_,by simp [Value.oneCell'],fun hwt=>?_⟩
      ·obtain ⟨q,hq⟩:=List.mem_iff_getElem?.1 hy
       have hql:q < len:=by rw [← hyl]; exact (List.getElem?_eq_some_iff.1 hq).1
       exact (hys q q y (by simp [hql]) hq).1
      ·have hel:(List.map (fun x=>iw se.isSt (se.cells x)) ys).length = len:=by simp [hyl]
       rcases Nat.eq_zero_or_pos len with h0 | h0
       ·subst h0
        have:ys = []:=List.eq_nil_of_length_eq_zero hyl
        subst this
        exact R.slE false _ a cap
       ·have hsp:a.spot = none:=by
         obtain ⟨y0,hy0⟩:∃ y0,ys[0]? = some y0:=⟨ys[0],by simp⟩
         obtain ⟨_,cj,hcj,hrl,_⟩:=hys 0 0 y0 (by simp [h0]) hy0
         obtain ⟨hl0,hc0⟩:=rh hcj
         have hpos:0 < cj.length:=by rw [hl0,← hsz1]; exact hsz.2.1
         have:=hc0 0 cj[0] (by simp [hpos])
         simp only [Nat.zero_mul] at this
         have ha0:(a.add 0).add 0 = a.add 0:=by simp [Addr.add]
         rw [ha0] at this
         exact add_spot this rfl
        obtain ⟨b,o,sp⟩:=a
        simp only at hsp
        subst hsp
        have hcl:∀ x ∈ (List.map (fun x=>iw se.isSt (se.cells x)) ys),x.cells.length = se.size:=by
         intro x hx
         obtain ⟨y,_,rfl⟩:=List.mem_map.1 hx
         have:=Sh.av_cells se y
         unfold Sh.av at this
         rw [this]; exact Sh.cells_len se y
        have hget:∀ (i:Nat) (x:AV),((List.map (fun x=>iw se.isSt (se.cells x)) ys).flatMap AV.cells)[i]? = some x→∃ u,w.cell? ⟨b,o + i,none⟩ = some u∧R g x u∧u.oneCell' = true:=by
         intro i x hx
         obtain ⟨q,r,e',rfl,h2,h3⟩:=eV hcl hx
         simp only [List.getElem?_map,Option.map_eq_some_iff] at h2
         obtain ⟨y,hy,rfl⟩:=h2
         have hql:q < len:=by rw [← hyl]; exact (List.getElem?_eq_some_iff.1 hy).1
         obtain ⟨_,cj,hcj,hrl,hone⟩:=hys q q y (by simp [hql]) hy
         have hav:=Sh.av_cells se y
         unfold Sh.av at hav
         rw [hav] at h3
         obtain ⟨hl0,hc0⟩:=rh hcj
         have hr:r < cj.length:=by rw [hrl.1]; exact (List.getElem?_eq_some_iff.1 h3).1
         have h4:=hc0 r cj[r] (by simp [hr])
         rw [bf,bf,← hsz1] at h4
         refine ⟨cj[r],?_,hrl.2 r x _ h3 (by simp [hr]),hone _ (List.getElem_mem hr)⟩
         rw [← Nat.add_assoc]; exact h4
        have:=R.sl (g:=g) false se.size _ (fun i=>(w.cell? ⟨b,o + i,none⟩).getD undef) b o cap (by rw [hel]; exact hlc) hcl (fun i x hx=>?_) (fun i x hx=>?_) (fun i x hx=>?_)
        ·rw [hel] at this; exact this
        ·obtain ⟨u,h1,h2,h3⟩:=hget i x hx
         rw [h1]; exact hi _ _ _ h1
        ·obtain ⟨u,h1,h2,h3⟩:=hget i x hx
         rw [h1]; exact h2
        ·obtain ⟨u,h1,h2,h3⟩:=hget i x hx
         rw [h1]; exact h3
      ·rw [hxsp] at hwt
       unfold DataW.weights at hwt
       simp only [hu] at hwt
       simp at hel0
       refine ⟨?_,fun y hy=>?_⟩
       ·have h1:=hwt _ (List.mem_cons_self ..)
        rw [List.length_map,hel0] at h1
        rw [hyl]
        exact Nat.le_trans (Nat.le_trans (Nat.le_add_right _ _) (Nat.le_mul_of_pos_right _ hsz.2.2)) h1
       ·obtain ⟨q,hq⟩:=List.mem_iff_getElem?.1 hy
        have hql:q < elems.length:=by rw [hel0,← hyl]; exact (List.getElem?_eq_some_iff.1 hq).1
        refine hwk q y elems[q] hq (by simp [hql]) fun b hb=>hwt b (List.mem_cons.2 (.inr (List.mem_append.2 (.inl (wall_mem (List.mem_map.2 ⟨_,List.getElem_mem hql,rfl⟩) hb)))))
    ·rename_i fs hu
     rw [Option.bind_eq_some_iff] at hs
     obtain ⟨s',hs',hs⟩:=hs
     split at hs
     case isFalse=>cases hs
     rename_i hsz
     have hss:s' = s:=Option.some.inj hs
     subst hss
     have:cs.length = P.cellsOf t∧∃ xs,(fs.toList.mapM fun f=>DataW.trod enc P w base spare held fuel f.type ((cs.drop f.offset).take (P.cellsOf f.type))) = some xs∧x.1 = .agg (xs.map (·.1)):=by
      simp only [DataW.trod,hu] at ht
      split at ht
      all_goals try (exfalso; simp_all; done)
      rename_i hc
      obtain ⟨xs,hxs,hx⟩:=map_some ht
      exact ⟨hc,xs,hxs,by rw [← hx]⟩
     obtain ⟨hlen,xs,hxs,hxa⟩:=this
     have:=ih2 0 fs.toList s' fuel cs xs hs' (by rw [hlen,hsz]; simp) hxs
     rw [hxa]
     unfold DataW.weights
     simp only [hu]
     simpa using this
    ·cases hs
   ·intro off l s fuel cs xs hs hlen hm
    cases l with
    | nil =>
      simp only [fL] at hs
      cases hs
      refine ⟨(),trivial,?_,?_,fun _=>trivial⟩
      ·have:cs.drop off = []:=by apply List.drop_eq_nil_of_le; simp [Sh.size] at hlen; omega
       rw [this]; exact RL.nil
      ·have:cs.drop off = []:=by apply List.drop_eq_nil_of_le; simp [Sh.size] at hlen; omega
       rw [this]; simp
    | cons f r =>
      simp only [fL] at hs
      split at hs
      case isFalse=>cases hs
      rename_i hoff
      rw [Option.bind_eq_some_iff] at hs
      obtain ⟨a,ha,hs⟩:=hs
      split at hs
      case isFalse=>cases hs
      rename_i hsz
      obtain ⟨q,hq,rfl⟩:=map_some hs
      simp only [List.mapM_cons,bind,Option.bind_eq_some_iff,pure,Option.some.injEq] at hm
      obtain ⟨x0,hx0,xr,hxr,rfl⟩:=hm
      obtain ⟨y,hy1,hy2,hy3,hy4⟩:=ih1 f.type a fuel _ x0 ha hx0
      obtain ⟨z,hz1,hz2,hz3,hz4⟩:=ih2 (off + a.size) r q fuel cs xr hq (by rw [hlen]; simp [Sh.size]; omega) hxr
      have hsplit:cs.drop off = (cs.drop f.offset).take (P.cellsOf f.type)++cs.drop (off + a.size):=by
       rw [hoff,← hsz,← List.drop_drop]
       exact (List.take_append_drop a.size (cs.drop off)).symm
      rw [hsplit]
      refine ⟨(y,z),⟨hy1,hz1⟩,hy2.append hz2,fun u hu=>(List.mem_append.1 hu).elim (hy3 u) (hz3 u),fun hwt=>?_⟩
      rw [List.map_cons,List.map_cons] at hwt
      unfold DataW.weightsEach at hwt
      exact ⟨hy4 fun b hb=>hwt b (List.mem_append.2 (.inl hb)),hz4 fun b hb=>hwt b (List.mem_append.2 (.inr hb))⟩
theorem cell_plain {r:Reach} {b0:Nat} {t:TypeId} {v:Value} {s:Sh} {n:Nat} (hs:kS P (n + 1) t = some s) (hv:Value.okWide P w r b0 t v):(s.isSt = true∧∃ cs,v = .agg cs)∨(s.isSt = false∧v.cells = #[v]):=by
 simp only [kS] at hs
 unfold Value.okWide at hv
 split at hs
 ·rename_i hu
  cases hs
  simp only [hu,Cell.okWide,Cell.ok] at hv
  right
  refine ⟨rfl,?_⟩
  cases v <;> first | rfl | (simp at hv; done)
 ·rename_i k hu
  cases hs
  simp only [hu,Cell.okWide,Cell.ok] at hv
  right
  refine ⟨rfl,?_⟩
  cases v <;> first | rfl | (simp at hv; done)
 ·rename_i hu
  cases hs
  simp only [hu,Cell.okWide,Cell.ok] at hv
  right
  refine ⟨rfl,?_⟩
  cases v <;> first | rfl | (simp at hv; done)
 ·rename_i e hu
  rw [Option.bind_eq_some_iff] at hs
  obtain ⟨se,hse,hs⟩:=hs
  split at hs
  case isFalse=>cases hs
  cases hs
  simp only [hu,Cell.okWide,Cell.ok] at hv
  right
  refine ⟨rfl,?_⟩
  cases v <;> first | rfl | (simp at hv; done)
 ·rename_i fs hu
  rw [Option.bind_eq_some_iff] at hs
  obtain ⟨s',hs',hs⟩:=hs
  split at hs
  case isFalse=>cases hs
  have hss:s' = s:=Option.some.inj hs
  subst hss
  simp only [hu] at hv
  obtain ⟨cs,rfl,_⟩:=hv
  exact .inl ⟨shapeF_st hs',cs,rfl⟩
 ·cases hs
theorem trod_sh (hi:∀ b o u,w.cell? ⟨b,o,none⟩ = some u→g.imm b o = some u) {n:Nat} {t:TypeId} {s:Sh} {v:Value} {d:DataW H} {ps:List MemPlace} {r:Reach} {b0:Nat} (hs:kS P (n + 1) t = some s) (h:DataW.Trod enc P w base spare held t v d ps)
  (hv:Value.okWide P w r b0 t v):∃ x:s.T,s.ok x∧R g (s.av x) v∧((∀ b ∈ d.weights P t,b≤reachBytes)→s.wok x):=by
 obtain ⟨fuel,hf⟩:=h
 obtain ⟨x,h1,h2,h3,h4⟩:=(shape_R (enc:=enc) (base:=base) (spare:=spare) (held:=held) hi (n + 1)).1 t s fuel _ _ hs hf
 refine ⟨x,h1,?_,h4⟩
 rcases cell_plain hs hv with ⟨hst,cs,rfl⟩ | ⟨hst,hc⟩
 ·unfold Sh.av
  rw [hst]
  have:=RL.agg h2
  simpa [iw,Value.cells] using this
 ·rw [hc] at h2
  unfold Sh.av
  rw [hst]
  simp only [iw]
  have hl:=h2.1
  match hcs:s.cells x,hl with
  | [c], _ =>
    rw [hcs] at h2
    exact h2.2 0 c v rfl rfl
def parS (P:Program):List TypeId→Option Sh
 | []=>some .unit
 | t :: r => match kS P 60 t, parS P r with
   | some s,some q=>some (.pair s q)
   | _,_=>none
def fd:(s:Sh)→s.T→List AV
 | .pair a r,x=>a.av x.1::fd r x.2
 | .bool,_=>[]
 | .int _,_=>[]
 | .str,_=>[]
 | .sl _,_=>[]
 | .unit,_=>[]
theorem args_R (hi:∀ b o u,w.cell? ⟨b,o,none⟩ = some u→g.imm b o = some u) {b0:Nat}:∀ {ts:List TypeId} {vs:List Value} {ds:List (DataW H)} {ps:List MemPlace} {S:Sh},parS P ts = some S→DataW.TrodAll enc P w base spare held ts vs ds ps →
  (∀ (j:Nat) t v,ts[j]? = some t→vs[j]? = some v→Value.okWide P w .any b0 t v)→∃ x:S.T,S.ok x∧jv g (fd S x) vs.toArray∧((∀ b ∈ DataW.weightsEach P ts ds,b≤reachBytes)→S.wok x)
 | [], vs, ds, ps, S, hS, h, _ => by
   simp only [parS] at hS
   cases hS
   cases vs with
   | nil=>exact ⟨(),trivial,⟨rfl,fun i x u hx=>by simp [fd] at hx⟩,fun _=>trivial⟩
   | cons v r=>cases ds <;> exact h.elim
 | t :: ts, vs, ds, ps, S, hS, h, hok => by
   simp only [parS] at hS
   split at hS
   ·rename_i s q hs hq
    cases hS
    cases vs with
    | nil=>cases ds <;> exact h.elim
    | cons v vs =>
      cases ds with
      | nil=>exact h.elim
      | cons d ds =>
        obtain ⟨p1,p2,h1,h2,_⟩:=h
        obtain ⟨x,hx1,hx2,hx3⟩:=trod_sh hi (n:=59) hs h1 (hok 0 t v rfl rfl)
        obtain ⟨y,hy1,hy2,hy3⟩:=args_R hi hq h2 (fun j t v ht hv=>hok (j + 1) t v (by simpa using ht) (by simpa using hv))
        refine ⟨(x,y),⟨hx1,hy1⟩,⟨by simpa [fd] using hy2.1,fun i a u ha hu=>?_⟩,fun hwt=>?_⟩
        ·cases i with
         | zero=>simp [fd] at ha hu; subst ha; subst hu; exact hx2
         | succ i=>exact hy2.2 i a u (by simpa [fd] using ha) (by simpa using hu)
        ·unfold DataW.weightsEach at hwt
         exact ⟨hx3 fun b hb=>hwt b (List.mem_append.2 (.inl hb)),hy3 fun b hb=>hwt b (List.mem_append.2 (.inr hb))⟩
   ·cases hS
theorem jH (hl:laidOutB P = true) {W W':World} {sp':Nat→Bool}:∀ {ts:List TypeId} {vs:List Value} {ds:List (DataW H)} {ps:List MemPlace},(∀ t ∈ ts,P.readableRec t = true∧t < P.types.size) →
  DataW.TrodAll enc P W base (fun _=>true) true ts vs ds ps→(∀ p ∈ ps,W.sameAt W' p)→(∀ p ∈ ps,sp' p.block = true)→DataW.TrodAll enc P W' base sp' true ts vs ds ps
 | [],[],[],ps,_,h,_,_=>h
 | [],[],_::_,_,_,h,_,_=>h.elim
 | [],_::_,[],_,_,h,_,_=>h.elim
 | [],_::_,_::_,_,_,h,_,_=>h.elim
 | _::_,[],[],_,_,h,_,_=>h.elim
 | _::_,[],_::_,_,_,h,_,_=>h.elim
 | _::_,_::_,[],_,_,h,_,_=>h.elim
 | t :: ts, v :: vs, d :: ds, ps, ht, h, hs, hp => by
   obtain ⟨p,q,h1,h2,rfl⟩:=h
   exact ⟨p,q,WideElems.Trod_stays hl (ht t (by simp)).1 (ht t (by simp)).2 h1 (fun x hx=>hs x (by simp [hx])) (fun x hx=>hp x (by simp [hx])),
    jH hl (fun t h=>ht t (by simp [h])) h2 (fun x hx=>hs x (by simp [hx])) (fun x hx=>hp x (by simp [hx])),rfl⟩
theorem qt {W W':World} {may:MemPlace→Prop} (hb:Below W.heap.size W W'):W.keptBut W' may:=by
 refine ⟨hb.os,hb.output,fun i hi=>?_⟩
 rw [hb.block i hi]
 cases hh:W.heap[i]? with
 | none=>rfl
 | some o=>cases o <;> first | rfl | exact ⟨rfl,rfl,rfl,fun _ _=>rfl⟩ | exact .inr ⟨rfl,rfl⟩
theorem post_law {f:Func} {s:ChangeSpec} {apart fresh handsOn again:Bool} {W W':World} {args:Array Value} {ds gs:List (DataW H)} {before:List MemPlace} {tb:TypeId} (hl:laidOutB P = true) (ht:∀ t ∈ f.params.toList,P.readableRec t = true∧t < P.types.size)
  (hres:f.resultTypes = #[tb]) (htb:P.underlying tb = some .bool) (hvars:s.vars = []) (hfn:∀ ds:List (DataW H),ds.length = f.params.size→(s.fn H ds).results = [.lit (.bool true)]∧(s.fn H ds).args = ds∧(s.fn H ds).vars = [])
  (hW:DataW.Whole enc P f.params.toList s.vars apart W args.toList ds gs before) (hb:Below W.heap.size W W'):s.post enc P f apart fresh handsOn again W args (.bool true) W':=by
 have hW0:=hW
 obtain ⟨p,q,hA,hV,hpq,hz,hn⟩:=hW
 rw [hvars] at hV
 obtain ⟨rfl,rfl⟩:=trodVars_none hV
 simp only [List.append_nil] at hpq
 subst hpq
 have hlen:ds.length = f.params.size:=by
  have key:∀ {ts:List TypeId} {vs:List Value} {ds:List (DataW H)} {ps:List MemPlace},DataW.TrodAll enc P W 0 (fun _=>true) true ts vs ds ps→ds.length = ts.length:=by
   intro ts
   induction ts with
   | nil=>intro vs ds ps h; cases vs <;> cases ds <;> first | rfl | exact h.elim
   | cons t ts ih =>
     intro vs ds ps h
     cases vs <;> cases ds <;> first | exact h.elim | skip
     obtain ⟨_,_,_,h2,_⟩:=h
     simp [ih h2]
  have:=key hA
  simpa using this
 obtain ⟨hr1,hr2,hr3⟩:=hfn (ds++[]) (by simpa using hlen)
 have hlt:∀ x ∈ before,x.block < W.heap.size:=fun x hx=>by simpa using hW0.lt x hx
 have hsame:∀ x ∈ before,W.sameAt W' x:=fun x hx=>hb.same (hlt x hx)
 have hret:∀ (b:Nat) (sp:Nat→Bool) (hd:Bool),DataW.TrodAll enc P W' b sp hd f.resultTypes.toList ((Value.bool true).resultList f.resultTypes.size) (s.fn H (ds++[])).results []:=by
  intro b sp hd
  rw [hr1,hres]
  refine ⟨[],[],⟨1,?_⟩,rfl,rfl⟩
  simp [DataW.trod,htb,Value.cells]
 have hargs:∀ sp:Nat→Bool,(∀ p ∈ before,sp p.block = true)→DataW.TrodAll enc P W' 0 sp true f.params.toList args.toList (s.fn H (ds++[])).args before:=by
  intro sp hsp
  rw [hr2,List.append_nil]
  exact jH hl ht hA hsame hsp
 have hvs:∀ sp:Nat→Bool,DataW.TrodVars enc P W' sp s.vars (s.fn H (ds++[])).vars []:=by
  intro sp
  rw [hvars,hr3]
  rfl
 refine ⟨ds,[],before,[],before,[],hW0,hret _ _ _,hargs _ (fun x hx=>by simpa using hlt x hx),hvs _,qt hb,fun _=>?_⟩
 refine ⟨fun j t r hj hr=>?_,_,_,([]++before)++[],⟨[]++before,[],trodAll_append (hargs _ (fun _ _=>rfl)) (hret _ _ _),hvs _,rfl,?_,?_⟩,?_⟩
 ·rw [hres] at hj hr
  match j with
  | 0 =>
    simp [Value.resultList] at hj hr
    subst hj; subst hr
    simp [Value.okWide,htb,Cell.okWide,Cell.ok]
  | j + 1=>simp at hj
 ·intro b off hp
  have hp':(MemPlace.cell b off) ∈ before:=by simpa using hp
  have h1:=hz b off hp'
  have h2:=hlt _ hp'
  unfold World.frozen? at h1 ⊢
  rw [hb.block b h2]; exact h1
 ·intro ha
  have:=hn ha
  simpa using this
 ·intro x hx _
  simpa using hx
theorem wrap_nb {b:Bool} {l:List AV} (h:∀ c ∈ l,c.NB):(iw b l).NB:=by
 cases b
 ·cases l with
  | nil=>exact .any
  | cons c r=>exact h c (List.mem_cons_self ..)
 ·exact .agg _ h
theorem kT:∀ (s:Sh) (x:s.T),∀ c ∈ s.cells x,c.NB
 | .bool,b,c,h=>by simp only [Sh.cells,List.mem_singleton] at h; subst h; exact .lit _
 | .int _,b,c,h=>by simp only [Sh.cells,List.mem_singleton] at h; subst h; exact .lit _
 | .str,b,c,h=>by simp only [Sh.cells,List.mem_singleton] at h; subst h; exact .lit _
 | .sl e, l, c, h => by
   simp only [Sh.cells,List.mem_singleton] at h; subst h
   refine .sl _ _ _ fun v hv=>?_
   obtain ⟨y,_,rfl⟩:=List.mem_map.1 hv
   exact wrap_nb (kT e y)
 | .unit,_,c,h=>by simp [Sh.cells] at h
 | .pair a r, x, c, h => by
   simp only [Sh.cells,List.mem_append] at h
   exact h.elim (kT a x.1 c) (kT r x.2 c)
theorem avsOf_nb:∀ (s:Sh) (x:s.T),∀ c ∈ fd s x,c.NB
 | .pair a r, x, c, h => by
   simp only [fd,List.mem_cons] at h
   rcases h with rfl | h
   ·exact wrap_nb (kT a x.1)
   ·exact avsOf_nb r x.2 c h
 | .bool,_,c,h=>by simp [fd] at h
 | .int _,_,c,h=>by simp [fd] at h
 | .str,_,c,h=>by simp [fd] at h
 | .sl _,_,c,h=>by simp [fd] at h
 | .unit,_,c,h=>by simp [fd] at h
theorem law_calls {f:FuncId} {fn:Func} {s:ChangeSpec} {apart fresh handsOn again:Bool} {tb:TypeId} {S:Sh} (hl:laidOutB P = true) (ht:∀ t ∈ fn.params.toList,P.readableRec t = true∧t < P.types.size)
  (hS:parS P fn.params.toList = some S) (hres:fn.resultTypes = #[tb]) (htb:P.underlying tb = some .bool) (hvars:s.vars = []) (hfn:∀ ds:List (DataW H),ds.length = fn.params.size→(s.fn H ds).results = [.lit (.bool true)]∧(s.fn H ds).args = ds∧(s.fn H ds).vars = [])
  (W:World) (b0:Nat) (args:Array Value) (ds gs:List (DataW H)) (before:List MemPlace)
  (hlaw:∀ x:S.T,S.ok x→((∀ b ∈ DataW.weightsEach P fn.params.toList ds,b≤reachBytes)→S.wok x)→aF P f (fd S x) ⟨[]⟩ (.lit (.bool true))) (hval:∀ (j:Nat) t v,fn.params[j]? = some t→args[j]? = some v→Value.okWide P W .any b0 t v)
  (hW:DataW.Whole enc P fn.params.toList s.vars apart W args.toList ds gs before):Calls P f args W fun e W'=>∃ v,e = .returned v∧s.post enc P fn apart fresh handsOn again W args v W':=by
 have hW0:=hW
 obtain ⟨p,q,hA,_⟩:=hW
 let g0:Gh:=⟨W.heap.size,fun b o=>W.cell? ⟨b,o,none⟩,fun _=>none,fun _ _=>none,fun _=>none⟩
 have hg:Good g0 W:=⟨fun _ _ _ h=>h,fun _ _ _ _=>.inl rfl,(fun b c hc=>by cases hc),Nat.le_refl _⟩
 have hbx:BoxR g0 W ⟨[]⟩:=⟨fun _ _=>rfl,fun id cs hc=>by simp at hc,fun id bx hc=>by simp at hc⟩
 obtain ⟨x,hx,hargs,hxw⟩:=args_R (g:=g0) (b0:=b0) (fun b o u h=>h) hS hA (fun j t v ht hv=>hval j t v (by simpa using ht) (by simpa using hv))
 refine (hlaw x hx hxw g0 W args (fun _=>.box 0 0) hg hbx (by simpa using hargs)).mono fun e W' ⟨u,g',he,hle,hR,_⟩=>?_
 have hu:=hR.lit_inv.1
 subst hu
 exact ⟨_,he,post_law hl ht hres htb hvars hfn hW0 hle.below⟩
theorem kU {b:Nat}:∀ (ts vt:List TypeId) (ds gs:List (DataW H)),b ∈ DataW.weightsEach P ts ds→b ∈ DataW.weightsEach P (ts++vt) (ds++gs)
 | [],_,_,_,h=>by unfold DataW.weightsEach at h; cases h
 | _::_,_,[],_,h=>by unfold DataW.weightsEach at h; cases h
 | t :: ts, vt, d :: ds, gs, h => by
   rw [List.cons_append,List.cons_append]
   unfold DataW.weightsEach at h ⊢
   rcases List.mem_append.1 h with h | h
   ·exact List.mem_append.2 (.inl h)
   ·exact List.mem_append.2 (.inr (kU ts vt ds gs h))
theorem law_topW {f:FuncId} {fn:Func} {s:ChangeSpec} {apart fresh handsOn again:Bool} {tb:TypeId} {S:Sh} (hl:laidOutB P = true) (ht:(fn.params.toList.all fun t=>P.readableRec t && decide (t < P.types.size)) = true)
  (hS:parS P fn.params.toList = some S) (hres:fn.resultTypes = #[tb]) (htb:P.underlying tb = some .bool) (hvars:s.vars = []) (hfn:∀ ds:List (DataW H),ds.length = fn.params.size→(s.fn H ds).results = [.lit (.bool true)]∧(s.fn H ds).args = ds∧(s.fn H ds).vars = [])
  (hlaw:∀ x:S.T,S.ok x→S.wok x→aX P f (fd S x) ⟨[]⟩ fun v _=>v = .lit (.bool true))
  (W:World) (b0:Nat) (args:Array Value) (ds gs:List (DataW H)) (before:List MemPlace) (hval:∀ (j:Nat) t v,fn.params[j]? = some t→args[j]? = some v→Value.okWide P W .any b0 t v)
  (hW:DataW.Whole enc P fn.params.toList s.vars apart W args.toList ds gs before) {vt:List TypeId} (hwt:(DataW.weightsEach P (fn.params.toList++vt) (ds++gs)).all (·≤reachBytes) = true):Calls P f args W fun e W'=>∃ v,e = .returned v∧s.post enc P fn apart fresh handsOn again W args v W':=by
 refine law_calls hl (fun t h=>by have:=List.all_eq_true.1 ht t h; simpa using this) hS hres htb hvars hfn W b0 args ds gs before (fun x hx hxw=>?_) hval hW
 refine nH ((hlaw x hx (hxw fun b hb=>of_decide_eq_true (List.all_eq_true.1 hwt b (kU _ _ _ _ hb)))).mono fun v st e=>by subst e; exact .le _ _ (.refl _) (.lit _)) (fun v hv=>avsOf_nb S x v hv) _
end
end Go.Fx
namespace Go.Fx
open Go
def nbB:Nat→AV→Bool
 | _,.any=>true
 | _,.lit _=>true
 | n + 1,.cptr cs=>cs.all (nbB n)
 | n + 1,.sl _ _ es=>es.all (nbB n)
 | n + 1,.fn _ fs cs=>fs.all (nbB n) && cs.all (nbB n)
 | n + 1,.agg cs=>cs.all (nbB n)
 | n + 1,.tup cs=>cs.all (nbB n)
 | n + 1,.ifc _ v=>nbB n v
 | _,_=>false
theorem jX:∀ (n:Nat) (v:AV),nbB n v = true→v.NB:=by
 intro n
 induction n with
 | zero=>intro v h; cases v <;> first | exact .any | exact .lit _ | cases h
 | succ n ih =>
   intro v h
   cases v with
   | any=>exact .any
   | lit v=>exact .lit v
   | cptr cs=>exact .cptr cs fun c hc=>ih c (List.all_eq_true.1 h c hc)
   | sl o k es=>exact .sl o k es fun c hc=>ih c (List.all_eq_true.1 h c hc)
   | fn f fs cs =>
     simp only [nbB,Bool.and_eq_true] at h
     exact .fn f fs cs (fun c hc=>ih c (List.all_eq_true.1 h.1 c hc)) fun c hc=>ih c (List.all_eq_true.1 h.2 c hc)
   | agg cs=>exact .agg cs fun c hc=>ih c (List.all_eq_true.1 h c hc)
   | tup cs=>exact .tup cs fun c hc=>ih c (List.all_eq_true.1 h c hc)
   | ifc t v=>exact .ifc t v (ih v h)
   | _=>cases h
def eqV:Value→Value→Bool
 | .bool a,.bool b=>a == b
 | .int k a,.int k' b=>decide (k = k') && a == b
 | .string a,.string b=>decide (a = b)
 | .pointer none,.pointer none=>true
 | .slice none 0 0,.slice none 0 0=>true
 | .map none,.map none=>true
 | .nilFunc,.nilFunc=>true
 | .nilIface,.nilIface=>true
 | _,_=>false
theorem eqV_ok {a b:Value} (h:eqV a b = true):a = b:=by
 unfold eqV at h
 split at h
 ·simp at h; rw [h]
 ·simp only [Bool.and_eq_true,decide_eq_true_eq,beq_iff_eq] at h; rw [h.1,h.2]
 ·simp at h; rw [h]
 all_goals first | rfl | cases h
def eqLs (f:AV→AV→Bool):List AV→List AV→Bool
 | [],[]=>true
 | a::r,b::s=>f a b && eqLs f r s
 | _,_=>false
theorem kV {f:AV→AV→Bool} (hf:∀ a b,f a b = true→a = b):∀ {l k:List AV},eqLs f l k = true→l = k
 | [],[],_=>rfl
 | [],_::_,h=>by cases h
 | _::_,[],h=>by cases h
 | a :: r, b :: s, h => by
   simp only [eqLs,Bool.and_eq_true] at h
   rw [hf a b h.1,kV hf h.2]
def eqStep (f:AV→AV→Bool):AV→AV→Bool
 | .any,.any=>true
 | .lit a,.lit b=>eqV a b
 | .ptr i o,.ptr i' o'=>i == i' && o == o'
 | .map i,.map i'=>i == i'
 | .bs i k o l c,.bs i' k' o' l' c'=>i == i' && k == k' && o == o' && l == l' && c == c'
 | .sl o k l,.sl o' k' l'=>o == o' && k == k' && eqLs f l l'
 | .agg l,.agg l'=>eqLs f l l'
 | .tup l,.tup l'=>eqLs f l l'
 | _,_=>false
theorem eqStep_ok {f:AV→AV→Bool} (hf:∀ a b,f a b = true→a = b) {a b:AV} (h:eqStep f a b = true):a = b:=by
 unfold eqStep at h
 split at h
 ·rfl
 ·rw [eqV_ok h]
 ·simp at h; obtain ⟨rfl,rfl⟩:=h; rfl
 ·simp at h; subst h; rfl
 ·simp at h; obtain ⟨⟨⟨⟨rfl,rfl⟩,rfl⟩,rfl⟩,rfl⟩:=h; rfl
 ·simp only [Bool.and_eq_true,beq_iff_eq] at h; obtain ⟨⟨rfl,rfl⟩,h⟩:=h; rw [kV hf h]
 ·rw [kV hf h]
 ·rw [kV hf h]
 ·cases h
def eqB:Nat→AV→AV→Bool
 | 0=>fun _ _=>false
 | n + 1=>eqStep (eqB n)
theorem eqB_ok:∀ (n:Nat) (a b:AV),eqB n a b = true→a = b
 | 0,_,_,h=>by cases h
 | n + 1,_,_,h=>eqStep_ok (eqB_ok n) h
def eqO (v:AV):Option AV→Bool
 | some v0=>eqB 9 v v0
 | none=>false
section
variable (F:Nat→FuncId) (call:FuncId→List AV→St→Option (AV×St)) (pc:FuncId→List AV→Option AV)
def xX (i:XI) (d:Option Nat) (sf:Sf) (st:St):Option (Sf×St) :=
 match i with
 | .nilU op x y=>((binI (.nil .sl) op (sf.ev F x) (sf.ev F y)).opt).map fun v=>(sf.put d v,st)
 | .mks k bytes z len cap => match sf.ev F len, sf.ev F cap with
   | .lit (.int _ l),.lit (.int _ c)=>if 0≤l∧l = c∧c * bytes≤140737488355328∧c≤1000000000000000 then some (sf.put d (.sl true k (List.replicate l.toNat z)),st) else none
   | _,_=>none
 | .mark s => match sf.reg s with
   | .sl true k (e::es)=>some ((sf.disAt s).put d (.sl false k (e::es)),st)
   | _=>none
 | .slA n k x lo hi mx => match sf.ev F x with
   | .ptr id off=>((sl3 (mx.map (sf.ev F)) (hi.map (sf.ev F)) (lo.map (sf.ev F)) n n fun l h m=>if m = l then (if h = l then .ok (.sl true k []) else .fail) else .ok (.bs id k (off + l * k) (h - l) (m - l))).opt).map fun v=>(sf.put d v,st)
   | _=>none
 | .mksB k bytes z len cap => match sf.ev F len, sf.ev F cap with
   | .lit (.int _ l),.lit (.int _ c)=>if 0≤l∧l≤c∧c * bytes≤140737488355328∧c≤1000000000000000 then some (sf.put d (.bs st.boxes.length k 0 l.toNat c.toNat),st.push (.cells ((List.replicate c.toNat z).flatMap AV.cells))) else none
   | _,_=>none
 | .copyB k x y => match (srcA st k (cutS (lenS (sf.ev F x)) (sf.ev F y))).opt with
   | some new => match sf.ev F x with
     | .bs id k' off len _=>if k' = k∧new.length≤len then (match st.get id with
       | some cs=>if off + new.length * k≤cs.length then some (sf.put d (.lit (.int .i64 new.length)),st.set id (aG cs off (cellsD new))) else none
       | none=>none) else none
     | .sl _ _ []=>if new.isEmpty then some (sf.put d (.lit (.int .i64 0)),st) else none
     | _=>none
   | none=>none
 | .clrB k z x => match sf.ev F x with
   | .bs id k' off len _=>if k' = k then (match st.get id with
     | some cs=>if off + len * k≤cs.length then some (sf.put d (.tup []),st.set id (aG cs off ((List.replicate len z).flatMap AV.cells))) else none
     | none=>none) else none
   | .lit (.slice none 0 0)=>some (sf.put d (.tup []),st)
   | _=>none
 | .mclone x => match sf.ev F x with
   | .ifc t (.map id) => match st.getM id with
     | some es=>some (sf.put d (.ifc t (.map st.boxes.length)),st.push (.mp es (st.getB id).1 (st.getB id).2))
     | none=>none
   | _=>none
 | .rngS x => match sf.ev F x with
   | .lit (.string b)=>some (sf.put d (.mit none 1 (b.data.toList.map UInt8.toNat) 1),st)
   | _=>none
 | .cmpS x y => match sf.ev F x, sf.ev F y with
   | .lit (.string a),.lit (.string b)=>some (sf.put d (.lit (.int .i64 (Go.Lib.compareBytes a.data.toList b.data.toList))),st)
   | _,_=>none
 | .nxtS s => match sf.reg s with
   | .mit none 1 bs (p + 1) => match bs[p]? with
     | none=>some (sf.put d (.tup [.lit (.bool false)]),st)
     | some b=>if b < 128 then some ((sf.set s (.mit none 1 bs (p + 2))).put d (.tup [.lit (.bool true),.lit (.int .i64 (p:Nat)),.lit (.int .i32 (b:Nat))]),st) else none
   | _=>none
 | .rng x => match sf.ev F x with
   | .map id => match st.getM id with
     | some _=>some (sf.put d (.mit (some id) (st.getB id).2 [] (st.getB id).2),st)
     | none=>none
   | _=>none
 | .nxt s => match sf.reg s with
   | .mit (some id) since _ _ => match st.getM id with
     | some []=>if (st.getB id).1 = []∧since≤(st.getB id).2 then some (sf.put d (.tup [.lit (.bool false)]),st) else none
     | _=>none
   | _=>none
 | _=>none
def xOne (i:AI) (sf:Sf) (st:St):Option (Sf×St) :=
 match i with
 | .call d p f args => match sf.ev F f with
   | .fn (.func q) fs cs=>if (args.map (sf.ev F)).all AV.noL = true∧p = false then (call q (fs++(args.map (sf.ev F)).map AV.dis++cs) st).map fun r=>(sf.put d r.1,r.2) else none
   | _=>none
 | .x d i=>xX F i d sf st
 | i=>(aW F false i sf st).opt
def xRun:List GI→Sf→St→Option (Sf×St)
 | [],sf,st=>some (sf,st)
 | ⟨none, i⟩ :: r, sf, st => match xOne F call i sf st with
   | some (sf,st)=>xRun r sf st
   | none=>none
 | ⟨some (t, want), i⟩ :: r, sf, st => match sf.reg t with
   | .lit (.bool b)=>if b = want then (match xOne F call i sf st with
     | some (sf,st)=>xRun r sf st
     | none=>none) else xRun r (sf.put i.dst (.tup [])) st
   | .tup _=>xRun r (sf.put i.dst (.tup [])) st
   | _=>none
def kW (locs0:List (Nat×List AV)) (st:St) (i:AI) (sf:Sf):Option (PK×Sf) :=
 match i with
 | .call d _ f args => match sf.ev F f with
   | .fn (.func q) fs cs=>if (args.map (sf.ev F)).all AV.noL = true then (pc q (fs++(args.map (sf.ev F)).map AV.dis++cs)).map fun v=>(.val v,sf.put d v) else none
   | _=>none
 | .newL s cs=>some (.new s cs,sf.set s .any)
 | .store k a x => match sf.ev F a with
   | .lptr s 0 => match look s locs0 with
     | some cs0=>if cs0.length = k∧(sf.ev F x).dis.solid = true∧(sf.ev F x).dis.cells.length = k then some (.store s (sf.ev F x).dis.cells,sf) else none
     | none=>none
   | .lptr s (o + 1) => match look s locs0 with
     | some cs0=>if o + 1 + k≤cs0.length∧(sf.ev F x).dis.solid = true∧(sf.ev F x).dis.cells.length = k then some (.store s (aG (cs0.map AV.own1) (o + 1) (sf.ev F x).dis.cells),sf) else none
     | none=>none
   | .any => match a with
     | .r s=>if (sf.ev F x).dis.solid = true∧(sf.ev F x).dis.cells.length = k then some (.nst s (sf.ev F x).dis.cells,sf) else none
     | _=>none
   | _=>none
 | .appS d s k bytes y => match sf.reg s with
   | .sl true k' es=>((cg st k bytes (.sl true k' es) (sf.ev F y)).opt).map fun v=>(.app s v,(sf.disAt s).set d v)
   | x=>((bE st k bytes x (sf.ev F y)).opt).map fun v=>(.val v,sf.put (some d) v)
 | i=>((popI F i sf st).opt).map fun v=>(.val v,sf.put i.dst v)
def kY (locs0:List (Nat×List AV)) (st:St):List GI→List PK→Sf→Option (List PK×Sf)
 | [],ks,sf=>some (ks,sf)
 | ⟨none, i⟩ :: r, ks, sf => match kW F pc locs0 st i sf with
   | some (k,sf)=>kY locs0 st r (ks++[k]) sf
   | none=>none
 | ⟨some (t, want), i⟩ :: r, ks, sf => match sf.reg t with
   | .lit (.bool b)=>if b = want then (match kW F pc locs0 st i sf with
     | some (k,sf)=>kY locs0 st r (ks++[k]) sf
     | none=>none) else kY locs0 st r (ks++[.skip]) (sf.put i.dst (.tup []))
   | .tup _=>kY locs0 st r (ks++[.skip]) (sf.put i.dst (.tup []))
   | _=>none
def xPre:List GI→Sf→Option Sf
 | [],sf=>some sf
 | ⟨none,.call ..⟩::_,_=>none
 | ⟨none, i⟩ :: r, sf => match (popI F i sf ⟨[]⟩).opt with
   | some v=>xPre r (sf.put i.dst v)
   | none=>none
 | ⟨some _,_⟩::_,_=>none
def kZ:List (Bool×GI)→Sf→Option (List (Option AV))
 | [],_=>some []
 | (true,g)::r,sf=>(kZ r (sf.put g.i.dst .any)).map (none::·)
 | (false,⟨none,.call ..⟩)::_,_=>none
 | (false, ⟨none, i⟩) :: r, sf => match (popI F i sf ⟨[]⟩).opt with
   | some v=>(kZ r (sf.put i.dst v)).map (some v::·)
   | none=>none
 | (false,⟨some _,_⟩)::_,_=>none
def k7:List (Bool×GI)→List (Option AV)→Sf→Option Sf
 | [],[],sf=>some sf
 | (_,⟨none,.call ..⟩)::_,_,_=>none
 | (b, ⟨none, i⟩) :: r, h :: hs, sf => match (popI F i sf ⟨[]⟩).opt with
   | some v=>if (b = true∨eqO v h = true) then k7 r hs (sf.put i.dst v) else none
   | none=>none
 | _,_,_=>none
def xLoop (C:Sf→St→Option (Exit×Sf×St)) (lv ll:List Nat):Nat→Sf→St→Option (Exit×Sf×St)
 | 0,_,_=>none
 | k + 1, sf, st => match C sf st with
   | some (.normal,sf,st)=>xLoop C lv ll k (sf.mask lv ll) st
   | r=>r
def xC (fuel:Nat):AC→Sf→St→Option (Exit×Sf×St)
 | .skip,sf,st=>some (.normal,sf,st)
 | .ops lv ll l,sf,st=>(xRun F call l sf st).map fun r=>(.normal,r.1.mask lv ll,r.2)
 | .draw lv ll drop hl tl, sf, st => match kY F pc sf.locs st hl [] ⟨sf.regs, aM drop sf.locs⟩ with
   | some (ks,sf)=>if ksB drop ks = true then (xRun F call tl (bk ks ks (bP ks sf)) st).map fun r=>(.normal,r.1.mask lv ll,r.2) else none
   | none=>none
 | .drawM lv ll pre d f args post tl, sf, st => match xPre F pre ⟨sf.regs, aM (gV pre post) sf.locs⟩ with
   | some sf1 => (match sf1.ev F f with
     | .fn (.func q) fs cs => if (args.map (sf1.ev F)).all AV.noL = true then (match kZ F post (sf1.put d .any) with
       | some hs => (match call q (fs ++ (args.map (sf1.ev F)).map AV.dis ++ cs) st with
         | some (v, st') => (match k7 F post hs (sf1.put d v) with
           | some sf2=>(xRun F call tl sf2 st').map fun r=>(.normal,r.1.mask lv ll,r.2)
           | none=>none)
         | none=>none)
       | none=>none) else none
     | _=>none)
   | none=>none
 | .seq a b, sf, st => match xC fuel a sf st with
   | some (.normal,sf,st)=>xC fuel b sf st
   | r=>r
 | .cond x a b, sf, st => match sf.ev F x with
   | .lit (.bool true)=>xC fuel a (x.setB sf true) st
   | .lit (.bool false)=>xC fuel b (x.setB sf false) st
   | _=>none
 | .block id b, sf, st => match xC fuel b sf st with
   | some (.exit id',sf,st)=>if id' = id then some (.normal,sf,st) else some (.exit id',sf,st)
   | r=>r
 | .loop lv ll b,sf,st=>xLoop (xC fuel b) lv ll fuel (sf.mask lv ll) st
 | .exit lv ll id,sf,st=>some (.exit id,sf.mask lv ll,st)
 | .scope b, sf, st => match xC fuel b sf st with
   | some (.goto _,_,_)=>none
   | r=>r
 | .rangeF _ _ _ _ _ _ _,_,_=>none
 | .drawG _ _ _ _ _,_,_=>none
 | .drawA _ _ _ _ _ _ _ _ _ _,_,_=>none
 | .drawC _ _ _ _ _ _ _ _,_,_=>none
 | .ret,sf,st=>some (.ret,sf,st)
 | .bad,_,_=>none
def xFun (fuel:Nat) (fn:AFun) (vs:List AV) (st:St):Option (AV×St) :=
 match xC F call pc fuel fn.body ⟨jE 0 vs,[]⟩ st with
 | some (.normal, sf, st) => match (retI fn.rs sf st).opt with
   | some v=>if v.noL = true then some (v,st) else none
   | none=>none
 | some (.ret, sf, st) => match (retI fn.rs sf st).opt with
   | some v=>if v.noL = true then some (v,st) else none
   | none=>none
 | _=>none
end
def mZ (F:Nat→FuncId) (T:FuncId→Option AFun) (prim:FuncId→List AV→Option AV) (fuel:Nat):Nat→FuncId→List AV→St→Option (AV×St)
 | 0,_,_,_=>none
 | n + 1, q, vs, st => match prim q vs with
   | some v=>some (v,st)
   | none => match T q with
     | some fn=>if vs.length≤fn.n then xFun F (mZ F T prim fuel n) (fun q vs=>if vs.all (nbB 6) = true then (match mZ F T prim fuel n q vs ⟨[]⟩ with
       | some (v,_)=>if nbB 6 v = true then some v else none
       | none=>none) else none) fuel fn vs st else none
     | none=>none
theorem ff {A:Type} {r:Res A} {a:A} (h:r.opt = some a) {K:A→Prop} (hk:K a):r.wp K:=Res.wp_of_opt h hk
section
variable {P:Program} {F:Nat→FuncId} {call:FuncId→List AV→St→Option (AV×St)} {pc:FuncId→List AV→Option AV}
def pU (P:Program) (call:FuncId→List AV→St→Option (AV×St)):Prop:=∀ q vs st v st',call q vs st = some (v,st')→bt P q = true∧aX P q vs st fun v' st''=>v' = v∧st'' = st'
def PcOk (P:Program) (pc:FuncId→List AV→Option AV):Prop:=∀ q vs v,pc q vs = some v→bt P q = true∧∀ st,aF P q vs st v
theorem xX_ok {i:XI} {d:Option Nat} {sf sf':Sf} {st st':St} (h:xX F i d sf st = some (sf',st')) {K:Sf→St→Prop} (hK:K sf' st'):al F false i d K sf st:=by
 unfold xX at h
 split at h
 ·rename_i op x y
  obtain ⟨v,hv,e⟩:=map_some h
  cases e
  simp only [al,nilX]
  split
  ·rename_i h1 h2
   rw [h1,h2] at hv
   cases op <;> simp [binI,dV,cf,Res.ofOpt,Res.bind,Res.opt] at hv
  ·exact ff hv hK
 ·rename_i k bytes z len cap
  split at h
  ·rename_i k1 l k2 c h1 h2
   split at h
   ·rename_i hc
    cases h
    simp only [al,mksX,h1,h2]
    exact ⟨hc.1,hc.2.1,hc.2.2.1,hc.2.2.2,hK⟩
   ·cases h
  ·cases h
 ·rename_i s
  split at h
  ·rename_i k e es h1
   cases h
   simp only [al,kB,h1]
   exact hK
  ·cases h
 ·rename_i n k x lo hi mx
  split at h
  ·rename_i id off h1
   obtain ⟨v,hv,e⟩:=map_some h
   cases e
   simp only [al,slAX,h1]
   exact ff hv hK
  ·cases h
 ·rename_i k bytes z len cap
  split at h
  ·rename_i k1 l k2 c h1 h2
   split at h
   ·rename_i hc
    cases h
    simp only [al,qK,h1,h2]
    exact ⟨trivial,hc.1,hc.2.1,hc.2.2.1,hc.2.2.2,hK⟩
   ·cases h
  ·cases h
 ·rename_i k x y
  split at h
  ·rename_i new hnew
   simp only [al]
   refine ff hnew ?_
   split at h
   ·rename_i id k' off len cap h1
    split at h
    ·rename_i hc
     split at h
     ·rename_i cs hcs
      split at h
      ·rename_i hl
       cases h
       simp only [jA,h1,hcs,Res.ofOpt,Res.wp]
       exact ⟨hc.1,trivial,hc.2,hl,hK⟩
      ·cases h
     ·cases h
    ·cases h
   ·rename_i h1
    split at h
    ·rename_i hc
     cases h
     simp only [jA,h1]
     exact ⟨by simpa using hc,hK⟩
    ·cases h
   ·cases h
  ·cases h
 ·rename_i k z x
  split at h
  ·rename_i id k' off len cap h1
   split at h
   ·rename_i hc
    split at h
    ·rename_i cs hcs
     split at h
     ·rename_i hl
      cases h
      simp only [al,clrX,h1,hcs,Res.ofOpt,Res.wp]
      exact ⟨hc,trivial,hl,hK⟩
     ·cases h
    ·cases h
   ·cases h
  ·rename_i h1
   cases h
   simp only [al,clrX,h1]
   exact hK
  ·cases h
 ·rename_i x
  split at h
  ·rename_i t id h1
   split at h
   ·rename_i es hes
    cases h
    simp only [al,kA,h1,hes,Res.ofOpt,Res.wp]
    exact ⟨trivial,hK⟩
   ·cases h
  ·cases h
 ·rename_i x
  split at h
  ·rename_i b h1
   cases h
   simp only [al,rngSX,h1]
   exact hK
  ·cases h
 ·rename_i x y
  split at h
  ·rename_i b c h1 h2
   cases h
   simp only [al,cmpSX,h1,h2]
   exact hK
  ·cases h
 ·rename_i s
  split at h
  ·rename_i bs p h1
   split at h
   ·rename_i h2
    cases h
    simp only [al,qL,h1,h2]
    exact hK
   ·rename_i b h2
    split at h
    ·rename_i hc
     cases h
     simp only [al,qL,h1,h2]
     exact ⟨by omega,fun _=>hK,fun q=>absurd hc (by omega)⟩
    ·cases h
  ·cases h
 ·rename_i x
  split at h
  ·rename_i id h1
   split at h
   ·rename_i es hes
    cases h
    simp only [al,rngX,h1,hes,Res.ofOpt,Res.wp]
    exact hK
   ·cases h
  ·cases h
 ·rename_i s
  split at h
  ·rename_i id since seen stp h1
   split at h
   ·rename_i hes
    split at h
    ·rename_i hc
     cases h
     simp only [al,nxtX,h1,hes,Res.ofOpt,Res.wp,hc.1]
     exact ⟨fun b hb=>(by cases hb),hc.2,fun i k x b hi=>(by simp at hi),fun _=>hK⟩
    ·cases h
   ·cases h
  ·cases h
 ·cases h
theorem xOne_ok (hcall:pU P call) {i:AI} {sf sf':Sf} {st st':St} (h:xOne F call i sf st = some (sf',st')) {K:Sf→St→Prop} (hK:K sf' st'):oneI P F false i K sf st:=by
 unfold xOne at h
 split at h
 ·rename_i d p f args
  split at h
  ·rename_i q fs cs hf
   split at h
   ·rename_i hn
    obtain ⟨r,hr,e⟩:=map_some h
    cases e
    obtain ⟨hent,hA⟩:=hcall _ _ _ _ _ hr
    rw [o_call,hf]
    obtain ⟨hn,rfl⟩:=hn
    exact jW rfl hent hA hn fun v st' e=>by obtain ⟨rfl,rfl⟩:=e; exact hK
   ·cases h
  ·cases h
 ·rename_i d i
  rw [o_x]
  exact xX_ok h hK
 ·rename_i h1 h2
  have:oneI P F false i K sf st = (aW F false i sf st).wp (ew K):=by
   cases i <;> first | rfl | exact absurd rfl (h1 _ _ _ _) | exact absurd rfl (h2 _ _)
  rw [this]
  exact ff h hK
theorem k8:∀ (l:List (Nat×AV)) (t:Nat) (v:AV),getR l t = v→v≠.any→setR l t v = l
 | [],t,v,h,hn=>absurd h.symm hn
 | (q, u) :: r, t, v, h, hn => by
   simp only [getR] at h
   simp only [setR]
   by_cases e:q = t
   ·subst e; rw [if_pos rfl] at h ⊢; subst h; rfl
   ·rw [if_neg e] at h ⊢; rw [k8 r t v h hn]
theorem k9 {sf:Sf} {t:Nat} {v:AV} (h:sf.reg t = v) (hn:v≠.any):sf.set t v = sf:=by
 unfold Sf.set
 rw [k8 sf.regs t v h hn]
theorem gB (hcall:pU P call):∀ {l:List GI} {sf sf':Sf} {st st':St},xRun F call l sf st = some (sf',st')→∀ {K:Sf→St→Prop},K sf' st'→runI P F false l K sf st
 | [], sf, sf', st, st', h, K, hK => by
   simp only [xRun] at h
   cases h
   exact hK
 | ⟨none, i⟩ :: r, sf, sf', st, st', h, K, hK => by
   simp only [xRun] at h
   split at h
   ·rename_i sf1 st1 h1
    rw [mW]
    exact xOne_ok hcall h1 (gB hcall h hK)
   ·cases h
 | ⟨some (t, want), i⟩ :: r, sf, sf', st, st', h, K, hK => by
   simp only [xRun] at h
   split at h
   ·rename_i b hb
    rw [iM,hb,mX]
    have hs:=k9 hb (by simp)
    split at h
    ·rename_i e
     subst e
     split at h
     ·rename_i sf1 st1 h1
      refine ⟨fun _=>?_,fun e=>by cases b <;> cases e⟩
      rw [hs]
      exact xOne_ok hcall h1 (gB hcall h hK)
     ·cases h
    ·rename_i e
     have e2:b = !want:=by cases b <;> cases want <;> simp_all
     refine ⟨fun e'=>absurd e' e,fun _=>?_⟩
     rw [← e2,hs,kN]
     exact gB hcall h hK
   ·rename_i cs hb
    rw [iM,hb,eM,kN]
    exact gB hcall h hK
   ·cases h
theorem nA (hpc:PcOk P pc) {locs0:List (Nat×List AV)} {st:St} {i:AI} {sf sf':Sf} {k:PK} (h:kW F pc locs0 st i sf = some (k,sf')) {C:PK→Sf→Prop} (hK:C k sf'):ah P F locs0 st i C sf:=by
 unfold kW at h
 split at h
 ·rename_i d p f args
  split at h
  ·rename_i q fs cs hf
   split at h
   ·rename_i hn
    obtain ⟨v,hv,e⟩:=map_some h
    cases e
    obtain ⟨hent,hP⟩:=hpc _ _ _ hv
    simp only [ah,fS,hf]
    exact ⟨hn,hent,v,hP st,hK⟩
   ·cases h
  ·cases h
 ·cases h; exact hK
 ·rename_i k a x
  split at h
  ·rename_i s ha
   split at h
   ·rename_i cs0 hl
    split at h
    ·rename_i hc
     cases h
     simp only [ah,bK,ha,dx,hl]
     exact ⟨hc.1,hc.2.1,hc.2.2,hK⟩
    ·cases h
   ·cases h
  ·rename_i s o ha
   split at h
   ·rename_i cs0 hl
    split at h
    ·rename_i hc
     cases h
     simp only [ah,bK,ha,cP,hl]
     exact ⟨hc.1,hc.2.1,hc.2.2,hK⟩
    ·cases h
   ·cases h
  ·rename_i ha
   split at h
   ·rename_i s
    split at h
    ·rename_i hc
     cases h
     simp only [ah,bK,ha,iJ]
     exact ⟨hc.1,hc.2,hK⟩
    ·cases h
   ·cases h
  ·cases h
 ·rename_i d s k bytes y
  split at h
  ·rename_i k' es hr
   obtain ⟨v,hv,e⟩:=map_some h
   cases e
   simp only [ah,fv,hr]
   exact ff hv hK
  ·rename_i hno
   obtain ⟨v,hv,e⟩:=map_some h
   cases e
   simp only [ah,fv]
   exact ff hv hK
 ·rename_i h1 h2 h3 h4
  obtain ⟨v,hv,e⟩:=map_some h
  cases e
  have:ah P F locs0 st i C sf = (popI F i sf st).wp (valH C i.dst sf):=by
   cases i <;> first | rfl | exact absurd rfl (h1 _ _ _ _) | exact absurd rfl (h2 _ _) | exact absurd rfl (h3 _ _ _) | exact absurd rfl (h4 _ _ _ _ _) | (simp [popI,Res.opt] at hv)
  rw [this]
  exact ff hv hK
theorem iy (hpc:PcOk P pc) {locs0:List (Nat×List AV)} {st:St}:∀ {l:List GI} {ks ks':List PK} {sf sf':Sf},kY F pc locs0 st l ks sf = some (ks',sf')→∀ {K:List PK→Sf→Prop},K ks' sf'→ap P F locs0 st l K ks sf
 | [], ks, ks', sf, sf', h, K, hK => by
   simp only [kY] at h
   cases h
   exact hK
 | ⟨none, i⟩ :: r, ks, ks', sf, sf', h, K, hK => by
   simp only [kY] at h
   split at h
   ·rename_i k1 sf1 h1
    exact nA hpc h1 (C:=e9 (ap P F locs0 st r K) ks) (iy hpc h hK)
   ·cases h
 | ⟨some (t, want), i⟩ :: r, ks, ks', sf, sf', h, K, hK => by
   simp only [kY] at h
   split at h
   ·rename_i b hb
    simp only [ap,bu,hb]
    intro c hc
    subst hc
    have hs:=k9 hb (by simp)
    split at h
    ·rename_i e
     rw [if_pos e,hs]
     split at h
     ·rename_i k1 sf1 h1
      exact nA hpc h1 (C:=e9 (ap P F locs0 st r K) ks) (iy hpc h hK)
     ·cases h
    ·rename_i e
     rw [if_neg e,hs]
     exact iy hpc h hK
   ·rename_i cs hb
    simp only [ap,bu,hb]
    exact iy hpc h hK
   ·cases h
theorem xPre_ok {locs0:List (Nat×List AV)}:∀ {l:List GI} {ks:List PK} {sf sf':Sf},xPre F l sf = some sf'→∀ {K:List PK→Sf→Prop},(∀ kl:List PK,(∀ k ∈ kl,k.vs = true∨k = .hole)→K (ks++kl) sf')→preM P F locs0 ⟨[]⟩ l K ks sf
 | [], ks, sf, sf', h, K, hK => by
   simp only [xPre] at h
   cases h
   show K ks sf
   simpa using hK [] (by simp)
 | ⟨some g,i⟩::r,ks,sf,sf',h,K,hK=>by simp only [xPre] at h; cases h
 | ⟨none, i⟩ :: r, ks, sf, sf', h, K, hK => by
   have hnc:∀ d p f args,i≠.call d p f args:=by
    rintro d p f args rfl
    simp only [xPre] at h; cases h
   have h':(match (popI F i sf ⟨[]⟩).opt with
    | some v=>xPre F r (sf.put i.dst v)
    | none=>none) = some sf':=by
    cases i <;> first | exact absurd rfl (hnc _ _ _ _) | exact h
   simp only [preM]
   have he:oneM P F locs0 ⟨[]⟩ i (cH (preM P F locs0 ⟨[]⟩ r K) ks) sf = (popI F i sf ⟨[]⟩).wp (valM (cH (preM P F locs0 ⟨[]⟩ r K) ks) i.dst sf):=by
    cases i <;> first | exact absurd rfl (hnc _ _ _ _) | rfl | (cases h')
   rw [he]
   split at h'
   ·rename_i v hv
    have h2:preM P F locs0 ⟨[]⟩ r K (ks++[.val v]) (sf.put i.dst v):=xPre_ok (ks:=ks++[.val v]) h' fun kl hl=>by
     have:=hK (.val v::kl) (fun x hx=>by rcases List.mem_cons.1 hx with rfl | hx; exact .inl rfl; exact hl x hx)
     simpa using this
    exact ff hv h2
   ·cases h'
def toH:Option AV→PK
 | none=>.hole
 | some v=>.val v
theorem pV {locs0:List (Nat×List AV)}:∀ {l:List (Bool×GI)} {ks:List PK} {sf:Sf} {hs:List (Option AV)},kZ F l sf = some hs→∀ {K:List PK→Prop},K (ks++hs.map toH)→aH P F locs0 ⟨[]⟩ l K ks sf
 | [], ks, sf, hs, h, K, hK => by
   simp only [kZ] at h
   cases h
   simpa [aH] using hK
 | (true, g) :: r, ks, sf, hs, h, K, hK => by
   simp only [kZ] at h
   obtain ⟨q,hq,rfl⟩:=map_some h
   simp only [aH]
   exact pV (ks:=ks++[.hole]) hq (by simpa [toH] using hK)
 | (false,⟨some g,i⟩)::r,ks,sf,hs,h,K,hK=>by simp only [kZ] at h; cases h
 | (false, ⟨none, i⟩) :: r, ks, sf, hs, h, K, hK => by
   have hnc:∀ d p f args,i≠.call d p f args:=by
    rintro d p f args rfl
    simp only [kZ] at h; cases h
   have h':(match (popI F i sf ⟨[]⟩).opt with
    | some v=>(kZ F r (sf.put i.dst v)).map (some v::·)
    | none=>none) = some hs:=by
    cases i <;> first | exact absurd rfl (hnc _ _ _ _) | exact h
   simp only [aH]
   have he:oneM P F locs0 ⟨[]⟩ i (cH (aH P F locs0 ⟨[]⟩ r K) ks) sf = (popI F i sf ⟨[]⟩).wp (valM (cH (aH P F locs0 ⟨[]⟩ r K) ks) i.dst sf):=by
    cases i <;> first | exact absurd rfl (hnc _ _ _ _) | rfl | (cases h')
   rw [he]
   split at h'
   ·rename_i v hv
    obtain ⟨q,hq,rfl⟩:=map_some h'
    have h2:aH P F locs0 ⟨[]⟩ r K (ks++[.val v]) (sf.put i.dst v):=pV (ks:=ks++[.val v]) hq (by simpa [toH] using hK)
    exact ff hv h2
   ·cases h'
theorem xPost_ok {locs0:List (Nat×List AV)}:∀ {l:List (Bool×GI)} {hs:List (Option AV)} {ks:List PK} {sf sf':Sf},k7 F l hs sf = some sf'→∀ {K:List PK→Sf→Prop},(∀ kl:List PK,dc l (hs.map toH) kl→(∀ k ∈ kl,k.vs = true∨k = .hole)→K (ks++kl) sf')→preM P F locs0 ⟨[]⟩ (l.map (·.2)) K ks sf
 | [], [], ks, sf, sf', h, K, hK => by
   simp only [k7] at h
   cases h
   show K ks sf
   simpa using hK [] trivial (by simp)
 | [],_::_,ks,sf,sf',h,K,hK=>by simp only [k7] at h; cases h
 | (b, ⟨some g, i⟩) :: r, hs, ks, sf, sf', h, K, hK => by
   simp only [k7] at h; cases h
 | (b, ⟨none, i⟩) :: r, [], ks, sf, sf', h, K, hK => by
   cases i <;> (simp only [k7] at h; cases h)
 | (b, ⟨none, i⟩) :: r, hv0 :: hs, ks, sf, sf', h, K, hK => by
   have hnc:∀ d p f args,i≠.call d p f args:=by
    rintro d p f args rfl
    simp only [k7] at h; cases h
   have h':(match (popI F i sf ⟨[]⟩).opt with
    | some v=>if (b = true∨eqO v hv0 = true) then k7 F r hs (sf.put i.dst v) else none
    | none=>none) = some sf':=by
    cases i <;> first | exact absurd rfl (hnc _ _ _ _) | exact h
   simp only [List.map_cons,preM]
   have he:oneM P F locs0 ⟨[]⟩ i (cH (preM P F locs0 ⟨[]⟩ (r.map (·.2)) K) ks) sf = (popI F i sf ⟨[]⟩).wp (valM (cH (preM P F locs0 ⟨[]⟩ (r.map (·.2)) K) ks) i.dst sf):=by
    cases i <;> first | exact absurd rfl (hnc _ _ _ _) | rfl | (cases h')
   rw [he]
   split at h'
   ·rename_i v hv
    split at h'
    ·rename_i hc
     have h2:preM P F locs0 ⟨[]⟩ (r.map (·.2)) K (ks++[.val v]) (sf.put i.dst v):=xPost_ok (ks:=ks++[.val v]) h' fun kl hkl hvl=>by
      have:=hK (.val v::kl) (by
       cases b with
       | true=>exact hkl
       | false =>
         rcases hc with hc | hc
         ·cases hc
         ·cases hv0 with
          | none=>cases hc
          | some v0=>exact ⟨by rw [eqB_ok 9 v v0 hc]; rfl,hkl⟩) (fun x hx=>by rcases List.mem_cons.1 hx with rfl | hx; exact .inl rfl; exact hvl x hx)
      simpa using this
     exact ff hv h2
    ·cases h'
   ·cases h'
theorem xC_ok (hcall:pU P call) (hpc:PcOk P pc) (fuel:Nat):∀ (c:AC) {sf sf':Sf} {st st':St} {e:Exit},xC F call pc fuel c sf st = some (e,sf',st')→∀ {Q:Exit→Sf→St→Prop},Q e sf' st'→aC P F false c sf st Q:=by
 intro c
 induction c with
 | skip=>intro sf sf' st st' e h Q hQ; simp only [xC] at h; cases h; exact hQ
 | ops lv ll l =>
   intro sf sf' st st' e h Q hQ
   simp only [xC] at h
   obtain ⟨r,hr,e⟩:=map_some h
   cases e
   rw [aC_ops]
   exact gB hcall hr hQ
 | draw lv ll drop hl tl =>
   intro sf sf' st st' e h Q hQ
   simp only [xC] at h
   split at h
   ·rename_i ks sf1 h1
    split at h
    ·rename_i hk
     obtain ⟨r,hr,e⟩:=map_some h
     cases e
     rw [aC_draw]
     exact iy hpc h1 (K:=cQ P F false drop lv ll tl Q st) ⟨hk,gB hcall hr hQ⟩
    ·cases h
   ·cases h
 | drawM lv ll pre d f args post tl =>
   intro sf sf' st st' e h Q hQ
   simp only [xC] at h
   split at h
   case h_2=>cases h
   rename_i sf1 h1
   split at h
   case h_2=>cases h
   rename_i q fs cs hf
   split at h
   case isFalse=>cases h
   rename_i hc
   split at h
   case h_2=>cases h
   rename_i hs hhs
   split at h
   case h_2=>cases h
   rename_i v st1 hcl
   split at h
   case h_2=>cases h
   rename_i sf2 h2
   obtain ⟨r,hr,e⟩:=map_some h
   cases e
   obtain ⟨hent,hA⟩:=hcall _ _ _ _ _ hcl
   refine ⟨rfl,⟨[]⟩,St.sub_nil _,xPre_ok h1 fun kl hkl=>?_⟩
   simp only [atM,pJ,hf]
   refine ⟨hc,hent,_,hA,pV hhs ⟨(rQ fun x hx=>?_).1,?_⟩⟩
   ·simp only [List.nil_append,List.mem_append,List.mem_map] at hx
    rcases hx with hx | ⟨y,_,rfl⟩
    ·exact hkl x hx
    ·cases y with
     | none=>exact .inr rfl
     | some v=>exact .inl rfl
   rintro v' s' ⟨rfl,rfl⟩
   refine ⟨St.sub_nil _,xPost_ok h2 fun k2 hk2 hv2=>⟨by simpa using hk2,?_⟩⟩
   have hvs:=rQ (drop:=gV pre post) (ks:=kl++k2) fun x hx=>by
    rcases List.mem_append.1 hx with hx | hx
    ·exact hkl x hx
    ·exact hv2 x hx
   refine ⟨by simpa using hvs.1,?_⟩
   have:=hvs.2 sf2
   simp only [List.nil_append]
   rw [this]
   exact gB hcall hr hQ
 | drawA lv ll pre d b k bytes y post tl=>intro sf sf' st st' e h Q hQ; simp only [xC] at h; cases h
 | drawG lv ll dr fl tl=>intro sf sf' st st' e h Q hQ; simp only [xC] at h; cases h
 | drawC lv ll pre d f args post tl=>intro sf sf' st st' e h Q hQ; simp only [xC] at h; cases h
 | seq a b iha ihb =>
   intro sf sf' st st' e h Q hQ
   simp only [xC] at h
   rw [aC_seq]
   split at h
   ·rename_i sf1 st1 h1
    exact iha h1 (ihb h hQ)
   ·rename_i r hno
    refine iha h ?_
    cases e with
    | normal=>exact absurd h (hno _ _)
    | _=>exact hQ
 | cond x a b iha ihb =>
   intro sf sf' st st' e h Q hQ
   simp only [xC] at h
   rw [aC_cond]
   split at h
   ·rename_i hx
    rw [hx,kL]
    exact ⟨fun _=>iha h hQ,fun e=>by cases e⟩
   ·rename_i hx
    rw [hx,kL]
    exact ⟨fun e=>(by cases e),fun _=>ihb h hQ⟩
   ·cases h
 | block id b ih =>
   intro sf sf' st st' e h Q hQ
   simp only [xC] at h
   rw [aC_block]
   split at h
   ·rename_i id' sf1 st1 h1
    refine ih h1 ?_
    rw [aj]
    split at h
    ·rename_i hid; cases h; rw [if_pos hid]; exact hQ
    ·rename_i hid; cases h; rw [if_neg hid]; exact hQ
   ·rename_i hno
    refine ih h ?_
    cases e with
    | exit id'=>exact absurd h (hno _ _ _)
    | _=>exact hQ
 | loop lv ll b ih =>
   intro sf sf' st st' e h Q hQ
   simp only [xC] at h
   rw [aC_loop]
   refine ⟨fun k sf st=>xLoop (xC F call pc fuel b) lv ll k sf st = some (e,sf',st'),⟨fuel,_,Sf.le_refl _,h⟩,fun k sf1 st1 hk=>?_⟩
   cases k with
   | zero=>simp only [xLoop] at hk; cases hk
   | succ k =>
     simp only [xLoop] at hk
     split at hk
     ·rename_i sf2 st2 h2
      exact ih h2 ⟨k,Nat.lt_succ_self k,_,Sf.le_refl _,hk⟩
     ·rename_i hno
      refine ih hk ?_
      cases e with
      | normal=>exact absurd hk (hno _ _)
      | _=>exact hQ
 | exit lv ll id=>intro sf sf' st st' e h Q hQ; simp only [xC] at h; cases h; exact hQ
 | scope b ih =>
   intro sf sf' st st' e h Q hQ
   simp only [xC] at h
   rw [aC_scope]
   split at h
   ·cases h
   ·rename_i hno
    refine ih h ?_
    cases e with
    | goto l=>exact absurd h (hno _ _ _)
    | _=>exact hQ
 | rangeF lv ll x ps lb a b _ _=>intro sf sf' st st' e h Q hQ; simp only [xC] at h; cases h
 | ret=>intro sf sf' st st' e h Q hQ; simp only [xC] at h; cases h; exact hQ
 | bad=>intro sf sf' st st' e h Q hQ; simp only [xC] at h; cases h
theorem xFun_ok (hcall:pU P call) (hpc:PcOk P pc) {fuel:Nat} {fn:AFun} {vs:List AV} {st st':St} {v:AV} (h:xFun F call pc fuel fn vs st = some (v,st')):aFun P F false fn vs st fun v' st''=>v' = v∧st'' = st':=by
 unfold xFun at h
 unfold aFun
 have key:∀ sf st1,(match (retI fn.rs sf st1).opt with
   | some v=>if v.noL = true then some (v,st1) else none
   | none=>none) = some (v,st')→(retI fn.rs sf st1).wp fun v'=>v'.noL = true∧v' = v∧st1 = st':=by
  intro sf st1 h
  split at h
  ·rename_i v1 hv
   split at h
   ·rename_i hn
    cases h
    exact ff hv ⟨hn,rfl,rfl⟩
   ·cases h
  ·cases h
 split at h
 ·rename_i sf st1 h1
  exact xC_ok hcall hpc fuel fn.body h1 (Q:=retQ fn.rs fun v' st''=>v' = v∧st'' = st') (key sf st1 h)
 ·rename_i sf st1 h1
  exact xC_ok hcall hpc fuel fn.body h1 (Q:=retQ fn.rs fun v' st''=>v' = v∧st'' = st') (key sf st1 h)
 ·cases h
def pW (P:Program) (F:Nat→FuncId) (T:FuncId→Option AFun):Prop:=∀ q fn,T q = some fn→bt P q = true∧∃ X:Cx,X.F = F∧jF P X q = some fn
def sg (P:Program) (prim:FuncId→List AV→Option AV):Prop:=∀ q vs v,prim q vs = some v→bt P q = true∧∀ st,aF P q vs st v
theorem xCalls_ok (hmix:P.follows .mixedOrders = true) {T:FuncId→Option AFun} {prim:FuncId→List AV→Option AV} (hT:pW P F T) (hprim:sg P prim) (fuel:Nat):∀ n,pU P (mZ F T prim fuel n):=by
 intro n
 induction n with
 | zero=>intro q vs st v st' h; cases h
 | succ n ih =>
   intro q vs st v st' h
   simp only [mZ] at h
   split at h
   ·rename_i v1 hv
    cases h
    obtain ⟨h1,h2⟩:=hprim q vs v hv
    exact ⟨h1,(h2 st).acalls⟩
   ·split at h
    ·rename_i fn hfn
     split at h
     ·rename_i hlen
      obtain ⟨hent,X,hX,hf⟩:=hT q fn hfn
      refine ⟨hent,?_⟩
      refine re hmix hf hlen ?_
      rw [hX]
      refine xFun_ok ih ?_ h
      intro q' vs' v' h'
      simp only at h'
      split at h'
      ·rename_i hall
       split at h'
       ·rename_i v1 st1 h1
        split at h'
        ·rename_i hnb
         cases h'
         obtain ⟨e1,hA⟩:=ih q' vs' ⟨[]⟩ _ _ h1
         refine ⟨e1,nH (hA.mono fun v2 st2 e=>?_) fun x hx=>jX 6 x (List.all_eq_true.1 hall x hx)⟩
         obtain ⟨rfl,rfl⟩:=e
         exact .le _ _ (.refl _) (jX 6 _ hnb)
        ·cases h'
       ·cases h'
      ·cases h'
     ·cases h
    ·cases h
theorem x_run (hmix:P.follows .mixedOrders = true) {T:FuncId→Option AFun} {prim:FuncId→List AV→Option AV} (hT:pW P F T) (hprim:sg P prim) (fuel n:Nat) {q:FuncId} {vs:List AV} {st st':St} {v:AV} (h:mZ F T prim fuel n q vs st = some (v,st')) :
  bt P q = true∧aX P q vs st fun v' st''=>v' = v∧st'' = st':=xCalls_ok hmix hT hprim fuel n q vs st v st' h
theorem x_pure (hmix:P.follows .mixedOrders = true) {T:FuncId→Option AFun} {prim:FuncId→List AV→Option AV} (hT:pW P F T) (hprim:sg P prim) (fuel n:Nat) {q:FuncId} {vs:List AV} {v:AV} (h:(mZ F T prim fuel n q vs ⟨[]⟩).map Prod.fst = some v) (hvs:vs.all (nbB 6) = true) (hv:nbB 6 v = true) (st:St) :
  aF P q vs st v:=by
 obtain ⟨r,hr,rfl⟩:=map_some h
 obtain ⟨_,hA⟩:=x_run hmix hT hprim fuel n (v:=r.1) (st':=r.2) hr
 exact nH (hA.mono fun v2 st2 e=>by obtain ⟨rfl,rfl⟩:=e; exact .le _ _ (.refl _) (jX 6 _ hv)) (fun x hx=>jX 6 x (List.all_eq_true.1 hvs x hx)) st
end
end Go.Fx
namespace Go.Fx
open Go
section
variable (v:Value) (vs cs:List AV) (i o k s t n l c:Nat) (b:Bool) (x:AV) (f:Fn) (w:Option Nat)
theorem nO:AV.any.dis = .any:=rfl
theorem sh:(AV.lit v).dis = .lit v:=rfl
theorem dis_ptr:(AV.ptr i o).dis = .ptr i o:=rfl
theorem la:(AV.lptr s o).dis = .lptr s o:=rfl
theorem lc:(AV.cptr cs).dis = .cptr cs:=rfl
theorem m3:(AV.sl b k cs).dis = .sl false k cs:=rfl
theorem d9:(AV.map i).dis = .map i:=rfl
theorem nP (i:Nat):(AV.yld i).dis = .yld i:=rfl
theorem lf (i:Nat):(AV.yld i).own1 = .yld i:=rfl
theorem lg (i:Nat):(AV.yld i).own2 = .yld i:=rfl
theorem iQ (i:Nat):(AV.yld i).cells = [.yld i]:=rfl
theorem nQ (i:Nat):(AV.yld i).noL = true:=rfl
theorem lh (k i:Nat):kill k (.yld i) = .yld i:=rfl
theorem si (k:Nat) (es:List AV):(AV.xs k es).dis = .xs k es:=rfl
theorem nR (k:Nat) (es:List AV):(AV.xs k es).own1 = .xs k es:=rfl
theorem nS (k:Nat) (es:List AV):(AV.xs k es).own2 = .xs k es:=rfl
theorem li (k:Nat) (es:List AV):(AV.xs k es).cells = [.xs k es]:=rfl
theorem sj (k:Nat) (es:List AV):(AV.xs k es).noL = true:=rfl
theorem nT (s k:Nat) (es:List AV):kill s (.xs k es) = .xs k es:=rfl
theorem lj (k:Nat):mkSl k [] = .sl true k []:=rfl
theorem lk (k i o:Nat) (r:List AV):mkSl k (.ptr i o::r) = .xs k (.ptr i o::r):=rfl
theorem lm (k:Nat) (r:List AV):mkSl k (.any::r) = .sl true k (.any::r):=rfl
theorem lq (k:Nat) (v:Value) (r:List AV):mkSl k (.lit v::r) = .sl true k (.lit v::r):=rfl
theorem fY (k:Nat) (v:List AV) (r:List AV):mkSl k (.agg v::r) = .sl true k (.agg v::r):=rfl
theorem nU (k:Nat) (o:Bool) (q:Nat) (v:List AV) (r:List AV):mkSl k (.sl o q v::r) = .sl true k (.sl o q v::r):=rfl
theorem nV (k:Nat) (f:Fn) (v c:List AV) (r:List AV):mkSl k (.fn f v c::r) = .sl true k (.fn f v c::r):=rfl
theorem nW (k a b c d e:Nat) (r:List AV):mkSl k (.bs a b c d e::r) = .sl true k (.bs a b c d e::r):=rfl
theorem lu (k t:Nat) (v:AV) (r:List AV):mkSl k (.ifc t v::r) = .sl true k (.ifc t v::r):=rfl
theorem iR (k:Nat) (v:List AV) (r:List AV):mkSl k (.cptr v::r) = .sl true k (.cptr v::r):=rfl
theorem lw (k i:Nat) (r:List AV):mkSl k (.map i::r) = .sl true k (.map i::r):=rfl
theorem iz:(AV.fn f vs cs).dis = .fn f vs cs:=rfl
theorem dK:(AV.agg cs).dis = .agg (cs.map AV.own1):=rfl
theorem aY:(AV.tup cs).dis = .tup (cs.map AV.own2):=rfl
theorem jY:(AV.bs i k o l c).dis = .bs i k o l c:=rfl
theorem nX:(AV.ifc t x).dis = .ifc t x:=rfl
theorem nY (l:List Nat) (p:Nat):(AV.mit w n l p).dis = .any:=rfl
theorem lx:AV.any.own1 = .any:=rfl
theorem cR:(AV.lit v).own1 = .lit v:=rfl
theorem ly:(AV.ptr i o).own1 = .ptr i o:=rfl
theorem iS:(AV.cptr cs).own1 = .cptr cs:=rfl
theorem nZ:(AV.sl b k cs).own1 = .sl false k cs:=rfl
theorem lz:(AV.map i).own1 = .map i:=rfl
theorem n0:(AV.fn f vs cs).own1 = .fn f vs cs:=rfl
theorem n3:(AV.bs i k o l c).own1 = .bs i k o l c:=rfl
theorem lA:(AV.ifc t x).own1 = .ifc t x:=rfl
theorem lB:AV.any.own2 = .any:=rfl
theorem own2_lit:(AV.lit v).own2 = .lit v:=rfl
theorem lC:(AV.ptr i o).own2 = .ptr i o:=rfl
theorem iT:(AV.cptr cs).own2 = .cptr cs:=rfl
theorem n4:(AV.sl b k cs).own2 = .sl false k cs:=rfl
theorem lD:(AV.map i).own2 = .map i:=rfl
theorem n5:(AV.fn f vs cs).own2 = .fn f vs cs:=rfl
theorem own2_agg:(AV.agg cs).own2 = .agg (cs.map AV.own1):=rfl
theorem n6:(AV.bs i k o l c).own2 = .bs i k o l c:=rfl
theorem lE:(AV.ifc t x).own2 = .ifc t x:=rfl
theorem iU:AV.any.cells = [.any]:=rfl
theorem dX:(AV.lit v).cells = [.lit v]:=rfl
theorem iV:(AV.ptr i o).cells = [.ptr i o]:=rfl
theorem gC:(AV.lptr i o).cells = [.lptr i o]:=rfl
theorem gD:(AV.cptr cs).cells = [.cptr cs]:=rfl
theorem bw:(AV.sl b k cs).cells = [.sl b k cs]:=rfl
theorem iW:(AV.map i).cells = [.map i]:=rfl
theorem lF:(AV.fn f vs cs).cells = [.fn f vs cs]:=rfl
theorem m4:(AV.agg cs).cells = cs:=rfl
theorem lG:(AV.bs i k o l c).cells = [.bs i k o l c]:=rfl
theorem iX:(AV.ifc t x).cells = [.ifc t x]:=rfl
theorem jZ:(AV.lit v).solid1 = true:=rfl
theorem fg:(AV.ptr i o).solid1 = true:=rfl
theorem fD:(AV.cptr cs).solid1 = true:=rfl
theorem iY:(AV.sl b k cs).solid1 = true:=rfl
theorem gE:(AV.map i).solid1 = true:=rfl
theorem iZ:(AV.fn f vs cs).solid1 = true:=rfl
theorem i3:(AV.bs i k o l c).solid1 = true:=rfl
theorem gF:(AV.ifc t x).solid1 = true:=rfl
theorem pX:x.solid = x.cells.all AV.solid1:=rfl
theorem n7:AV.any.noL = true:=rfl
theorem gG:(AV.lit v).noL = true:=rfl
theorem n8:(AV.ptr i o).noL = true:=rfl
theorem lH:(AV.cptr cs).noL = true:=rfl
theorem gH:(AV.sl b k cs).noL = true:=rfl
theorem n9:(AV.map i).noL = true:=rfl
theorem sk:(AV.fn f vs cs).noL = true:=rfl
theorem cr:(AV.agg cs).noL = true:=rfl
theorem bd:(AV.tup cs).noL = true:=rfl
theorem m5:(AV.bs i k o l c).noL = true:=rfl
theorem oa:(AV.ifc t x).noL = true:=rfl
theorem lI:kill s .any = .any:=rfl
theorem kill_lit:kill s (.lit v) = .lit v:=rfl
theorem lJ:kill s (.ptr i o) = .ptr i o:=rfl
theorem ri:kill s (.lptr t o) = if t = s then .any else .lptr t o:=rfl
theorem au:kill s (.cptr cs) = .cptr cs:=rfl
theorem kill_sl:kill s (.sl b k cs) = .sl b k cs:=rfl
theorem cw:kill s (.map i) = .map i:=rfl
theorem ob:kill s (.fn f vs cs) = .fn f vs cs:=rfl
theorem kill_agg:kill s (.agg cs) = .agg cs:=rfl
theorem aT:kill s (.tup cs) = .tup cs:=rfl
theorem oc:kill s (.bs i k o l c) = .bs i k o l c:=rfl
theorem lK:kill s (.ifc t x) = .ifc t x:=rfl
end
section
variable (F:Nat→FuncId) (sf:Sf) (t g:Nat) (v:AV) (st:St)
theorem ev_r:sf.ev F (.r t) = sf.reg t:=rfl
theorem ev_c:sf.ev F (.c v) = v:=rfl
theorem ev_f:sf.ev F (.f g) = .fn (.func (F g)) [] []:=rfl
theorem evOwn_r:sf.evOwn F (.r t) = sf.reg t:=rfl
theorem od:sf.evOwn F (.c v) = v.dis:=rfl
theorem og:sf.evOwn F (.f g) = .fn (.func (F g)) [] []:=rfl
theorem disOp_r:sf.disOp (.r t) = sf.disAt t:=rfl
theorem oh:sf.disOp (.c v) = sf:=rfl
theorem ol:sf.disOp (.f g) = sf:=rfl
theorem setB_r (b:Bool):(Opd.r t).setB sf b = sf.set t (.lit (.bool b)):=rfl
theorem sm (b:Bool):(Opd.c v).setB sf b = sf:=rfl
theorem putS (d:Nat):sf.put (some d) v = sf.set d v:=rfl
theorem putN:sf.put none v = sf:=rfl
variable (k k':IntKind) (a b:Int) (p q:Bool) (sa sb:ByteArray)
theorem n_add:binI .num .add (.lit (.int k a)) (.lit (.int k b)) = .ok (.lit (.int k (k.wrap (a + b)))):=by cases k <;> rfl
theorem fZ:binI .num .sub (.lit (.int k a)) (.lit (.int k b)) = .ok (.lit (.int k (k.wrap (a - b)))):=by cases k <;> rfl
theorem n_mul:binI .num .mul (.lit (.int k a)) (.lit (.int k b)) = .ok (.lit (.int k (k.wrap (a * b)))):=by cases k <;> rfl
theorem n_eql:binI .num .eql (.lit (.int k a)) (.lit (.int k b)) = .ok (.lit (.bool (decide (a = b)))):=by cases k <;> rfl
theorem pY:binI .num .neq (.lit (.int k a)) (.lit (.int k b)) = .ok (.lit (.bool (decide (¬ a = b)))):=by
 have h:(a != b) = decide (¬ a = b):=by rw [bne_eq,decide_not]; rfl
 rw [← h]
 cases k <;> rfl
theorem n_lss:binI .num .lss (.lit (.int k a)) (.lit (.int k b)) = .ok (.lit (.bool (decide (a < b)))):=by cases k <;> rfl
theorem lL:binI .num .leq (.lit (.int k a)) (.lit (.int k b)) = .ok (.lit (.bool (decide (a≤b)))):=by cases k <;> rfl
theorem n_gtr:binI .num .gtr (.lit (.int k a)) (.lit (.int k b)) = .ok (.lit (.bool (decide (a > b)))):=by cases k <;> rfl
theorem f0:binI .num .geq (.lit (.int k a)) (.lit (.int k b)) = .ok (.lit (.bool (decide (a ≥ b)))):=by cases k <;> rfl
end
theorem req_dec {A:Type} {p:Prop} [Decidable p] {r:Res A} {K:A→Prop} (h:p):(Res.req (decide p) r).wp K = r.wp K:=by
 rw [wp_req,decide_eq_true h]
 exact propext ⟨fun q=>q.2,fun q=>⟨rfl,q⟩⟩
theorem req_tt {A:Type} {r:Res A} {K:A→Prop}:(Res.req true r).wp K = r.wp K:=propext ⟨fun q=>q.2,fun q=>⟨rfl,q⟩⟩
theorem n_quo {k:IntKind} {a b:Int} (h:b≠0):binI .num .quo (.lit (.int k a)) (.lit (.int k b)) = .req true (.ok (.lit (.int k (k.wrap (a.tdiv b))))):=by
 have:(b != 0) = true:=by simpa using h
 rw [← this]
 cases k <;> rfl
theorem n_rem {k:IntKind} {a b:Int} (h:b≠0):binI .num .rem (.lit (.int k a)) (.lit (.int k b)) = .req true (.ok (.lit (.int k (a.tmod b)))):=by
 have:(b != 0) = true:=by simpa using h
 rw [← this]
 cases k <;> rfl
section
variable {x:Opd} {p:Prop} [Decidable p] {A B:Sf→St→(Exit→Sf→St→Prop)→Prop} {sf:Sf} {st:St} {Q:Exit→Sf→St→Prop} {t:Nat} {b:Bool} {Y N:Sf→St→Prop}
theorem sr:ip x (.lit (.bool true)) A B sf st Q = A (x.setB sf true) st Q:=by
 rw [kL]; exact propext ⟨fun h=>h.1 rfl,fun h=>⟨fun _=>h,fun e=>by cases e⟩⟩
theorem su:ip x (.lit (.bool false)) A B sf st Q = B (x.setB sf false) st Q:=by
 rw [kL]; exact propext ⟨fun h=>h.2 rfl,fun h=>⟨fun e=>(by cases e),fun _=>h⟩⟩
theorem cond_yes (h:p):ip x (.lit (.bool (decide p))) A B sf st Q = A (x.setB sf true) st Q:=by
 rw [decide_eq_true h,sr]
theorem cond_no (h:¬ p):ip x (.lit (.bool (decide p))) A B sf st Q = B (x.setB sf false) st Q:=by
 rw [decide_eq_false h,su]
theorem pZ {want:Bool}:eo t want (.lit (.bool true)) Y N sf st = if want = true then Y (sf.set t (.lit (.bool true))) st else N (sf.set t (.lit (.bool true))) st:=by
 rw [mX]
 cases want
 ·exact propext ⟨fun h=>h.2 rfl,fun h=>⟨fun e=>(by cases e),fun _=>h⟩⟩
 ·exact propext ⟨fun h=>h.1 rfl,fun h=>⟨fun _=>h,fun e=>(by cases e)⟩⟩
theorem p0 {want:Bool}:eo t want (.lit (.bool false)) Y N sf st = if want = true then N (sf.set t (.lit (.bool false))) st else Y (sf.set t (.lit (.bool false))) st:=by
 rw [mX]
 cases want
 ·exact propext ⟨fun h=>h.1 rfl,fun h=>⟨fun _=>h,fun e=>(by cases e)⟩⟩
 ·exact propext ⟨fun h=>h.2 rfl,fun h=>⟨fun e=>(by cases e),fun _=>h⟩⟩
theorem i4 {want:Bool}:eo t want .any Y N sf st = (Y sf st∧N sf st):=rfl
theorem rj (h:p) {want:Bool}:eo t want (.lit (.bool (decide p))) Y N sf st = if want = true then Y (sf.set t (.lit (.bool true))) st else N (sf.set t (.lit (.bool true))) st:=by
 rw [decide_eq_true h,pZ]
theorem guard_no (h:¬ p) {want:Bool}:eo t want (.lit (.bool (decide p))) Y N sf st = if want = true then N (sf.set t (.lit (.bool false))) st else Y (sf.set t (.lit (.bool false))) st:=by
 rw [decide_eq_false h,p0]
end
def p9:List Nat→List (Nat×AV)→List (Nat×AV)
 | [],_=>[]
 | t::r,l=>(t,getR l t)::p9 r l
theorem rk (l:List (Nat×AV)):p9 [] l = []:=rfl
theorem qa (t:Nat) (r:List Nat) (l:List (Nat×AV)):p9 (t::r) l = (t,getR l t)::p9 r l:=rfl
theorem mask_eq (sf:Sf) (lv ll:List Nat):sf.mask lv ll = ⟨p9 lv sf.regs,io ll sf.locs⟩:=by
 have:∀ lv:List Nat,(lv.map fun t=>(t,sf.reg t)) = p9 lv sf.regs:=by
  intro lv
  induction lv with
  | nil=>rfl
  | cons t r ih=>simp only [List.map_cons,p9,ih]; rfl
 unfold Sf.mask
 rw [this]
theorem and_pre {p q:Prop} (h:p):(p∧q) = q:=propext ⟨fun a=>a.2,fun a=>⟨h,a⟩⟩
theorem eE {n bytes:Nat} (h:n * bytes≤140737488355328∧n≤1000000000000000):fM n bytes = true:=decide_eq_true h
theorem om (k:NilK) (x y:AV):binI (.nil k) .eql x y = (Res.ofOpt (dV k x y)).bind fun b=>.ok (.lit (.bool b)):=rfl
theorem oo (k:NilK) (x y:AV):binI (.nil k) .neq x y = (Res.ofOpt (dV k x y)).bind fun b=>.ok (.lit (.bool !b)):=rfl
theorem b_eql (a b:Bool):binI .bool .eql (.lit (.bool a)) (.lit (.bool b)) = .ok (.lit (.bool (a == b))):=rfl
theorem b_neq (a b:Bool):binI .bool .neq (.lit (.bool a)) (.lit (.bool b)) = .ok (.lit (.bool !(a == b))):=rfl
theorem lM (op:BinOp) (C:AV→St→Prop) (st:St):nilX op (.lit (.slice none 0 0)) (.lit (.slice none 0 0)) C st = (binI (.nil .sl) op (.lit (.slice none 0 0)) (.lit (.slice none 0 0))).wp (atS C st):=rfl
theorem oq (op:BinOp) (i k o l c:Nat) (C:AV→St→Prop) (st:St):nilX op (.bs i k o l c) (.lit (.slice none 0 0)) C st = (binI (.nil .sl) op (.bs i k o l c) (.lit (.slice none 0 0))).wp (atS C st):=rfl
theorem i5 (op:BinOp) (o:Bool) (k:Nat) (x:AV) (l:List AV) (C:AV→St→Prop) (st:St):nilX op (.sl o k (x::l)) (.lit (.slice none 0 0)) C st = (binI (.nil .sl) op (.sl o k (x::l)) (.lit (.slice none 0 0))).wp (atS C st):=rfl
theorem gI (op:BinOp) (o:Bool) (k:Nat) (C:AV→St→Prop) (st:St):nilX op (.sl o k []) (.lit (.slice none 0 0)) C st = ∀ b:Bool,C (.lit (.bool b)) st:=rfl
theorem qb (c:AV) (r:List AV):jy none (c::r) = .ok c:=rfl
theorem qc (n:Nat) (r:List AV):jy (some n) r = .req (decide (n≤r.length)) (.ok (.agg (r.take n))):=rfl
section
variable (c a b:AV) (q:Bool) (vs:List AV) (i:Nat)
theorem pick_tt:pickV (.lit (.bool true)) a b = .ok a.dis:=rfl
theorem pick_ff:pickV (.lit (.bool false)) a b = .ok b.dis:=rfl
theorem ov (p:Prop) [Decidable p]:(!decide p) = decide (¬ p):=(decide_not).symm
end
end Go.Fx
namespace Go.Fx
open Go
section
variable {P:Program} {F:Nat→FuncId} {m:Bool}
theorem callI_mono {p:Bool} {d:Option Nat} {f:AV} {args:List AV} {K K':Sf→St→Prop} {sf:Sf} {st:St} (h:∀ sf st,K sf st→K' sf st):kF P m p d f args K sf st→kF P m p d f args K' sf st:=by
 unfold kF
 split
 ·rintro ⟨h1,h2⟩
  refine ⟨h1,?_⟩
  split
  ·rename_i e; rw [if_pos e] at h2; obtain ⟨a,v,b,c⟩:=h2; exact ⟨a,v,b,h _ _ c⟩
  ·rename_i e; rw [if_neg e] at h2; obtain ⟨a,Q,b,c⟩:=h2; exact ⟨a,Q,b,fun v st' q=>h _ _ (c v st' q)⟩
 ·rintro ⟨h1,h2,Q,h3,h4⟩; exact ⟨h1,h2,Q,h3,fun t st' q=>h _ _ (h4 t st' q)⟩
 ·exact id
theorem appX_mono {m:Bool} {k bytes:Nat} {b:AV} {C C':AV→St→Prop} {st:St} {new:List AV} (h:∀ v st,C v st→C' v st):appX m k bytes b C st new→appX m k bytes b C' st new:=by
 unfold appX
 split
 ·rintro ⟨h1,h2,h3,h4⟩
  refine ⟨h1,h2,h3,Res.wp_mono h4 fun cs hc=>?_⟩
  split
  ·rename_i e; rw [if_pos e] at hc; exact ⟨hc.1,h _ _ hc.2⟩
  ·rename_i e; rw [if_neg e] at hc; exact ⟨hc.1,fun c hc'=>h _ _ (hc.2 c hc')⟩
 ·rintro ⟨h1,h2,h3⟩
  refine ⟨h1,h2,?_⟩
  split
  ·rename_i e; rw [if_pos e] at h3; exact h _ _ h3
  ·rename_i e; rw [if_neg e] at h3; exact fun c hc=>h _ _ (h3 c hc)
 ·exact id
theorem stepX_mono {i:XI} {d:Option Nat} {K K':Sf→St→Prop} {sf:Sf} {st:St} (h:∀ sf st,K sf st→K' sf st):al F m i d K sf st→al F m i d K' sf st:=by
 have hk:∀ v st,putK K d sf v st→putK K' d sf v st:=fun v st=>h _ _
 cases i with
 | ldF x k=>exact id
 | bad=>exact id
 | nilU op x y =>
   simp only [al,nilX]
   split
   ·exact fun q b=>hk _ _ (q b)
   ·exact fun q=>Res.wp_mono q fun v=>hk v st
 | appB s k bytes y=>exact fun q=>Res.wp_mono q fun es=>appX_mono hk
 | copyB k x y =>
   refine fun q=>Res.wp_mono q fun es=>?_
   unfold jA
   split
   ·rintro ⟨h1,h2,h3,h4⟩; exact ⟨h1,h2,h3,Res.wp_mono h4 fun cs hc=>⟨hc.1,hk _ _ hc.2⟩⟩
   ·exact fun q=>⟨q.1,hk _ _ q.2⟩
   ·exact fun q=>⟨q.1,hk _ _ q.2⟩
   ·exact id
 | clrB k z x =>
   simp only [al,clrX]
   split
   ·rintro ⟨h1,h2,h4⟩; exact ⟨h1,h2,Res.wp_mono h4 fun cs hc=>⟨hc.1,hk _ _ hc.2⟩⟩
   ·exact hk _ _
   ·exact hk _ _
   ·exact id
 | clrM x =>
   simp only [al,clrMX]
   split
   ·rintro ⟨h1,h4⟩; exact ⟨h1,Res.wp_mono h4 fun cs hc=>hk _ _ hc⟩
   ·exact hk _ _
   ·exact id
 | mksB k bytes z l c =>
   simp only [al,qK]
   split
   ·rintro ⟨h1,h2,h3,h4,h5,h6⟩; exact ⟨h1,h2,h3,h4,h5,hk _ _ h6⟩
   ·exact id
 | mks k bytes z l c =>
   simp only [al,mksX]
   split
   ·rintro ⟨h2,h3,h4,h5,h6⟩; exact ⟨h2,h3,h4,h5,hk _ _ h6⟩
   ·exact id
 | mknz x =>
   simp only [al,mknzX]
   split
   ·rintro ⟨h2,h3,h4,h5⟩; exact ⟨h2,h3,h4,fun c hc=>hk _ _ (h5 c hc)⟩
   ·exact id
 | slA n k x lo hi mx =>
   simp only [al,slAX]
   split
   ·exact fun q=>Res.wp_mono q fun v=>hk v st
   ·exact id
 | rng x =>
   simp only [al,rngX]
   split
   ·exact fun q=>Res.wp_mono q fun _=>hk _ _
   ·exact hk _ _
   ·exact id
 | nxt s =>
   simp only [al,nxtX]
   split
   ·exact h _ _
   ·refine fun q=>Res.wp_mono q fun es ⟨h1,h2,h3,h4⟩=>⟨h1,h2,fun i k x b a1 a2 a3=>h _ _ (h3 i k x b a1 a2 a3),fun a=>h _ _ (h4 a)⟩
   ·exact id
 | capU x =>
   simp only [al,capX]
   split
   ·exact hk _ _
   ·exact hk _ _
   ·exact id
 | appZ k bytes z b n =>
   simp only [al,appZX]
   split
   ·rintro ⟨h1,h2,h3,h4,h5⟩; exact ⟨h1,h2,h3,h4,fun c hc=>hk _ _ (h5 c hc)⟩
   ·exact id
 | cmpS x y =>
   simp only [al,cmpSX]
   split
   ·exact hk _ _
   ·exact id
 | rngS x =>
   simp only [al,rngSX]
   split
   ·exact hk _ _
   ·exact id
 | nxtS s =>
   simp only [al,qL]
   split
   ·split
    ·exact h _ _
    ·exact fun q=>⟨q.1,fun e=>h _ _ (q.2.1 e),fun e c wd a b=>h _ _ (q.2.2 e c wd a b)⟩
   ·exact id
 | ent s =>
   simp only [al,entX]
   split
   ·exact fun q=>Res.wp_mono q fun es ⟨h1,i,k,x,b,h2,h3,h4,h5⟩=>⟨h1,i,k,x,b,h2,h3,h4,hk _ _ h5⟩
   ·exact id
 | mclone x =>
   simp only [al,kA]
   split
   ·rintro ⟨h1,h4⟩; exact ⟨h1,Res.wp_mono h4 fun cs hc=>hk _ _ hc⟩
   ·exact id
 | mark s =>
   simp only [al,kB]
   split
   ·exact h _ _
   ·exact id
 | bstO places z parts=>exact fun q=>Res.wp_mono q fun v=>h _ _
theorem m6 {i:AI} {K K':Sf→St→Prop} {sf:Sf} {st:St} (h:∀ sf st,K sf st→K' sf st):oneI P F m i K sf st→oneI P F m i K' sf st:=by
 unfold oneI
 split
 ·exact callI_mono h
 ·exact stepX_mono h
 ·exact fun q=>Res.wp_mono q fun r=>h r.1 r.2
theorem bI:∀ {l:List GI} {K K':Sf→St→Prop} {sf:Sf} {st:St},(∀ sf st,K sf st→K' sf st)→runI P F m l K sf st→runI P F m l K' sf st
 | [],K,K',sf,st,h=>h _ _
 | ⟨none, i⟩ :: r, K, K', sf, st, h => by
   simp only [runI]
   exact m6 fun sf st=>bI h
 | ⟨some (t, want), i⟩ :: r, K, K', sf, st, h => by
   simp only [runI,eo]
   split
   ·intro q c hc
    have q:=q c hc
    split
    ·rename_i e; rw [if_pos e] at q; exact m6 (fun sf st=>bI h) q
    ·rename_i e; rw [if_neg e] at q; exact bI h q
   ·exact fun ⟨a,b⟩=>⟨m6 (fun sf st=>bI h) a,bI h b⟩
   ·exact bI h
   ·exact id
theorem lN {locs0:List (Nat×List AV)} {st:St} {i:AI} {C C':PK→Sf→Prop} {sf:Sf} (h:∀ k sf,C k sf→C' k sf):ah P F locs0 st i C sf→ah P F locs0 st i C' sf:=by
 unfold ah
 split
 ·unfold fS
  split
  ·rintro ⟨h1,h2,v,h3,h4⟩; exact ⟨h1,h2,v,h3,h _ _ h4⟩
  ·exact id
 ·exact h _ _
 ·unfold bK
  split
  ·unfold dx
   split
   ·rintro ⟨h1,h2,h3,h4⟩; exact ⟨h1,h2,h3,h _ _ h4⟩
   ·exact id
  ·unfold iJ
   split
   ·rintro ⟨h1,h2,h3⟩; exact ⟨h1,h2,h _ _ h3⟩
   ·exact id
  ·unfold cP
   split
   ·rintro ⟨h1,h2,h3,h4⟩; exact ⟨h1,h2,h3,h _ _ h4⟩
   ·exact id
  ·exact id
 ·unfold fv
  split
  ·exact fun q=>Res.wp_mono q fun v=>h _ _
  ·exact fun q=>Res.wp_mono q fun v=>h _ _
 ·exact fun q=>Res.wp_mono q fun v=>h _ _
 ·exact fun q=>Res.wp_mono q fun v=>h _ _
theorem fh {locs0:List (Nat×List AV)} {st:St}:∀ {l:List GI} {K K':List PK→Sf→Prop} {ks:List PK} {sf:Sf},(∀ ks sf,K ks sf→K' ks sf)→ap P F locs0 st l K ks sf→ap P F locs0 st l K' ks sf
 | [],K,K',ks,sf,h=>h _ _
 | ⟨none, i⟩ :: r, K, K', ks, sf, h => by
   simp only [ap]
   exact lN fun k sf=>fh h
 | ⟨some (t, want), i⟩ :: r, K, K', ks, sf, h => by
   simp only [ap,bu]
   split
   ·intro q c hc
    have q:=q c hc
    split
    ·rename_i e; rw [if_pos e] at q; exact lN (fun k sf=>fh h) q
    ·rename_i e; rw [if_neg e] at q; exact fh h q
   ·exact fh h
   ·exact id
theorem eN {locs0:List (Nat×List AV)} {ρ:St} {i:AI} {C C':PK→Sf→Prop} {sf:Sf} (h:∀ k sf,C k sf→C' k sf):oneM P F locs0 ρ i C sf→oneM P F locs0 ρ i C' sf:=by
 unfold oneM
 split
 ·unfold rM
  split
  ·rintro ⟨h1,h2,v,h3,h4⟩; exact ⟨h1,h2,v,h3,h _ _ h4⟩
  ·exact id
 ·exact h _ _
 ·unfold bK
  split
  ·unfold dx
   split
   ·rintro ⟨h1,h2,h3,h4⟩; exact ⟨h1,h2,h3,h _ _ h4⟩
   ·exact id
  ·unfold iJ
   split
   ·rintro ⟨h1,h2,h3⟩; exact ⟨h1,h2,h _ _ h3⟩
   ·exact id
  ·unfold cP
   split
   ·rintro ⟨h1,h2,h3,h4⟩; exact ⟨h1,h2,h3,h _ _ h4⟩
   ·exact id
  ·exact id
 ·exact fun q=>Res.wp_mono q fun v=>h _ _
theorem iA {t:Nat} {want:Bool} {v:AV} {Y Y' N N':Sf→Prop} {sf:Sf} (hy:∀ sf,Y sf→Y' sf) (hn:∀ sf,N sf→N' sf):bu t want v Y N sf→bu t want v Y' N' sf:=by
 unfold bu
 split
 ·intro q c hc
  have q:=q c hc
  split
  ·rename_i e; rw [if_pos e] at q; exact hy _ q
  ·rename_i e; rw [if_neg e] at q; exact hn _ q
 ·exact hn _
 ·exact id
theorem cZ {locs0:List (Nat×List AV)} {ρ:St}:∀ {l:List GI} {K K':List PK→Sf→Prop} {ks:List PK} {sf:Sf},(∀ ks sf,K ks sf→K' ks sf)→preM P F locs0 ρ l K ks sf→preM P F locs0 ρ l K' ks sf
 | [],K,K',ks,sf,h=>h _ _
 | ⟨none, i⟩ :: r, K, K', ks, sf, h => by
   simp only [preM]
   exact eN fun v sf=>cZ h
 | ⟨some (t, want), i⟩ :: r, K, K', ks, sf, h => by
   simp only [preM]
   exact iA (fun sf=>eN fun v sf=>cZ h) fun sf=>cZ h
theorem dY {locs0:List (Nat×List AV)} {ρ:St}:∀ {l:List (Bool×GI)} {K K':List PK→Prop} {ks:List PK} {sf:Sf},(∀ ks,K ks→K' ks)→aH P F locs0 ρ l K ks sf→aH P F locs0 ρ l K' ks sf
 | [],K,K',ks,sf,h=>h _
 | (true, g) :: r, K, K', ks, sf, h => by
   simp only [aH]
   exact dY h
 | (false, ⟨none, i⟩) :: r, K, K', ks, sf, h => by
   simp only [aH]
   exact eN fun v sf=>dY h
 | (false, ⟨some (t, want), i⟩) :: r, K, K', ks, sf, h => by
   simp only [aH]
   exact iA (fun sf=>eN fun v sf=>dY h) fun sf=>dY h
theorem callM_mono {locs0:List (Nat×List AV)} {ρ st:St} {d:Option Nat} {f:AV} {args:List AV} {post:List (Bool×GI)} {drop:List Nat} {T T':St→Sf→Prop} {ks1:List PK} {sf:Sf} (h:∀ st sf,T st sf→T' st sf):pJ P F locs0 ρ st d f args post drop T ks1 sf→pJ P F locs0 ρ st d f args post drop T' ks1 sf:=by
 unfold pJ
 split
 ·rintro ⟨h1,h2,Qc,h3,h4⟩
  exact ⟨h1,h2,Qc,h3,dY (fun ks hk=>⟨hk.1,fun v s hq=>⟨(hk.2 v s hq).1,cZ (fun ks sf hp=>⟨hp.1,hp.2.1,h _ _ hp.2.2⟩) (hk.2 v s hq).2⟩⟩) h4⟩
 ·exact id
theorem appM_mono {locs0:List (Nat×List AV)} {ρ st:St} {d:Option Nat} {k bytes:Nat} {b y:AV} {post:List (Bool×GI)} {drop:List Nat} {T T':St→Sf→Prop} {ks1:List PK} {sf:Sf} (h:∀ st sf,T st sf→T' st sf):appM P F locs0 ρ st d k bytes b y post drop T ks1 sf→appM P F locs0 ρ st d k bytes b y post drop T' ks1 sf:=by
 rintro ⟨h1,h2,Qc,h3,h4⟩
 exact ⟨h1,h2,Qc,h3,dY (fun ks hk=>⟨hk.1,fun v s hq=>⟨(hk.2 v s hq).1,cZ (fun ks sf hp=>⟨hp.1,hp.2.1,h _ _ hp.2.2⟩) (hk.2 v s hq).2⟩⟩) h4⟩
theorem callC_mono {locs0:List (Nat×List AV)} {st:St} {d:Option Nat} {f:AV} {args:List AV} {post:List GI} {T T':St→Sf→Prop} {ks1:List PK} {sf:Sf} (h:∀ st sf,T st sf→T' st sf):qV P F locs0 st d f args post T ks1 sf→qV P F locs0 st d f args post T' ks1 sf:=by
 unfold qV
 split
 ·rintro ⟨h1,h2,h3,Qc,h4,h5⟩
  exact ⟨h1,h2,h3,Qc,h4,fun v s hq=>cZ (fun ks sf hp=>⟨hp.1,h _ _ hp.2⟩) (h5 v s hq)⟩
 ·exact id
theorem oneX1_mono {ρ:St} {SX:Nat→St→Prop} {j:Nat} {i:AI} {C C':PK→Sf→Prop} {sf:Sf} (h:∀ k sf,C k sf→C' k sf):gW P F ρ SX j i C sf→gW P F ρ SX j i C' sf:=by
 unfold gW
 split
 ·unfold newX1
  rintro ⟨v,h3,h4⟩; exact ⟨v,h3,h _ _ h4⟩
 ·unfold boxX1
  rintro ⟨h1,h2,v,h3,h4⟩; exact ⟨h1,h2,v,h3,h _ _ h4⟩
 ·unfold rN
  split
  ·rintro ⟨h1,h2,v,h3,h4⟩; exact ⟨h1,h2,v,h3,h _ _ h4⟩
  ·exact id
 ·exact id
theorem f7 {locs0:List (Nat×List AV)} {ρ:St} {SX:Nat→St→Prop}:∀ {l:List (Bool×GI)} {j:Nat} {K K':Nat→List PK→Sf→Prop} {ks:List PK} {sf:Sf},(∀ j ks sf,K j ks sf→K' j ks sf)→preX P F locs0 ρ SX j l K ks sf→preX P F locs0 ρ SX j l K' ks sf
 | [],j,K,K',ks,sf,h=>by simp only [preX]; exact h _ _ _
 | (true, ⟨none, i⟩) :: r, j, K, K', ks, sf, h => by
   simp only [preX]
   exact oneX1_mono fun v sf=>f7 h
 | (true, ⟨some _, i⟩) :: r, j, K, K', ks, sf, h => by
   simp only [preX]
   exact id
 | (false, ⟨none, i⟩) :: r, j, K, K', ks, sf, h => by
   simp only [preX]
   exact eN fun v sf=>f7 h
 | (false, ⟨some (t, want), i⟩) :: r, j, K, K', ks, sf, h => by
   simp only [preX]
   exact iA (fun sf=>eN fun v sf=>f7 h) fun sf=>f7 h
theorem aC_mono:∀ {c:AC} {Q Q':Exit→Sf→St→Prop} {sf:Sf} {st:St},(∀ e sf st,Q e sf st→Q' e sf st)→aC P F m c sf st Q→aC P F m c sf st Q':=by
 intro c
 induction c with
 | skip=>intro Q Q' sf st h; exact h _ _ _
 | ops lv ll l=>intro Q Q' sf st h; exact bI fun sf st=>h _ _ _
 | draw lv ll dr hl tl=>intro Q Q' sf st h; exact fh fun ks sf ⟨h1,h2⟩=>⟨h1,bI (fun sf st=>h _ _ _) h2⟩
 | drawM lv ll pre d f args post tl =>
   intro Q Q' sf st h
   rintro ⟨hm,ρ,hs,hp⟩
   exact ⟨hm,ρ,hs,cZ (fun ks sf=>callM_mono fun st sf=>bI fun sf st=>h _ _ _) hp⟩
 | drawA lv ll pre d b k bytes y post tl =>
   intro Q Q' sf st h
   rintro ⟨hm,ρ,hs,hp⟩
   exact ⟨hm,ρ,hs,cZ (fun ks sf=>appM_mono fun st sf=>bI fun sf st=>h _ _ _) hp⟩
 | drawC lv ll pre d f args post tl =>
   intro Q Q' sf st h
   rintro ⟨hm,hp⟩
   exact ⟨hm,cZ (fun ks sf=>callC_mono fun st sf=>bI fun sf st=>h _ _ _) hp⟩
 | drawG lv ll dr fl tl =>
   intro Q Q' sf st h
   rintro ⟨hm,SX,h0,hs,q⟩
   exact ⟨hm,SX,h0,hs,f7 (fun j ks sf ⟨h1,h2⟩=>⟨h1,fun s a=>bI (fun sf st=>h _ _ _) (h2 s a)⟩) q⟩
 | seq a b iha ihb =>
   intro Q Q' sf st h
   exact iha fun e sf st=>by
    cases e with
    | normal=>exact ihb h
    | _=>exact h _ _ _
 | cond x a b iha ihb =>
   intro Q Q' sf st h
   simp only [aC,ip]
   split
   ·exact fun q=>⟨fun e=>iha h (q.1 e),fun e=>ihb h (q.2 e)⟩
   ·exact id
 | block id b ih =>
   intro Q Q' sf st h
   exact ih fun e sf st=>by
    cases e with
    | exit i =>
      simp only [fK]
      split
      ·exact h _ _ _
      ·exact h _ _ _
    | _=>exact h _ _ _
 | loop lv ll b ih =>
   intro Q Q' sf st h
   rintro ⟨I,h0,hr⟩
   exact ⟨I,h0,fun k sf st hi=>ih (fun e sf st=>by
    cases e with
    | normal=>exact fun q=>q
    | _=>exact h _ _ _) (hr k sf st hi)⟩
 | exit lv ll id=>intro Q Q' sf st h; exact h _ _ _
 | scope b ih =>
   intro Q Q' sf st h
   exact ih fun e sf st=>by
    cases e with
    | goto l=>exact fun q=>q
    | _=>exact h _ _ _
 | rangeF lv ll x ps lb a b _ _ =>
   intro Q Q' sf st h
   rintro ⟨hm,hr⟩
   refine ⟨hm,?_⟩
   unfold pL at hr ⊢
   split at hr
   ·obtain ⟨h1,h2⟩:=hr
    refine ⟨h1,fun r hy=>?_⟩
    obtain ⟨Qc,h3,h4⟩:=h2 r hy
    refine ⟨Qc,h3,fun v st' q=>?_⟩
    rcases h4 v st' q with ⟨a,b⟩ | ⟨a,b⟩ | ⟨k,a,b⟩
    ·exact .inl ⟨a,h _ _ _ b⟩
    ·exact .inr (.inl ⟨a,h _ _ _ b⟩)
    ·exact .inr (.inr ⟨k,a,h _ _ _ b⟩)
   ·exact hr.elim
 | ret=>intro Q Q' sf st h; exact h _ _ _
 | bad=>intro Q Q' sf st h; exact fun q=>q
end
theorem tabOk_nil {P:Program} {F:Nat→FuncId}:pW P F (fun _=>none):=fun q fn h=>by cases h
theorem aa {P:Program} {F:Nat→FuncId} {T:FuncId→Option AFun} {n:FuncId} {X:Cx} {c:AFun} (h1:bt P n = true) (h2:jF P X n = some c) (h3:X.F = F) (hT:pW P F T):pW P F (fun q=>if q = n then some c else T q):=by
 intro q fn h
 by_cases e:q = n
 ·subst e
  simp only [if_true,Option.some.injEq] at h
  subst h
  exact ⟨h1,X,h3,h2⟩
 ·simp only [e,if_false] at h
  exact hT q fn h
def unrQ (L:Sf→St→Prop) (Q:Exit→Sf→St→Prop):Exit→Sf→St→Prop
 | .normal,sf,st=>L sf st
 | e,sf,st=>Q e sf st
section
variable {P:Program} {F:Nat→FuncId} {m:Bool} {b:AC} {lv ll:List Nat} {Q:Exit→Sf→St→Prop}
def loopN (P:Program) (F:Nat→FuncId) (m:Bool) (b:AC) (lv ll:List Nat) (Q:Exit→Sf→St→Prop):Nat→Sf→St→Prop
 | 0,_,_=>False
 | n + 1,sf,st=>aC P F m b (sf.mask lv ll) st (unrQ (loopN P F m b lv ll Q n) Q)
theorem nB (n:Nat) {sf:Sf} {st:St} (h:loopN P F m b lv ll Q n sf st):am (aC P F m b) lv ll sf st Q:=by
 cases n with
 | zero=>exact h.elim
 | succ n =>
   refine ⟨fun k sf st=>aC P F m b sf st (unrQ (loopN P F m b lv ll Q k) Q),⟨n,_,Sf.le_refl _,h⟩,fun k sf st hk=>aC_mono (fun e sf st=>?_) hk⟩
   cases e with
   | normal =>
     cases k with
     | zero=>exact fun q=>q.elim
     | succ k=>exact fun q=>⟨k,Nat.lt_succ_self k,_,Sf.le_refl _,q⟩
   | _=>exact fun q=>q
variable (sf:Sf) (st:St) (L:Sf→St→Prop) (n:Nat)
theorem qd:loopN P F m b lv ll Q (n + 1) sf st = aC P F m b (sf.mask lv ll) st (unrQ (loopN P F m b lv ll Q n) Q):=rfl
theorem dy:unrQ L Q .normal sf st = L sf st:=rfl
theorem lO:unrQ L Q .ret sf st = Q .ret sf st:=rfl
theorem eO (id:Nat):unrQ L Q (.exit id) sf st = Q (.exit id) sf st:=rfl
end
end Go.Fx
namespace Go.Fx
open Go
theorem m7 (a b:Nat):(a:Int) + (b:Int) = ((a + b:Nat):Int):=by omega
theorem up_addL (a k:Nat):(a:Int) + (no_index (OfNat.ofNat k)) = ((a + OfNat.ofNat k:Nat):Int):=by exact id rfl
theorem ow (a k:Nat):(no_index (OfNat.ofNat k):Int) + (a:Int) = ((OfNat.ofNat k + a:Nat):Int):=by exact id rfl
theorem sv {a b:Nat} (h:b≤a):(a:Int) - (b:Int) = ((a - b:Nat):Int):=(Int.ofNat_sub h).symm
theorem oz {a k:Nat} (h:OfNat.ofNat k≤a):(a:Int) - (no_index (OfNat.ofNat k)) = ((a - OfNat.ofNat k:Nat):Int):=(Int.ofNat_sub h).symm
theorem oA {a k:Nat} (h:a≤OfNat.ofNat k):(no_index (OfNat.ofNat k):Int) - (a:Int) = ((OfNat.ofNat k - a:Nat):Int):=(Int.ofNat_sub h).symm
theorem eF {α β:Type} (f:α→β) (L:List α):List.take L.length (L.map f) = L.map f:=List.take_of_length_le (by simp)
theorem f8:∀ (vs cs:List AV) (i:Nat),(aG cs i vs).length = cs.length
 | [],cs,i=>rfl
 | v::vs,cs,i=>by simp only [aG]; rw [f8 vs]; simp
theorem rm (cs:List AV) (i:Nat):aG cs i [] = cs:=by cases cs <;> rfl
theorem gJ:Fx.cellsD [] = []:=rfl
theorem m8:∀ (vs xs rs:List AV),vs.length≤rs.length→aG (xs++rs) xs.length vs = xs++(vs++rs.drop vs.length)
 | [],xs,rs,_=>by simp [aG]
 | v::vs,xs,[],h=>by simp at h
 | v :: vs, xs, r :: rs, h => by
   simp only [aG]
   have h1:(xs++r::rs).set xs.length v = (xs++[v])++rs:=by simp
   have h2:xs.length + 1 = (xs++[v]).length:=by simp
   rw [h1,h2,m8 vs (xs++[v]) rs (by simpa using h)]
   simp
theorem setAt_zero {vs cs:List AV} (h:vs.length≤cs.length):aG cs 0 vs = vs++cs.drop vs.length:=m8 vs [] cs h
theorem qe {vs xs rs:List AV} {n:Nat} (hn:n = xs.length) (h:vs.length≤rs.length):aG (xs++rs) n vs = xs++(vs++rs.drop vs.length):=by subst hn; exact m8 vs xs rs h
def Lits (l:List AV):Prop:=∀ x ∈ l,∃ v,x = .lit v
theorem Lits.nil:Lits []:=fun _ h=>by cases h
theorem Lits.app {l l':List AV} (h:Lits l) (h':Lits l'):Lits (l++l'):=fun x hx=>(List.mem_append.1 hx).elim (h x) (h' x)
theorem Lits.drop {l:List AV} (h:Lits l) (n:Nat):Lits (l.drop n):=fun x hx=>h x (List.mem_of_mem_drop hx)
theorem Lits.map {A:Type} (f:A→Value) (l:List A):Lits (l.map fun a=>.lit (f a)):=fun x hx=>by
 obtain ⟨a,_,rfl⟩:=List.mem_map.1 hx; exact ⟨_,rfl⟩
theorem Lits.dis {l:List AV} (h:Lits l):l.map AV.dis = l:=by
 induction l with
 | nil=>rfl
 | cons x r ih =>
   obtain ⟨v,rfl⟩:=h x (List.mem_cons_self ..)
   simp only [List.map_cons,sh]
   rw [ih fun y hy=>h y (List.mem_cons_of_mem _ hy)]
theorem Lits.own {l:List AV} (h:Lits l):l.map AV.own1 = l:=by
 induction l with
 | nil=>rfl
 | cons x r ih =>
   obtain ⟨v,rfl⟩:=h x (List.mem_cons_self ..)
   simp only [List.map_cons,cR]
   rw [ih fun y hy=>h y (List.mem_cons_of_mem _ hy)]
theorem Lits.cells {l:List AV} (h:Lits l):l.flatMap AV.cells = l:=by
 induction l with
 | nil=>rfl
 | cons x r ih =>
   obtain ⟨v,rfl⟩:=h x (List.mem_cons_self ..)
   simp only [List.flatMap_cons,dX]
   rw [ih fun y hy=>h y (List.mem_cons_of_mem _ hy)]
   rfl
theorem Lits.cellsD {l:List AV} (h:Lits l):Fx.cellsD l = l:=by unfold Fx.cellsD; rw [h.dis,h.cells]
theorem Lits.nb {l:List AV} (h:Lits l):∀ x ∈ l,x.NB:=fun x hx=>by obtain ⟨v,rfl⟩:=h x hx; exact .lit v
theorem acalls_id {P:Program} {X:Cx} {f:FuncId} {fn:AFun} {vs:List AV} {st:St} (hmix:P.follows .mixedOrders = true) (hf:jF P X f = some fn) (hX:X.F = id) (hlen:Nat.ble vs.length fn.n = true) {K:AV→St→Prop} (h:aFun P id false fn vs st K):aX P f vs st K:=by
 refine re hmix hf (Nat.le_of_ble_eq_true hlen) ?_
 rw [hX]; exact h
theorem ca (st:St) (cs:List AV):(st.push (.cells cs)).get st.boxes.length = some cs:=by simp [St.push,St.get]
theorem f9 (st:St) (es:List (AV×AV)) (bs:List Nat) (k:Nat):(st.push (.mp es bs k)).getM st.boxes.length = some es:=by simp [St.push,St.getM]
theorem ga (st:St) (es:List (AV×AV)) (bs:List Nat) (k:Nat):(st.push (.mp es bs k)).getB st.boxes.length = (bs,k):=by simp [St.push,St.getB]
theorem gb (st:St) (b:Box) (cs:List AV):(st.push b).set st.boxes.length cs = st.push (.cells cs):=by simp [St.push,St.set]
theorem fi (st:St) (b:Box):(st.push b).boxes.length = st.boxes.length + 1:=by simp [St.push]
theorem i6 (st:St) (id:Nat) (cs:List AV):(st.set id cs).boxes.length = st.boxes.length:=by simp [St.set]
theorem cu {st:St} {b:Box} {id:Nat} (h:id < st.boxes.length):(st.push b).get id = st.get id:=by simp [St.push,St.get,List.getElem?_append_left h]
theorem gK {st:St} {id:Nat} {cs:List AV} (h:st.get id = some cs):id < st.boxes.length:=by
 rcases Nat.lt_or_ge id st.boxes.length with hl | hl
 ·exact hl
 ·simp [St.get,List.getElem?_eq_none hl] at h
theorem eG {st:St} {id:Nat} {cs:List AV} (h:id < st.boxes.length):(st.set id cs).get id = some cs:=by simp [St.set,St.get,h]
theorem qf {st:St} {id id':Nat} {cs:List AV} (h:id≠id'):(st.set id cs).get id' = st.get id':=by simp [St.set,St.get,List.getElem?_set_ne h]
theorem oB (st:St) (id:Nat) (cs ds:List AV):(st.set id cs).set id ds = st.set id ds:=by simp [St.set]
theorem qg (cs:List AV) (i:Nat) (v:AV) (vs:List AV):aG cs i (v::vs) = aG (cs.set i v) (i + 1) vs:=rfl
end Go.Fx
namespace Go.Fx
open Go
section
variable {P:Program} {F:Nat→FuncId} {m:Bool} {b:AC} {lv ll:List Nat} {Q:Exit→Sf→St→Prop}
def stepQ {A:Type} (S:A→Sf) (T:A→St) (R:A→Prop) (lv ll:List Nat) (Q:Exit→Sf→St→Prop):Exit→Sf→St→Prop
 | .normal,sf,st=>∃ a,R a∧Sf.le (sf.mask lv ll) (S a)∧st = T a
 | e,sf,st=>Q e sf st
theorem loop_for {A:Type} (μ:A→Nat) (S:A→Sf) (T:A→St) (I:A→Prop) (a0:A) {sf:Sf} {st:St} (h0:I a0) (hs:Sf.le (sf.mask lv ll) (S a0)) (ht:st = T a0)
  (step:∀ a,I a→aC P F m b (S a) (T a) (stepQ S T (fun a'=>I a'∧μ a' < μ a) lv ll Q)):am (aC P F m b) lv ll sf st Q:=by
 refine ⟨fun k sf st=>∃ a,I a∧μ a = k∧sf = S a∧st = T a,⟨μ a0,_,hs,a0,h0,rfl,rfl,ht⟩,?_⟩
 rintro k sf st ⟨a,ha,rfl,rfl,rfl⟩
 refine aC_mono (fun e sf st=>?_) (step a ha)
 cases e with
 | normal=>exact fun ⟨a',⟨h1,h2⟩,h3,h4⟩=>⟨μ a',h2,S a',h3,a',h1,rfl,rfl,h4⟩
 | _=>exact fun q=>q
variable {A:Type} (S:A→Sf) (T:A→St) (R:A→Prop) (sf:Sf) (st:St)
theorem eH:stepQ S T R lv ll Q .normal sf st = ∃ a,R a∧Sf.le (sf.mask lv ll) (S a)∧st = T a:=rfl
theorem i7:stepQ S T R lv ll Q .ret sf st = Q .ret sf st:=rfl
theorem gL (id:Nat):stepQ S T R lv ll Q (.exit id) sf st = Q (.exit id) sf st:=rfl
end
section
variable {CB:Sf→St→(Exit→Sf→St→Prop)→Prop} {id:Nat} {r:Loop} {rs:List (Nat×AV)} {Q:Bool→St→Prop} {sf:Sf} {st:St}
theorem oC (v:AV):v.keep = if v.noL = true then v.dis else .any:=rfl
theorem i8 (sf:Sf):iq [] sf = []:=rfl
theorem gM (t:Nat) (l:List Nat) (sf:Sf):iq (t::l) sf = (t,(getR sf.regs t).keep)::iq l sf:=rfl
theorem i9 (rg:List (Nat×AV)) (vs:List AV):jD rg [] vs = rg:=by cases vs <;> rfl
theorem gO (rg:List (Nat×AV)) (p:Nat) (ps:List Nat) (v:AV) (vs:List AV):jD rg (p::ps) (v::vs) = jD (setR rg p v.dis) ps vs:=rfl
theorem dL:assignQ CB id r rs Q .normal sf st = (st.isLp id r rs∧CB sf (st.setL id (er r) rs) (endI id r rs Q)):=rfl
theorem fE:endI id r rs Q .normal sf st = (st.isLp id (er r) rs∧Q true (st.setL id r rs)):=rfl
theorem lP:endI id r rs Q .ret sf st = (st.isLp id (er r) rs∧Q false (st.setL id (ir r .ret) rs)):=rfl
theorem ja (k:Nat):endI id r rs Q (.exit k) sf st = (st.isLp id (er r) rs∧Q false (st.setL id (ir r (.exit k)) rs)):=rfl
end
def BB (l:List UInt8):List AV:=l.map dC
theorem bN (l:List UInt8):(BB l).length = l.length:=by simp [BB]
theorem ea (l:List UInt8) (n:Nat):(BB l).take n = BB (l.take n):=by simp [BB,List.map_take]
theorem ec (l:List UInt8) (n:Nat):(BB l).drop n = BB (l.drop n):=by simp [BB,List.map_drop]
theorem qh (l r:List UInt8):BB l++BB r = BB (l++r):=by simp [BB]
theorem sw (l:List UInt8):Lits (BB l):=Lits.map (fun b:UInt8=>Value.int .u8 b.toNat) l
theorem m9 (l:List UInt8):(BB l).map AV.dis = BB l:=(sw l).dis
theorem sy (l:List UInt8):(BB l).map AV.own1 = BB l:=(sw l).own
theorem jb (l:List UInt8):Fx.cellsD (BB l) = BB l:=(sw l).cellsD
theorem oD {l:List UInt8} {i:Nat} (h:i < l.length):(BB l).getD i .any = .lit (.int .u8 (l.getD i 0).toNat):=by
 simp [BB,List.getD,h,dC]
theorem sA:BB [] = []:=rfl
theorem jc (x:UInt8) (l:List UInt8):BB (x::l) = .lit (.int .u8 x.toNat)::BB l:=rfl
def str (l:List UInt8):ByteArray:=⟨l.toArray⟩
theorem gc (l:List UInt8):ng (BB l) = some (str l):=by
 have:(BB l).mapM byteA = some l:=by
  induction l with
  | nil=>rfl
  | cons x r ih=>simp only [jc,List.mapM_cons,ih,byteA]; simp
 simp [ng,this,str]
theorem lQ (a:List UInt8):(str a).toList = a:=by rw [ByteArray.toList_eq]; simp [str]
theorem gP (a b:List UInt8):binI .num .eql (.lit (.string (str a))) (.lit (.string (str b))) = .ok (.lit (.bool (decide (a = b)))):=by
 have:((str a).toList == (str b).toList) = decide (a = b):=by rw [lQ,lQ]; exact Bool.eq_iff_iff.2 (by simp)
 rw [← this]; rfl
theorem oE (a b:List UInt8):binI .num .neq (.lit (.string (str a))) (.lit (.string (str b))) = .ok (.lit (.bool (decide (¬ a = b)))):=by
 have:(!((str a).toList == (str b).toList)) = decide (¬ a = b):=by rw [lQ,lQ]; exact Bool.eq_iff_iff.2 (by simp)
 rw [← this]; rfl
end Go.Fx
namespace Go.Fx
open Go
section
variable (P:Program) (F:Nat→FuncId) (m:Bool) (locs0:List (Nat×List AV)) (st:St) (C:PK→Sf→Prop) (sf:Sf) (d:Option Nat) (x y i:Opd) (K:List PK→Sf→Prop) (ks:List PK)
theorem dM:ap P F locs0 st [] K ks sf = K ks sf:=rfl
theorem cv (i:AI) (r:List GI):ap P F locs0 st (⟨none,i⟩::r) K ks sf = ah P F locs0 st i (e9 (ap P F locs0 st r K) ks) sf:=rfl
theorem cG (t:Nat) (want:Bool) (i:AI) (r:List GI):ap P F locs0 st (⟨some (t,want),i⟩::r) K ks sf = bu t want (sf.reg t) (ah P F locs0 st i (e9 (ap P F locs0 st r K) ks)) (gU (ap P F locs0 st r K) ks i.dst) sf:=rfl
theorem dz:ah P F locs0 st (.mv d x) C sf = valH C d sf (sf.ev F x).dis:=rfl
theorem ef (c a b:Opd):ah P F locs0 st (.pick d c a b) C sf = (pickV (sf.ev F c) (sf.ev F a) (sf.ev F b)).wp (valH C d sf):=rfl
theorem dN (k:BinK) (op:BinOp):ah P F locs0 st (.bin d k op x y) C sf = (binI k op (sf.ev F x) (sf.ev F y)).wp (valH C d sf):=rfl
theorem hh_un (op:UnOp):ah P F locs0 st (.un d op x) C sf = (unA op (sf.ev F x)).wp (valH C d sf):=rfl
theorem jd (k:ConvK):ah P F locs0 st (.conv d k x) C sf = (e7 st k (sf.ev F x)).wp (valH C d sf):=rfl
theorem sB (j:Nat):ah P F locs0 st (.ext d x j) C sf = (extV (sf.ev F x) j).wp (valH C d sf):=rfl
theorem lR (off:Nat) (k:Option Nat):ah P F locs0 st (.field d x off k) C sf = (jS (sf.ev F x) off k).wp (valH C d sf):=rfl
theorem bR (off:Nat):ah P F locs0 st (.addr d x off) C sf = (addA (sf.ev F x) off).wp (valH C d sf):=rfl
theorem fj (k:Nat):ah P F locs0 st (.ixS d x i k) C sf = (ixSV (sf.ev F x) (sf.ev F i) k).wp (valH C d sf):=rfl
theorem sC (n k:Nat):ah P F locs0 st (.ixA d x i n k) C sf = ((Fx.ixA (sf.ev F i) n).bind fun j=>addA (sf.ev F x) (j * k)).wp (valH C d sf):=rfl
theorem lS:ah P F locs0 st (.ixStr d x i) C sf = (jT (sf.ev F x) (sf.ev F i)).wp (valH C d sf):=rfl
theorem lT (n k:Nat) (t:Option Nat):ah P F locs0 st (.ixArr d x i n k t) C sf = (jU (sf.ev F x) (sf.ev F i) n k t).wp (valH C d sf):=rfl
theorem bL (k:Option Nat):ah P F locs0 st (.load d x k) C sf = (iv sf st (sf.ev F x) k).wp (valH C d sf):=rfl
theorem sD (k:Option Nat):ah P F locs0 st (.x d (.ldF x k)) C sf = (iv ⟨sf.regs,locs0⟩ st (sf.ev F x) k).wp (valH C d sf):=rfl
theorem lU:ah P F locs0 st (.nilck d x) C sf = (jV (sf.ev F x)).wp (valH C d sf):=rfl
theorem eg (lo hi:Option Opd) (k:Nat):ah P F locs0 st (.sliS d x lo hi k) C sf = (cK (sf.ev F x) (lo.map (sf.ev F)) (hi.map (sf.ev F)) k).wp (valH C d sf):=rfl
theorem je (lo hi:Option Opd):ah P F locs0 st (.sliStr d x lo hi) C sf = (gx (sf.ev F x) (lo.map (sf.ev F)) (hi.map (sf.ev F))).wp (valH C d sf):=rfl
theorem oF (lo hi:Option Opd) (mx:Opd) (k:Nat):ah P F locs0 st (.sli3 d x lo hi mx k) C sf = (pQ (sf.ev F x) (lo.map (sf.ev F)) (hi.map (sf.ev F)) (sf.ev F mx) k).wp (valH C d sf):=rfl
theorem oG (t:Nat):ah P F locs0 st (.mkif d t x) C sf = (pR (sf.ev F x) t).wp (valH C d sf):=rfl
theorem sE (t:Nat):ah P F locs0 st (.tas d t x) C sf = (tasV (sf.ev F x) t).wp (valH C d sf):=rfl
theorem sF (k len:Nat) (z:AV) (parts:List (Nat×Opd)):ah P F locs0 st (.bsl d k len z parts) C sf = (bslV k len z (parts.map fun p=>(p.1,sf.ev F p.2))).wp (valH C d sf):=rfl
theorem sG (places:List (Nat×Nat)) (z:AV) (parts:List (Nat×Opd)):ah P F locs0 st (.bst d places z parts) C sf = (bstV places z (parts.map fun p=>(p.1,sf.ev F p.2))).wp (valH C d sf):=rfl
theorem sH (k:Nat) (z:AV) (parts:List (Nat×Opd)):ah P F locs0 st (.bar d k z parts) C sf = (barV k z (parts.map fun p=>(p.1,sf.ev F p.2))).wp (valH C d sf):=rfl
theorem jf (k:KeyK) (z:AV) (ok:Bool) (mp key:Opd):ah P F locs0 st (.lookup d k z ok mp key) C sf = (fu k z ok st (sf.ev F mp) (sf.ev F key)).wp (valH C d sf):=rfl
theorem oH (g:Nat) (first cap:List Opd):ah P F locs0 st (.mkfn d g first cap) C sf = (nz (F g) (first.map (sf.ev F)) (cap.map (sf.ev F))).wp (valH C d sf):=rfl
theorem eu (k:LenK):ah P F locs0 st (.len d k x) C sf = (lenI k st (sf.ev F x)).wp (valH C d sf):=rfl
theorem hh_mn (lt:Bool):ah P F locs0 st (.mn d lt x y) C sf = (bh lt (sf.ev F x) (sf.ev F y)).wp (valH C d sf):=rfl
theorem sI (k bytes:Nat):ah P F locs0 st (.app d k bytes x y) C sf = (bE st k bytes (sf.ev F x) (sf.ev F y)).wp (valH C d sf):=rfl
theorem gQ (p:Bool) (f:Opd) (args:List Opd):ah P F locs0 st (.call d p f args) C sf = fS P st d (sf.ev F f) (args.map (sf.ev F)) C sf:=rfl
theorem oI (s:Nat) (cs:List AV):ah P F locs0 st (.newL s cs) C sf = C (.new s cs) (sf.set s .any):=rfl
theorem ge (k:Nat):ah P F locs0 st (.store k x y) C sf = bK locs0 x (sf.ev F x) (sf.ev F y) k C sf:=rfl
theorem oJ (d s k bytes:Nat):ah P F locs0 st (.appS d s k bytes y) C sf = fv st d s k bytes (sf.ev F y) C sf (sf.reg s):=rfl
theorem fF (d s k bytes:Nat) (v:AV):fv st d s k bytes v C sf (.lit (.slice none 0 0)) = (bE st k bytes (.lit (.slice none 0 0)) v).wp (valH C (some d) sf):=rfl
theorem fG (d s k bytes k':Nat) (es:List AV) (v:AV):fv st d s k bytes v C sf (.sl true k' es) = (cg st k bytes (.sl true k' es) v).wp (appH C d s sf):=rfl
theorem oK (d s:Nat) (v:AV):appH C d s sf v = C (.app s v) ((sf.disAt s).set d v):=rfl
theorem dA (a:Opd) (s:Nat) (v:AV) (k:Nat):bK locs0 a (.lptr s 0) v k C sf = dx v k s C sf (look s locs0):=rfl
theorem eI (a:Opd) (s o:Nat) (v:AV) (k:Nat):bK locs0 a (.lptr s (o + 1)) v k C sf = cP v k s (o + 1) C sf (look s locs0):=rfl
theorem eh (s off:Nat) (v:AV) (k:Nat) (cs:List AV):cP v k s off C sf (some cs) = (off + k≤cs.length∧v.dis.solid = true∧v.dis.cells.length = k∧C (.store s (aG (cs.map AV.own1) off v.dis.cells)) sf):=rfl
theorem gR (s:Nat) (v:AV) (k:Nat):bK locs0 (.r s) .any v k C sf = (v.dis.solid = true∧v.dis.cells.length = k∧C (.nst s v.dis.cells) sf):=rfl
theorem c9 (s:Nat) (v:AV) (k:Nat) (cs:List AV):dx v k s C sf (some cs) = (cs.length = k∧v.dis.solid = true∧v.dis.cells.length = k∧C (.store s v.dis.cells) sf):=rfl
theorem fk (t:Nat) (want:Bool) (cs:List AV) (Y N:Sf→Prop):bu t want (.tup cs) Y N sf = N sf:=rfl
theorem bq (t:Nat) (want:Bool) (Y N:Sf→Prop):bu t want (.lit (.bool true)) Y N sf = if true = want then Y (sf.set t (.lit (.bool true))) else N (sf.set t (.lit (.bool true))):=by
 unfold bu
 exact propext ⟨fun h=>h true rfl,fun h c e=>by subst e; exact h⟩
theorem bB (t:Nat) (want:Bool) (Y N:Sf→Prop):bu t want (.lit (.bool false)) Y N sf = if false = want then Y (sf.set t (.lit (.bool false))) else N (sf.set t (.lit (.bool false))):=by
 unfold bu
 exact propext ⟨fun h=>h false rfl,fun h c e=>by subst e; exact h⟩
end
def PK.keep:PK→Bool
 | .val _=>false
 | .skip=>false
 | _=>true
theorem bA:∀ ks:List PK,aD (ks.filter PK.keep) = aD ks
 | []=>rfl
 | .val _::r=>bA r
 | .skip::r=>bA r
 | .mk _ _::r=>bA r
 | .hole::r=>bA r
 | .chole _ _::r=>bA r
 | .nst _ _::r=>bA r
 | .new _ _::r=>bA r
 | .app _ _::r=>bA r
 | .store s _::r=>congrArg (s::·) (bA r)
theorem cy:∀ ks:List PK,bz (ks.filter PK.keep) = bz ks
 | []=>rfl
 | .val _::r=>cy r
 | .skip::r=>cy r
 | .mk _ _::r=>cy r
 | .hole::r=>cy r
 | .chole _ _::r=>cy r
 | .nst _ _::r=>cy r
 | .store _ _::r=>cy r
 | .app _ _::r=>cy r
 | .new s _::r=>congrArg (s::·) (cy r)
theorem cz:∀ ks:List PK,bX (ks.filter PK.keep) = bX ks
 | []=>rfl
 | .val _::r=>cz r
 | .skip::r=>cz r
 | .mk _ _::r=>cz r
 | .hole::r=>cz r
 | .chole _ _::r=>cz r
 | .nst _ _::r=>cz r
 | .store _ _::r=>cz r
 | .new _ _::r=>cz r
 | .app s _::r=>congrArg (s::·) (cz r)
theorem cA:∀ (ks:List PK) (sf:Sf),bP (ks.filter PK.keep) sf = bP ks sf
 | [],_=>rfl
 | .val _::r,sf=>cA r sf
 | .skip::r,sf=>cA r sf
 | .mk _ _::r,sf=>cA r sf
 | .hole::r,sf=>cA r sf
 | .chole _ _::r,sf=>cA r sf
 | .nst _ _::r,sf=>cA r sf
 | .new _ _::r,sf=>cA r sf
 | .app _ _::r,sf=>cA r sf
 | .store _ _::r,_=>cA r _
theorem oL (a b c d:Nat):((a,b) == (c,d)) = ((a == c) && (b == d)):=rfl
theorem bO (t:Nat):∀ ks:List PK,bD t (ks.filter PK.keep) = bD t ks
 | []=>rfl
 | .val _::r=>bO t r
 | .skip::r=>bO t r
 | .mk _ _::r=>bO t r
 | .hole::r=>bO t r
 | .chole _ _::r=>bO t r
 | .store _ _::r=>bO t r
 | .app _ _::r=>bO t r
 | .new _ _::r=>bO t r
 | .nst s cs :: r => by
   show (if s = t then some cs else bD t (r.filter PK.keep)) = if s = t then some cs else bD t r
   rw [bO t r]
theorem cB:∀ ks:List PK,bY (ks.filter PK.keep) = bY ks
 | []=>rfl
 | .val _::r=>cB r
 | .skip::r=>cB r
 | .mk _ _::r=>cB r
 | .hole::r=>cB r
 | .chole _ _::r=>cB r
 | .store _ _::r=>cB r
 | .new _ _::r=>cB r
 | .app _ _::r=>cB r
 | .nst s _::r=>congrArg (s::·) (cB r)
theorem cC:∀ (ks:List PK) (seen:List (Nat×Nat)),nstB seen (ks.filter PK.keep) = nstB seen ks
 | [],_=>rfl
 | .val _::r,s=>cC r s
 | .skip::r,s=>cC r s
 | .mk _ _::r,s=>cC r s
 | .hole::r,s=>cC r s
 | .chole _ _::r,s=>cC r s
 | .store _ _::r,s=>cC r s
 | .app _ _::r,s=>cC r s
 | .new _ _::r,s=>cC r _
 | .nst _ _::r,s=>congrArg (_ && ·) (cC r s)
theorem cD (all:List PK):∀ (ks:List PK) (sf:Sf),bk (all.filter PK.keep) (ks.filter PK.keep) sf = bk all ks sf
 | [],_=>rfl
 | .val _::r,sf=>cD all r sf
 | .skip::r,sf=>cD all r sf
 | .mk _ _::r,sf=>cD all r sf
 | .hole::r,sf=>cD all r sf
 | .chole _ _::r,sf=>cD all r sf
 | .store _ _::r,sf=>cD all r sf
 | .app _ _::r,sf=>cD all r sf
 | .nst _ _::r,sf=>cD all r sf
 | .new s cs :: r, sf => by
   show bk (all.filter PK.keep) (r.filter PK.keep) (sf.newLoc s ((bD s (all.filter PK.keep)).getD cs)) = bk all r (sf.newLoc s ((bD s all).getD cs))
   rw [bO,cD all r]
section
variable {P:Program} {F:Nat→FuncId} {m:Bool} {locs0:List (Nat×List AV)} {st st2:St} {drop lv ll:List Nat} {tl:List GI} {Q:Exit→Sf→St→Prop}
theorem tail_keep (ks:List PK) (sf:Sf):cQ P F m drop lv ll tl Q st (ks.filter PK.keep) sf = cQ P F m drop lv ll tl Q st ks sf:=by
 unfold cQ ksB
 rw [bA,cy,cz,cB,cC,cA,cD]
theorem eP:∀ (r:List GI) (ks:List PK) (sf:Sf),ap P F locs0 st r (cQ P F m drop lv ll tl Q st) (ks.filter PK.keep) sf = ap P F locs0 st r (cQ P F m drop lv ll tl Q st) ks sf
 | [],ks,sf=>tail_keep ks sf
 | ⟨g, i⟩ :: r, ks, sf => by
   have h1:e9 (ap P F locs0 st r (cQ P F m drop lv ll tl Q st)) (ks.filter PK.keep) = e9 (ap P F locs0 st r (cQ P F m drop lv ll tl Q st)) ks:=by
    funext k sf
    simp only [e9]
    rw [← eP r (ks++[k]) sf,← eP r (ks.filter PK.keep++[k]) sf]
    simp
   have h2:∀ d,gU (ap P F locs0 st r (cQ P F m drop lv ll tl Q st)) (ks.filter PK.keep) d = gU (ap P F locs0 st r (cQ P F m drop lv ll tl Q st)) ks d:=by
    intro d
    funext sf
    exact congrFun (congrFun h1 .skip) (sf.put d (.tup []))
   cases g with
   | none=>simp only [ap,h1]
   | some g=>obtain ⟨t,w⟩:=g; simp only [ap,h1,h2]
variable (ks:List PK) (sf:Sf) (r:List GI) (v:AV) (d:Option Nat)
theorem cS:e9 (ap P F locs0 st r (cQ P F m drop lv ll tl Q st)) ks (.val v) sf = ap P F locs0 st r (cQ P F m drop lv ll tl Q st) ks sf:=by
 show ap P F locs0 st r _ (ks++[.val v]) sf = _
 exact (eP r (ks++[PK.val v]) sf).symm.trans ((congrArg (fun q=>ap P F locs0 st r (cQ P F m drop lv ll tl Q st) q sf) (by simp [PK.keep])).trans (eP r ks sf))
theorem cE:gU (ap P F locs0 st r (cQ P F m drop lv ll tl Q st)) ks d sf = ap P F locs0 st r (cQ P F m drop lv ll tl Q st) ks (sf.put d (.tup [])):=by
 show ap P F locs0 st r _ (ks++[.skip]) (sf.put d (.tup [])) = _
 exact (eP r (ks++[PK.skip]) _).symm.trans ((congrArg (fun q=>ap P F locs0 st r (cQ P F m drop lv ll tl Q st) q (sf.put d (.tup []))) (by simp [PK.keep])).trans (eP r ks _))
theorem aE:valH (e9 (ap P F locs0 st r (cQ P F m drop lv ll tl Q st)) ks) d sf v = ap P F locs0 st r (cQ P F m drop lv ll tl Q st) ks (sf.put d v):=cS ks (sf.put d v) r v
theorem bg:cQ P F m drop lv ll tl Q st [] sf = runI P F m tl (opsK lv ll Q) sf st:=propext ⟨fun h=>h.2,fun h=>⟨rfl,h⟩⟩
theorem jg (k:PK):cQ P F m drop lv ll tl Q st (k::ks) sf = (ksB drop (k::ks) = true∧runI P F m tl (opsK lv ll Q) (bk (k::ks) (k::ks) (bP (k::ks) sf)) st):=rfl
end
section
variable (H:List PK→Sf→Prop) (ks:List PK) (sf:Sf) (s:Nat) (cs:List AV) (v:AV)
theorem lV:e9 H ks (.new s cs) sf = H (ks++[.new s cs]) sf:=rfl
theorem dZ:e9 H ks (.store s cs) sf = H (ks++[.store s cs]) sf:=rfl
theorem lW:e9 H ks (.nst s cs) sf = H (ks++[.nst s cs]) sf:=rfl
theorem lX:e9 H ks (.app s v) sf = H (ks++[.app s v]) sf:=rfl
end
theorem call_h {P:Program} {d:Option Nat} {q:FuncId} {fs cs args vs:List AV} {sf:Sf} {st:St} {C:PK→Sf→Prop} {v:AV} (hvs:fs++args.map AV.dis++cs = vs) (hent:bt P q = true) (h:aF P q vs st v) (hn:args.all AV.noL = true) (hK:C (.val v) (sf.put d v)):fS P st d (.fn (.func q) fs cs) args C sf:=by
 subst hvs
 exact ⟨hn,hent,v,h,hK⟩
section
variable (P:Program) (F:Nat→FuncId) (L0:List (Nat×List AV)) (ρ:St) (C:PK→Sf→Prop) (sf:Sf) (d:Option Nat) (x y i:Opd) (K:List PK→Sf→Prop) (ks:List PK)
theorem m_nil:preM P F L0 ρ [] K ks sf = K ks sf:=rfl
theorem sJ (i:AI) (r:List GI):preM P F L0 ρ (⟨none,i⟩::r) K ks sf = oneM P F L0 ρ i (cH (preM P F L0 ρ r K) ks) sf:=rfl
theorem sK (t:Nat) (want:Bool) (i:AI) (r:List GI):preM P F L0 ρ (⟨some (t,want),i⟩::r) K ks sf = bu t want (sf.reg t) (oneM P F L0 ρ i (cH (preM P F L0 ρ r K) ks)) (gU (preM P F L0 ρ r K) ks i.dst) sf:=rfl
theorem m_val (v:AV) (r:List GI):valM (cH (preM P F L0 ρ r K) ks) d sf v = preM P F L0 ρ r K (ks++[.val v]) (sf.put d v):=rfl
theorem sL (r:List GI):gU (preM P F L0 ρ r K) ks d sf = preM P F L0 ρ r K (ks++[.skip]) (sf.put d (.tup [])):=rfl
theorem oM (p:Bool) (f:Opd) (args:List Opd):oneM P F L0 ρ (.call d p f args) C sf = rM P ρ d (sf.ev F f) (args.map (sf.ev F)) C sf:=rfl
theorem mm_mv:oneM P F L0 ρ (.mv d x) C sf = valM C d sf (sf.ev F x).dis:=rfl
theorem oN (c a b:Opd):oneM P F L0 ρ (.pick d c a b) C sf = (pickV (sf.ev F c) (sf.ev F a) (sf.ev F b)).wp (valM C d sf):=rfl
theorem sM (k:BinK) (op:BinOp):oneM P F L0 ρ (.bin d k op x y) C sf = (binI k op (sf.ev F x) (sf.ev F y)).wp (valM C d sf):=rfl
theorem mm_un (op:UnOp):oneM P F L0 ρ (.un d op x) C sf = (unA op (sf.ev F x)).wp (valM C d sf):=rfl
theorem oO (k:ConvK):oneM P F L0 ρ (.conv d k x) C sf = (e7 ρ k (sf.ev F x)).wp (valM C d sf):=rfl
theorem sN (j:Nat):oneM P F L0 ρ (.ext d x j) C sf = (extV (sf.ev F x) j).wp (valM C d sf):=rfl
theorem lY (off:Nat) (k:Option Nat):oneM P F L0 ρ (.field d x off k) C sf = (jS (sf.ev F x) off k).wp (valM C d sf):=rfl
theorem oP (off:Nat):oneM P F L0 ρ (.addr d x off) C sf = (addA (sf.ev F x) off).wp (valM C d sf):=rfl
theorem sO (k:Nat):oneM P F L0 ρ (.ixS d x i k) C sf = (ixSV (sf.ev F x) (sf.ev F i) k).wp (valM C d sf):=rfl
theorem sP (n k:Nat):oneM P F L0 ρ (.ixA d x i n k) C sf = ((Fx.ixA (sf.ev F i) n).bind fun j=>addA (sf.ev F x) (j * k)).wp (valM C d sf):=rfl
theorem lZ:oneM P F L0 ρ (.ixStr d x i) C sf = (jT (sf.ev F x) (sf.ev F i)).wp (valM C d sf):=rfl
theorem l0 (n k:Nat) (t:Option Nat):oneM P F L0 ρ (.ixArr d x i n k t) C sf = (jU (sf.ev F x) (sf.ev F i) n k t).wp (valM C d sf):=rfl
theorem oQ (k:Option Nat):oneM P F L0 ρ (.load d x k) C sf = (iv sf ρ (sf.ev F x) k).wp (valM C d sf):=rfl
theorem l3:oneM P F L0 ρ (.nilck d x) C sf = (jV (sf.ev F x)).wp (valM C d sf):=rfl
theorem oR (lo hi:Option Opd) (k:Nat):oneM P F L0 ρ (.sliS d x lo hi k) C sf = (cK (sf.ev F x) (lo.map (sf.ev F)) (hi.map (sf.ev F)) k).wp (valM C d sf):=rfl
theorem jh (lo hi:Option Opd):oneM P F L0 ρ (.sliStr d x lo hi) C sf = (gx (sf.ev F x) (lo.map (sf.ev F)) (hi.map (sf.ev F))).wp (valM C d sf):=rfl
theorem oS (lo hi:Option Opd) (mx:Opd) (k:Nat):oneM P F L0 ρ (.sli3 d x lo hi mx k) C sf = (pQ (sf.ev F x) (lo.map (sf.ev F)) (hi.map (sf.ev F)) (sf.ev F mx) k).wp (valM C d sf):=rfl
theorem oT (t:Nat):oneM P F L0 ρ (.mkif d t x) C sf = (pR (sf.ev F x) t).wp (valM C d sf):=rfl
theorem sQ (t:Nat):oneM P F L0 ρ (.tas d t x) C sf = (tasV (sf.ev F x) t).wp (valM C d sf):=rfl
theorem sR (k len:Nat) (z:AV) (parts:List (Nat×Opd)):oneM P F L0 ρ (.bsl d k len z parts) C sf = (bslV k len z (parts.map fun p=>(p.1,sf.ev F p.2))).wp (valM C d sf):=rfl
theorem sS (places:List (Nat×Nat)) (z:AV) (parts:List (Nat×Opd)):oneM P F L0 ρ (.bst d places z parts) C sf = (bstV places z (parts.map fun p=>(p.1,sf.ev F p.2))).wp (valM C d sf):=rfl
theorem sT (k:Nat) (z:AV) (parts:List (Nat×Opd)):oneM P F L0 ρ (.bar d k z parts) C sf = (barV k z (parts.map fun p=>(p.1,sf.ev F p.2))).wp (valM C d sf):=rfl
theorem ji (k:KeyK) (z:AV) (ok:Bool) (mp key:Opd):oneM P F L0 ρ (.lookup d k z ok mp key) C sf = (fu k z ok ρ (sf.ev F mp) (sf.ev F key)).wp (valM C d sf):=rfl
theorem oU (g:Nat) (first cap:List Opd):oneM P F L0 ρ (.mkfn d g first cap) C sf = (nz (F g) (first.map (sf.ev F)) (cap.map (sf.ev F))).wp (valM C d sf):=rfl
theorem sU (k:LenK):oneM P F L0 ρ (.len d k x) C sf = (lenI k ρ (sf.ev F x)).wp (valM C d sf):=rfl
theorem mm_mn (lt:Bool):oneM P F L0 ρ (.mn d lt x y) C sf = (bh lt (sf.ev F x) (sf.ev F y)).wp (valM C d sf):=rfl
theorem sV (k bytes:Nat):oneM P F L0 ρ (.app d k bytes x y) C sf = (bE ρ k bytes (sf.ev F x) (sf.ev F y)).wp (valM C d sf):=rfl
variable (KH:List PK→Prop) (st:St) (post:List (Bool×GI)) (T:St→Sf→Prop) (T1:Sf→Prop)
theorem sW:aH P F L0 ρ [] KH ks sf = KH ks:=rfl
theorem oV (g:GI) (r:List (Bool×GI)):aH P F L0 ρ ((true,g)::r) KH ks sf = aH P F L0 ρ r KH (ks++[.hole]) (sf.put g.i.dst .any):=by simp only [aH]
theorem oW (i:AI) (r:List (Bool×GI)):aH P F L0 ρ ((false,⟨none,i⟩)::r) KH ks sf = oneM P F L0 ρ i (cH (aH P F L0 ρ r KH) ks) sf:=rfl
theorem oX (t:Nat) (want:Bool) (i:AI) (r:List (Bool×GI)):aH P F L0 ρ ((false,⟨some (t,want),i⟩)::r) KH ks sf = bu t want (sf.reg t) (oneM P F L0 ρ i (cH (aH P F L0 ρ r KH) ks)) (gU (aH P F L0 ρ r KH) ks i.dst) sf:=rfl
theorem sX (v:AV) (r:List (Bool×GI)):valM (cH (aH P F L0 ρ r KH) ks) d sf v = aH P F L0 ρ r KH (ks++[.val v]) (sf.put d v):=rfl
theorem oY (r:List (Bool×GI)):gU (aH P F L0 ρ r KH) ks d sf = aH P F L0 ρ r KH (ks++[.skip]) (sf.put d (.tup [])):=rfl
theorem m_new (s:Nat) (cs:List AV) (r:List GI):cH (preM P F L0 ρ r K) ks (.new s cs) sf = preM P F L0 ρ r K (ks++[.new s cs]) sf:=rfl
theorem m_nst (s:Nat) (cs:List AV) (r:List GI):cH (preM P F L0 ρ r K) ks (.nst s cs) sf = preM P F L0 ρ r K (ks++[.nst s cs]) sf:=rfl
theorem oZ (s:Nat) (cs:List AV) (r:List GI):cH (preM P F L0 ρ r K) ks (.store s cs) sf = preM P F L0 ρ r K (ks++[.store s cs]) sf:=rfl
theorem sY (s:Nat) (cs:List AV) (r:List (Bool×GI)):cH (aH P F L0 ρ r KH) ks (.new s cs) sf = aH P F L0 ρ r KH (ks++[.new s cs]) sf:=rfl
theorem sZ (s:Nat) (cs:List AV) (r:List (Bool×GI)):cH (aH P F L0 ρ r KH) ks (.nst s cs) sf = aH P F L0 ρ r KH (ks++[.nst s cs]) sf:=rfl
theorem l4 (s:Nat) (cs:List AV) (r:List (Bool×GI)):cH (aH P F L0 ρ r KH) ks (.store s cs) sf = aH P F L0 ρ r KH (ks++[.store s cs]) sf:=rfl
theorem o3 (s:Nat) (cs:List AV):oneM P F L0 ρ (.newL s cs) C sf = C (.new s cs) (sf.set s .any):=rfl
theorem l5 (k:Nat):oneM P F L0 ρ (.store k x y) C sf = bK L0 x (sf.ev F x) (sf.ev F y) k C sf:=rfl
variable (drop:List Nat) (ks1:List PK)
theorem s4 (f:Opd) (args:List Opd):atM P F L0 ρ st d f args post drop T ks1 sf = pJ P F L0 ρ st d (sf.ev F f) (args.map (sf.ev F)) post drop T ks1 sf:=rfl
theorem l6 (ksh:List PK):postM post drop ks1 ksh T1 ks sf = (dc post ksh ks∧finK drop T1 (ks1++ks) sf):=rfl
theorem o4:finK drop T1 ks sf = (ksB drop ks = true∧T1 (bk ks ks (bP ks sf))):=rfl
theorem l7 (A:List PK→Prop):holeK drop ks1 A ks = (ksB drop (ks1++ks) = true∧A ks):=rfl
theorem jk:dc [] [] [] = True:=rfl
theorem o5 (g:GI) (r:List (Bool×GI)) (a:PK) (v:AV) (h k:List PK):dc ((true,g)::r) (a::h) (.val v::k) = dc r h k:=rfl
theorem l8 (g:GI) (r:List (Bool×GI)) (a:PK) (h k:List PK):dc ((true,g)::r) (a::h) (.skip::k) = dc r h k:=rfl
theorem l9 (g:GI) (r:List (Bool×GI)) (a:PK) (s:Nat) (cs:List AV) (h k:List PK):dc ((true,g)::r) (a::h) (.nst s cs::k) = dc r h k:=rfl
theorem ma (g:GI) (r:List (Bool×GI)) (a:PK) (s:Nat) (cs:List AV) (h k:List PK):dc ((true,g)::r) (a::h) (.store s cs::k) = dc r h k:=rfl
theorem o6 (g:GI) (r:List (Bool×GI)) (a b:PK) (h k:List PK):dc ((false,g)::r) (a::h) (b::k) = (b = a∧dc r h k):=rfl
theorem mc (m:Bool) (lv ll:List Nat) (tl:List GI) (Q:Exit→Sf→St→Prop):kK P F m lv ll tl Q st sf = runI P F m tl (opsK lv ll Q) sf st:=rfl
end
section
variable {P:Program} {F:Nat→FuncId} {L0:List (Nat×List AV)} {ρ st:St}
theorem s5 {d:Option Nat} {k bytes:Nat} {post:List (Bool×GI)} {drop:List Nat} {T:St→Sf→Prop} {ks1:List PK} {sf:Sf} (b y:Opd):atA P F L0 ρ st d b k bytes y post drop T ks1 sf = appM P F L0 ρ st d k bytes (sf.ev F b) (sf.ev F y) post drop T ks1 sf:=rfl
end
section
variable (P:Program) (F:Nat→FuncId) (L0:List (Nat×List AV)) (st s:St) (d:Option Nat) (f:Opd) (args:List Opd) (pre post:List GI) (T:St→Sf→Prop) (ks:List PK) (sf:Sf) (v:AV)
theorem me:drawC P F pre d f args post sf st T = preM P F sf.locs st pre (atC P F sf.locs st d f args post T) [] sf:=rfl
theorem s6:atC P F L0 st d f args post T ks sf = qV P F L0 st d (sf.ev F f) (args.map (sf.ev F)) post T ks sf:=rfl
theorem o7:endC T s ks sf = (ks.all PK.vs = true∧T s sf):=rfl
theorem s7:PK.vs (.val v) = true:=rfl
theorem o8:PK.vs .skip = true:=rfl
end
section
variable (P:Program) (F:Nat→FuncId) (L0:List (Nat×List AV)) (ρ:St) (C:PK→Sf→Prop) (sf:Sf) (d:Option Nat) (H:List PK→Sf→Prop) (KX:Nat→List PK→Sf→Prop) (ks:List PK) (SS:Nat→St→Prop) (j:Nat)
theorem g_nil:preX P F L0 ρ SS j [] KX ks sf = KX j ks sf:=by simp only [preX]
theorem mf (i:AI) (r:List (Bool×GI)):preX P F L0 ρ SS j ((false,⟨none,i⟩)::r) KX ks sf = oneM P F L0 ρ i (fw (preX P F L0 ρ SS j r KX) ks) sf:=by simp only [preX]
theorem mg (i:AI) (r:List (Bool×GI)):preX P F L0 ρ SS j ((true,⟨none,i⟩)::r) KX ks sf = gW P F ρ SS j i (fw (preX P F L0 ρ SS (j + 1) r KX) ks) sf:=by simp only [preX]
theorem mh (t:Nat) (want:Bool) (i:AI) (r:List (Bool×GI)):preX P F L0 ρ SS j ((false,⟨some (t,want),i⟩)::r) KX ks sf = bu t want (sf.reg t) (oneM P F L0 ρ i (fw (preX P F L0 ρ SS j r KX) ks)) (skipG (preX P F L0 ρ SS j r KX) ks i.dst) sf:=by simp only [preX]
theorem mi (t:Nat) (want:Bool) (i:AI) (r:List (Bool×GI)):preX P F L0 ρ SS j ((true,⟨some (t,want),i⟩)::r) KX ks sf = False:=by simp only [preX]
theorem g_val (v:AV):valM (fw H ks) d sf v = H ks (sf.put d v):=rfl
theorem g_mkv (v:AV):valG ρ (fw H ks) d sf v = H ks (sf.put d v):=rfl
theorem s8:skipG H ks d sf = H ks (sf.put d (.tup [])):=rfl
theorem g_new (s:Nat) (cs:List AV):fw H ks (.new s cs) sf = H (ks++[.new s cs]) sf:=rfl
theorem g_nst (s:Nat) (cs:List AV):fw H ks (.nst s cs) sf = H (ks++[.nst s cs]) sf:=rfl
theorem o9 (s:Nat) (cs:List AV):fw H ks (.store s cs) sf = H (ks++[.store s cs]) sf:=rfl
theorem s9 (p:Bool) (f:Opd) (args:List Opd):gW P F ρ SS j (.call d p f args) C sf = rN P ρ SS j d (sf.ev F f) (args.map (sf.ev F)) C sf:=rfl
theorem g_box (b k:Nat) (x:Opd):gW P F ρ SS j (.boxB b k x) C sf = boxX1 ρ SS j b k (sf.ev F x) C sf:=rfl
theorem ta (b:Nat) (cs:List AV):gW P F ρ SS j (.newB b cs) C sf = newX1 ρ SS j b cs C sf:=rfl
theorem jl (m:Bool) (drop lv ll:List Nat) (tl:List GI) (Q:Exit→Sf→St→Prop):tailX P F m drop lv ll tl Q SS j [] sf = ∀ s,SS j s→runI P F m tl (opsK lv ll Q) sf s:=propext ⟨fun h=>h.2,fun h=>⟨rfl,h⟩⟩
theorem mj (m:Bool) (drop lv ll:List Nat) (tl:List GI) (Q:Exit→Sf→St→Prop) (k:PK):tailX P F m drop lv ll tl Q SS j (k::ks) sf = (ksB drop (k::ks) = true∧∀ s,SS j s→runI P F m tl (opsK lv ll Q) (bk (k::ks) (k::ks) (bP (k::ks) sf)) s):=rfl
end
end Go.Fx
namespace Go.Fx
open Go
theorem tc {k':IntKind} {n:Int}:binI .num .shr (.lit (.int .i64 n)) (.lit (.int k' 8)) = .req true (.ok (.lit (.int .i64 (n / 256)))):=by
 show ((mw .shr .i64 n 8).bind fun v=>Res.ok (AV.lit v)) = _
 have:n.fdiv (2 ^ 8) = n / 256:=Int.fdiv_eq_ediv_of_nonneg n (by decide)
 rw [← this]; rfl
theorem td {k':IntKind} {n:Int}:binI .num .shl (.lit (.int .i64 n)) (.lit (.int k' 8)) = .req true (.ok (.lit (.int .i64 (IntKind.i64.wrap (n * 256))))):=rfl
theorem te (x:UInt8):IntKind.i64.wrap (x.toNat:Int) = x.toNat:=IntWalk.i64_in _ (by have:=x.toNat_lt; omega)
theorem pa (x:UInt8):IntKind.i64.wrap ((x.toNat:Int) * 256) = x.toNat * 256:=IntWalk.i64_in _ (by have:=x.toNat_lt; omega)
theorem or_nat (a b:Nat) (ha:a < 65536) (hb:b < 256):(BitVec.ofInt 64 ((a:Int) * 256) ||| BitVec.ofInt 64 (b:Int)).toNat = a * 256 + b:=by
 have e:(a:Int) * 256 = ((a * 256:Nat):Int):=by omega
 rw [e,BitVec.toNat_or,BitVec.ofInt_natCast,BitVec.ofInt_natCast,BitVec.toNat_ofNat,BitVec.toNat_ofNat,Nat.mod_eq_of_lt (by omega),Nat.mod_eq_of_lt (by omega)]
 have h:=Nat.shiftLeft_add_eq_or_of_lt (i:=8) hb a
 rw [Nat.shiftLeft_eq] at h
 exact h.symm
theorem n_or8 (x y:UInt8):binI .num .or (.lit (.int .i64 ((x.toNat:Int) * 256))) (.lit (.int .i64 (y.toNat:Int))) = .ok (.lit (.int .i64 ((256 * x.toNat + y.toNat:Nat):Int))):=by
 have h:=or_nat x.toNat y.toNat (by have:=x.toNat_lt; omega) y.toNat_lt
 have e:IntKind.i64.wrap ((BitVec.ofInt 64 ((x.toNat:Int) * 256) ||| BitVec.ofInt 64 (y.toNat:Int)).toNat:Int) = ((256 * x.toNat + y.toNat:Nat):Int):=by
  rw [h,IntWalk.i64_in _ (by have:=x.toNat_lt; have:=y.toNat_lt; omega)]
  omega
 rw [← e]; rfl
theorem gS (st:St) (o:Bool) (k:Nat) (es:List AV):lenI .sl st (.sl o k es) = .ok (.lit (.int .i64 es.length)):=rfl
theorem jm (st:St):lenI .sl st (.lit (.slice none 0 0)) = .ok (.lit (.int .i64 0)):=rfl
theorem tf (st:St) (q k o n c:Nat):lenI .sl st (.bs q k o n c) = .ok (.lit (.int .i64 n)):=rfl
theorem da {P:Program} {F:Nat→FuncId} {m:Bool} {b:AC} {lv ll:List Nat} {Q:Exit→Sf→St→Prop} {A:Type} (μ:A→Nat) (S:A→Sf) (T:A→St) (I:A→Prop) (a0:A) {sf:Sf} {st:St} (h0:I a0) (hs:Sf.le (sf.mask lv ll) (S a0)) (ht:st = T a0)
  (step:∀ a,I a→∀ K:Exit→Sf→St→Prop,(∀ a' sf',I a'→μ a' < μ a→Sf.le (sf'.mask lv ll) (S a')→K .normal sf' (T a'))→(∀ id sf st,Q (.exit id) sf st→K (.exit id) sf st)→(∀ sf st,Q .ret sf st→K .ret sf st)→aC P F m b (S a) (T a) K):am (aC P F m b) lv ll sf st Q :=
 loop_for μ S T I a0 h0 hs ht fun a ha=>step a ha _ (fun a' _ h1 h2 h3=>⟨a',⟨h1,h2⟩,h3,rfl⟩) (fun _ _ _ h=>h) (fun _ _ h=>h)
theorem cT {p:Prop} [Decidable p] (h:p) {t:Nat} {want:Bool} {Y N:Sf→Prop} {sf:Sf}:bu t want (.lit (.bool (decide p))) Y N sf = if true = want then Y (sf.set t (.lit (.bool true))) else N (sf.set t (.lit (.bool true))):=by
 rw [decide_eq_true h,bq]
theorem d4 {p:Prop} [Decidable p] (h:¬ p) {t:Nat} {want:Bool} {Y N:Sf→Prop} {sf:Sf}:bu t want (.lit (.bool (decide p))) Y N sf = if false = want then Y (sf.set t (.lit (.bool false))) else N (sf.set t (.lit (.bool false))):=by
 rw [decide_eq_false h,bB]
theorem d5 {P:Program} {X:Cx} {f:FuncId} {fn:AFun} {vs:List AV} {st:St} (hmix:P.follows .mixedOrders = true) (hf:jF P X f = some fn) (hX:X.F = id) (hlen:Nat.ble vs.length fn.n = true) {K:AV→St→Prop} (h:∀ Q:AV→St→Prop,(∀ v st',K v st'→Q v st')→aFun P id false fn vs st Q):aX P f vs st K :=
 acalls_id hmix hf hX hlen (h K fun _ _ h=>h)
end Go.Fx
namespace Go.Fx
open Go
def MB (v:AV) (st:St) (l:List AV):Prop:=(v = .lit (.slice none 0 0)∧l = [])∨∃ id cap r,v = .bs id 1 0 l.length cap∧st.get id = some (l++r)∧l.length≤cap∧cap≤(l++r).length
def Kept (st st':St) (v:AV):Prop:=st.boxes.length≤st'.boxes.length∧∀ id cs,st.get id = some cs→(∀ k o l c,v≠.bs id k o l c)→st'.get id = some cs
theorem Kept.refl (st:St) (v:AV):Kept st st v:=⟨Nat.le_refl _,fun _ _ h _=>h⟩
def NBs (st:St):Prop:=∀ id cs,st.get id = some cs→∀ c ∈ cs,c.NB
theorem NBs.nil:NBs ⟨[]⟩:=fun id cs h=>by simp [St.get] at h
theorem NBs.push {st:St} {cs:List AV} (h:NBs st) (hc:∀ c ∈ cs,c.NB):NBs (st.push (.cells cs)):=by
 intro id ds hg
 by_cases e:id < st.boxes.length
 ·rw [cu e] at hg
  exact h id ds hg
 ·by_cases e2:id = st.boxes.length
  ·subst e2
   rw [ca] at hg
   cases hg
   exact hc
  ·have:=gK hg
   rw [fi] at this
   omega
theorem NBs.set {st:St} {id:Nat} {cs:List AV} (h:NBs st) (hid:id < st.boxes.length) (hc:∀ c ∈ cs,c.NB):NBs (st.set id cs):=by
 intro id' ds hg
 by_cases e:id = id'
 ·subst e
  rw [eG hid] at hg
  cases hg
  exact hc
 ·rw [qf e] at hg
  exact h id' ds hg
theorem MB.app {v:AV} {st:St} {l new:List AV} {bytes:Nat} {C:AV→St→Prop} (h:MB v st l) (hl:Lits l) (hn:Lits new) (hr:fM (l.length + new.length) bytes = true)
  (hC:∀ v' st',MB v' st' (l++new)→Kept st st' v→(NBs st→NBs st')→C v' st'):appX false 1 bytes v C st new:=by
 rcases h with ⟨rfl,rfl⟩ | ⟨id,cap,r,rfl,hg,h1,h2⟩
 ·refine ⟨rfl,by simpa using hr,?_⟩
  split
  ·rename_i h
   have:new = []:=by simpa using h
   subst this
   exact hC _ _ (.inl ⟨rfl,rfl⟩) (Kept.refl _ _) id
  ·intro c hc
   refine hC _ _ (.inr ⟨st.boxes.length,c,List.replicate (c - new.length) .any,by simp,?_,by simpa using hc,by simp; omega⟩) ⟨by simp [St.push],fun id cs hg _=>by rw [cu (gK hg)]; exact hg⟩ (fun h=>h.push fun x hx=>?_)
   ·rw [hn.cellsD]
    simp only [List.nil_append,Nat.mul_one]
    exact ca st _
   ·rw [hn.cellsD] at hx
    simp only [List.nil_append,Nat.mul_one,List.mem_append] at hx
    rcases hx with hx | hx
    ·exact hn.nb x hx
    ·rw [List.eq_of_mem_replicate hx]; exact .any
 ·refine ⟨rfl,rfl,hr,?_⟩
  rw [hg]
  show (Res.ok _).wp _
  rw [wp_ok,hn.cellsD]
  have hid:=gK hg
  split
  ·rename_i hc
   refine ⟨by omega,hC _ _ (.inr ⟨id,cap,r.drop new.length,by simp,?_,by simpa using hc,?_⟩) ⟨by simp [St.set],fun id' cs hg' hne=>?_⟩ (fun h=>h.set hid ?_)⟩
   ·rw [eG hid,Nat.zero_add,Nat.mul_one,qe rfl (by simp at h2; omega)]
    simp
   ·simp at h2 ⊢; omega
   ·rw [qf (fun e=>hne _ _ _ _ (by rw [e])),hg']
   ·rw [Nat.zero_add,Nat.mul_one,qe rfl (by simp at h2; omega)]
    have h3:=h id _ hg
    intro x hx
    simp only [List.mem_append] at hx
    rcases hx with hx | hx | hx
    ·exact hl.nb x hx
    ·exact hn.nb x hx
    ·exact h3 x (List.mem_append_right _ (List.mem_of_mem_drop hx))
  ·rename_i hc
   have e:List.map AV.own1 (List.take (l.length * 1) (List.drop 0 (l++r))) = l:=by simp [hl.own]
   refine ⟨by simp,fun c hc=>hC _ _ (.inr ⟨st.boxes.length,c,List.replicate (c - (l.length + new.length)) .any,by simp,?_,by simpa using hc,by simp; omega⟩) ⟨by simp [St.push],fun id' cs hg' _=>by rw [cu (gK hg')]; exact hg'⟩ (fun h=>h.push fun x hx=>?_)⟩
   ·rw [e]
    simp only [Nat.mul_one]
    exact ca st _
   ·rw [e] at hx
    simp only [List.mem_append] at hx
    rcases hx with (hx | hx) | hx
    ·exact hl.nb x hx
    ·exact hn.nb x hx
    ·rw [List.eq_of_mem_replicate hx]; exact .any
end Go.Fx
namespace Go.Fx
open Go
def litB1:AV→Bool
 | .lit _=>true
 | _=>false
end Go.Fx
namespace Go.Fx
open Go
section
variable {β:Type}
def iB (t:Int):List (Int×β)→Nat→Option (Nat×β)
 | [],_=>none
 | (k,b)::r,i=>if t = k then some (i,b) else iB t r (i + 1)
def ce (t:Int):List (Int×β)→Option β
 | []=>none
 | (k,b)::r=>if t = k then some b else ce t r
def updP (t:Int) (b:β):List (Int×β)→List (Int×β)
 | []=>[(t,b)]
 | (k,c)::r=>if t = k then (t,b)::r else (k,c)::updP t b r
def delP (t:Int):List (Int×β)→List (Int×β)
 | []=>[]
 | (k,c)::r=>if t = k then r else (k,c)::delP t r
def ez (m:List (Int×β)):List Int:=m.map Prod.fst
theorem gT (t:Int):∀ (m:List (Int×β)) (i:Nat),(iB t m i).map Prod.snd = ce t m
 | [],_=>rfl
 | (k, b) :: r, i => by
   simp only [iB,ce]; split; · rfl
   ·exact gT t r (i + 1)
theorem rn {γ:Type} (e:Int×β→γ) (t:Int) (b:β):∀ (m:List (Int×β)) (i:Nat),match iB t m i with
  | some (j,_)=>i≤j∧(m.map e).set (j - i) (e (t,b)) = (updP t b m).map e∧(m.map e).eraseIdx (j - i) = (delP t m).map e∧j - i < m.length
  | none=>m.map e++[e (t,b)] = (updP t b m).map e∧delP t m = m
 | [],_=>by simp [iB,updP,delP]
 | (k, c) :: r, i => by
   simp only [iB]
   by_cases h:t = k
   ·subst h
    simp [updP,delP]
   ·rw [if_neg h]
    have ih:=rn e t b r (i + 1)
    cases hf:iB t r (i + 1) with
    | none=>rw [hf] at ih; simp only at ih; simp [updP,delP,h,ih.1,ih.2]
    | some p =>
      obtain ⟨j,c'⟩:=p
      rw [hf] at ih
      simp only at ih ⊢
      obtain ⟨h1,h2,h3,h4⟩:=ih
      obtain ⟨q,rfl⟩:∃ q,j = i + 1 + q:=⟨j - (i + 1),by omega⟩
      rw [show i + 1 + q - (i + 1) = q by omega] at h2 h3 h4
      rw [show i + 1 + q - i = q + 1 by omega]
      refine ⟨by omega,?_,?_,by simp; omega⟩
      ·simp [updP,h,h2]
      ·simp [delP,h,h3]
theorem look_upd (t t':Int) (b:β):∀ m:List (Int×β),ce t' (updP t b m) = if t' = t then some b else ce t' m
 | []=>by simp only [updP,ce]
 | (k, c) :: r => by
   simp only [updP]
   by_cases h:t = k
   ·subst h
    rw [if_pos rfl]
    simp only [ce]
    split <;> rfl
   ·rw [if_neg h]
    simp only [ce]
    rw [look_upd t t' b r]
    by_cases h1:t' = k
    ·subst h1
     have:¬ t' = t:=fun e=>h e.symm
     simp [this]
    ·simp [h1]
theorem tg (t:Int) (b:β):∀ m:List (Int×β),(updP t b m).length = if (ce t m).isSome then m.length else m.length + 1
 | []=>by simp [updP,ce]
 | (k, c) :: r => by
   simp only [updP,ce]
   by_cases h:t = k
   ·simp [h]
   ·simp only [if_neg h,List.length_cons,tg t b r]
    split <;> rfl
theorem keys_upd (t:Int) (b:β):∀ m:List (Int×β),ez (updP t b m) = if (ce t m).isSome then ez m else ez m++[t]
 | []=>by simp [updP,ce,ez]
 | (k, c) :: r => by
   simp only [updP,ce]
   by_cases h:t = k
   ·simp [h,ez]
   ·have:=keys_upd t b r
    simp only [ez] at this
    simp only [if_neg h,ez,List.map_cons,this]
    split <;> rfl
theorem ro {t:Int} {b:β} {m:List (Int×β)} (h:(ez m).Nodup):(ez (updP t b m)).Nodup:=by
 rw [keys_upd]
 split
 ·exact h
 ·rename_i hs
  refine List.nodup_append.2 ⟨h,by simp,?_⟩
  intro x hx y hy
  simp only [List.mem_singleton] at hy
  subst hy
  rintro rfl
  have:∀ m:List (Int×β),x ∈ ez m→(ce x m).isSome = true:=by
   intro m
   induction m with
   | nil=>intro h; simp [ez] at h
   | cons p r ih =>
     obtain ⟨k,c⟩:=p
     intro h
     simp only [ez,List.map_cons,List.mem_cons] at h
     simp only [ce]
     split
     ·rfl
     ·rename_i hne
      rcases h with h | h
      ·exact absurd h hne
      ·exact ih h
  exact hs (this m hx)
def encE (k:IntKind) (ev:β→AV) (p:Int×β):AV×AV:=(.lit (.int k p.1),ev p.2)
def encM (k:IntKind) (ev:β→AV) (m:List (Int×β)):List (AV×AV):=m.map (encE k ev)
theorem na (k:IntKind) (ev:β→AV) (t:Int):∀ (m:List (Int×β)) (i:Nat),bU (.lit (.int k t)) (encM k ev m) i = .ok ((iB t m i).map fun p=>(p.1,ev p.2))
 | [],_=>rfl
 | (q, b) :: r, i => by
   have ih:=na k ev t r (i + 1)
   simp only [encM,List.map_cons,encE,bU,bS,if_true,iB] at ih ⊢
   by_cases h:t = q
   ·subst h; simp
   ·have:(t == q) = false:=by simpa using h
    simp only [this,if_neg h,Bool.false_eq_true,if_false]
    exact ih
end
section
variable {st st':St} {id q:Nat}
theorem getM_lt {es:List (AV×AV)} (h:st.getM id = some es):id < st.boxes.length:=by
 unfold St.getM at h
 split at h
 ·rename_i hb
  exact (List.getElem?_eq_some_iff.1 hb).1
 ·cases h
theorem get_at (h:st'.boxes[id]? = st.boxes[id]?):st'.get id = st.get id:=by unfold St.get; rw [h]
theorem getM_at (h:st'.boxes[id]? = st.boxes[id]?):st'.getM id = st.getM id:=by unfold St.getM; rw [h]
theorem getB_at (h:st'.boxes[id]? = st.boxes[id]?):st'.getB id = st.getB id:=by unfold St.getB; rw [h]
theorem th {cs:List AV} (h:id≠q):(st.set q cs).boxes[id]? = st.boxes[id]?:=by simp [St.set,List.getElem?_set_ne (fun e=>h e.symm)]
theorem setM_at {es:List (AV×AV)} {bs:List Nat} {c:Nat} (h:id≠q):(st.setM q es bs c).boxes[id]? = st.boxes[id]?:=by simp [St.setM,List.getElem?_set_ne (fun e=>h e.symm)]
theorem push_at {b:Box} (h:id < st.boxes.length):(st.push b).boxes[id]? = st.boxes[id]?:=by simp [St.push,List.getElem?_append_left h]
theorem rp {es:List (AV×AV)} {bs:List Nat} {c:Nat} (h:id < st.boxes.length):(st.setM id es bs c).getM id = some es:=by simp [St.setM,St.getM,h]
theorem eQ {es:List (AV×AV)} {bs:List Nat} {c:Nat} (h:id < st.boxes.length):(st.setM id es bs c).getB id = (bs,c):=by simp [St.setM,St.getB,h]
theorem get_mt {es:List (AV×AV)} (h:st.getM id = some es):st.get id = none:=by
 unfold St.getM at h; unfold St.get
 split at h
 ·rename_i hb; simp [hb]
 ·cases h
end
def Oth (st st':St) (S:List Nat):Prop:=st'.boxes.length = st.boxes.length∧∀ id,id ∉ S→st'.boxes[id]? = st.boxes[id]?
theorem Oth.set (st:St) (q:Nat) (cs:List AV) {S:List Nat} (h:q ∈ S):Oth st (st.set q cs) S:=⟨i6 ..,fun id hid=>th fun e=>hid (e ▸ h)⟩
section
variable {β:Type}
structure MapIs (st:St) (id:Nat) (k:IntKind) (ev:β→AV) (m:List (Int×β)):Prop where
 get:st.getM id = some (encM k ev m)
 nd:(ez m).Nodup
 bl:(st.getB id).1.length = m.length
 bn:(st.getB id).1.Nodup
 bc:∀ b ∈ (st.getB id).1,b < (st.getB id).2
variable {st st':St} {id:Nat} {k:IntKind} {ev:β→AV} {m:List (Int×β)}
theorem MapIs.lt (h:MapIs st id k ev m):id < st.boxes.length:=getM_lt h.get
theorem MapIs.at (h:MapIs st id k ev m) (hb:st'.boxes[id]? = st.boxes[id]?):MapIs st' id k ev m:=by
 refine ⟨(getM_at hb).trans h.get,h.nd,?_,?_,?_⟩ <;> rw [getB_at hb]
 ·exact h.bl
 ·exact h.bn
 ·exact h.bc
theorem MapIs.ne (h:MapIs st id k ev m) {q:Nat} {cs:List AV} (hq:st.get q = some cs):id≠q:=by
 rintro rfl
 rw [get_mt h.get] at hq; cases hq
theorem lookI_enc (h:MapIs st id k ev m) {z:AV} {ok:Bool} {t:Int}:fu (.int k) z ok st (.map id) (.lit (.int k t)) = .ok (match ce t m with
  | some b=>if ok then .tup [(ev b).dis,.lit (.bool true)] else (ev b).dis
  | none=>if ok then .tup [z,.lit (.bool false)] else z):=by
 have hk:keyI (.int k) (.lit (.int k t)) = true:=by simp [keyI]
 unfold fu
 rw [if_pos hk]
 simp only [h.get,Res.ofOpt,Res.bind,na]
 rw [← gT t m 0]
 cases iB t m 0 <;> rfl
theorem upd_step (h:MapIs st id k ev m) {t:Int} {b:β} {x:AV} (hx:x.solid = true) (hd:x.dis = ev b) {K:Sf→St→Prop} {sf:Sf}
  (hK:∀ st',MapIs st' id k ev (updP t b m)→Oth st st' [id]→K sf st'):updX false (.int k) (.map id) (.lit (.int k t)) x K sf st:=by
 refine ⟨by simp [keyI],rfl,hx,?_⟩
 have hlt:=h.lt
 simp only [h.get,Res.ofOpt,Res.wp,na,hd]
 have hu:=rn (encE k ev) t b m 0
 cases hf:iB t m 0 with
 | none =>
   rw [hf] at hu
   simp only [Option.map_none,St.updM,updA]
   have hno:ce t m = none:=by rw [← gT t m 0,hf]; rfl
   refine hK _ ⟨?_,ro h.nd,?_,?_,?_⟩ ⟨by simp [St.setM],fun q hq=>setM_at (by simpa using hq)⟩
   ·rw [rp hlt]; exact congrArg some hu.1
   ·rw [eQ hlt,tg,hno]; simp [h.bl]
   ·rw [eQ hlt]
    refine List.nodup_append.2 ⟨h.bn,by simp,fun x hx y hy e=>?_⟩
    simp only [List.mem_singleton] at hy
    subst hy; subst e
    exact Nat.lt_irrefl _ (h.bc _ hx)
   ·rw [eQ hlt]
    intro b hb
    simp only [List.mem_append,List.mem_singleton] at hb
    rcases hb with hb | rfl
    ·have:=h.bc b hb; simp only; omega
    ·simp
 | some p =>
   obtain ⟨j,c⟩:=p
   rw [hf] at hu
   simp only [Nat.sub_zero] at hu
   simp only [Option.map_some,St.updM,updA]
   have hyes:(ce t m).isSome = true:=by rw [← gT t m 0,hf]; rfl
   refine hK _ ⟨?_,ro h.nd,?_,?_,?_⟩ ⟨by simp [St.setM],fun q hq=>setM_at (by simpa using hq)⟩
   ·rw [rp hlt]; exact congrArg some hu.2.1
   ·rw [eQ hlt,tg,if_pos hyes]; exact h.bl
   ·rw [eQ hlt]; exact h.bn
   ·rw [eQ hlt]; exact h.bc
theorem MapIs.new (st:St) (k:IntKind) (ev:β→AV):MapIs (st.push (.mp [] [] 0)) st.boxes.length k ev []:=by
 refine ⟨f9 ..,by simp [ez],?_,?_,?_⟩ <;> rw [ga] <;> simp
end
theorem aV {P:Program} {X:Cx} {f:FuncId} {fn:AFun} {vs:List AV} {st:St} (hmix:P.follows .mixedOrders = true) (hf:jF P X f = some fn) (hX:X.F = id) (hlen:Nat.ble vs.length fn.n = true) {v0:AV} (h:∀ Q:AV→St→Prop,(∀ st',Q v0 st')→aFun P id true fn vs st Q):aF P f vs st v0:=by
 refine pcalls_of hmix hf (Nat.le_of_ble_eq_true hlen) ?_
 rw [hX]; exact h _ fun _=>rfl
end Go.Fx
namespace Go.Fx
open Go
abbrev Nd:=Int×Nat×Nat
abbrev Qu:=List (Nat×Int)
def nxtOf:Qu→Nat→Nat
 | [],h=>h
 | (x,_)::_,_=>x
def ml:Nat→Qu→Nat
 | p,[]=>p
 | _,(t,_)::r=>ml t r
def nodeA:Nat→Qu→Nat→Nat→Option Nd
 | _,[],_,_=>none
 | p,(u,v)::r,h,t=>if t = u then some (v,p,nxtOf r h) else nodeA u r h t
def iC (L:Qu):List Nat:=L.map Prod.fst
theorem last_mem:∀ {L:Qu} {p:Nat},L≠[]→ml p L ∈ iC L
 | [(t,v)],p,_=>by simp [ml,iC]
 | (t, v) :: y :: r, p, _ => by
   have:=last_mem (L:=y::r) (p:=t) (by simp)
   simp only [ml,iC,List.map_cons,List.mem_cons] at this ⊢
   exact .inr this
theorem last_app (B:Qu):∀ (A:Qu) (p:Nat),ml p (A++B) = ml (ml p A) B
 | [],_=>rfl
 | (t,v)::A,p=>last_app B A t
def ndAV (x:Nd):AV:=.agg [.lit (.int .i64 x.1),.lit (.int .u64 (x.2.1:Nat)),.lit (.int .u64 (x.2.2:Nat))]
structure QIs (st:St) (q mid:Nat) (L:Qu) (g:Nat):Prop where
 get:st.get q = some [.lit (.int .u64 (nxtOf L 0:Nat)),.lit (.int .u64 (ml 0 L:Nat)),.lit (.int .u64 (g:Nat)),.map mid]
 mp:∃ m,MapIs st mid .u64 ndAV m∧(∀ t:Nat,ce t m = nodeA 0 L 0 t)∧m.length = L.length
 srt:(iC L).Pairwise (· < ·)
 pos:∀ t ∈ iC L,0 < t∧t≤g
theorem QIs.ltq {st:St} {q mid g:Nat} {L:Qu} (h:QIs st q mid L g):q < st.boxes.length:=gK h.get
theorem QIs.ltm {st:St} {q mid g:Nat} {L:Qu} (h:QIs st q mid L g):mid < st.boxes.length:=by
 obtain ⟨m,hm,_⟩:=h.mp
 exact hm.lt
theorem QIs.at {st st':St} {q mid g:Nat} {L:Qu} (h:QIs st q mid L g) (h1:st'.boxes[q]? = st.boxes[q]?) (h2:st'.boxes[mid]? = st.boxes[mid]?):QIs st' q mid L g:=by
 obtain ⟨m,hm,h3,h4⟩:=h.mp
 exact ⟨(get_at h1).trans h.get,⟨m,hm.at h2,h3,h4⟩,h.srt,h.pos⟩
theorem ticks_app (A B:Qu):iC (A++B) = iC A++iC B:=by simp [iC]
theorem QIs.del {st st':St} {q mid g:Nat} {A B:Qu} {t:Nat} {v:Int} (h:QIs st q mid (A++(t,v)::B) g) {m':List (Int×Nd)} (hg:st'.get q = some [.lit (.int .u64 (nxtOf (A++B) 0:Nat)),.lit (.int .u64 (ml 0 (A++B):Nat)),.lit (.int .u64 (g:Nat)),.map mid])
  (hm:MapIs st' mid .u64 ndAV m') (hl:∀ t:Nat,ce t m' = nodeA 0 (A++B) 0 t) (hn:m'.length = (A++B).length):QIs st' q mid (A++B) g:=by
 have hsub:(iC (A++B)).Sublist (iC (A++(t,v)::B)):=by
  simp only [ticks_app]
  exact List.Sublist.append (List.Sublist.refl _) (List.sublist_cons_self _ _)
 exact ⟨hg,⟨m',hm,hl,hn⟩,h.srt.sublist hsub,fun x hx=>h.pos x (hsub.subset hx)⟩
end Go.Fx
namespace Go.Fx
open Go
abbrev W3:=Nat×Int×Int
structure ChP where
 closed:Bool
 cap:Nat
 buf:List Int
 S:List W3
 V:List W3
 g0:Nat
 g1:Nat
def qOf (l:List W3):Qu:=l.map fun x=>(x.1,x.2.1)
def wEnt (d:Int) (l:List W3):List (Int×(Int×Int×Nat)):=l.map fun x=>(x.2.1,(d,x.2.2,x.1))
def entC (S V:List W3):List (Int×(Int×Int×Nat)):=wEnt 0 S++wEnt 1 V
def wtAV (x:Int×Int×Nat):AV:=.agg [.lit (.int .i64 x.1),.lit (.int .i64 x.2.1),.lit (.int .u64 (x.2.2:Nat))]
def ints (l:List Int):List AV:=l.map fun v=>.lit (.int .i64 v)
def bF:AV→List Nat
 | .bs id _ _ _ _=>[id]
 | _=>[]
structure ChIs (st:St) (c:Nat) (P:ChP) (q0 m0 q1 m1 wid:Nat) (bv:AV):Prop where
 get:st.get c = some [.lit (.bool true),.lit (.bool P.closed),.lit (.int .i64 (P.cap:Nat)),bv,.ptr q0 0,.ptr q1 0,.map wid]
 buf:MB bv st (ints P.buf)
 s:QIs st q0 m0 (qOf P.S) P.g0
 r:QIs st q1 m1 (qOf P.V) P.g1
 w:∃ W,MapIs st wid .i64 wtAV W∧∀ t,ce t W = ce t (entC P.S P.V)
 ids:[c,q0,q1,m0,m1,wid].Nodup
 bid:∀ x ∈ bF bv,x ∉ [c,q0,q1,m0,m1,wid]
 nd:(ez (entC P.S P.V)).Nodup
 rng:∀ t ∈ ez (entC P.S P.V),0≤t∧t < 64
 zv:∀ x ∈ P.V,x.2.2 = 0
def Kp (st st':St) (F:List Nat):Prop:=st.boxes.length≤st'.boxes.length∧∀ id,id < st.boxes.length→id ∉ F→st'.boxes[id]? = st.boxes[id]?
theorem Kp.refl (st:St) (F:List Nat):Kp st st F:=⟨Nat.le_refl _,fun _ _ _=>rfl⟩
theorem Oth.kp {st st':St} {S F:List Nat} (h:Oth st st' S) (hs:∀ x ∈ S,x ∈ F):Kp st st' F:=⟨Nat.le_of_eq h.1.symm,fun id _ hn=>h.2 id fun e=>hn (hs id e)⟩
theorem MB.at {v:AV} {st st':St} {l:List AV} (h:MB v st l) (hb:∀ x ∈ bF v,st'.boxes[x]? = st.boxes[x]?):MB v st' l:=by
 rcases h with ⟨rfl,rfl⟩ | ⟨id,cap,r,rfl,hg,h1,h2⟩
 ·exact .inl ⟨rfl,rfl⟩
 ·exact .inr ⟨id,cap,r,rfl,(get_at (hb id (by simp [bF]))).trans hg,h1,h2⟩
theorem MB.lt {v:AV} {st:St} {l:List AV} (h:MB v st l):∀ x ∈ bF v,x < st.boxes.length:=by
 rcases h with ⟨rfl,rfl⟩ | ⟨id,cap,r,rfl,hg,h1,h2⟩
 ·simp [bF]
 ·intro x hx
  simp only [bF,List.mem_singleton] at hx
  subst hx
  exact gK hg
section
variable {st st':St} {c q0 m0 q1 m1 wid:Nat} {bv:AV} {P:ChP}
theorem ChIs.lts (h:ChIs st c P q0 m0 q1 m1 wid bv):∀ x ∈ [c,q0,q1,m0,m1,wid]++bF bv,x < st.boxes.length:=by
 obtain ⟨W,hW,_⟩:=h.w
 intro x hx
 simp only [List.mem_append,List.mem_cons,List.not_mem_nil,or_false] at hx
 rcases hx with (rfl | rfl | rfl | rfl | rfl | rfl) | hx
 ·exact gK h.get
 ·exact h.s.ltq
 ·exact h.r.ltq
 ·exact h.s.ltm
 ·exact h.r.ltm
 ·exact hW.lt
 ·exact h.buf.lt x hx
end
def foot (c q0 m0 q1 m1 wid:Nat) (bv:AV):List Nat:=[c,q0,q1,m0,m1,wid]++bF bv
def ChPost (st:St) (c:Nat) (P:ChP) (q0 m0 q1 m1 wid:Nat) (bv:AV) (st':St):Prop :=
 ∃ bv',ChIs st' c P q0 m0 q1 m1 wid bv'∧Kp st st' (foot c q0 m0 q1 m1 wid bv)∧∀ x ∈ bF bv',x ∈ bF bv∨st.boxes.length≤x
theorem ChIs.post {st st':St} {c q0 m0 q1 m1 wid:Nat} {bv:AV} {P:ChP} (h:ChIs st' c P q0 m0 q1 m1 wid bv) (hk:Kp st st' (foot c q0 m0 q1 m1 wid bv)):ChPost st c P q0 m0 q1 m1 wid bv st':=⟨bv,h,hk,fun _ h=>.inl h⟩
theorem ChIs.rebufC {st st1:St} {c q0 m0 q1 m1 wid:Nat} {bv bv1:AV} {P:ChP} {cl:Bool} {b':List Int} (h:ChIs st c P q0 m0 q1 m1 wid bv) (hm:MB bv1 st1 (ints b')) (hk:Kp st st1 (bF bv)) (hb:∀ x ∈ bF bv1,x ∈ bF bv∨st.boxes.length≤x) :
  ChIs (st1.set c [.lit (.bool true),.lit (.bool cl),.lit (.int .i64 (P.cap:Nat)),bv1,.ptr q0 0,.ptr q1 0,.map wid]) c { P with buf:=b',closed:=cl } q0 m0 q1 m1 wid bv1 ∧
  Kp st (st1.set c [.lit (.bool true),.lit (.bool cl),.lit (.int .i64 (P.cap:Nat)),bv1,.ptr q0 0,.ptr q1 0,.map wid]) (foot c q0 m0 q1 m1 wid bv):=by
 have hlt:=h.lts
 have hids:=h.ids
 have hbid:=h.bid
 have hcl:c < st1.boxes.length:=Nat.lt_of_lt_of_le (hlt c (by simp)) hk.1
 simp only [List.nodup_cons,List.mem_cons,List.not_mem_nil,or_false,not_or] at hids
 have hat:∀ x ∈ [q0,q1,m0,m1,wid],(st1.set c [.lit (.bool true),.lit (.bool cl),.lit (.int .i64 (P.cap:Nat)),bv1,.ptr q0 0,.ptr q1 0,.map wid]).boxes[x]? = st.boxes[x]?:=by
  intro x hx
  rw [th (by simp at hx; omega)]
  refine hk.2 x (hlt x (by simp at hx ⊢; omega)) fun e=>?_
  exact hbid x e (by simp at hx ⊢; omega)
 have hbc:∀ x ∈ bF bv1,x ∉ [c,q0,q1,m0,m1,wid]:=by
  intro x hx hin
  rcases hb x hx with e | e
  ·exact hbid x e hin
  ·have:=hlt x (List.mem_append_left _ hin); omega
 obtain ⟨W,hW,hl⟩:=h.w
 refine ⟨⟨eG hcl,hm.at fun x hx=>th fun e=>hbc x hx (by simp [e]),h.s.at (hat _ (by simp)) (hat _ (by simp)),h.r.at (hat _ (by simp)) (hat _ (by simp)),⟨W,hW.at (hat _ (by simp)),hl⟩,h.ids,hbc,h.nd,h.rng,h.zv⟩,⟨by rw [i6]; exact hk.1,fun x hx hn=>?_⟩⟩
 simp only [foot,List.mem_append,List.mem_cons,List.not_mem_nil,or_false,not_or] at hn
 rw [th hn.1.1]
 exact hk.2 x hx hn.2
end Go.Fx
