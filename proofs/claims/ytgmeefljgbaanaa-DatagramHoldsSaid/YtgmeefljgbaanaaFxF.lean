/- An evaluator for resolved code, proved against the model: part 6. -/
import Derived.Test.YtgmeefljgbaanaaFxE
import Derived.ProofKit
import Derived.IntWalk
/- Equations for evaluation: each with all its arguments, so that nothing is opened ahead of its turn. -/
namespace Go.Fx
open Go
section
variable (P:Program) (F:Nat→FuncId) (m:Bool) (sf:Sf) (st:St) (Q:Exit→Sf→St→Prop) (K:Sf→St→Prop)
theorem aC_skip:aC P F m .skip sf st Q = Q .normal sf st:=rfl
theorem cf (lv ll:List Nat) (id:Nat):aC P F m (.exit lv ll id) sf st Q = Q (.exit id) (sf.mask lv ll) st:=rfl
theorem aC_ret:aC P F m .ret sf st Q = Q .ret sf st:=rfl
theorem lQ (C:Sf→St→(Exit→Sf→St→Prop)→Prop):seqQ C Q .normal sf st = C sf st Q:=rfl
theorem seqQ_ret (C:Sf→St→(Exit→Sf→St→Prop)→Prop):seqQ C Q .ret sf st = Q .ret sf st:=rfl
theorem bh (C:Sf→St→(Exit→Sf→St→Prop)→Prop) (id:Nat):seqQ C Q (.exit id) sf st = Q (.exit id) sf st:=rfl
theorem jg (id:Nat):eu id Q .normal sf st = Q .normal sf st:=rfl
theorem aE (id:Nat):eu id Q .ret sf st = Q .ret sf st:=rfl
theorem aK (id id':Nat):eu id Q (.exit id') sf st = if id' = id then Q .normal sf st else Q (.exit id') sf st:=rfl
theorem opsK_eq (lv ll:List Nat):opsK lv ll Q sf st = Q .normal (sf.mask lv ll) st:=rfl
theorem retQ_ret (rs:List RI) (C:AV→St→Prop):retQ rs C .ret sf st = (retI rs sf st).wp (fun v=>v.noL = true∧C v st):=rfl
theorem lR (rs:List RI) (C:AV→St→Prop):retQ rs C .normal sf st = (retI rs sf st).wp (fun v=>v.noL = true∧C v st):=rfl
theorem condI_eq (x:Opd) (b:Bool) (A B:Sf→St→(Exit→Sf→St→Prop)→Prop):im x (.lit (.bool b)) A B sf st Q = ((b = true→A (x.setB sf true) st Q)∧(b = false→B (x.setB sf false) st Q)):=rfl
theorem runI_nil:runI P F m [] K sf st = K sf st:=rfl
theorem oQ (i:AI) (r:List GI):runI P F m (⟨none,i⟩::r) K sf st = oneI P F m i (runI P F m r K) sf st:=rfl
theorem oR (t:Nat) (want:Bool) (i:AI) (r:List GI):runI P F m (⟨some (t,want),i⟩::r) K sf st = eN t want (sf.reg t) (oneI P F m i (runI P F m r K)) (skipI i.dst (runI P F m r K)) sf st:=rfl
theorem k7 (t:Nat) (want:Bool) (cs:List AV) (Y N:Sf→St→Prop):eN t want (.tup cs) Y N sf st = N sf st:=rfl
theorem oS (t:Nat) (want b:Bool) (Y N:Sf→St→Prop):eN t want (.lit (.bool b)) Y N sf st = ((b = want→Y (sf.set t (.lit (.bool want))) st)∧(b = (!want)→N (sf.set t (.lit (.bool (!want)))) st)):=by
  unfold eN
  refine propext ⟨fun h=>⟨fun e=>?_,fun e=>?_⟩,fun ⟨h1,h2⟩ c hc=>?_⟩
  · have:=h want e; simpa using this
  · have:=h (!want) e
    rw [if_neg (by cases want <;> simp)] at this
    exact this
  · subst hc
    by_cases hw:b = want
    · subst hw; rw [if_pos rfl]; exact h1 rfl
    · rw [if_neg hw]
      have:b = !want:=by cases b <;> cases want <;> simp_all
      subst this
      exact h2 rfl
theorem skipI_eq (d:Option Nat):skipI d K sf st = K (sf.put d (.tup [])) st:=rfl
theorem putP_eq (d:Option Nat) (v:AV):putP K d sf st v = K (sf.put d v) st:=rfl
theorem cg (d:Option Nat) (v:AV):putK K d sf v st = K (sf.put d v) st:=rfl
theorem p7 (C:AV→St→Prop) (v:AV):atS C st v = C v st:=rfl
theorem bI (i:AI) (h1:oneI P F m i K sf st = (bO F m i sf st).wp (fW K)) (h2:bO F m i sf st = vI i.dst sf st (popI F i sf st)):oneI P F m i K sf st = (popI F i sf st).wp (putP K i.dst sf st):=by
  rw [h1,h2]
  unfold vI
  exact propext Res.wp_bind
def pickV (c a b:AV):Res AV:=match c with
  | .lit (.bool t)=>.ok (if t then a.dis else b.dis)
  | _=>.fail
def extV (v:AV) (i:Nat):Res AV:=match v with
  | .tup vs=>(Res.ofOpt vs[i]?).bind fun v=>.ok v.dis
  | _=>.fail
def ew (v:AV) (off:Nat) (k:Option Nat):Res AV:=match v with
  | .agg cs=>(jN k (cs.drop off)).bind fun v=>.ok v.dis
  | _=>.fail
def ixSV (v i:AV) (k:Nat):Res AV:=match v with
  | .sl _ k' es=>if k' = k then (ixA i es.length).bind fun j=>.ok (.cptr (es.getD j .any).cells) else .fail
  | .bs id k' off len _=>if k' = k then (ixA i len).bind fun j=>.ok (.ptr id (off + j * k)) else .fail
  | _=>.fail
def jh (sf:Sf) (st:St) (v:AV) (k:Option Nat):Res AV:=(aa sf st v).bind fun cs=>(jN k cs).bind fun v=>.ok v.dis
def aj (v:AV):Res AV:=match v with
  | .ptr a b=>.ok (.ptr a b)
  | .lptr a b=>.ok (.lptr a b)
  | .cptr cs=>.ok (.cptr cs)
  | _=>.fail
def iq (v:AV) (lo hi:Option AV) (k:Nat):Res AV:=match v with
  | .sl _ k' es=>if k' = k then (ixTo hi es.length es.length).bind fun h=>(ixTo lo 0 h).bind fun l=>.ok (.sl false k ((es.take h).drop l)) else .fail
  | .lit (.slice none 0 0)=>(ixTo hi 0 0).bind fun h=>(ixTo lo 0 h).bind fun _=>.ok (.lit (.slice none 0 0))
  | .bs id k' off len cap=>if k' = k then sliB none hi lo id k off len cap else .fail
  | _=>.fail
def sli3V (v:AV) (lo hi:Option AV) (mx:AV) (k:Nat):Res AV:=match v with
  | .bs id k' off len cap=>if k' = k then sliB (some mx) hi lo id k off len cap else .fail
  | .sl _ k' es=>if k' = k then sl3 (some mx) hi lo es.length es.length fun l h m=>if m = l then .ok (.sl true k []) else .ok (.sl false k ((es.take h).drop l)) else .fail
  | _=>.fail
def tasV (v:AV) (t:Nat):Res AV:=match v with
  | .ifc t' v=>if t' = t then .ok v.dis else .fail
  | _=>.fail
def mkfnV (q:FuncId) (fs cs:List AV):Res AV:=if (fs++cs).all AV.solid1 = true then .ok (.fn (.func q) fs cs) else .fail
def mkifV (v:AV) (t:Nat):Res AV:=if v.solid1 = true then .ok (.ifc t v.dis) else .fail
def bslV (k len:Nat) (z:AV) (parts:List (Nat×AV)):Res AV:=(cD k parts (List.replicate len z)).bind fun es=>.ok (mkSl k es)
def bstV (places:List (Nat×Nat)) (z:AV) (parts:List (Nat×AV)):Res AV:=(aP (fun i=>places[i]?) parts z.cells).bind fun cs=>.ok (.agg cs)
section
variable (d:Option Nat) (x y i:Opd)
theorem o_mv:oneI P F m (.mv d x) K sf st = K (sf.put d (sf.ev F x).dis) st:=bI P F m sf st K (.mv d x) rfl rfl
theorem o_pick (c a b:Opd):oneI P F m (.pick d c a b) K sf st = (pickV (sf.ev F c) (sf.ev F a) (sf.ev F b)).wp (putP K d sf st):=bI P F m sf st K (.pick d c a b) rfl rfl
theorem o_bin (k:BinK) (op:BinOp):oneI P F m (.bin d k op x y) K sf st = (binI k op (sf.ev F x) (sf.ev F y)).wp (putP K d sf st):=bI P F m sf st K (.bin d k op x y) rfl rfl
theorem o_un (op:UnOp):oneI P F m (.un d op x) K sf st = (unA op (sf.ev F x)).wp (putP K d sf st):=bI P F m sf st K (.un d op x) rfl rfl
theorem m8 (k:ConvK):oneI P F m (.conv d k x) K sf st = (hZ st k (sf.ev F x)).wp (putP K d sf st):=bI P F m sf st K (.conv d k x) rfl rfl
theorem o_ext (j:Nat):oneI P F m (.ext d x j) K sf st = (extV (sf.ev F x) j).wp (putP K d sf st):=bI P F m sf st K (.ext d x j) rfl rfl
theorem eE (off:Nat) (k:Option Nat):oneI P F m (.field d x off k) K sf st = (ew (sf.ev F x) off k).wp (putP K d sf st):=bI P F m sf st K (.field d x off k) rfl rfl
theorem o_addr (off:Nat):oneI P F m (.addr d x off) K sf st = (addA (sf.ev F x) off).wp (putP K d sf st):=bI P F m sf st K (.addr d x off) rfl rfl
theorem ji (k:Nat):oneI P F m (.ixS d x i k) K sf st = (ixSV (sf.ev F x) (sf.ev F i) k).wp (putP K d sf st):=bI P F m sf st K (.ixS d x i k) rfl rfl
theorem o_load (k:Option Nat):oneI P F m (.load d x k) K sf st = (jh sf st (sf.ev F x) k).wp (putP K d sf st):=bI P F m sf st K (.load d x k) rfl rfl
theorem o_nilck:oneI P F m (.nilck d x) K sf st = (aj (sf.ev F x)).wp (putP K d sf st):=bI P F m sf st K (.nilck d x) rfl rfl
theorem o_sliS (lo hi:Option Opd) (k:Nat):oneI P F m (.sliS d x lo hi k) K sf st = (iq (sf.ev F x) (lo.map (sf.ev F)) (hi.map (sf.ev F)) k).wp (putP K d sf st):=bI P F m sf st K (.sliS d x lo hi k) rfl rfl
theorem o_sli3 (lo hi:Option Opd) (mx:Opd) (k:Nat):oneI P F m (.sli3 d x lo hi mx k) K sf st = (sli3V (sf.ev F x) (lo.map (sf.ev F)) (hi.map (sf.ev F)) (sf.ev F mx) k).wp (putP K d sf st):=bI P F m sf st K (.sli3 d x lo hi mx k) rfl rfl
theorem o_mkif (t:Nat):oneI P F m (.mkif d t x) K sf st = (mkifV (sf.ev F x) t).wp (putP K d sf st):=bI P F m sf st K (.mkif d t x) rfl rfl
theorem o_tas (t:Nat):oneI P F m (.tas d t x) K sf st = (tasV (sf.ev F x) t).wp (putP K d sf st):=bI P F m sf st K (.tas d t x) rfl rfl
theorem eI (k len:Nat) (z:AV) (parts:List (Nat×Opd)):oneI P F m (.bsl d k len z parts) K sf st = (bslV k len z (parts.map fun p=>(p.1,sf.ev F p.2))).wp (putP K d sf st):=bI P F m sf st K (.bsl d k len z parts) rfl rfl
theorem d5 (places:List (Nat×Nat)) (z:AV) (parts:List (Nat×Opd)):oneI P F m (.bst d places z parts) K sf st = (bstV places z (parts.map fun p=>(p.1,sf.ev F p.2))).wp (putP K d sf st):=bI P F m sf st K (.bst d places z parts) rfl rfl
theorem aV (k:KeyK) (z:AV) (ok:Bool) (mp key:Opd):oneI P F m (.lookup d k z ok mp key) K sf st = (cd k z ok st (sf.ev F mp) (sf.ev F key)).wp (putP K d sf st):=bI P F m sf st K (.lookup d k z ok mp key) rfl rfl
theorem o_mkfn (g:Nat) (first cap:List Opd):oneI P F m (.mkfn d g first cap) K sf st = (mkfnV (F g) (first.map (sf.ev F)) (cap.map (sf.ev F))).wp (putP K d sf st):=bI P F m sf st K (.mkfn d g first cap) rfl rfl
theorem o_len (k:LenK):oneI P F m (.len d k x) K sf st = (lenI k st (sf.ev F x)).wp (putP K d sf st):=bI P F m sf st K (.len d k x) rfl rfl
theorem o_mn (lt:Bool):oneI P F m (.mn d lt x y) K sf st = (gf lt (sf.ev F x) (sf.ev F y)).wp (putP K d sf st):=bI P F m sf st K (.mn d lt x y) rfl rfl
end
def kc (m:Bool) (d:Nat) (v:AV) (K:Sf→St→Prop) (sf:Sf) (st:St):Prop :=
  match v with
  | .lptr s off=>(Res.ofOpt (look s sf.locs)).wp fun cs=>match cs[off]? with
      | some (.sl true k es)=>K ((sf.setLoc s (cs.set off (.sl false k es))).set d (.sl true k es)) st
      | _=>(jh sf st (.lptr s off) none).wp (putP K (some d) sf st)
  | .ptr id off=>if m then (jh sf st (.ptr id off) none).wp (putP K (some d) sf st) else (Res.ofOpt (st.get id)).wp fun cs=>match cs[off]? with
      | some (.sl true k es)=>K (sf.set d (.sl true k es)) (st.set id (cs.set off (.sl false k es)))
      | _=>(jh sf st (.ptr id off) none).wp (putP K (some d) sf st)
  | v=>(jh sf st v none).wp (putP K (some d) sf st)
theorem jk (d:Option Nat) (r:Res AV):(vI d sf st r).wp (fW K) = r.wp (putP K d sf st):=by
  unfold vI
  exact propext Res.wp_bind
theorem oT (d:Nat) (x:Opd):oneI P F m (.loadOwn d x) K sf st = kc m d (sf.ev F x) K sf st:=by
  show (bO F m (.loadOwn d x) sf st).wp (fW K) = _
  have hld:(popI F (.load (some d) x none) sf st) = jh sf st (sf.ev F x) none:=rfl
  simp only [bO,hld]
  generalize sf.ev F x = v
  unfold kc
  cases v with
  | lptr s off =>
    simp only
    cases hl:look s sf.locs with
    | none=>rfl
    | some cs =>
      simp only [Res.ofOpt,Res.bind,Res.wp]
      cases hc:cs[off]? with
      | none=>exact jk sf st K (some d) _
      | some c =>
        cases c with
        | sl o k es=>cases o <;> first | rfl | exact jk sf st K (some d) _
        | _=>exact jk sf st K (some d) _
  | ptr id off =>
    simp only
    cases m
    · simp only [Bool.false_eq_true,if_false]
      cases hl:st.get id with
      | none=>rfl
      | some cs =>
        simp only [Res.ofOpt,Res.bind,Res.wp]
        cases hc:cs[off]? with
        | none=>exact jk sf st K (some d) _
        | some c =>
          cases c with
          | sl o k es=>cases o <;> first | rfl | exact jk sf st K (some d) _
          | _=>exact jk sf st K (some d) _
    · simp only [if_true]
      exact jk sf st K (some d) _
  | _=>exact jk sf st K (some d) _
theorem o_own (d s:Nat):oneI P F m (.own d s) K sf st = K ((sf.disAt s).set d (sf.reg s)) st:=rfl
def dJ (d s k bytes:Nat) (v y:AV) (K:Sf→St→Prop) (sf:Sf) (st:St):Prop :=
  match v with
  | .sl true k' es=>(ce st k bytes (.sl true k' es) y).wp fun v=>K ((sf.disAt s).set d v) st
  | v=>(cB st k bytes v y).wp (putP K (some d) sf st)
theorem cQ (d s k bytes:Nat) (y:Opd):oneI P F m (.appS d s k bytes y) K sf st = dJ d s k bytes (sf.reg s) (sf.ev F y) K sf st:=by
  show (bO F m (.appS d s k bytes y) sf st).wp (fW K) = _
  have hld:(popI F (.app (some d) k bytes (.r s) y) sf st) = cB st k bytes (sf.reg s) (sf.ev F y):=rfl
  simp only [bO,hld]
  unfold dJ
  generalize sf.reg s = v
  cases v with
  | sl o k' es =>
    cases o
    · exact jk sf st K (some d) _
    · exact propext Res.wp_bind
  | _=>exact jk sf st K (some d) _
theorem bU (d:Nat) (cs:List AV):oneI P F m (.newL d cs) K sf st = K (sf.newLoc d cs) st:=rfl
theorem o_newB (d:Nat) (cs:List AV):oneI P F m (.newB d cs) K sf st = (m = false∧K (sf.set d (.ptr st.boxes.length 0)) (st.push (.cells cs))):=by
  cases m
  · exact propext ⟨fun h=>⟨rfl,h⟩,fun h=>h.2⟩
  · exact propext ⟨fun h=>h.elim,fun h=>by cases h.1⟩
def boxX (n:Nat) (v:AV) (C:Prop):Prop:=v.solid = true∧v.cells.length = n∧C
theorem fo (d n:Nat) (x:Opd):oneI P F m (.boxL d n x) K sf st = boxX n (sf.evOwn F x) (K (sf.newLoc d (sf.evOwn F x).dis.cells) st):=by
  show (bO F m (.boxL d n x) sf st).wp (fW K) = _
  unfold boxX
  simp only [bO]
  split
  · rename_i h; exact propext ⟨fun q=>⟨h.1,h.2,q⟩,fun q=>q.2.2⟩
  · rename_i h; exact propext ⟨fun q=>q.elim,fun q=>h ⟨q.1,q.2.1⟩⟩
theorem p8 (d n:Nat) (x:Opd):oneI P F m (.boxB d n x) K sf st = boxX n (sf.evOwn F x) (m = false∧K ((sf.disOp x).set d (.ptr st.boxes.length 0)) (st.push (.cells (sf.evOwn F x).cells))):=by
  show (bO F m (.boxB d n x) sf st).wp (fW K) = _
  unfold boxX
  simp only [bO]
  split
  · rename_i h; exact propext ⟨fun q=>⟨h.1,h.2.1,h.2.2,q⟩,fun q=>q.2.2.2⟩
  · rename_i h; exact propext ⟨fun q=>q.elim,fun q=>h ⟨q.1,q.2.1,q.2.2.1⟩⟩
def al (m:Bool) (a:AV) (vs:List AV) (K:Sf→St→Prop) (sf:Sf) (st:St):Prop :=
  match a with
  | .lptr s off=>(Res.ofOpt (look s sf.locs)).wp fun cs=>off + vs.length≤cs.length∧K (sf.setLoc s (bu cs off vs)) st
  | .ptr id off=>m = false∧(Res.ofOpt (st.get id)).wp fun cs=>off + vs.length≤cs.length∧K sf (st.set id (bu cs off vs))
  | _=>False
theorem o_store (n:Nat) (a x:Opd):oneI P F m (.store n a x) K sf st = boxX n (sf.evOwn F x) (al m (sf.ev F a) (sf.evOwn F x).cells K (sf.disOp x) st):=by
  show (bO F m (.store n a x) sf st).wp (fW K) = _
  have hw:(pN m (sf.disOp x) st (sf.ev F a) (sf.evOwn F x).cells).wp (fW K) = al m (sf.ev F a) (sf.evOwn F x).cells K (sf.disOp x) st:=by
    generalize (sf.evOwn F x).cells = vs
    generalize sf.disOp x = sf1
    unfold pN al
    generalize sf.ev F a = v
    have hif:∀ (c:Prop) [Decidable c] (r:Sf×St),(if c then Res.ok r else Res.fail).wp (fW K) = (c∧K r.1 r.2):=by
      intro c _ r
      by_cases hc:c
      · rw [if_pos hc]; exact propext ⟨fun q=>⟨hc,q⟩,fun q=>q.2⟩
      · rw [if_neg hc]; exact propext ⟨fun q=>q.elim,fun q=>hc q.1⟩
    cases v with
    | lptr s off =>
      simp only
      cases hl:look s sf1.locs with
      | none=>rfl
      | some cs=>exact hif _ _
    | ptr id off =>
      simp only
      cases m
      · simp only [Bool.false_eq_true,if_false,true_and]
        cases hl:st.get id with
        | none=>rfl
        | some cs=>exact hif _ _
      · exact propext ⟨fun q=>q.elim,fun q=>by cases q.1⟩
    | _=>rfl
  unfold boxX
  simp only [bO]
  split
  · rename_i h; rw [hw]; exact propext ⟨fun q=>⟨h.1,h.2,q⟩,fun q=>q.2.2⟩
  · rename_i h; exact propext ⟨fun q=>q.elim,fun q=>h ⟨q.1,q.2.1⟩⟩
def delX (m:Bool) (k:KeyK) (mp key:AV) (K:Sf→St→Prop) (sf:Sf) (st:St):Prop :=
  keyI k key = true∧m = false∧match mp with
  | .map id=>(Res.ofOpt (st.getM id)).wp fun es=>(cF key es 0).wp fun r=>match r with
      | some (i,_)=>K sf (st.delM id es i)
      | none=>K sf st
  | _=>False
theorem oU (k:KeyK) (mp key:Opd):oneI P F m (.del k mp key) K sf st = delX m k (sf.ev F mp) (sf.ev F key) K sf st:=by
  show (bO F m (.del k mp key) sf st).wp (fW K) = _
  simp only [bO]
  unfold delX
  generalize sf.ev F key = kv
  generalize sf.ev F mp = v
  by_cases h:keyI k kv = true∧m = false
  · have:∀ A:Prop,(keyI k kv = true∧m = false∧A) = A:=fun A=>propext ⟨fun q=>q.2.2,fun q=>⟨h.1,h.2,q⟩⟩
    rw [if_pos h,this]
    cases v with
    | map id =>
      simp only
      cases hl:st.getM id with
      | none=>rfl
      | some es =>
        refine propext ((Res.wp_bind (r:=cF kv es 0)).trans ?_)
        refine ⟨fun q=>Res.wp_mono (r:=cF kv es 0) q fun r hr=>?_,fun q=>Res.wp_mono (r:=cF kv es 0) q fun r hr=>?_⟩ <;> (cases r <;> exact hr)
    | _=>rfl
  · rw [if_neg h]
    exact propext ⟨fun q=>q.elim,fun q=>h ⟨q.1,q.2.1⟩⟩
theorem o_mkmap (d:Nat):oneI P F m (.mkmap d) K sf st = (m = false∧K (sf.set d (.map st.boxes.length)) (st.push (.mp [] [] 0))):=by
  cases m
  · exact propext ⟨fun h=>⟨rfl,h⟩,fun h=>h.2⟩
  · exact propext ⟨fun h=>h.elim,fun h=>by cases h.1⟩
def updX (m:Bool) (k:KeyK) (mp key x:AV) (K:Sf→St→Prop) (sf:Sf) (st:St):Prop :=
  keyI k key = true∧m = false∧x.solid = true∧match mp with
  | .map id=>(Res.ofOpt (st.getM id)).wp fun es=>(cF key es 0).wp fun r=>K sf (st.updM id es key x.dis r)
  | _=>False
theorem lS (k:KeyK) (mp key x:Opd):oneI P F m (.upd k mp key x) K sf st = updX m k (sf.ev F mp) (sf.ev F key) (sf.ev F x) K sf st:=by
  show (bO F m (.upd k mp key x) sf st).wp (fW K) = _
  simp only [bO]
  unfold updX
  generalize sf.ev F key = kv
  generalize sf.ev F mp = v
  generalize sf.ev F x = xv
  by_cases h:keyI k kv = true∧m = false∧xv.solid = true
  · have:∀ A:Prop,(keyI k kv = true∧m = false∧xv.solid = true∧A) = A:=fun A=>propext ⟨fun q=>q.2.2.2,fun q=>⟨h.1,h.2.1,h.2.2,q⟩⟩
    rw [if_pos h,this]
    cases v with
    | map id =>
      simp only
      cases hl:st.getM id with
      | none=>rfl
      | some es=>exact propext (Res.wp_bind (r:=cF kv es 0))
    | _=>rfl
  · rw [if_neg h]
    exact propext ⟨fun q=>q.elim,fun q=>h ⟨q.1,q.2.1,q.2.2.1⟩⟩
theorem o_x (d:Option Nat) (i:XI):oneI P F m (.x d i) K sf st = aH F m i d K sf st:=rfl
theorem o_call (d:Option Nat) (p:Bool) (f:Opd) (args:List Opd):oneI P F m (.call d p f args) K sf st = jd P m p d (sf.ev F f) (args.map (sf.ev F)) K sf st:=rfl
theorem callI_eq (p:Bool) (d:Option Nat) (q:FuncId) (fs cs args:List AV):jd P m p d (.fn (.func q) fs cs) args K sf st =
    (args.all AV.noL = true∧(if (p || m) = true then CallP P q (fs++args.map AV.dis++cs) st (putP K d sf st) else CallA P q (fs++args.map AV.dis++cs) st (putK K d sf))):=rfl
theorem oV {A:Type} (a:A) (C:A→Prop):(Res.ok a).wp C = C a:=rfl
theorem wp_req {A:Type} (b:Bool) (r:Res A) (C:A→Prop):(Res.req b r).wp C = (b = true∧r.wp C):=rfl
theorem wp_fail {A:Type} (C:A→Prop):(Res.fail:Res A).wp C = False:=rfl
theorem p9 {A B:Type} (a:A) (f:A→Res B):(Res.ok a).bind f = f a:=rfl
theorem bind_req {A B:Type} (b:Bool) (r:Res A) (f:A→Res B):(Res.req b r).bind f = .req b (r.bind f):=rfl
theorem jy {A:Type} (a:A):Res.ofOpt (some a) = .ok a:=rfl
end
section
variable {P:Program} {m:Bool} {d:Option Nat} {q:FuncId} {fs cs args vs:List AV} {sf:Sf} {st:St} {K:Sf→St→Prop} {v:AV}
theorem am {p:Bool} (hvs:fs++args.map AV.dis++cs = vs) (hent:bR P q = true) (h:az P q vs st v) (hn:args.all AV.noL = true) (hK:K (sf.put d v) st):jd P m p d (.fn (.func q) fs cs) args K sf st:=by
  rw [callI_eq,hvs]
  refine ⟨hn,?_⟩
  split
  · exact ⟨hent,v,h,hK⟩
  · exact ⟨hent,_,h.acalls,fun v' st' e=>by obtain ⟨rfl,rfl⟩:=e; exact hK⟩
theorem aq {Q:AV→St→Prop} (hvs:fs++args.map AV.dis++cs = vs) (hent:bR P q = true) (h:ao P q vs st Q) (hn:args.all AV.noL = true) (hK:∀ v st',Q v st'→K (sf.put d v) st'):jd P false false d (.fn (.func q) fs cs) args K sf st:=by
  rw [callI_eq,hvs]
  exact ⟨hn,hent,Q,h,hK⟩
theorem call_y {id:Nat} {Q:Bool→St→Prop} (hvs:args.map AV.dis = vs) (h:gp P id vs st Q) (hn:args.all AV.noL = true) (hK:∀ t st',Q t st'→K (sf.put d (.lit (.bool t))) st'):jd P false false d (.yld id) args K sf st:=by
  subst hvs
  exact ⟨hn,rfl,Q,h,hK⟩
end
theorem range_a {P:Program} {CA CB:Sf→St→(Exit→Sf→St→Prop)→Prop} {ps lb lv ll:List Nat} {q:FuncId} {fs cs:List AV} {sf:Sf} {st:St} {Q:Exit→Sf→St→Prop} (hent:bR P q = true)
    (h:∀ r:Loop,(∀ vs st' Q',pX CA CB ps st.boxes.length r (fG lb sf) vs st' Q'→gp P st.boxes.length vs st' Q') →
      ∃ Qc,ao P q (fs++[.yld st.boxes.length]++cs) (st.push (.lp r (fG lb sf))) Qc∧∀ v st',Qc v st'→behindI lv ll st.boxes.length r (fG lb sf) sf st' Q):kV P CA CB ps lb lv ll (.fn (.func q) fs cs) sf st Q:=⟨hent,h⟩
end Go.Fx
/- From the readings of a row to abstract values, and back. -/
namespace Go.Fx
open Go Go.RowKit Go.ChangeShapes
inductive Sh where
  | bool
  | int (k:IntKind)
  | str
  | sl (e:Sh)
  | unit
  | pair (a r:Sh)
@[reducible] def Sh.T:Sh→Type
  | .bool=>Bool
  | .int _=>Int
  | .str=>ByteArray
  | .sl e=>List e.T
  | .unit=>Unit
  | .pair a r=>a.T×r.T
def Sh.size:Sh→Nat
  | .unit=>0
  | .pair a r=>a.size + r.size
  | _=>1
def Sh.isSt:Sh→Bool
  | .unit=>true
  | .pair _ _=>true
  | _=>false
def ir:Bool→List AV→AV
  | true,cs=>.agg cs
  | false,cs=>cs.headD .any
def Sh.cells:(s:Sh)→s.T→List AV
  | .bool,b=>[.lit (.bool b)]
  | .int k,n=>[.lit (.int k n)]
  | .str,s=>[.lit (.string s)]
  | .sl e,l=>[.sl false e.size (List.map (fun x=>ir e.isSt (e.cells x)) l)]
  | .unit,_=>[]
  | .pair a r,x=>a.cells x.1++r.cells x.2
def Sh.av (s:Sh) (x:s.T):AV:=ir s.isSt (s.cells x)
def Sh.ok:(s:Sh)→s.T→Prop
  | .bool,_=>True
  | .int k,n=>k.min≤n∧n≤k.max
  | .str,s=>s.size≤maxLen
  | .sl e,l=>l.length≤maxLen∧∀ x ∈ l,e.ok x
  | .unit,_=>True
  | .pair a r,x=>a.ok x.1∧r.ok x.2
theorem Sh.cells_len:∀ (s:Sh) (x:s.T),(s.cells x).length = s.size
  | .bool,_=>rfl
  | .int _,_=>rfl
  | .str,_=>rfl
  | .sl _,_=>rfl
  | .unit,_=>rfl
  | .pair a r,x=>by simp [Sh.cells,Sh.size,Sh.cells_len a,Sh.cells_len r]
theorem Sh.av_cells (s:Sh) (x:s.T):(s.av x).cells = s.cells x:=by
  cases s <;> rfl
section
variable (P:Program)
mutual
def ke:Nat→TypeId→Option Sh
  | 0,_=>none
  | n + 1, t => match P.underlying t with
    | some .bool=>some .bool
    | some (.int k)=>some (.int k)
    | some .string=>some .str
    | some (.slice e)=>(ke n e).bind fun s=>if s.size = P.cellsOf e∧0 < s.size then some (.sl s) else none
    | some (.struct fs)=>(fQ n 0 fs.toList).bind fun s=>if s.size = P.cellsOf t then some s else none
    | _=>none
def fQ:Nat→Nat→List Field→Option Sh
  | 0,_,_=>none
  | _ + 1,_,[]=>some .unit
  | n + 1,off,f::r=>if f.offset = off then (ke n f.type).bind fun a=>if a.size = P.cellsOf f.type then (fQ n (off + a.size) r).map (.pair a ·) else none else none
end
end
theorem shapeF_st {P:Program}:∀ {n off:Nat} {l:List Field} {s:Sh},fQ P n off l = some s→s.isSt = true
  | 0,_,_,_,h=>by simp [fQ] at h
  | n + 1,off,[],s,h=>by simp [fQ] at h; subst h; rfl
  | n + 1, off, f :: r, s, h => by
    simp only [fQ] at h
    split at h
    · rw [Option.bind_eq_some_iff] at h
      obtain ⟨a,_,h⟩:=h
      split at h
      · obtain ⟨q,_,rfl⟩:=map_some h; rfl
      · cases h
    · cases h
section
variable {H:Type} {enc:TypeId×Value→H} {P:Program} {w:World} {base:Nat} {spare:Nat→Bool} {held:Bool} {g:Gh}
theorem oW {a:Addr} {q:Nat} {cs:List Value} (h:w.cells? base a q = some cs):cs.length = q∧∀ (i:Nat) (u:Value),cs[i]? = some u→w.cell? (a.add i) = some u:=by
  unfold World.cells? at h
  split at h
  · have key:∀ (l:List Nat) (cs:List Value),l.mapM (fun i=>w.cell? (a.add i)) = some cs→cs.length = l.length∧∀ (i j:Nat) (u:Value),l[i]? = some j→cs[i]? = some u→w.cell? (a.add j) = some u:=by
      intro l
      induction l with
      | nil=>intro cs h; simp at h; subst h; exact ⟨rfl,fun i j u h=>by simp at h⟩
      | cons x r ih =>
        intro cs h
        simp only [List.mapM_cons,bind,Option.bind_eq_some_iff,pure,Option.some.injEq] at h
        obtain ⟨v,hv,l',hl,rfl⟩:=h
        obtain ⟨h1,h2⟩:=ih l' hl
        refine ⟨by simp [h1],fun i j u hi hu=>?_⟩
        cases i with
        | zero=>simp at hi hu; subst hi; subst hu; exact hv
        | succ i=>exact h2 i j u (by simpa using hi) (by simpa using hu)
    obtain ⟨h1,h2⟩:=key _ _ h
    simp at h1
    refine ⟨h1,fun i u hu=>h2 i i u ?_ hu⟩
    have:i < q:=by rw [← h1]; exact (List.getElem?_eq_some_iff.1 hu).1
    simp [this]
  · cases h
theorem add_spot {a:Addr} {i:Nat} {u:Value} (h:w.cell? (a.add i) = some u):i = 0→a.spot = none:=by
  intro e
  subst e
  simp only [Addr.add,if_true] at h
  unfold World.cell? at h
  split at h
  · split at h
    · cases h
    · rename_i hs; simpa using hs
  · cases h
theorem f0 {x:AV} {u:Value} (h:R g x u):RL g [x] [u]:=⟨rfl,fun i a b ha hb=>by cases i <;> simp at ha hb; subst ha; subst hb; exact h⟩
def Reads (g:Gh) (s:Sh) (cs:List Value):Prop:=∃ x:s.T,s.ok x∧RL g (s.cells x) cs∧∀ u ∈ cs,u.oneCell' = true
theorem shape_R (hi:∀ b o u,w.cell? ⟨b,o,none⟩ = some u→g.imm b o = some u):∀ (n:Nat),
    (∀ (t:TypeId) (s:Sh) (fuel:Nat) (cs:List Value) (x:DataW H×List MemPlace),ke P n t = some s→DataW.trod enc P w base spare held fuel t cs = some x→Reads g s cs) ∧
    (∀ (off:Nat) (l:List Field) (s:Sh) (fuel:Nat) (cs:List Value) (xs:List (DataW H×List MemPlace)),fQ P n off l = some s→cs.length = off + s.size →
      (l.mapM fun f=>DataW.trod enc P w base spare held fuel f.type ((cs.drop f.offset).take (P.cellsOf f.type))) = some xs→Reads g s (cs.drop off)):=by
  intro n
  induction n with
  | zero=>exact ⟨fun t s fuel cs x h=>by simp [ke] at h,fun off l s fuel cs xs h=>by simp [fQ] at h⟩
  | succ n ih =>
    obtain ⟨ih1,ih2⟩:=ih
    constructor
    · intro t s fuel cs x hs ht
      cases fuel with
      | zero=>simp [DataW.trod] at ht
      | succ fuel =>
      simp only [ke] at hs
      split at hs
      · rename_i hu
        cases hs
        have:∃ b,cs = [.bool b]:=by
          simp only [DataW.trod,hu] at ht
          split at ht <;> simp_all
        obtain ⟨b,rfl⟩:=this
        exact ⟨b,trivial,f0 (R.lit _ rfl),by simp [Value.oneCell']⟩
      · rename_i k hu
        cases hs
        have:∃ m,cs = [.int k m]∧(Lit.int k m).wf = true:=by
          simp only [DataW.trod,hu] at ht
          split at ht <;> simp_all
        obtain ⟨m,rfl,hwf⟩:=this
        simp only [Lit.wf,Bool.and_eq_true,decide_eq_true_eq] at hwf
        exact ⟨m,hwf,f0 (R.lit _ rfl),by simp [Value.oneCell']⟩
      · rename_i hu
        cases hs
        have:∃ q,cs = [.string q]∧q.size≤maxLen:=by
          simp only [DataW.trod,hu] at ht
          split at ht <;> simp_all
        obtain ⟨q,rfl,hwf⟩:=this
        exact ⟨q,hwf,f0 (R.lit _ rfl),by simp [Value.oneCell']⟩
      · rename_i e hu
        rw [Option.bind_eq_some_iff] at hs
        obtain ⟨se,hse,hs⟩:=hs
        split at hs
        case isFalse=>cases hs
        rename_i hsz
        cases hs
        have:cs = [.slice none 0 0]∨∃ a len cap elems,cs = [.slice (some a) len cap]∧len≤cap∧cap≤maxLen ∧
            (List.range len).mapM (fun i=>(w.cells? base (a.add (i * P.cellsOf e)) (P.cellsOf e)).bind (DataW.trod enc P w base spare held fuel e)) = some elems:=by
          simp only [DataW.trod,hu] at ht
          split at ht
          all_goals try (exfalso; simp_all; done)
          · rename_i e1 h1
            exact .inl rfl
          · rename_i e1 a len cap h1
            cases h1
            split at ht
            · rename_i hc
              rw [Option.bind_eq_some_iff] at ht
              obtain ⟨elems,hm,_⟩:=ht
              exact .inr ⟨a,len,cap,elems,rfl,hc.2.1,hc.2.2,hm⟩
            · cases ht
        rcases this with rfl | ⟨a,len,cap,elems,rfl,hlc,hcm,hm⟩
        · exact ⟨[],⟨Nat.zero_le _,by simp⟩,f0 (R.slN _ _),by simp [Value.oneCell']⟩
        · have key:∀ (l:List Nat) (es:List (DataW H×List MemPlace)),l.mapM (fun i=>(w.cells? base (a.add (i * P.cellsOf e)) (P.cellsOf e)).bind (DataW.trod enc P w base spare held fuel e)) = some es →
              ∃ ys:List se.T,ys.length = l.length∧∀ (q j:Nat) (y:se.T),l[q]? = some j→ys[q]? = some y→se.ok y∧∃ cj,w.cells? base (a.add (j * P.cellsOf e)) (P.cellsOf e) = some cj∧RL g (se.cells y) cj∧∀ u ∈ cj,u.oneCell' = true:=by
            intro l
            induction l with
            | nil=>intro es _; exact ⟨[],rfl,fun q j y h=>by simp at h⟩
            | cons z r ihl =>
              intro es h
              simp only [List.mapM_cons,bind,Option.bind_eq_some_iff,pure,Option.some.injEq] at h
              obtain ⟨v,⟨cj,hcj,hv⟩,l',hl,rfl⟩:=h
              obtain ⟨ys,h1,h2⟩:=ihl l' hl
              obtain ⟨y,hy1,hy2,hy3⟩:=ih1 e se fuel cj v hse hv
              refine ⟨y::ys,by simp [h1],fun q j y' hq hy=>?_⟩
              cases q with
              | zero=>simp at hq hy; subst hq; subst hy; exact ⟨hy1,cj,hcj,hy2,hy3⟩
              | succ q=>exact h2 q j y' (by simpa using hq) (by simpa using hy)
          obtain ⟨ys,hyl,hys⟩:=key _ _ hm
          simp at hyl
          have hsz1:=hsz.1
          refine ⟨ys,⟨by rw [hyl]; omega,fun y hy=>?_⟩,f0 ?_,by simp [Value.oneCell']⟩
          · obtain ⟨q,hq⟩:=List.mem_iff_getElem?.1 hy
            have hql:q < len:=by rw [← hyl]; exact (List.getElem?_eq_some_iff.1 hq).1
            exact (hys q q y (by simp [hql]) hq).1
          · have hel:(List.map (fun x=>ir se.isSt (se.cells x)) ys).length = len:=by simp [hyl]
            rcases Nat.eq_zero_or_pos len with h0 | h0
            · subst h0
              have:ys = []:=List.eq_nil_of_length_eq_zero hyl
              subst this
              exact R.slE false _ a cap
            · have hsp:a.spot = none:=by
                obtain ⟨y0,hy0⟩:∃ y0,ys[0]? = some y0:=⟨ys[0],by simp⟩
                obtain ⟨_,cj,hcj,hrl,_⟩:=hys 0 0 y0 (by simp [h0]) hy0
                obtain ⟨hl0,hc0⟩:=oW hcj
                have hpos:0 < cj.length:=by rw [hl0,← hsz1]; exact hsz.2
                have:=hc0 0 cj[0] (by simp [hpos])
                simp only [Nat.zero_mul] at this
                have ha0:(a.add 0).add 0 = a.add 0:=by simp [Addr.add]
                rw [ha0] at this
                exact add_spot this rfl
              obtain ⟨b,o,sp⟩:=a
              simp only at hsp
              subst hsp
              have hcl:∀ x ∈ (List.map (fun x=>ir se.isSt (se.cells x)) ys),x.cells.length = se.size:=by
                intro x hx
                obtain ⟨y,_,rfl⟩:=List.mem_map.1 hx
                have:=Sh.av_cells se y
                unfold Sh.av at this
                rw [this]; exact Sh.cells_len se y
              have hget:∀ (i:Nat) (x:AV),((List.map (fun x=>ir se.isSt (se.cells x)) ys).flatMap AV.cells)[i]? = some x→∃ u,w.cell? ⟨b,o + i,none⟩ = some u∧R g x u∧u.oneCell' = true:=by
                intro i x hx
                obtain ⟨q,r,e',rfl,h2,h3⟩:=ff hcl hx
                simp only [List.getElem?_map,Option.map_eq_some_iff] at h2
                obtain ⟨y,hy,rfl⟩:=h2
                have hql:q < len:=by rw [← hyl]; exact (List.getElem?_eq_some_iff.1 hy).1
                obtain ⟨_,cj,hcj,hrl,hone⟩:=hys q q y (by simp [hql]) hy
                have hav:=Sh.av_cells se y
                unfold Sh.av at hav
                rw [hav] at h3
                obtain ⟨hl0,hc0⟩:=oW hcj
                have hr:r < cj.length:=by rw [hrl.1]; exact (List.getElem?_eq_some_iff.1 h3).1
                have h4:=hc0 r cj[r] (by simp [hr])
                rw [bK,bK,← hsz1] at h4
                refine ⟨cj[r],?_,hrl.2 r x _ h3 (by simp [hr]),hone _ (List.getElem_mem hr)⟩
                rw [← Nat.add_assoc]; exact h4
              have:=R.sl (g:=g) false se.size _ (fun i=>(w.cell? ⟨b,o + i,none⟩).getD undef) b o cap (by rw [hel]; exact hlc) hcl (fun i x hx=>?_) (fun i x hx=>?_) (fun i x hx=>?_)
              · rw [hel] at this; exact this
              · obtain ⟨u,h1,h2,h3⟩:=hget i x hx
                rw [h1]; exact hi _ _ _ h1
              · obtain ⟨u,h1,h2,h3⟩:=hget i x hx
                rw [h1]; exact h2
              · obtain ⟨u,h1,h2,h3⟩:=hget i x hx
                rw [h1]; exact h3
      · rename_i fs hu
        rw [Option.bind_eq_some_iff] at hs
        obtain ⟨s',hs',hs⟩:=hs
        split at hs
        case isFalse=>cases hs
        rename_i hsz
        have hss:s' = s:=Option.some.inj hs
        subst hss
        have:cs.length = P.cellsOf t∧∃ xs,(fs.toList.mapM fun f=>DataW.trod enc P w base spare held fuel f.type ((cs.drop f.offset).take (P.cellsOf f.type))) = some xs:=by
          simp only [DataW.trod,hu] at ht
          split at ht
          all_goals try (exfalso; simp_all; done)
          rename_i hc
          obtain ⟨xs,hxs,_⟩:=map_some ht
          exact ⟨hc,xs,hxs⟩
        obtain ⟨hlen,xs,hxs⟩:=this
        have:=ih2 0 fs.toList s' fuel cs xs hs' (by rw [hlen,hsz]; simp) hxs
        simpa using this
      · cases hs
    · intro off l s fuel cs xs hs hlen hm
      cases l with
      | nil =>
        simp only [fQ] at hs
        cases hs
        refine ⟨(),trivial,?_,?_⟩
        · have:cs.drop off = []:=by apply List.drop_eq_nil_of_le; simp [Sh.size] at hlen; omega
          rw [this]; exact RL.nil
        · have:cs.drop off = []:=by apply List.drop_eq_nil_of_le; simp [Sh.size] at hlen; omega
          rw [this]; simp
      | cons f r =>
        simp only [fQ] at hs
        split at hs
        case isFalse=>cases hs
        rename_i hoff
        rw [Option.bind_eq_some_iff] at hs
        obtain ⟨a,ha,hs⟩:=hs
        split at hs
        case isFalse=>cases hs
        rename_i hsz
        obtain ⟨q,hq,rfl⟩:=map_some hs
        simp only [List.mapM_cons,bind,Option.bind_eq_some_iff,pure,Option.some.injEq] at hm
        obtain ⟨x0,hx0,xr,hxr,rfl⟩:=hm
        obtain ⟨y,hy1,hy2,hy3⟩:=ih1 f.type a fuel _ x0 ha hx0
        obtain ⟨z,hz1,hz2,hz3⟩:=ih2 (off + a.size) r q fuel cs xr hq (by rw [hlen]; simp [Sh.size]; omega) hxr
        have hsplit:cs.drop off = (cs.drop f.offset).take (P.cellsOf f.type)++cs.drop (off + a.size):=by
          rw [hoff,← hsz,← List.drop_drop]
          exact (List.take_append_drop a.size (cs.drop off)).symm
        rw [hsplit]
        exact ⟨(y,z),⟨hy1,hz1⟩,hy2.append hz2,fun u hu=>(List.mem_append.1 hu).elim (hy3 u) (hz3 u)⟩
theorem cell_plain {r:Reach} {b0:Nat} {t:TypeId} {v:Value} {s:Sh} {n:Nat} (hs:ke P (n + 1) t = some s) (hv:Value.okWide P w r b0 t v):(s.isSt = true∧∃ cs,v = .agg cs)∨(s.isSt = false∧v.cells = #[v]):=by
  simp only [ke] at hs
  unfold Value.okWide at hv
  split at hs
  · rename_i hu
    cases hs
    simp only [hu,Cell.okWide,Cell.ok] at hv
    right
    refine ⟨rfl,?_⟩
    cases v <;> first | rfl | (simp at hv; done)
  · rename_i k hu
    cases hs
    simp only [hu,Cell.okWide,Cell.ok] at hv
    right
    refine ⟨rfl,?_⟩
    cases v <;> first | rfl | (simp at hv; done)
  · rename_i hu
    cases hs
    simp only [hu,Cell.okWide,Cell.ok] at hv
    right
    refine ⟨rfl,?_⟩
    cases v <;> first | rfl | (simp at hv; done)
  · rename_i e hu
    rw [Option.bind_eq_some_iff] at hs
    obtain ⟨se,hse,hs⟩:=hs
    split at hs
    case isFalse=>cases hs
    cases hs
    simp only [hu,Cell.okWide,Cell.ok] at hv
    right
    refine ⟨rfl,?_⟩
    cases v <;> first | rfl | (simp at hv; done)
  · rename_i fs hu
    rw [Option.bind_eq_some_iff] at hs
    obtain ⟨s',hs',hs⟩:=hs
    split at hs
    case isFalse=>cases hs
    have hss:s' = s:=Option.some.inj hs
    subst hss
    simp only [hu] at hv
    obtain ⟨cs,rfl,_⟩:=hv
    exact .inl ⟨shapeF_st hs',cs,rfl⟩
  · cases hs
theorem trod_sh (hi:∀ b o u,w.cell? ⟨b,o,none⟩ = some u→g.imm b o = some u) {n:Nat} {t:TypeId} {s:Sh} {v:Value} {d:DataW H} {ps:List MemPlace} {r:Reach} {b0:Nat} (hs:ke P (n + 1) t = some s) (h:DataW.Trod enc P w base spare held t v d ps)
    (hv:Value.okWide P w r b0 t v):∃ x:s.T,s.ok x∧R g (s.av x) v:=by
  obtain ⟨fuel,hf⟩:=h
  obtain ⟨x,h1,h2,h3⟩:=(shape_R (enc:=enc) (base:=base) (spare:=spare) (held:=held) hi (n + 1)).1 t s fuel _ _ hs hf
  refine ⟨x,h1,?_⟩
  rcases cell_plain hs hv with ⟨hst,cs,rfl⟩ | ⟨hst,hc⟩
  · unfold Sh.av
    rw [hst]
    have:=RL.agg h2
    simpa [ir,Value.cells] using this
  · rw [hc] at h2
    unfold Sh.av
    rw [hst]
    simp only [ir]
    have hl:=h2.1
    match hcs:s.cells x,hl with
    | [c], _ =>
      rw [hcs] at h2
      exact h2.2 0 c v rfl rfl
def parS (P:Program):List TypeId→Option Sh
  | []=>some .unit
  | t :: r => match ke P 20 t, parS P r with
    | some s,some q=>some (.pair s q)
    | _,_=>none
def fp:(s:Sh)→s.T→List AV
  | .pair a r,x=>a.av x.1::fp r x.2
  | .bool,_=>[]
  | .int _,_=>[]
  | .str,_=>[]
  | .sl _,_=>[]
  | .unit,_=>[]
theorem args_R (hi:∀ b o u,w.cell? ⟨b,o,none⟩ = some u→g.imm b o = some u) {b0:Nat}:∀ {ts:List TypeId} {vs:List Value} {ds:List (DataW H)} {ps:List MemPlace} {S:Sh},parS P ts = some S→DataW.TrodAll enc P w base spare held ts vs ds ps →
    (∀ (j:Nat) t v,ts[j]? = some t→vs[j]? = some v→Value.okWide P w .any b0 t v)→∃ x:S.T,S.ok x∧fV g (fp S x) vs.toArray
  | [], vs, ds, ps, S, hS, h, _ => by
    simp only [parS] at hS
    cases hS
    cases vs with
    | nil=>exact ⟨(),trivial,rfl,fun i x u hx=>by simp [fp] at hx⟩
    | cons v r=>cases ds <;> exact h.elim
  | t :: ts, vs, ds, ps, S, hS, h, hok => by
    simp only [parS] at hS
    split at hS
    · rename_i s q hs hq
      cases hS
      cases vs with
      | nil=>cases ds <;> exact h.elim
      | cons v vs =>
        cases ds with
        | nil=>exact h.elim
        | cons d ds =>
          obtain ⟨p1,p2,h1,h2,_⟩:=h
          obtain ⟨x,hx1,hx2⟩:=trod_sh hi (n:=19) hs h1 (hok 0 t v rfl rfl)
          obtain ⟨y,hy1,hy2⟩:=args_R hi hq h2 (fun j t v ht hv=>hok (j + 1) t v (by simpa using ht) (by simpa using hv))
          refine ⟨(x,y),⟨hx1,hy1⟩,by simpa [fp] using hy2.1,fun i a u ha hu=>?_⟩
          cases i with
          | zero=>simp [fp] at ha hu; subst ha; subst hu; exact hx2
          | succ i=>exact hy2.2 i a u (by simpa [fp] using ha) (by simpa using hu)
    · cases hS
theorem jl (hl:laidOutB P = true) {W W':World} {sp':Nat→Bool}:∀ {ts:List TypeId} {vs:List Value} {ds:List (DataW H)} {ps:List MemPlace},(∀ t ∈ ts,P.readableRec t = true∧t < P.types.size) →
    DataW.TrodAll enc P W base (fun _=>true) true ts vs ds ps→(∀ p ∈ ps,W.sameAt W' p)→(∀ p ∈ ps,sp' p.block = true)→DataW.TrodAll enc P W' base sp' true ts vs ds ps
  | [],[],[],ps,_,h,_,_=>h
  | [],[],_::_,_,_,h,_,_=>h.elim
  | [],_::_,[],_,_,h,_,_=>h.elim
  | [],_::_,_::_,_,_,h,_,_=>h.elim
  | _::_,[],[],_,_,h,_,_=>h.elim
  | _::_,[],_::_,_,_,h,_,_=>h.elim
  | _::_,_::_,[],_,_,h,_,_=>h.elim
  | t :: ts, v :: vs, d :: ds, ps, ht, h, hs, hp => by
    obtain ⟨p,q,h1,h2,rfl⟩:=h
    exact ⟨p,q,WideElems.Trod_stays hl (ht t (by simp)).1 (ht t (by simp)).2 h1 (fun x hx=>hs x (by simp [hx])) (fun x hx=>hp x (by simp [hx])),
      jl hl (fun t h=>ht t (by simp [h])) h2 (fun x hx=>hs x (by simp [hx])) (fun x hx=>hp x (by simp [hx])),rfl⟩
theorem nZ {W W':World} {may:MemPlace→Prop} (hb:Below W.heap.size W W'):W.keptBut W' may:=by
  refine ⟨hb.os,hb.output,fun i hi=>?_⟩
  rw [hb.block i hi]
  cases hh:W.heap[i]? with
  | none=>rfl
  | some o=>cases o <;> first | rfl | exact ⟨rfl,rfl,rfl,fun _ _=>rfl⟩ | exact .inr ⟨rfl,rfl⟩
theorem post_law {f:Func} {s:ChangeSpec} {apart fresh handsOn again:Bool} {W W':World} {args:Array Value} {ds gs:List (DataW H)} {before:List MemPlace} {tb:TypeId} (hl:laidOutB P = true) (ht:∀ t ∈ f.params.toList,P.readableRec t = true∧t < P.types.size)
    (hres:f.resultTypes = #[tb]) (htb:P.underlying tb = some .bool) (hvars:s.vars = []) (hfn:∀ ds:List (DataW H),ds.length = f.params.size→(s.fn H ds).results = [.lit (.bool true)]∧(s.fn H ds).args = ds∧(s.fn H ds).vars = [])
    (hW:DataW.Whole enc P f.params.toList s.vars apart W args.toList ds gs before) (hb:Below W.heap.size W W'):s.post enc P f apart fresh handsOn again W args (.bool true) W':=by
  have hW0:=hW
  obtain ⟨p,q,hA,hV,hpq,hz,hn⟩:=hW
  rw [hvars] at hV
  obtain ⟨rfl,rfl⟩:=trodVars_none hV
  simp only [List.append_nil] at hpq
  subst hpq
  have hlen:ds.length = f.params.size:=by
    have key:∀ {ts:List TypeId} {vs:List Value} {ds:List (DataW H)} {ps:List MemPlace},DataW.TrodAll enc P W 0 (fun _=>true) true ts vs ds ps→ds.length = ts.length:=by
      intro ts
      induction ts with
      | nil=>intro vs ds ps h; cases vs <;> cases ds <;> first | rfl | exact h.elim
      | cons t ts ih =>
        intro vs ds ps h
        cases vs <;> cases ds <;> first | exact h.elim | skip
        obtain ⟨_,_,_,h2,_⟩:=h
        simp [ih h2]
    have:=key hA
    simpa using this
  obtain ⟨hr1,hr2,hr3⟩:=hfn (ds++[]) (by simpa using hlen)
  have hlt:∀ x ∈ before,x.block < W.heap.size:=fun x hx=>by simpa using hW0.lt x hx
  have hsame:∀ x ∈ before,W.sameAt W' x:=fun x hx=>hb.same (hlt x hx)
  have hret:∀ (b:Nat) (sp:Nat→Bool) (hd:Bool),DataW.TrodAll enc P W' b sp hd f.resultTypes.toList ((Value.bool true).resultList f.resultTypes.size) (s.fn H (ds++[])).results []:=by
    intro b sp hd
    rw [hr1,hres]
    refine ⟨[],[],⟨1,?_⟩,rfl,rfl⟩
    simp [DataW.trod,htb,Value.cells]
  have hargs:∀ sp:Nat→Bool,(∀ p ∈ before,sp p.block = true)→DataW.TrodAll enc P W' 0 sp true f.params.toList args.toList (s.fn H (ds++[])).args before:=by
    intro sp hsp
    rw [hr2,List.append_nil]
    exact jl hl ht hA hsame hsp
  have hvs:∀ sp:Nat→Bool,DataW.TrodVars enc P W' sp s.vars (s.fn H (ds++[])).vars []:=by
    intro sp
    rw [hvars,hr3]
    rfl
  refine ⟨ds,[],before,[],before,[],hW0,hret _ _ _,hargs _ (fun x hx=>by simpa using hlt x hx),hvs _,nZ hb,fun _=>?_⟩
  refine ⟨fun j t r hj hr=>?_,_,_,([]++before)++[],⟨[]++before,[],trodAll_append (hargs _ (fun _ _=>rfl)) (hret _ _ _),hvs _,rfl,?_,?_⟩,?_⟩
  · rw [hres] at hj hr
    match j with
    | 0 =>
      simp [Value.resultList] at hj hr
      subst hj; subst hr
      simp [Value.okWide,htb,Cell.okWide,Cell.ok]
    | j + 1=>simp at hj
  · intro b off hp
    have hp':(MemPlace.cell b off) ∈ before:=by simpa using hp
    have h1:=hz b off hp'
    have h2:=hlt _ hp'
    unfold World.frozen? at h1 ⊢
    rw [hb.block b h2]; exact h1
  · intro ha
    have:=hn ha
    simpa using this
  · intro x hx _
    simpa using hx
theorem wrap_nb {b:Bool} {l:List AV} (h:∀ c ∈ l,c.NB):(ir b l).NB:=by
  cases b
  · cases l with
    | nil=>exact .any
    | cons c r=>exact h c (List.mem_cons_self ..)
  · exact .agg _ h
theorem kg:∀ (s:Sh) (x:s.T),∀ c ∈ s.cells x,c.NB
  | .bool,b,c,h=>by simp only [Sh.cells,List.mem_singleton] at h; subst h; exact .lit _
  | .int _,b,c,h=>by simp only [Sh.cells,List.mem_singleton] at h; subst h; exact .lit _
  | .str,b,c,h=>by simp only [Sh.cells,List.mem_singleton] at h; subst h; exact .lit _
  | .sl e, l, c, h => by
    simp only [Sh.cells,List.mem_singleton] at h; subst h
    refine .sl _ _ _ fun v hv=>?_
    obtain ⟨y,_,rfl⟩:=List.mem_map.1 hv
    exact wrap_nb (kg e y)
  | .unit,_,c,h=>by simp [Sh.cells] at h
  | .pair a r, x, c, h => by
    simp only [Sh.cells,List.mem_append] at h
    exact h.elim (kg a x.1 c) (kg r x.2 c)
theorem avsOf_nb:∀ (s:Sh) (x:s.T),∀ c ∈ fp s x,c.NB
  | .pair a r, x, c, h => by
    simp only [fp,List.mem_cons] at h
    rcases h with rfl | h
    · exact wrap_nb (kg a x.1)
    · exact avsOf_nb r x.2 c h
  | .bool,_,c,h=>by simp [fp] at h
  | .int _,_,c,h=>by simp [fp] at h
  | .str,_,c,h=>by simp [fp] at h
  | .sl _,_,c,h=>by simp [fp] at h
  | .unit,_,c,h=>by simp [fp] at h
theorem law_calls {f:FuncId} {fn:Func} {s:ChangeSpec} {apart fresh handsOn again:Bool} {tb:TypeId} {S:Sh} (hl:laidOutB P = true) (ht:∀ t ∈ fn.params.toList,P.readableRec t = true∧t < P.types.size)
    (hS:parS P fn.params.toList = some S) (hres:fn.resultTypes = #[tb]) (htb:P.underlying tb = some .bool) (hvars:s.vars = []) (hfn:∀ ds:List (DataW H),ds.length = fn.params.size→(s.fn H ds).results = [.lit (.bool true)]∧(s.fn H ds).args = ds∧(s.fn H ds).vars = [])
    (hlaw:∀ x:S.T,S.ok x→az P f (fp S x) ⟨[]⟩ (.lit (.bool true)))
    (W:World) (b0:Nat) (args:Array Value) (ds gs:List (DataW H)) (before:List MemPlace) (hval:∀ (j:Nat) t v,fn.params[j]? = some t→args[j]? = some v→Value.okWide P W .any b0 t v)
    (hW:DataW.Whole enc P fn.params.toList s.vars apart W args.toList ds gs before):Calls P f args W fun e W'=>∃ v,e = .returned v∧s.post enc P fn apart fresh handsOn again W args v W':=by
  have hW0:=hW
  obtain ⟨p,q,hA,_⟩:=hW
  let g0:Gh:=⟨W.heap.size,fun b o=>W.cell? ⟨b,o,none⟩,fun _=>none,fun _ _=>none,fun _=>none⟩
  have hg:Good g0 W:=⟨fun _ _ _ h=>h,fun _ _ _ _=>.inl rfl,(fun b c hc=>by cases hc),Nat.le_refl _⟩
  have hbx:BoxR g0 W ⟨[]⟩:=⟨fun _ _=>rfl,fun id cs hc=>by simp at hc,fun id bx hc=>by simp at hc⟩
  obtain ⟨x,hx,hargs⟩:=args_R (g:=g0) (b0:=b0) (fun b o u h=>h) hS hA (fun j t v ht hv=>hval j t v (by simpa using ht) (by simpa using hv))
  refine (hlaw x hx g0 W args (fun _=>.box 0 0) hg hbx (by simpa using hargs)).mono fun e W' ⟨u,g',he,hle,hR,_⟩=>?_
  have hu:=hR.lit_inv.1
  subst hu
  exact ⟨_,he,post_law hl ht hres htb hvars hfn hW0 hle.below⟩
theorem law_top {f:FuncId} {fn:Func} {s:ChangeSpec} {apart fresh handsOn again:Bool} {tb:TypeId} {S:Sh} (hl:laidOutB P = true) (ht:(fn.params.toList.all fun t=>P.readableRec t && decide (t < P.types.size)) = true)
    (hS:parS P fn.params.toList = some S) (hres:fn.resultTypes = #[tb]) (htb:P.underlying tb = some .bool) (hvars:s.vars = []) (hfn:∀ ds:List (DataW H),ds.length = fn.params.size→(s.fn H ds).results = [.lit (.bool true)]∧(s.fn H ds).args = ds∧(s.fn H ds).vars = [])
    (hlaw:∀ x:S.T,S.ok x→ao P f (fp S x) ⟨[]⟩ fun v _=>v = .lit (.bool true))
    (W:World) (b0:Nat) (args:Array Value) (ds gs:List (DataW H)) (before:List MemPlace) (hval:∀ (j:Nat) t v,fn.params[j]? = some t→args[j]? = some v→Value.okWide P W .any b0 t v)
    (hW:DataW.Whole enc P fn.params.toList s.vars apart W args.toList ds gs before):Calls P f args W fun e W'=>∃ v,e = .returned v∧s.post enc P fn apart fresh handsOn again W args v W':=by
  refine law_calls hl (fun t h=>by have:=List.all_eq_true.1 ht t h; simpa using this) hS hres htb hvars hfn (fun x hx=>?_) W b0 args ds gs before hval hW
  refine pure_of ((hlaw x hx).mono fun v st e=>by subst e; exact .le _ _ (.refl _) (.lit _)) (fun v hv=>avsOf_nb S x v hv) _
end
end Go.Fx
/- Code that is carried out: an evaluator, and that it is right. -/
namespace Go.Fx
open Go
section
variable (F:Nat→FuncId) (call:FuncId→List AV→St→Option (AV×St)) (pc:FuncId→List AV→Option AV)
end
section
variable {P:Program} {F:Nat→FuncId} {call:FuncId→List AV→St→Option (AV×St)} {pc:FuncId→List AV→Option AV}
def TabOk (P:Program) (F:Nat→FuncId) (T:FuncId→Option AFun):Prop:=∀ q fn,T q = some fn→bR P q = true∧∃ X:Cx,X.F = F∧io P X q = some fn
end
end Go.Fx
/- Evaluation by rewriting: small equations, and steps at branches. -/
namespace Go.Fx
open Go
section
variable (v:Value) (vs cs:List AV) (i o k s t n l c:Nat) (b:Bool) (x:AV) (f:Fn) (w:Option Nat)
theorem dis_any:AV.any.dis = .any:=rfl
theorem gu:(AV.lit v).dis = .lit v:=rfl
theorem l7:(AV.ptr i o).dis = .ptr i o:=rfl
theorem qa:(AV.sl b k cs).dis = .sl false k cs:=rfl
theorem dis_map:(AV.map i).dis = .map i:=rfl
theorem dis_yld (i:Nat):(AV.yld i).dis = .yld i:=rfl
theorem m9 (k:Nat):mkSl k [] = .sl true k []:=rfl
theorem na (k:Nat) (v:Value) (r:List AV):mkSl k (.lit v::r) = .sl true k (.lit v::r):=rfl
theorem dn (k:Nat) (v:List AV) (r:List AV):mkSl k (.agg v::r) = .sl true k (.agg v::r):=rfl
theorem mkSl_sl (k:Nat) (o:Bool) (q:Nat) (v:List AV) (r:List AV):mkSl k (.sl o q v::r) = .sl true k (.sl o q v::r):=rfl
theorem dis_fn:(AV.fn f vs cs).dis = .fn f vs cs:=rfl
theorem fH:(AV.agg cs).dis = .agg (cs.map AV.own1):=rfl
theorem ba:(AV.tup cs).dis = .tup (cs.map AV.own2):=rfl
theorem nc:(AV.bs i k o l c).dis = .bs i k o l c:=rfl
theorem eg:(AV.lit v).own1 = .lit v:=rfl
theorem own1_ptr:(AV.ptr i o).own1 = .ptr i o:=rfl
theorem dh:(AV.sl b k cs).own1 = .sl false k cs:=rfl
theorem nf:(AV.map i).own1 = .map i:=rfl
theorem own2_lit:(AV.lit v).own2 = .lit v:=rfl
theorem own2_ptr:(AV.ptr i o).own2 = .ptr i o:=rfl
theorem dp:(AV.agg cs).own2 = .agg (cs.map AV.own1):=rfl
theorem k8:(AV.lit v).cells = [.lit v]:=rfl
theorem k9:(AV.ptr i o).cells = [.ptr i o]:=rfl
theorem eh:(AV.sl b k cs).cells = [.sl b k cs]:=rfl
theorem la:(AV.map i).cells = [.map i]:=rfl
theorem oX:(AV.agg cs).cells = cs:=rfl
theorem ng:(AV.lit v).solid1 = true:=rfl
theorem gv:(AV.ptr i o).solid1 = true:=rfl
theorem oY:(AV.sl b k cs).solid1 = true:=rfl
theorem gx:(AV.map i).solid1 = true:=rfl
theorem solid_eq:x.solid = x.cells.all AV.solid1:=rfl
theorem noL_any:AV.any.noL = true:=rfl
theorem iM:(AV.lit v).noL = true:=rfl
theorem gy:(AV.ptr i o).noL = true:=rfl
theorem lc:(AV.sl b k cs).noL = true:=rfl
theorem noL_map:(AV.map i).noL = true:=rfl
theorem noL_fn:(AV.fn f vs cs).noL = true:=rfl
theorem bk:(AV.agg cs).noL = true:=rfl
theorem noL_tup:(AV.tup cs).noL = true:=rfl
theorem noL_bs:(AV.bs i k o l c).noL = true:=rfl
theorem iu:kill s .any = .any:=rfl
theorem kill_lit:kill s (.lit v) = .lit v:=rfl
theorem kill_ptr:kill s (.ptr i o) = .ptr i o:=rfl
theorem aS:kill s (.lptr t o) = if t = s then .any else .lptr t o:=rfl
theorem iN:kill s (.cptr cs) = .cptr cs:=rfl
theorem eT:kill s (.sl b k cs) = .sl b k cs:=rfl
theorem cT:kill s (.map i) = .map i:=rfl
theorem kill_agg:kill s (.agg cs) = .agg cs:=rfl
theorem eJ:kill s (.tup cs) = .tup cs:=rfl
theorem kill_bs:kill s (.bs i k o l c) = .bs i k o l c:=rfl
end
section
variable (F:Nat→FuncId) (sf:Sf) (t g:Nat) (v:AV) (st:St)
theorem ev_r:sf.ev F (.r t) = sf.reg t:=rfl
theorem ev_c:sf.ev F (.c v) = v:=rfl
theorem ev_f:sf.ev F (.f g) = .fn (.func (F g)) [] []:=rfl
theorem evOwn_r:sf.evOwn F (.r t) = sf.reg t:=rfl
theorem disOp_r:sf.disOp (.r t) = sf.disAt t:=rfl
theorem setB_r (b:Bool):(Opd.r t).setB sf b = sf.set t (.lit (.bool b)):=rfl
theorem putS (d:Nat):sf.put (some d) v = sf.set d v:=rfl
theorem putN:sf.put none v = sf:=rfl
variable (k k':IntKind) (a b:Int) (p q:Bool) (sa sb:ByteArray)
theorem di:binI .num .add (.lit (.int k a)) (.lit (.int k b)) = .ok (.lit (.int k (k.wrap (a + b)))):=by cases k <;> rfl
theorem n_sub:binI .num .sub (.lit (.int k a)) (.lit (.int k b)) = .ok (.lit (.int k (k.wrap (a - b)))):=by cases k <;> rfl
theorem n_eql:binI .num .eql (.lit (.int k a)) (.lit (.int k b)) = .ok (.lit (.bool (decide (a = b)))):=by cases k <;> rfl
theorem n_neq:binI .num .neq (.lit (.int k a)) (.lit (.int k b)) = .ok (.lit (.bool (decide (¬ a = b)))):=by
  have h:(a != b) = decide (¬ a = b):=by rw [bne_eq,decide_not]; rfl
  rw [← h]
  cases k <;> rfl
theorem n_lss:binI .num .lss (.lit (.int k a)) (.lit (.int k b)) = .ok (.lit (.bool (decide (a < b)))):=by cases k <;> rfl
theorem oZ:binI .num .leq (.lit (.int k a)) (.lit (.int k b)) = .ok (.lit (.bool (decide (a≤b)))):=by cases k <;> rfl
theorem cM:binI .num .gtr (.lit (.int k a)) (.lit (.int k b)) = .ok (.lit (.bool (decide (a > b)))):=by cases k <;> rfl
theorem gI:binI .num .geq (.lit (.int k a)) (.lit (.int k b)) = .ok (.lit (.bool (decide (a ≥ b)))):=by cases k <;> rfl
end
theorem bV {A:Type} {p:Prop} [Decidable p] {r:Res A} {K:A→Prop} (h:p):(Res.req (decide p) r).wp K = r.wp K:=by
  rw [wp_req,decide_eq_true h]
  exact propext ⟨fun q=>q.2,fun q=>⟨rfl,q⟩⟩
theorem req_tt {A:Type} {r:Res A} {K:A→Prop}:(Res.req true r).wp K = r.wp K:=propext ⟨fun q=>q.2,fun q=>⟨rfl,q⟩⟩
section
variable {x:Opd} {p:Prop} [Decidable p] {A B:Sf→St→(Exit→Sf→St→Prop)→Prop} {sf:Sf} {st:St} {Q:Exit→Sf→St→Prop} {t:Nat} {b:Bool} {Y N:Sf→St→Prop}
theorem qc:im x (.lit (.bool true)) A B sf st Q = A (x.setB sf true) st Q:=by
  rw [condI_eq]; exact propext ⟨fun h=>h.1 rfl,fun h=>⟨fun _=>h,fun e=>by cases e⟩⟩
theorem qd:im x (.lit (.bool false)) A B sf st Q = B (x.setB sf false) st Q:=by
  rw [condI_eq]; exact propext ⟨fun h=>h.2 rfl,fun h=>⟨fun e=>(by cases e),fun _=>h⟩⟩
theorem cU (h:p):im x (.lit (.bool (decide p))) A B sf st Q = A (x.setB sf true) st Q:=by
  rw [decide_eq_true h,qc]
theorem ci (h:¬ p):im x (.lit (.bool (decide p))) A B sf st Q = B (x.setB sf false) st Q:=by
  rw [decide_eq_false h,qd]
theorem ap (h1:p→A (x.setB sf true) st Q) (h2:¬ p→B (x.setB sf false) st Q):im x (.lit (.bool (decide p))) A B sf st Q:=by
  by_cases h:p
  · rw [cU h]; exact h1 h
  · rw [ci h]; exact h2 h
theorem nh {want:Bool}:eN t want (.lit (.bool true)) Y N sf st = if want = true then Y (sf.set t (.lit (.bool true))) st else N (sf.set t (.lit (.bool true))) st:=by
  rw [oS]
  cases want
  · exact propext ⟨fun h=>h.2 rfl,fun h=>⟨fun e=>(by cases e),fun _=>h⟩⟩
  · exact propext ⟨fun h=>h.1 rfl,fun h=>⟨fun _=>h,fun e=>(by cases e)⟩⟩
theorem ni {want:Bool}:eN t want (.lit (.bool false)) Y N sf st = if want = true then N (sf.set t (.lit (.bool false))) st else Y (sf.set t (.lit (.bool false))) st:=by
  rw [oS]
  cases want
  · exact propext ⟨fun h=>h.1 rfl,fun h=>⟨fun _=>h,fun e=>(by cases e)⟩⟩
  · exact propext ⟨fun h=>h.2 rfl,fun h=>⟨fun e=>(by cases e),fun _=>h⟩⟩
theorem dy (h:p) {want:Bool}:eN t want (.lit (.bool (decide p))) Y N sf st = if want = true then Y (sf.set t (.lit (.bool true))) st else N (sf.set t (.lit (.bool true))) st:=by
  rw [decide_eq_true h,nh]
theorem bG (h:¬ p) {want:Bool}:eN t want (.lit (.bool (decide p))) Y N sf st = if want = true then N (sf.set t (.lit (.bool false))) st else Y (sf.set t (.lit (.bool false))) st:=by
  rw [decide_eq_false h,ni]
theorem aZ {want:Bool} (h1:p→if want = true then Y (sf.set t (.lit (.bool true))) st else N (sf.set t (.lit (.bool true))) st) (h2:¬ p→if want = true then N (sf.set t (.lit (.bool false))) st else Y (sf.set t (.lit (.bool false))) st):eN t want (.lit (.bool (decide p))) Y N sf st:=by
  by_cases h:p
  · rw [dy h]; exact h1 h
  · rw [bG h]; exact h2 h
end
def nj:List Nat→List (Nat×AV)→List (Nat×AV)
  | [],_=>[]
  | t::r,l=>(t,getR l t)::nj r l
theorem o7 (l:List (Nat×AV)):nj [] l = []:=rfl
theorem nn (t:Nat) (r:List Nat) (l:List (Nat×AV)):nj (t::r) l = (t,getR l t)::nj r l:=rfl
theorem mask_eq (sf:Sf) (lv ll:List Nat):sf.mask lv ll = ⟨nj lv sf.regs,il ll sf.locs⟩:=by
  have:∀ lv:List Nat,(lv.map fun t=>(t,sf.reg t)) = nj lv sf.regs:=by
    intro lv
    induction lv with
    | nil=>rfl
    | cons t r ih=>simp only [List.map_cons,nj,ih]; rfl
  unfold Sf.mask
  rw [this]
theorem bW {p q:Prop} (h:p):(p∧q) = q:=propext ⟨fun a=>a.2,fun a=>⟨h,a⟩⟩
theorem bX {n bytes:Nat} (h:n * bytes≤140737488355328∧n≤1000000000000000):fR n bytes = true:=decide_eq_true h
theorem br (k:NilK) (x y:AV):binI (.nil k) .eql x y = (Res.ofOpt (fO k x y)).bind fun b=>.ok (.lit (.bool b)):=rfl
theorem l8 (k:NilK) (x y:AV):binI (.nil k) .neq x y = (Res.ofOpt (fO k x y)).bind fun b=>.ok (.lit (.bool !b)):=rfl
theorem nilX_nil (op:BinOp) (C:AV→St→Prop) (st:St):nilX op (.lit (.slice none 0 0)) (.lit (.slice none 0 0)) C st = (binI (.nil .sl) op (.lit (.slice none 0 0)) (.lit (.slice none 0 0))).wp (atS C st):=rfl
theorem nilX_bs (op:BinOp) (i k o l c:Nat) (C:AV→St→Prop) (st:St):nilX op (.bs i k o l c) (.lit (.slice none 0 0)) C st = (binI (.nil .sl) op (.bs i k o l c) (.lit (.slice none 0 0))).wp (atS C st):=rfl
theorem o8 (op:BinOp) (o:Bool) (k:Nat) (x:AV) (l:List AV) (C:AV→St→Prop) (st:St):nilX op (.sl o k (x::l)) (.lit (.slice none 0 0)) C st = (binI (.nil .sl) op (.sl o k (x::l)) (.lit (.slice none 0 0))).wp (atS C st):=rfl
theorem np (op:BinOp) (o:Bool) (k:Nat) (C:AV→St→Prop) (st:St):nilX op (.sl o k []) (.lit (.slice none 0 0)) C st = ∀ b:Bool,C (.lit (.bool b)) st:=rfl
theorem nr (c:AV) (r:List AV):jN none (c::r) = .ok c:=rfl
theorem nt (n:Nat) (r:List AV):jN (some n) r = .req (decide (n≤r.length)) (.ok (.agg (r.take n))):=rfl
section
variable (c a b:AV) (q:Bool) (vs:List AV) (i:Nat)
theorem pick_tt:pickV (.lit (.bool true)) a b = .ok a.dis:=rfl
theorem pick_ff:pickV (.lit (.bool false)) a b = .ok b.dis:=rfl
theorem not_dec (p:Prop) [Decidable p]:(!decide p) = decide (¬ p):=(decide_not).symm
end
end Go.Fx
/- What lA of weaker demands; loops that are carried out round by round. -/
namespace Go.Fx
open Go
section
variable {P:Program} {F:Nat→FuncId} {m:Bool}
theorem callI_mono {p:Bool} {d:Option Nat} {f:AV} {args:List AV} {K K':Sf→St→Prop} {sf:Sf} {st:St} (h:∀ sf st,K sf st→K' sf st):jd P m p d f args K sf st→jd P m p d f args K' sf st:=by
  unfold jd
  split
  · rintro ⟨h1,h2⟩
    refine ⟨h1,?_⟩
    split
    · rename_i e; rw [if_pos e] at h2; obtain ⟨a,v,b,c⟩:=h2; exact ⟨a,v,b,h _ _ c⟩
    · rename_i e; rw [if_neg e] at h2; obtain ⟨a,Q,b,c⟩:=h2; exact ⟨a,Q,b,fun v st' q=>h _ _ (c v st' q)⟩
  · rintro ⟨h1,h2,Q,h3,h4⟩; exact ⟨h1,h2,Q,h3,fun t st' q=>h _ _ (h4 t st' q)⟩
  · exact id
theorem appX_mono {m:Bool} {k bytes:Nat} {b:AV} {C C':AV→St→Prop} {st:St} {new:List AV} (h:∀ v st,C v st→C' v st):appX m k bytes b C st new→appX m k bytes b C' st new:=by
  unfold appX
  split
  · rintro ⟨h1,h2,h3,h4⟩
    refine ⟨h1,h2,h3,Res.wp_mono h4 fun cs hc=>?_⟩
    split
    · rename_i e; rw [if_pos e] at hc; exact ⟨hc.1,h _ _ hc.2⟩
    · rename_i e; rw [if_neg e] at hc; exact ⟨hc.1,fun c hc'=>h _ _ (hc.2 c hc')⟩
  · rintro ⟨h1,h2,h3⟩
    refine ⟨h1,h2,?_⟩
    split
    · rename_i e; rw [if_pos e] at h3; exact h _ _ h3
    · rename_i e; rw [if_neg e] at h3; exact fun c hc=>h _ _ (h3 c hc)
  · exact id
theorem stepX_mono {i:XI} {d:Option Nat} {K K':Sf→St→Prop} {sf:Sf} {st:St} (h:∀ sf st,K sf st→K' sf st):aH F m i d K sf st→aH F m i d K' sf st:=by
  have hk:∀ v st,putK K d sf v st→putK K' d sf v st:=fun v st=>h _ _
  cases i with
  | ldF x k=>exact id
  | bad=>exact id
  | nilU op x y =>
    simp only [aH,nilX]
    split
    · exact fun q b=>hk _ _ (q b)
    · exact fun q=>Res.wp_mono q fun v=>hk v st
  | appB s k bytes y=>exact fun q=>Res.wp_mono q fun es=>appX_mono hk
  | copyB k x y =>
    refine fun q=>Res.wp_mono q fun es=>?_
    unfold copyX
    split
    · rintro ⟨h1,h2,h3,h4⟩; exact ⟨h1,h2,h3,Res.wp_mono h4 fun cs hc=>⟨hc.1,hk _ _ hc.2⟩⟩
    · exact fun q=>⟨q.1,hk _ _ q.2⟩
    · exact fun q=>⟨q.1,hk _ _ q.2⟩
    · exact id
  | clrB k z x =>
    simp only [aH,clrX]
    split
    · rintro ⟨h1,h2,h4⟩; exact ⟨h1,h2,Res.wp_mono h4 fun cs hc=>⟨hc.1,hk _ _ hc.2⟩⟩
    · exact hk _ _
    · exact hk _ _
    · exact id
  | clrM x =>
    simp only [aH,clrMX]
    split
    · rintro ⟨h1,h4⟩; exact ⟨h1,Res.wp_mono h4 fun cs hc=>hk _ _ hc⟩
    · exact hk _ _
    · exact id
  | mksB k bytes z l c =>
    simp only [aH,mO]
    split
    · rintro ⟨h1,h2,h3,h4,h5,h6⟩; exact ⟨h1,h2,h3,h4,h5,hk _ _ h6⟩
    · exact id
  | mks k bytes z l c =>
    simp only [aH,mksX]
    split
    · rintro ⟨h2,h3,h4,h5,h6⟩; exact ⟨h2,h3,h4,h5,hk _ _ h6⟩
    · exact id
  | mknz x =>
    simp only [aH,mknzX]
    split
    · rintro ⟨h2,h3,h4,h5⟩; exact ⟨h2,h3,h4,fun c hc=>hk _ _ (h5 c hc)⟩
    · exact id
  | slA n k x lo hi mx =>
    simp only [aH,slAX]
    split
    · exact fun q=>Res.wp_mono q fun v=>hk v st
    · exact id
  | rng x =>
    simp only [aH,rngX]
    split
    · exact fun q=>Res.wp_mono q fun _=>hk _ _
    · exact hk _ _
    · exact id
  | nxt s =>
    simp only [aH,nxtX]
    split
    · exact h _ _
    · refine fun q=>Res.wp_mono q fun es ⟨h1,h2,h3,h4⟩=>⟨h1,h2,fun i k x b a1 a2 a3=>h _ _ (h3 i k x b a1 a2 a3),fun a=>h _ _ (h4 a)⟩
    · exact id
  | cmpS x y =>
    simp only [aH,cmpSX]
    split
    · exact hk _ _
    · exact id
  | rngS x =>
    simp only [aH,rngSX]
    split
    · exact hk _ _
    · exact id
  | nxtS s =>
    simp only [aH,mP]
    split
    · split
      · exact h _ _
      · exact fun q=>⟨q.1,fun e=>h _ _ (q.2.1 e),fun e c wd a b=>h _ _ (q.2.2 e c wd a b)⟩
    · exact id
  | ent s =>
    simp only [aH,entX]
    split
    · exact fun q=>Res.wp_mono q fun es ⟨h1,i,k,x,b,h2,h3,h4,h5⟩=>⟨h1,i,k,x,b,h2,h3,h4,hk _ _ h5⟩
    · exact id
  | mclone x =>
    simp only [aH,jT]
    split
    · rintro ⟨h1,h4⟩; exact ⟨h1,Res.wp_mono h4 fun cs hc=>hk _ _ hc⟩
    · exact id
  | mark s =>
    simp only [aH,oB]
    split
    · exact h _ _
    · exact id
  | bstO places z parts=>exact fun q=>Res.wp_mono q fun v=>h _ _
theorem lg {i:AI} {K K':Sf→St→Prop} {sf:Sf} {st:St} (h:∀ sf st,K sf st→K' sf st):oneI P F m i K sf st→oneI P F m i K' sf st:=by
  unfold oneI
  split
  · exact callI_mono h
  · exact stepX_mono h
  · exact fun q=>Res.wp_mono q fun r=>h r.1 r.2
theorem co:∀ {l:List GI} {K K':Sf→St→Prop} {sf:Sf} {st:St},(∀ sf st,K sf st→K' sf st)→runI P F m l K sf st→runI P F m l K' sf st
  | [],K,K',sf,st,h=>h _ _
  | ⟨none, i⟩ :: r, K, K', sf, st, h => by
    simp only [runI]
    exact lg fun sf st=>co h
  | ⟨some (t, want), i⟩ :: r, K, K', sf, st, h => by
    simp only [runI,eN]
    split
    · intro q c hc
      have q:=q c hc
      split
      · rename_i e; rw [if_pos e] at q; exact lg (fun sf st=>co h) q
      · rename_i e; rw [if_neg e] at q; exact co h q
    · exact fun ⟨a,b⟩=>⟨lg (fun sf st=>co h) a,co h b⟩
    · exact co h
    · exact id
theorem kh {locs0:List (Nat×List AV)} {st:St} {i:AI} {C C':PK→Sf→Prop} {sf:Sf} (h:∀ k sf,C k sf→C' k sf):aQ P F locs0 st i C sf→aQ P F locs0 st i C' sf:=by
  unfold aQ
  split
  · unfold ic
    split
    · rintro ⟨h1,h2,v,h3,h4⟩; exact ⟨h1,h2,v,h3,h _ _ h4⟩
    · exact id
  · exact h _ _
  · unfold eH
    split
    · unfold fX
      split
      · rintro ⟨h1,h2,h3,h4⟩; exact ⟨h1,h2,h3,h _ _ h4⟩
      · exact id
    · unfold jY
      split
      · rintro ⟨h1,h2,h3⟩; exact ⟨h1,h2,h _ _ h3⟩
      · exact id
    · unfold dP
      split
      · rintro ⟨h1,h2,h3,h4⟩; exact ⟨h1,h2,h3,h _ _ h4⟩
      · exact id
    · exact id
  · unfold pR
    split
    · exact fun q=>Res.wp_mono q fun v=>h _ _
    · exact fun q=>Res.wp_mono q fun v=>h _ _
  · exact fun q=>Res.wp_mono q fun v=>h _ _
  · exact fun q=>Res.wp_mono q fun v=>h _ _
theorem fq {locs0:List (Nat×List AV)} {st:St}:∀ {l:List GI} {K K':List PK→Sf→Prop} {ks:List PK} {sf:Sf},(∀ ks sf,K ks sf→K' ks sf)→aF P F locs0 st l K ks sf→aF P F locs0 st l K' ks sf
  | [],K,K',ks,sf,h=>h _ _
  | ⟨none, i⟩ :: r, K, K', ks, sf, h => by
    simp only [aF]
    exact kh fun k sf=>fq h
  | ⟨some (t, want), i⟩ :: r, K, K', ks, sf, h => by
    simp only [aF,ck]
    split
    · intro q c hc
      have q:=q c hc
      split
      · rename_i e; rw [if_pos e] at q; exact kh (fun k sf=>fq h) q
      · rename_i e; rw [if_neg e] at q; exact fq h q
    · exact fq h
    · exact id
theorem eY {locs0:List (Nat×List AV)} {ρ:St} {i:AI} {C C':PK→Sf→Prop} {sf:Sf} (h:∀ k sf,C k sf→C' k sf):oneM P F locs0 ρ i C sf→oneM P F locs0 ρ i C' sf:=by
  unfold oneM
  split
  · unfold callM1
    split
    · rintro ⟨h1,h2,v,h3,h4⟩; exact ⟨h1,h2,v,h3,h _ _ h4⟩
    · exact id
  · exact h _ _
  · unfold eH
    split
    · unfold fX
      split
      · rintro ⟨h1,h2,h3,h4⟩; exact ⟨h1,h2,h3,h _ _ h4⟩
      · exact id
    · unfold jY
      split
      · rintro ⟨h1,h2,h3⟩; exact ⟨h1,h2,h _ _ h3⟩
      · exact id
    · unfold dP
      split
      · rintro ⟨h1,h2,h3,h4⟩; exact ⟨h1,h2,h3,h _ _ h4⟩
      · exact id
    · exact id
  · exact fun q=>Res.wp_mono q fun v=>h _ _
theorem iv {t:Nat} {want:Bool} {v:AV} {Y Y' N N':Sf→Prop} {sf:Sf} (hy:∀ sf,Y sf→Y' sf) (hn:∀ sf,N sf→N' sf):ck t want v Y N sf→ck t want v Y' N' sf:=by
  unfold ck
  split
  · intro q c hc
    have q:=q c hc
    split
    · rename_i e; rw [if_pos e] at q; exact hy _ q
    · rename_i e; rw [if_neg e] at q; exact hn _ q
  · exact hn _
  · exact id
theorem dz {locs0:List (Nat×List AV)} {ρ:St}:∀ {l:List GI} {K K':List PK→Sf→Prop} {ks:List PK} {sf:Sf},(∀ ks sf,K ks sf→K' ks sf)→preM P F locs0 ρ l K ks sf→preM P F locs0 ρ l K' ks sf
  | [],K,K',ks,sf,h=>h _ _
  | ⟨none, i⟩ :: r, K, K', ks, sf, h => by
    simp only [preM]
    exact eY fun v sf=>dz h
  | ⟨some (t, want), i⟩ :: r, K, K', ks, sf, h => by
    simp only [preM]
    exact iv (fun sf=>eY fun v sf=>dz h) fun sf=>dz h
theorem ey {locs0:List (Nat×List AV)} {ρ:St}:∀ {l:List (Bool×GI)} {K K':List PK→Prop} {ks:List PK} {sf:Sf},(∀ ks,K ks→K' ks)→ee P F locs0 ρ l K ks sf→ee P F locs0 ρ l K' ks sf
  | [],K,K',ks,sf,h=>h _
  | (true, g) :: r, K, K', ks, sf, h => by
    simp only [ee]
    exact ey h
  | (false, ⟨none, i⟩) :: r, K, K', ks, sf, h => by
    simp only [ee]
    exact eY fun v sf=>ey h
  | (false, ⟨some (t, want), i⟩) :: r, K, K', ks, sf, h => by
    simp only [ee]
    exact iv (fun sf=>eY fun v sf=>ey h) fun sf=>ey h
theorem callM_mono {locs0:List (Nat×List AV)} {ρ st:St} {d:Option Nat} {f:AV} {args:List AV} {post:List (Bool×GI)} {drop:List Nat} {T T':St→Sf→Prop} {ks1:List PK} {sf:Sf} (h:∀ st sf,T st sf→T' st sf):mY P F locs0 ρ st d f args post drop T ks1 sf→mY P F locs0 ρ st d f args post drop T' ks1 sf:=by
  unfold mY
  split
  · rintro ⟨h1,h2,Qc,h3,h4⟩
    exact ⟨h1,h2,Qc,h3,ey (fun ks hk=>⟨hk.1,fun v s hq=>⟨(hk.2 v s hq).1,dz (fun ks sf hp=>⟨hp.1,hp.2.1,h _ _ hp.2.2⟩) (hk.2 v s hq).2⟩⟩) h4⟩
  · exact id
theorem appM_mono {locs0:List (Nat×List AV)} {ρ st:St} {d:Option Nat} {k bytes:Nat} {b y:AV} {post:List (Bool×GI)} {drop:List Nat} {T T':St→Sf→Prop} {ks1:List PK} {sf:Sf} (h:∀ st sf,T st sf→T' st sf):appM P F locs0 ρ st d k bytes b y post drop T ks1 sf→appM P F locs0 ρ st d k bytes b y post drop T' ks1 sf:=by
  rintro ⟨h1,h2,Qc,h3,h4⟩
  exact ⟨h1,h2,Qc,h3,ey (fun ks hk=>⟨hk.1,fun v s hq=>⟨(hk.2 v s hq).1,dz (fun ks sf hp=>⟨hp.1,hp.2.1,h _ _ hp.2.2⟩) (hk.2 v s hq).2⟩⟩) h4⟩
theorem callC_mono {locs0:List (Nat×List AV)} {st:St} {d:Option Nat} {f:AV} {args:List AV} {post:List GI} {T T':St→Sf→Prop} {ks1:List PK} {sf:Sf} (h:∀ st sf,T st sf→T' st sf):callC P F locs0 st d f args post T ks1 sf→callC P F locs0 st d f args post T' ks1 sf:=by
  unfold callC
  split
  · rintro ⟨h1,h2,h3,Qc,h4,h5⟩
    exact ⟨h1,h2,h3,Qc,h4,fun v s hq=>dz (fun ks sf hp=>⟨hp.1,h _ _ hp.2⟩) (h5 v s hq)⟩
  · exact id
theorem oneX1_mono {ρ:St} {SX:Nat→St→Prop} {j:Nat} {i:AI} {C C':PK→Sf→Prop} {sf:Sf} (h:∀ k sf,C k sf→C' k sf):ik P F ρ SX j i C sf→ik P F ρ SX j i C' sf:=by
  unfold ik
  split
  · unfold newX1
    rintro ⟨v,h3,h4⟩; exact ⟨v,h3,h _ _ h4⟩
  · unfold boxX1
    rintro ⟨h1,h2,v,h3,h4⟩; exact ⟨h1,h2,v,h3,h _ _ h4⟩
  · unfold m4
    split
    · rintro ⟨h1,h2,v,h3,h4⟩; exact ⟨h1,h2,v,h3,h _ _ h4⟩
    · exact id
  · exact id
theorem f9 {locs0:List (Nat×List AV)} {ρ:St} {SX:Nat→St→Prop}:∀ {l:List (Bool×GI)} {j:Nat} {K K':Nat→List PK→Sf→Prop} {ks:List PK} {sf:Sf},(∀ j ks sf,K j ks sf→K' j ks sf)→preX P F locs0 ρ SX j l K ks sf→preX P F locs0 ρ SX j l K' ks sf
  | [],j,K,K',ks,sf,h=>by simp only [preX]; exact h _ _ _
  | (true, ⟨none, i⟩) :: r, j, K, K', ks, sf, h => by
    simp only [preX]
    exact oneX1_mono fun v sf=>f9 h
  | (true, ⟨some _, i⟩) :: r, j, K, K', ks, sf, h => by
    simp only [preX]
    exact id
  | (false, ⟨none, i⟩) :: r, j, K, K', ks, sf, h => by
    simp only [preX]
    exact eY fun v sf=>f9 h
  | (false, ⟨some (t, want), i⟩) :: r, j, K, K', ks, sf, h => by
    simp only [preX]
    exact iv (fun sf=>eY fun v sf=>f9 h) fun sf=>f9 h
theorem aC_mono:∀ {c:AC} {Q Q':Exit→Sf→St→Prop} {sf:Sf} {st:St},(∀ e sf st,Q e sf st→Q' e sf st)→aC P F m c sf st Q→aC P F m c sf st Q':=by
  intro c
  induction c with
  | skip=>intro Q Q' sf st h; exact h _ _ _
  | ops lv ll l=>intro Q Q' sf st h; exact co fun sf st=>h _ _ _
  | draw lv ll dr hl tl=>intro Q Q' sf st h; exact fq fun ks sf ⟨h1,h2⟩=>⟨h1,co (fun sf st=>h _ _ _) h2⟩
  | drawM lv ll pre d f args post tl =>
    intro Q Q' sf st h
    rintro ⟨hm,ρ,hs,hp⟩
    exact ⟨hm,ρ,hs,dz (fun ks sf=>callM_mono fun st sf=>co fun sf st=>h _ _ _) hp⟩
  | drawA lv ll pre d b k bytes y post tl =>
    intro Q Q' sf st h
    rintro ⟨hm,ρ,hs,hp⟩
    exact ⟨hm,ρ,hs,dz (fun ks sf=>appM_mono fun st sf=>co fun sf st=>h _ _ _) hp⟩
  | drawC lv ll pre d f args post tl =>
    intro Q Q' sf st h
    rintro ⟨hm,hp⟩
    exact ⟨hm,dz (fun ks sf=>callC_mono fun st sf=>co fun sf st=>h _ _ _) hp⟩
  | drawG lv ll dr fl tl =>
    intro Q Q' sf st h
    rintro ⟨hm,SX,h0,hs,q⟩
    exact ⟨hm,SX,h0,hs,f9 (fun j ks sf ⟨h1,h2⟩=>⟨h1,fun s a=>co (fun sf st=>h _ _ _) (h2 s a)⟩) q⟩
  | seq a b iha ihb =>
    intro Q Q' sf st h
    exact iha fun e sf st=>by
      cases e with
      | normal=>exact ihb h
      | _=>exact h _ _ _
  | cond x a b iha ihb =>
    intro Q Q' sf st h
    simp only [aC,im]
    split
    · exact fun q=>⟨fun e=>iha h (q.1 e),fun e=>ihb h (q.2 e)⟩
    · exact id
  | block id b ih =>
    intro Q Q' sf st h
    exact ih fun e sf st=>by
      cases e with
      | exit i =>
        simp only [eu]
        split
        · exact h _ _ _
        · exact h _ _ _
      | _=>exact h _ _ _
  | loop lv ll b ih =>
    intro Q Q' sf st h
    rintro ⟨I,h0,hr⟩
    exact ⟨I,h0,fun k sf st hi=>ih (fun e sf st=>by
      cases e with
      | normal=>exact fun q=>q
      | _=>exact h _ _ _) (hr k sf st hi)⟩
  | exit lv ll id=>intro Q Q' sf st h; exact h _ _ _
  | scope b ih =>
    intro Q Q' sf st h
    exact ih fun e sf st=>by
      cases e with
      | goto l=>exact fun q=>q
      | _=>exact h _ _ _
  | rangeF lv ll x ps lb a b _ _ =>
    intro Q Q' sf st h
    rintro ⟨hm,hr⟩
    refine ⟨hm,?_⟩
    unfold kV at hr ⊢
    split at hr
    · obtain ⟨h1,h2⟩:=hr
      refine ⟨h1,fun r hy=>?_⟩
      obtain ⟨Qc,h3,h4⟩:=h2 r hy
      refine ⟨Qc,h3,fun v st' q=>?_⟩
      rcases h4 v st' q with ⟨a,b⟩ | ⟨a,b⟩ | ⟨k,a,b⟩
      · exact .inl ⟨a,h _ _ _ b⟩
      · exact .inr (.inl ⟨a,h _ _ _ b⟩)
      · exact .inr (.inr ⟨k,a,h _ _ _ b⟩)
    · exact hr.elim
  | ret=>intro Q Q' sf st h; exact h _ _ _
  | bad=>intro Q Q' sf st h; exact fun q=>q
end
theorem tabOk_nil {P:Program} {F:Nat→FuncId}:TabOk P F (fun _=>none):=fun q fn h=>by cases h
theorem af {P:Program} {F:Nat→FuncId} {T:FuncId→Option AFun} {n:FuncId} {X:Cx} {c:AFun} (h1:bR P n = true) (h2:io P X n = some c) (h3:X.F = F) (hT:TabOk P F T):TabOk P F (fun q=>if q = n then some c else T q):=by
  intro q fn h
  by_cases e:q = n
  · subst e
    simp only [if_true,Option.some.injEq] at h
    subst h
    exact ⟨h1,X,h3,h2⟩
  · simp only [e,if_false] at h
    exact hT q fn h
def unrQ (L:Sf→St→Prop) (Q:Exit→Sf→St→Prop):Exit→Sf→St→Prop
  | .normal,sf,st=>L sf st
  | e,sf,st=>Q e sf st
section
variable {P:Program} {F:Nat→FuncId} {m:Bool} {b:AC} {lv ll:List Nat} {Q:Exit→Sf→St→Prop}
def loopN (P:Program) (F:Nat→FuncId) (m:Bool) (b:AC) (lv ll:List Nat) (Q:Exit→Sf→St→Prop):Nat→Sf→St→Prop
  | 0,_,_=>False
  | n + 1,sf,st=>aC P F m b (sf.mask lv ll) st (unrQ (loopN P F m b lv ll Q n) Q)
theorem loop_rounds (n:Nat) {sf:Sf} {st:St} (h:loopN P F m b lv ll Q n sf st):a9 (aC P F m b) lv ll sf st Q:=by
  cases n with
  | zero=>exact h.elim
  | succ n =>
    refine ⟨fun k sf st=>aC P F m b sf st (unrQ (loopN P F m b lv ll Q k) Q),⟨n,_,Sf.le_refl _,h⟩,fun k sf st hk=>aC_mono (fun e sf st=>?_) hk⟩
    cases e with
    | normal =>
      cases k with
      | zero=>exact fun q=>q.elim
      | succ k=>exact fun q=>⟨k,Nat.lt_succ_self k,_,Sf.le_refl _,q⟩
    | _=>exact fun q=>q
variable (sf:Sf) (st:St) (L:Sf→St→Prop) (n:Nat)
theorem jz:loopN P F m b lv ll Q (n + 1) sf st = aC P F m b (sf.mask lv ll) st (unrQ (loopN P F m b lv ll Q n) Q):=rfl
theorem lT:unrQ L Q .normal sf st = L sf st:=rfl
theorem unrQ_ret:unrQ L Q .ret sf st = Q .ret sf st:=rfl
theorem unrQ_exit (id:Nat):unrQ L Q (.exit id) sf st = Q (.exit id) sf st:=rfl
end
end Go.Fx
/- Lists of cells, boxes and numbers: small laws for evaluation. -/
namespace Go.Fx
open Go
theorem jA (a b:Nat):(a:Int) + (b:Int) = ((a + b:Nat):Int):=by omega
theorem bY (a k:Nat):(a:Int) + (no_index (OfNat.ofNat k)) = ((a + OfNat.ofNat k:Nat):Int):=by exact id rfl
theorem up_sub {a b:Nat} (h:b≤a):(a:Int) - (b:Int) = ((a - b:Nat):Int):=(Int.ofNat_sub h).symm
theorem lh:∀ (vs cs:List AV) (i:Nat),(bu cs i vs).length = cs.length
  | [],cs,i=>rfl
  | v::vs,cs,i=>by simp only [bu]; rw [lh vs]; simp
theorem o9 (cs:List AV) (i:Nat):bu cs i [] = cs:=by cases cs <;> rfl
theorem cellsD_nil:Fx.cellsD [] = []:=rfl
theorem li:∀ (vs xs rs:List AV),vs.length≤rs.length→bu (xs++rs) xs.length vs = xs++(vs++rs.drop vs.length)
  | [],xs,rs,_=>by simp [bu]
  | v::vs,xs,[],h=>by simp at h
  | v :: vs, xs, r :: rs, h => by
    simp only [bu]
    have h1:(xs++r::rs).set xs.length v = (xs++[v])++rs:=by simp
    have h2:xs.length + 1 = (xs++[v]).length:=by simp
    rw [h1,h2,li vs (xs++[v]) rs (by simpa using h)]
    simp
theorem setAt_zero {vs cs:List AV} (h:vs.length≤cs.length):bu cs 0 vs = vs++cs.drop vs.length:=li vs [] cs h
theorem iw {vs xs rs:List AV} {n:Nat} (hn:n = xs.length) (h:vs.length≤rs.length):bu (xs++rs) n vs = xs++(vs++rs.drop vs.length):=by subst hn; exact li vs xs rs h
def Lits (l:List AV):Prop:=∀ x ∈ l,∃ v,x = .lit v
theorem Lits.nil:Lits []:=fun _ h=>by cases h
theorem Lits.app {l l':List AV} (h:Lits l) (h':Lits l'):Lits (l++l'):=fun x hx=>(List.mem_append.1 hx).elim (h x) (h' x)
theorem Lits.drop {l:List AV} (h:Lits l) (n:Nat):Lits (l.drop n):=fun x hx=>h x (List.mem_of_mem_drop hx)
theorem Lits.take {l:List AV} (h:Lits l) (n:Nat):Lits (l.take n):=fun x hx=>h x (List.mem_of_mem_take hx)
theorem Lits.map {A:Type} (f:A→Value) (l:List A):Lits (l.map fun a=>.lit (f a)):=fun x hx=>by
  obtain ⟨a,_,rfl⟩:=List.mem_map.1 hx; exact ⟨_,rfl⟩
theorem Lits.dis {l:List AV} (h:Lits l):l.map AV.dis = l:=by
  induction l with
  | nil=>rfl
  | cons x r ih =>
    obtain ⟨v,rfl⟩:=h x (List.mem_cons_self ..)
    simp only [List.map_cons,gu]
    rw [ih fun y hy=>h y (List.mem_cons_of_mem _ hy)]
theorem Lits.own {l:List AV} (h:Lits l):l.map AV.own1 = l:=by
  induction l with
  | nil=>rfl
  | cons x r ih =>
    obtain ⟨v,rfl⟩:=h x (List.mem_cons_self ..)
    simp only [List.map_cons,eg]
    rw [ih fun y hy=>h y (List.mem_cons_of_mem _ hy)]
theorem Lits.cells {l:List AV} (h:Lits l):l.flatMap AV.cells = l:=by
  induction l with
  | nil=>rfl
  | cons x r ih =>
    obtain ⟨v,rfl⟩:=h x (List.mem_cons_self ..)
    simp only [List.flatMap_cons,k8]
    rw [ih fun y hy=>h y (List.mem_cons_of_mem _ hy)]
    rfl
theorem Lits.cellsD {l:List AV} (h:Lits l):Fx.cellsD l = l:=by unfold Fx.cellsD; rw [h.dis,h.cells]
theorem Lits.grp {l:List AV}:∀ (n:Nat) (l:List AV),n≤l.length→Fx.grp 1 n l = l.take n
  | 0,l,_=>by simp [Fx.grp]
  | n + 1,[],h=>by simp at h
  | n + 1,x::l,h=>by simp only [Fx.grp,if_true,List.getD_cons_zero,List.drop_succ_cons,List.drop_zero,List.take_succ_cons]; rw [Lits.grp (l:=l) n l (by simpa using h)]
theorem qe {n:Nat} {l:List AV} (h:n≤l.length):grp 1 n l = l.take n:=Lits.grp (l:=l) n l h
theorem Lits.nb {l:List AV} (h:Lits l):∀ x ∈ l,x.NB:=fun x hx=>by obtain ⟨v,rfl⟩:=h x hx; exact .lit v
theorem acalls_id {P:Program} {X:Cx} {f:FuncId} {fn:AFun} {vs:List AV} {st:St} (hmix:P.follows .mixedOrders = true) (hf:io P X f = some fn) (hX:X.F = id) (hlen:Nat.ble vs.length fn.n = true) {K:AV→St→Prop} (h:aFun P id false fn vs st K):ao P f vs st K:=by
  refine acalls_of hmix hf (Nat.le_of_ble_eq_true hlen) ?_
  rw [hX]; exact h
theorem bL (st:St) (cs:List AV):(st.push (.cells cs)).get st.boxes.length = some cs:=by simp [St.push,St.get]
theorem pa (st:St) (es:List (AV×AV)) (bs:List Nat) (k:Nat):(st.push (.mp es bs k)).getM st.boxes.length = some es:=by simp [St.push,St.getM]
theorem pb (st:St) (es:List (AV×AV)) (bs:List Nat) (k:Nat):(st.push (.mp es bs k)).getB st.boxes.length = (bs,k):=by simp [St.push,St.getB]
theorem set_push (st:St) (b:Box) (cs:List AV):(st.push b).set st.boxes.length cs = st.push (.cells cs):=by simp [St.push,St.set]
theorem aI (st:St) (b:Box):(st.push b).boxes.length = st.boxes.length + 1:=by simp [St.push]
theorem qf (st:St) (id:Nat) (cs:List AV):(st.set id cs).boxes.length = st.boxes.length:=by simp [St.set]
theorem gz {st:St} {b:Box} {id:Nat} (h:id < st.boxes.length):(st.push b).get id = st.get id:=by simp [St.push,St.get,List.getElem?_append_left h]
theorem bM {st:St} {id:Nat} {cs:List AV} (h:st.get id = some cs):id < st.boxes.length:=by
  rcases Nat.lt_or_ge id st.boxes.length with hl | hl
  · exact hl
  · simp [St.get,List.getElem?_eq_none hl] at h
theorem aR {st:St} {id:Nat} {cs:List AV} (h:id < st.boxes.length):(st.set id cs).get id = some cs:=by simp [St.set,St.get,h]
theorem jB {st:St} {id id':Nat} {cs:List AV} (h:id≠id'):(st.set id cs).get id' = st.get id':=by simp [St.set,St.get,List.getElem?_set_ne h]
theorem fI (st:St) (id:Nat) (cs ds:List AV):(st.set id cs).set id ds = st.set id ds:=by simp [St.set]
theorem nu (cs:List AV) (i:Nat) (v:AV) (vs:List AV):bu cs i (v::vs) = bu (cs.set i v) (i + 1) vs:=rfl
end Go.Fx
/- Loops with states that are told; lists of bytes. -/
namespace Go.Fx
open Go
section
variable {P:Program} {F:Nat→FuncId} {m:Bool} {b:AC} {lv ll:List Nat} {Q:Exit→Sf→St→Prop}
def stepQ {A:Type} (S:A→Sf) (T:A→St) (R:A→Prop) (lv ll:List Nat) (Q:Exit→Sf→St→Prop):Exit→Sf→St→Prop
  | .normal,sf,st=>∃ a,R a∧Sf.le (sf.mask lv ll) (S a)∧st = T a
  | e,sf,st=>Q e sf st
theorem loop_for {A:Type} (μ:A→Nat) (S:A→Sf) (T:A→St) (I:A→Prop) (a0:A) {sf:Sf} {st:St} (h0:I a0) (hs:Sf.le (sf.mask lv ll) (S a0)) (ht:st = T a0)
    (step:∀ a,I a→aC P F m b (S a) (T a) (stepQ S T (fun a'=>I a'∧μ a' < μ a) lv ll Q)):a9 (aC P F m b) lv ll sf st Q:=by
  refine ⟨fun k sf st=>∃ a,I a∧μ a = k∧sf = S a∧st = T a,⟨μ a0,_,hs,a0,h0,rfl,rfl,ht⟩,?_⟩
  rintro k sf st ⟨a,ha,rfl,rfl,rfl⟩
  refine aC_mono (fun e sf st=>?_) (step a ha)
  cases e with
  | normal=>exact fun ⟨a',⟨h1,h2⟩,h3,h4⟩=>⟨μ a',h2,S a',h3,a',h1,rfl,rfl,h4⟩
  | _=>exact fun q=>q
variable {A:Type} (S:A→Sf) (T:A→St) (R:A→Prop) (sf:Sf) (st:St)
end
section
variable {CB:Sf→St→(Exit→Sf→St→Prop)→Prop} {id:Nat} {r:Loop} {rs:List (Nat×AV)} {Q:Bool→St→Prop} {sf:Sf} {st:St}
theorem keep_eq (v:AV):v.keep = if v.noL = true then v.dis else .any:=rfl
theorem pd (sf:Sf):fG [] sf = []:=rfl
theorem nv (t:Nat) (l:List Nat) (sf:Sf):fG (t::l) sf = (t,(getR sf.regs t).keep)::fG l sf:=rfl
theorem setRs_nil (rg:List (Nat×AV)) (vs:List AV):gH rg [] vs = rg:=by cases vs <;> rfl
theorem setRs_cons (rg:List (Nat×AV)) (p:Nat) (ps:List Nat) (v:AV) (vs:List AV):gH rg (p::ps) (v::vs) = gH (setR rg p v.dis) ps vs:=rfl
theorem iy:pW CB id r rs Q .normal sf st = (st.isLp id r rs∧CB sf (st.setL id (dE r) rs) (endI id r rs Q)):=rfl
theorem lU:endI id r rs Q .normal sf st = (st.isLp id (dE r) rs∧Q true (st.setL id r rs)):=rfl
theorem round_a {P:Program} {CA CB:Sf→St→(Exit→Sf→St→Prop)→Prop} {ps:List Nat} (hy:∀ vs st' Q',pX CA CB ps id r rs vs st' Q'→gp P id vs st' Q') {vs:List AV} (hl:st.isLp id r rs) (hn:vs.length = ps.length)
    (h:CA ⟨gH rs ps vs,[]⟩ st (pW CB id r rs Q)):gp P id vs st Q:=hy _ _ _ ⟨hl,hn,h⟩
end
theorem iz {st:St} {id q:Nat} {r:Loop} {rs:List (Nat×AV)} (h:q≠id):(st.setL id r rs).boxes[q]? = st.boxes[q]?:=by
  simp only [St.setL]; rw [List.getElem?_set_ne (fun e=>h e.symm)]
theorem pe {st:St} {id:Nat} {r r':Loop} {rs rs':List (Nat×AV)} (h:st.isLp id r' rs'):(st.setL id r rs).isLp id r rs:=by
  have hl:id < st.boxes.length:=(List.getElem?_eq_some_iff.1 h).1
  simp [St.isLp,St.setL,hl]
theorem lV {st:St} {id q:Nat} (h:q≠id):(st.drop id).boxes[q]? = st.boxes[q]?:=by
  simp only [St.drop]; rw [List.getElem?_set_ne (fun e=>h e.symm)]
theorem drop_len {st:St} {id:Nat}:(st.drop id).boxes.length = st.boxes.length:=by simp [St.drop]
theorem push_isLp (st:St) (r:Loop) (rs:List (Nat×AV)):(st.push (.lp r rs)).isLp st.boxes.length r rs:=by simp [St.isLp,St.push]
theorem l9 {st st':St} {id:Nat} {r:Loop} {rs:List (Nat×AV)} (h:st.isLp id r rs) (hb:st'.boxes[id]? = st.boxes[id]?):st'.isLp id r rs:=hb.trans h
def BB (l:List UInt8):List AV:=l.map d8
theorem bD (l:List UInt8):(BB l).length = l.length:=by simp [BB]
theorem iO (l:List UInt8) (n:Nat):(BB l).take n = BB (l.take n):=by simp [BB,List.map_take]
theorem ma (l:List UInt8) (n:Nat):(BB l).drop n = BB (l.drop n):=by simp [BB,List.map_drop]
theorem BB_lits (l:List UInt8):Lits (BB l):=Lits.map (fun b:UInt8=>Value.int .u8 b.toNat) l
theorem BB_dis (l:List UInt8):(BB l).map AV.dis = BB l:=(BB_lits l).dis
theorem BB_nil:BB [] = []:=rfl
theorem mc (x:UInt8) (l:List UInt8):BB (x::l) = .lit (.int .u8 x.toNat)::BB l:=rfl
def str (l:List UInt8):ByteArray:=⟨l.toArray⟩
theorem strOf_BB (l:List UInt8):lB (BB l) = some (str l):=by
  have:(BB l).mapM byteA = some l:=by
    induction l with
    | nil=>rfl
    | cons x r ih=>simp only [mc,List.mapM_cons,ih,byteA]; simp
  simp [lB,this,str]
theorem conv_sl (st:St) (o:Bool) (l:List UInt8):hZ st .bs (.sl o 1 (BB l)) = .ok (.lit (.string (str l))):=by
  simp [hZ,strOf_BB,Res.ofOpt,Res.bind]
theorem str_list (a:List UInt8):(str a).toList = a:=by rw [ByteArray.toList_eq]; simp [str]
theorem qg (a b:List UInt8):binI .num .eql (.lit (.string (str a))) (.lit (.string (str b))) = .ok (.lit (.bool (decide (a = b)))):=by
  have:((str a).toList == (str b).toList) = decide (a = b):=by rw [str_list,str_list]; exact Bool.eq_iff_iff.2 (by simp)
  rw [← this]; rfl
theorem pure_eq {P:Program} {f:FuncId} {vs:List AV} {x:AV} (h:ao P f vs ⟨[]⟩ (fun v _=>AV.le v x)) (hx:x.NB) (hvs:∀ v ∈ vs,v.NB) (st:St):az P f vs st x :=
  pure_of (h.mono fun _ _ h=>.le _ _ h hx) hvs st
end Go.Fx
/- Regions that draw their order: evaluation. -/
namespace Go.Fx
open Go
section
variable (P:Program) (F:Nat→FuncId) (m:Bool) (locs0:List (Nat×List AV)) (st:St) (C:PK→Sf→Prop) (sf:Sf) (d:Option Nat) (x y i:Opd) (K:List PK→Sf→Prop) (ks:List PK)
theorem h_nil:aF P F locs0 st [] K ks sf = K ks sf:=rfl
theorem h_none (i:AI) (r:List GI):aF P F locs0 st (⟨none,i⟩::r) K ks sf = aQ P F locs0 st i (ib (aF P F locs0 st r K) ks) sf:=rfl
theorem dQ (t:Nat) (want:Bool) (i:AI) (r:List GI):aF P F locs0 st (⟨some (t,want),i⟩::r) K ks sf = ck t want (sf.reg t) (aQ P F locs0 st i (ib (aF P F locs0 st r K) ks)) (lM (aF P F locs0 st r K) ks i.dst) sf:=rfl
theorem hh_mv:aQ P F locs0 st (.mv d x) C sf = valH C d sf (sf.ev F x).dis:=rfl
theorem mf (c a b:Opd):aQ P F locs0 st (.pick d c a b) C sf = (pickV (sf.ev F c) (sf.ev F a) (sf.ev F b)).wp (valH C d sf):=rfl
theorem eO (k:BinK) (op:BinOp):aQ P F locs0 st (.bin d k op x y) C sf = (binI k op (sf.ev F x) (sf.ev F y)).wp (valH C d sf):=rfl
theorem hh_conv (k:ConvK):aQ P F locs0 st (.conv d k x) C sf = (hZ st k (sf.ev F x)).wp (valH C d sf):=rfl
theorem hh_field (off:Nat) (k:Option Nat):aQ P F locs0 st (.field d x off k) C sf = (ew (sf.ev F x) off k).wp (valH C d sf):=rfl
theorem bf (off:Nat):aQ P F locs0 st (.addr d x off) C sf = (addA (sf.ev F x) off).wp (valH C d sf):=rfl
theorem qh (k:Nat):aQ P F locs0 st (.ixS d x i k) C sf = (ixSV (sf.ev F x) (sf.ev F i) k).wp (valH C d sf):=rfl
theorem bd (k:Option Nat):aQ P F locs0 st (.load d x k) C sf = (jh sf st (sf.ev F x) k).wp (valH C d sf):=rfl
theorem bj:aQ P F locs0 st (.nilck d x) C sf = (aj (sf.ev F x)).wp (valH C d sf):=rfl
theorem qi (lo hi:Option Opd) (k:Nat):aQ P F locs0 st (.sliS d x lo hi k) C sf = (iq (sf.ev F x) (lo.map (sf.ev F)) (hi.map (sf.ev F)) k).wp (valH C d sf):=rfl
theorem hh_bst (places:List (Nat×Nat)) (z:AV) (parts:List (Nat×Opd)):aQ P F locs0 st (.bst d places z parts) C sf = (bstV places z (parts.map fun p=>(p.1,sf.ev F p.2))).wp (valH C d sf):=rfl
theorem ez (k:KeyK) (z:AV) (ok:Bool) (mp key:Opd):aQ P F locs0 st (.lookup d k z ok mp key) C sf = (cd k z ok st (sf.ev F mp) (sf.ev F key)).wp (valH C d sf):=rfl
theorem ft (k:LenK):aQ P F locs0 st (.len d k x) C sf = (lenI k st (sf.ev F x)).wp (valH C d sf):=rfl
theorem qj (p:Bool) (f:Opd) (args:List Opd):aQ P F locs0 st (.call d p f args) C sf = ic P st d (sf.ev F f) (args.map (sf.ev F)) C sf:=rfl
theorem ki (s:Nat) (cs:List AV):aQ P F locs0 st (.newL s cs) C sf = C (.new s cs) (sf.set s .any):=rfl
theorem hh_store (k:Nat):aQ P F locs0 st (.store k x y) C sf = eH locs0 x (sf.ev F x) (sf.ev F y) k C sf:=rfl
theorem qk (a:Opd) (s o:Nat) (v:AV) (k:Nat):eH locs0 a (.lptr s (o + 1)) v k C sf = dP v k s (o + 1) C sf (look s locs0):=rfl
theorem n6 (s off:Nat) (v:AV) (k:Nat) (cs:List AV):dP v k s off C sf (some cs) = (off + k≤cs.length∧v.dis.solid = true∧v.dis.cells.length = k∧C (.store s (bu (cs.map AV.own1) off v.dis.cells)) sf):=rfl
theorem cW (t:Nat) (want:Bool) (Y N:Sf→Prop):ck t want (.lit (.bool true)) Y N sf = if true = want then Y (sf.set t (.lit (.bool true))) else N (sf.set t (.lit (.bool true))):=by
  unfold ck
  exact propext ⟨fun h=>h true rfl,fun h c e=>by subst e; exact h⟩
theorem eA (t:Nat) (want:Bool) (Y N:Sf→Prop):ck t want (.lit (.bool false)) Y N sf = if false = want then Y (sf.set t (.lit (.bool false))) else N (sf.set t (.lit (.bool false))):=by
  unfold ck
  exact propext ⟨fun h=>h false rfl,fun h c e=>by subst e; exact h⟩
end
theorem cq {p:Prop} [Decidable p] {t:Nat} {want:Bool} {Y N:Sf→Prop} {sf:Sf} (h1:p→ck t want (.lit (.bool true)) Y N sf) (h2:¬ p→ck t want (.lit (.bool false)) Y N sf):ck t want (.lit (.bool (decide p))) Y N sf:=by
  by_cases h:p
  · rw [decide_eq_true h]; exact h1 h
  · rw [decide_eq_false h]; exact h2 h
def PK.keep:PK→Bool
  | .val _=>false
  | .skip=>false
  | _=>true
theorem ca:∀ ks:List PK,aO (ks.filter PK.keep) = aO ks
  | []=>rfl
  | .val _::r=>ca r
  | .skip::r=>ca r
  | .mk _ _::r=>ca r
  | .hole::r=>ca r
  | .chole _ _::r=>ca r
  | .nst _ _::r=>ca r
  | .new _ _::r=>ca r
  | .app _ _::r=>ca r
  | .store s _::r=>congrArg (s::·) (ca r)
theorem cX:∀ ks:List PK,bF (ks.filter PK.keep) = bF ks
  | []=>rfl
  | .val _::r=>cX r
  | .skip::r=>cX r
  | .mk _ _::r=>cX r
  | .hole::r=>cX r
  | .chole _ _::r=>cX r
  | .nst _ _::r=>cX r
  | .store _ _::r=>cX r
  | .app _ _::r=>cX r
  | .new s _::r=>congrArg (s::·) (cX r)
theorem cY:∀ ks:List PK,bS (ks.filter PK.keep) = bS ks
  | []=>rfl
  | .val _::r=>cY r
  | .skip::r=>cY r
  | .mk _ _::r=>cY r
  | .hole::r=>cY r
  | .chole _ _::r=>cY r
  | .nst _ _::r=>cY r
  | .store _ _::r=>cY r
  | .new _ _::r=>cY r
  | .app s _::r=>congrArg (s::·) (cY r)
theorem cZ:∀ (ks:List PK) (sf:Sf),cz (ks.filter PK.keep) sf = cz ks sf
  | [],_=>rfl
  | .val _::r,sf=>cZ r sf
  | .skip::r,sf=>cZ r sf
  | .mk _ _::r,sf=>cZ r sf
  | .hole::r,sf=>cZ r sf
  | .chole _ _::r,sf=>cZ r sf
  | .nst _ _::r,sf=>cZ r sf
  | .new _ _::r,sf=>cZ r sf
  | .app _ _::r,sf=>cZ r sf
  | .store _ _::r,_=>cZ r _
theorem cx (t:Nat):∀ ks:List PK,b9 t (ks.filter PK.keep) = b9 t ks
  | []=>rfl
  | .val _::r=>cx t r
  | .skip::r=>cx t r
  | .mk _ _::r=>cx t r
  | .hole::r=>cx t r
  | .chole _ _::r=>cx t r
  | .store _ _::r=>cx t r
  | .app _ _::r=>cx t r
  | .new _ _::r=>cx t r
  | .nst s cs :: r => by
    show (if s = t then some cs else b9 t (r.filter PK.keep)) = if s = t then some cs else b9 t r
    rw [cx t r]
theorem c9:∀ ks:List PK,bT (ks.filter PK.keep) = bT ks
  | []=>rfl
  | .val _::r=>c9 r
  | .skip::r=>c9 r
  | .mk _ _::r=>c9 r
  | .hole::r=>c9 r
  | .chole _ _::r=>c9 r
  | .store _ _::r=>c9 r
  | .new _ _::r=>c9 r
  | .app _ _::r=>c9 r
  | .nst s _::r=>congrArg (s::·) (c9 r)
theorem da:∀ (ks:List PK) (seen:List (Nat×Nat)),nstB seen (ks.filter PK.keep) = nstB seen ks
  | [],_=>rfl
  | .val _::r,s=>da r s
  | .skip::r,s=>da r s
  | .mk _ _::r,s=>da r s
  | .hole::r,s=>da r s
  | .chole _ _::r,s=>da r s
  | .store _ _::r,s=>da r s
  | .app _ _::r,s=>da r s
  | .new _ _::r,s=>da r _
  | .nst _ _::r,s=>congrArg (_ && ·) (da r s)
theorem db (all:List PK):∀ (ks:List PK) (sf:Sf),bP (all.filter PK.keep) (ks.filter PK.keep) sf = bP all ks sf
  | [],_=>rfl
  | .val _::r,sf=>db all r sf
  | .skip::r,sf=>db all r sf
  | .mk _ _::r,sf=>db all r sf
  | .hole::r,sf=>db all r sf
  | .chole _ _::r,sf=>db all r sf
  | .store _ _::r,sf=>db all r sf
  | .app _ _::r,sf=>db all r sf
  | .nst _ _::r,sf=>db all r sf
  | .new s cs :: r, sf => by
    show bP (all.filter PK.keep) (r.filter PK.keep) (sf.newLoc s ((b9 s (all.filter PK.keep)).getD cs)) = bP all r (sf.newLoc s ((b9 s all).getD cs))
    rw [cx,db all r]
section
variable {P:Program} {F:Nat→FuncId} {m:Bool} {locs0:List (Nat×List AV)} {st st2:St} {drop lv ll:List Nat} {tl:List GI} {Q:Exit→Sf→St→Prop}
theorem tail_keep (ks:List PK) (sf:Sf):dI P F m drop lv ll tl Q st (ks.filter PK.keep) sf = dI P F m drop lv ll tl Q st ks sf:=by
  unfold dI ksB
  rw [ca,cX,cY,c9,da,cZ,db]
theorem eZ:∀ (r:List GI) (ks:List PK) (sf:Sf),aF P F locs0 st r (dI P F m drop lv ll tl Q st) (ks.filter PK.keep) sf = aF P F locs0 st r (dI P F m drop lv ll tl Q st) ks sf
  | [],ks,sf=>tail_keep ks sf
  | ⟨g, i⟩ :: r, ks, sf => by
    have h1:ib (aF P F locs0 st r (dI P F m drop lv ll tl Q st)) (ks.filter PK.keep) = ib (aF P F locs0 st r (dI P F m drop lv ll tl Q st)) ks:=by
      funext k sf
      simp only [ib]
      rw [← eZ r (ks++[k]) sf,← eZ r (ks.filter PK.keep++[k]) sf]
      simp
    have h2:∀ d,lM (aF P F locs0 st r (dI P F m drop lv ll tl Q st)) (ks.filter PK.keep) d = lM (aF P F locs0 st r (dI P F m drop lv ll tl Q st)) ks d:=by
      intro d
      funext sf
      exact congrFun (congrFun h1 .skip) (sf.put d (.tup []))
    cases g with
    | none=>simp only [aF,h1]
    | some g=>obtain ⟨t,w⟩:=g; simp only [aF,h1,h2]
variable (ks:List PK) (sf:Sf) (r:List GI) (v:AV) (d:Option Nat)
theorem kj:ib (aF P F locs0 st r (dI P F m drop lv ll tl Q st)) ks (.val v) sf = aF P F locs0 st r (dI P F m drop lv ll tl Q st) ks sf:=by
  show aF P F locs0 st r _ (ks++[.val v]) sf = _
  exact (eZ r (ks++[PK.val v]) sf).symm.trans ((congrArg (fun q=>aF P F locs0 st r (dI P F m drop lv ll tl Q st) q sf) (by simp [PK.keep])).trans (eZ r ks sf))
theorem e9:lM (aF P F locs0 st r (dI P F m drop lv ll tl Q st)) ks d sf = aF P F locs0 st r (dI P F m drop lv ll tl Q st) ks (sf.put d (.tup [])):=by
  show aF P F locs0 st r _ (ks++[.skip]) (sf.put d (.tup [])) = _
  exact (eZ r (ks++[PK.skip]) _).symm.trans ((congrArg (fun q=>aF P F locs0 st r (dI P F m drop lv ll tl Q st) q (sf.put d (.tup []))) (by simp [PK.keep])).trans (eZ r ks _))
theorem val_head:valH (ib (aF P F locs0 st r (dI P F m drop lv ll tl Q st)) ks) d sf v = aF P F locs0 st r (dI P F m drop lv ll tl Q st) ks (sf.put d v):=kj ks (sf.put d v) r v
theorem aM:dI P F m drop lv ll tl Q st [] sf = runI P F m tl (opsK lv ll Q) sf st:=propext ⟨fun h=>h.2,fun h=>⟨rfl,h⟩⟩
theorem iP (k:PK):dI P F m drop lv ll tl Q st (k::ks) sf = (ksB drop (k::ks) = true∧runI P F m tl (opsK lv ll Q) (bP (k::ks) (k::ks) (cz (k::ks) sf)) st):=rfl
end
section
variable (H:List PK→Sf→Prop) (ks:List PK) (sf:Sf) (s:Nat) (cs:List AV) (v:AV)
theorem iA:ib H ks (.new s cs) sf = H (ks++[.new s cs]) sf:=rfl
theorem cons_store:ib H ks (.store s cs) sf = H (ks++[.store s cs]) sf:=rfl
end
theorem call_h {P:Program} {d:Option Nat} {q:FuncId} {fs cs args vs:List AV} {sf:Sf} {st:St} {C:PK→Sf→Prop} {v:AV} (hvs:fs++args.map AV.dis++cs = vs) (hent:bR P q = true) (h:az P q vs st v) (hn:args.all AV.noL = true) (hK:C (.val v) (sf.put d v)):ic P st d (.fn (.func q) fs cs) args C sf:=by
  subst hvs
  exact ⟨hn,hent,v,h,hK⟩
section
variable (P:Program) (F:Nat→FuncId) (L0:List (Nat×List AV)) (ρ:St) (C:PK→Sf→Prop) (sf:Sf) (d:Option Nat) (x y i:Opd) (K:List PK→Sf→Prop) (ks:List PK)
theorem m_nil:preM P F L0 ρ [] K ks sf = K ks sf:=rfl
theorem m_none (i:AI) (r:List GI):preM P F L0 ρ (⟨none,i⟩::r) K ks sf = oneM P F L0 ρ i (lN (preM P F L0 ρ r K) ks) sf:=rfl
theorem m_val (v:AV) (r:List GI):valM (lN (preM P F L0 ρ r K) ks) d sf v = preM P F L0 ρ r K (ks++[.val v]) (sf.put d v):=rfl
theorem mm_mv:oneM P F L0 ρ (.mv d x) C sf = valM C d sf (sf.ev F x).dis:=rfl
theorem ql (off:Nat):oneM P F L0 ρ (.addr d x off) C sf = (addA (sf.ev F x) off).wp (valM C d sf):=rfl
theorem qm (k:Option Nat):oneM P F L0 ρ (.load d x k) C sf = (jh sf ρ (sf.ev F x) k).wp (valM C d sf):=rfl
theorem nx:oneM P F L0 ρ (.nilck d x) C sf = (aj (sf.ev F x)).wp (valM C d sf):=rfl
theorem mm_bsl (k len:Nat) (z:AV) (parts:List (Nat×Opd)):oneM P F L0 ρ (.bsl d k len z parts) C sf = (bslV k len z (parts.map fun p=>(p.1,sf.ev F p.2))).wp (valM C d sf):=rfl
theorem mm_bst (places:List (Nat×Nat)) (z:AV) (parts:List (Nat×Opd)):oneM P F L0 ρ (.bst d places z parts) C sf = (bstV places z (parts.map fun p=>(p.1,sf.ev F p.2))).wp (valM C d sf):=rfl
variable (KH:List PK→Prop) (st:St) (post:List (Bool×GI)) (T:St→Sf→Prop) (T1:Sf→Prop)
theorem hm_nil:ee P F L0 ρ [] KH ks sf = KH ks:=rfl
variable (drop:List Nat) (ks1:List PK)
theorem atM_eq (f:Opd) (args:List Opd):atM P F L0 ρ st d f args post drop T ks1 sf = mY P F L0 ρ st d (sf.ev F f) (args.map (sf.ev F)) post drop T ks1 sf:=rfl
theorem postM_eq (ksh:List PK):postM post drop ks1 ksh T1 ks sf = (ij post ksh ks∧finK drop T1 (ks1++ks) sf):=rfl
theorem finK_eq:finK drop T1 ks sf = (ksB drop ks = true∧T1 (bP ks ks (cz ks sf))):=rfl
theorem holeK_eq (A:List PK→Prop):holeK drop ks1 A ks = (ksB drop (ks1++ks) = true∧A ks):=rfl
theorem pf:ij [] [] [] = True:=rfl
theorem tailM_eq (m:Bool) (lv ll:List Nat) (tl:List GI) (Q:Exit→Sf→St→Prop):j9 P F m lv ll tl Q st sf = runI P F m tl (opsK lv ll Q) sf st:=rfl
end
section
variable {P:Program} {F:Nat→FuncId} {L0:List (Nat×List AV)} {ρ st:St}
theorem atA_eq {d:Option Nat} {k bytes:Nat} {post:List (Bool×GI)} {drop:List Nat} {T:St→Sf→Prop} {ks1:List PK} {sf:Sf} (b y:Opd):atA P F L0 ρ st d b k bytes y post drop T ks1 sf = appM P F L0 ρ st d k bytes (sf.ev F b) (sf.ev F y) post drop T ks1 sf:=rfl
theorem draw_a {pre:List GI} {d:Option Nat} {b:Opd} {k bytes:Nat} {y:Opd} {post:List (Bool×GI)} {sf:Sf} {T:St→Sf→Prop} (ρ:St) (hs:St.sub ρ st) (h:preM P F sf.locs ρ pre (atA P F sf.locs ρ st d b k bytes y post (gG pre post) T) [] ⟨sf.regs,cy (gG pre post) sf.locs⟩):drawA P F pre d b k bytes y post sf st T:=⟨ρ,hs,h⟩
theorem app_m {d:Option Nat} {k bytes:Nat} {b y:AV} {post:List (Bool×GI)} {drop:List Nat} {T:St→Sf→Prop} {ks1:List PK} {sf:Sf} (Qc:AV→St→Prop) (hb:b.noL = true) (hy:y.noL = true) (hA:(srcA st k y.dis).wp (appX false k bytes b.dis Qc st))
    (hK:ee P F L0 ρ post (holeK drop ks1 (pT P F L0 ρ post Qc d sf drop T ks1)) [] (sf.put d .any)):appM P F L0 ρ st d k bytes b y post drop T ks1 sf:=⟨hb,hy,Qc,hA,hK⟩
theorem draw_s {pre:List GI} {d:Option Nat} {f:Opd} {args:List Opd} {post:List (Bool×GI)} {sf:Sf} {T:St→Sf→Prop} (h:preM P F sf.locs st pre (atM P F sf.locs st st d f args post (gG pre post) T) [] ⟨sf.regs,cy (gG pre post) sf.locs⟩):drawM P F pre d f args post sf st T:=⟨st,St.sub_refl st,h⟩
theorem call_m {q:FuncId} {fs cs args vs:List AV} {d:Option Nat} {post:List (Bool×GI)} {drop:List Nat} {T:St→Sf→Prop} {ks1:List PK} {sf:Sf} {Qc:AV→St→Prop} (hvs:fs++args.map AV.dis++cs = vs) (hent:bR P q = true) (hA:ao P q vs st Qc) (hn:args.all AV.noL = true)
    (hK:ee P F L0 ρ post (holeK drop ks1 (pT P F L0 ρ post Qc d sf drop T ks1)) [] (sf.put d .any)):mY P F L0 ρ st d (.fn (.func q) fs cs) args post drop T ks1 sf:=by
  subst hvs
  exact ⟨hn,hent,Qc,hA,hK⟩
end
section
variable (P:Program) (F:Nat→FuncId) (L0:List (Nat×List AV)) (st s:St) (d:Option Nat) (f:Opd) (args:List Opd) (pre post:List GI) (T:St→Sf→Prop) (ks:List PK) (sf:Sf) (v:AV)
end
section
variable (P:Program) (F:Nat→FuncId) (L0:List (Nat×List AV)) (ρ:St) (C:PK→Sf→Prop) (sf:Sf) (d:Option Nat) (H:List PK→Sf→Prop) (KX:Nat→List PK→Sf→Prop) (ks:List PK) (SS:Nat→St→Prop) (j:Nat)
theorem g_nil:preX P F L0 ρ SS j [] KX ks sf = KX j ks sf:=by simp only [preX]
theorem g_none_f (i:AI) (r:List (Bool×GI)):preX P F L0 ρ SS j ((false,⟨none,i⟩)::r) KX ks sf = oneM P F L0 ρ i (jf (preX P F L0 ρ SS j r KX) ks) sf:=by simp only [preX]
theorem g_none_t (i:AI) (r:List (Bool×GI)):preX P F L0 ρ SS j ((true,⟨none,i⟩)::r) KX ks sf = ik P F ρ SS j i (jf (preX P F L0 ρ SS (j + 1) r KX) ks) sf:=by simp only [preX]
theorem g_val (v:AV):valM (jf H ks) d sf v = H ks (sf.put d v):=rfl
theorem g_mkv (v:AV):valG ρ (jf H ks) d sf v = H ks (sf.put d v):=rfl
theorem g_call (p:Bool) (f:Opd) (args:List Opd):ik P F ρ SS j (.call d p f args) C sf = m4 P ρ SS j d (sf.ev F f) (args.map (sf.ev F)) C sf:=rfl
theorem g_box (b k:Nat) (x:Opd):ik P F ρ SS j (.boxB b k x) C sf = boxX1 ρ SS j b k (sf.ev F x) C sf:=rfl
theorem tailG_nil (m:Bool) (drop lv ll:List Nat) (tl:List GI) (Q:Exit→Sf→St→Prop):tailX P F m drop lv ll tl Q SS j [] sf = ∀ s,SS j s→runI P F m tl (opsK lv ll Q) sf s:=propext ⟨fun h=>h.2,fun h=>⟨rfl,h⟩⟩
end
theorem draw_x {P:Program} {F:Nat→FuncId} {L0:List (Nat×List AV)} {st:St} {fl:List (Bool×GI)} {K:(Nat→St→Prop)→Nat→List PK→Sf→Prop} {sf:Sf} (SS:Nat→St→Prop) (h0:SS 0 st) (hs:∀ j s,SS j s→St.sub st s) (h:preX P F L0 st SS 0 fl (K SS) [] sf):drawX P F L0 st fl K sf:=⟨SS,h0,hs,h⟩
theorem call_x {P:Program} {ρ:St} {SS:Nat→St→Prop} {j:Nat} {q:FuncId} {fs cs args vs:List AV} {d:Option Nat} {sf:Sf} {C:PK→Sf→Prop} {v:AV} (hvs:fs++args.map AV.dis++cs = vs) (hent:bR P q = true) (h:∀ s,SS j s→ao P q vs s (fun v' s'=>v' = v∧SS (j + 1) s')) (hn:args.all AV.noL = true) (hK:valG ρ C d sf v):m4 P ρ SS j d (.fn (.func q) fs cs) args C sf:=by
  subst hvs
  exact ⟨hn,hent,v,h,hK⟩
theorem box_x {ρ:St} {SS:Nat→St→Prop} {j b k:Nat} {x:AV} {sf:Sf} {C:PK→Sf→Prop} (n:Nat) (hs:x.dis.solid = true) (hk:x.dis.cells.length = k) (h:∀ s,SS j s→s.boxes.length = n∧SS (j + 1) (s.push (.cells x.dis.cells))) (hK:valG ρ C (some b) sf (.ptr n 0)):boxX1 ρ SS j b k x C sf :=
  ⟨hs,hk,.ptr n 0,fun s q=>⟨by rw [(h s q).1],(h s q).2⟩,hK⟩
end Go.Fx
/- Numbers of bytes: shifts and the like. -/
namespace Go.Fx
open Go
theorem lj (st:St) (o:Bool) (k:Nat) (es:List AV):lenI .sl st (.sl o k es) = .ok (.lit (.int .i64 es.length)):=rfl
theorem dN {P:Program} {F:Nat→FuncId} {m:Bool} {b:AC} {lv ll:List Nat} {Q:Exit→Sf→St→Prop} {A:Type} (μ:A→Nat) (S:A→Sf) (T:A→St) (I:A→Prop) (a0:A) {sf:Sf} {st:St} (h0:I a0) (hs:Sf.le (sf.mask lv ll) (S a0)) (ht:st = T a0)
    (step:∀ a,I a→∀ K:Exit→Sf→St→Prop,(∀ a' sf',I a'→μ a' < μ a→Sf.le (sf'.mask lv ll) (S a')→K .normal sf' (T a'))→(∀ id sf st,Q (.exit id) sf st→K (.exit id) sf st)→(∀ sf st,Q .ret sf st→K .ret sf st)→aC P F m b (S a) (T a) K):a9 (aC P F m b) lv ll sf st Q :=
  loop_for μ S T I a0 h0 hs ht fun a ha=>step a ha _ (fun a' _ h1 h2 h3=>⟨a',⟨h1,h2⟩,h3,rfl⟩) (fun _ _ _ h=>h) (fun _ _ h=>h)
theorem fu {p:Prop} [Decidable p] (h:p) {t:Nat} {want:Bool} {Y N:Sf→Prop} {sf:Sf}:ck t want (.lit (.bool (decide p))) Y N sf = if true = want then Y (sf.set t (.lit (.bool true))) else N (sf.set t (.lit (.bool true))):=by
  rw [decide_eq_true h,cW]
theorem iQ {p:Prop} [Decidable p] (h:¬ p) {t:Nat} {want:Bool} {Y N:Sf→Prop} {sf:Sf}:ck t want (.lit (.bool (decide p))) Y N sf = if false = want then Y (sf.set t (.lit (.bool false))) else N (sf.set t (.lit (.bool false))):=by
  rw [decide_eq_false h,eA]
theorem aA {P:Program} {X:Cx} {f:FuncId} {fn:AFun} {vs:List AV} {st:St} (hmix:P.follows .mixedOrders = true) (hf:io P X f = some fn) (hX:X.F = id) (hlen:Nat.ble vs.length fn.n = true) {K:AV→St→Prop} (h:∀ Q:AV→St→Prop,(∀ v st',K v st'→Q v st')→aFun P id false fn vs st Q):ao P f vs st K :=
  acalls_id hmix hf hX hlen (h K fun _ _ h=>h)
theorem pure_lev {P:Program} {X:Cx} {f:FuncId} {fn:AFun} {vs:List AV} {x:AV} (hmix:P.follows .mixedOrders = true) (hf:io P X f = some fn) (hX:X.F = id) (hlen:Nat.ble vs.length fn.n = true) (hx:x.NB) (hvs:∀ v ∈ vs,v.NB)
    (h:∀ Q:AV→St→Prop,(∀ v st',v.le x→Q v st')→aFun P id false fn vs ⟨[]⟩ Q) (st:St):az P f vs st x :=
  pure_eq (aA hmix hf hX hlen fun Q hQ=>h Q fun v st' hv=>hQ v st' hv) hx hvs st
end Go.Fx
/- Slices of plain cells that are written to and appended to. -/
namespace Go.Fx
open Go
def MB (v:AV) (st:St) (l:List AV):Prop:=(v = .lit (.slice none 0 0)∧l = [])∨∃ id cap r,v = .bs id 1 0 l.length cap∧st.get id = some (l++r)∧l.length≤cap∧cap≤(l++r).length
def Kept (st st':St) (v:AV):Prop:=st.boxes.length≤st'.boxes.length∧∀ id cs,st.get id = some cs→(∀ k o l c,v≠.bs id k o l c)→st'.get id = some cs
theorem Kept.refl (st:St) (v:AV):Kept st st v:=⟨Nat.le_refl _,fun _ _ h _=>h⟩
theorem MB.facts {v:AV} {st:St} {l:List AV} (h:MB v st l):v.dis = v∧v.own1 = v∧v.own2 = v∧v.solid1 = true∧v.noL = true∧v.cells = [v]∧(∀ s,kill s v = v)∧∀ st',lenI .sl st' v = .ok (.lit (.int .i64 l.length)):=by
  rcases h with ⟨rfl,rfl⟩ | ⟨id,cap,r,rfl,_⟩
  · exact ⟨rfl,rfl,rfl,rfl,rfl,rfl,fun _=>rfl,fun _=>rfl⟩
  · exact ⟨rfl,rfl,rfl,rfl,rfl,rfl,fun _=>rfl,fun _=>rfl⟩
def NBs (st:St):Prop:=∀ id cs,st.get id = some cs→∀ c ∈ cs,c.NB
theorem NBs.nil:NBs ⟨[]⟩:=fun id cs h=>by simp [St.get] at h
theorem NBs.push {st:St} {cs:List AV} (h:NBs st) (hc:∀ c ∈ cs,c.NB):NBs (st.push (.cells cs)):=by
  intro id ds hg
  by_cases e:id < st.boxes.length
  · rw [gz e] at hg
    exact h id ds hg
  · by_cases e2:id = st.boxes.length
    · subst e2
      rw [bL] at hg
      cases hg
      exact hc
    · have:=bM hg
      rw [aI] at this
      omega
theorem NBs.set {st:St} {id:Nat} {cs:List AV} (h:NBs st) (hid:id < st.boxes.length) (hc:∀ c ∈ cs,c.NB):NBs (st.set id cs):=by
  intro id' ds hg
  by_cases e:id = id'
  · subst e
    rw [aR hid] at hg
    cases hg
    exact hc
  · rw [jB e] at hg
    exact h id' ds hg
theorem MB.app {v:AV} {st:St} {l new:List AV} {bytes:Nat} {C:AV→St→Prop} (h:MB v st l) (hl:Lits l) (hn:Lits new) (hr:fR (l.length + new.length) bytes = true)
    (hC:∀ v' st',MB v' st' (l++new)→Kept st st' v→(NBs st→NBs st')→C v' st'):appX false 1 bytes v C st new:=by
  rcases h with ⟨rfl,rfl⟩ | ⟨id,cap,r,rfl,hg,h1,h2⟩
  · refine ⟨rfl,by simpa using hr,?_⟩
    split
    · rename_i h
      have:new = []:=by simpa using h
      subst this
      exact hC _ _ (.inl ⟨rfl,rfl⟩) (Kept.refl _ _) id
    · intro c hc
      refine hC _ _ (.inr ⟨st.boxes.length,c,List.replicate (c - new.length) .any,by simp,?_,by simpa using hc,by simp; omega⟩) ⟨by simp [St.push],fun id cs hg _=>by rw [gz (bM hg)]; exact hg⟩ (fun h=>h.push fun x hx=>?_)
      · rw [hn.cellsD]
        simp only [List.nil_append,Nat.mul_one]
        exact bL st _
      · rw [hn.cellsD] at hx
        simp only [List.nil_append,Nat.mul_one,List.mem_append] at hx
        rcases hx with hx | hx
        · exact hn.nb x hx
        · rw [List.eq_of_mem_replicate hx]; exact .any
  · refine ⟨rfl,rfl,hr,?_⟩
    rw [hg]
    show (Res.ok _).wp _
    rw [oV,hn.cellsD]
    have hid:=bM hg
    split
    · rename_i hc
      refine ⟨by omega,hC _ _ (.inr ⟨id,cap,r.drop new.length,by simp,?_,by simpa using hc,?_⟩) ⟨by simp [St.set],fun id' cs hg' hne=>?_⟩ (fun h=>h.set hid ?_)⟩
      · rw [aR hid,Nat.zero_add,Nat.mul_one,iw rfl (by simp at h2; omega)]
        simp
      · simp at h2 ⊢; omega
      · rw [jB (fun e=>hne _ _ _ _ (by rw [e])),hg']
      · rw [Nat.zero_add,Nat.mul_one,iw rfl (by simp at h2; omega)]
        have h3:=h id _ hg
        intro x hx
        simp only [List.mem_append] at hx
        rcases hx with hx | hx | hx
        · exact hl.nb x hx
        · exact hn.nb x hx
        · exact h3 x (List.mem_append_right _ (List.mem_of_mem_drop hx))
    · rename_i hc
      have e:List.map AV.own1 (List.take (l.length * 1) (List.drop 0 (l++r))) = l:=by simp [hl.own]
      refine ⟨by simp,fun c hc=>hC _ _ (.inr ⟨st.boxes.length,c,List.replicate (c - (l.length + new.length)) .any,by simp,?_,by simpa using hc,by simp; omega⟩) ⟨by simp [St.push],fun id' cs hg' _=>by rw [gz (bM hg')]; exact hg'⟩ (fun h=>h.push fun x hx=>?_)⟩
      · rw [e]
        simp only [Nat.mul_one]
        exact bL st _
      · rw [e] at hx
        simp only [List.mem_append] at hx
        rcases hx with (hx | hx) | hx
        · exact hl.nb x hx
        · exact hn.nb x hx
        · rw [List.eq_of_mem_replicate hx]; exact .any
end Go.Fx
/- Functions that keep nothing may be handed what lies in boxes. -/
namespace Go.Fx
open Go
def litB1:AV→Bool
  | .lit _=>true
  | _=>false
end Go.Fx
/- Maps with plain keys, as lists; boxes that others are left alone by. -/
namespace Go.Fx
open Go
section
variable {β:Type}
def fJ (t:Int):List (Int×β)→Nat→Option (Nat×β)
  | [],_=>none
  | (k,b)::r,i=>if t = k then some (i,b) else fJ t r (i + 1)
def ai (t:Int):List (Int×β)→Option β
  | []=>none
  | (k,b)::r=>if t = k then some b else ai t r
def updP (t:Int) (b:β):List (Int×β)→List (Int×β)
  | []=>[(t,b)]
  | (k,c)::r=>if t = k then (t,b)::r else (k,c)::updP t b r
def delP (t:Int):List (Int×β)→List (Int×β)
  | []=>[]
  | (k,c)::r=>if t = k then r else (k,c)::delP t r
def aT (m:List (Int×β)):List Int:=m.map Prod.fst
theorem fv (t:Int):∀ (m:List (Int×β)) (i:Nat),(fJ t m i).map Prod.snd = ai t m
  | [],_=>rfl
  | (k, b) :: r, i => by
    simp only [fJ,ai]; split; · rfl
    · exact fv t r (i + 1)
theorem lk {γ:Type} (e:Int×β→γ) (t:Int) (b:β):∀ (m:List (Int×β)) (i:Nat),match fJ t m i with
    | some (j,_)=>i≤j∧(m.map e).set (j - i) (e (t,b)) = (updP t b m).map e∧(m.map e).eraseIdx (j - i) = (delP t m).map e∧j - i < m.length
    | none=>m.map e++[e (t,b)] = (updP t b m).map e∧delP t m = m
  | [],_=>by simp [fJ,updP,delP]
  | (k, c) :: r, i => by
    simp only [fJ]
    by_cases h:t = k
    · subst h
      simp [updP,delP]
    · rw [if_neg h]
      have ih:=lk e t b r (i + 1)
      cases hf:fJ t r (i + 1) with
      | none=>rw [hf] at ih; simp only at ih; simp [updP,delP,h,ih.1,ih.2]
      | some p =>
        obtain ⟨j,c'⟩:=p
        rw [hf] at ih
        simp only at ih ⊢
        obtain ⟨h1,h2,h3,h4⟩:=ih
        obtain ⟨q,rfl⟩:∃ q,j = i + 1 + q:=⟨j - (i + 1),by omega⟩
        rw [show i + 1 + q - (i + 1) = q by omega] at h2 h3 h4
        rw [show i + 1 + q - i = q + 1 by omega]
        refine ⟨by omega,?_,?_,by simp; omega⟩
        · simp [updP,h,h2]
        · simp [delP,h,h3]
theorem aW (t t':Int) (b:β):∀ m:List (Int×β),ai t' (updP t b m) = if t' = t then some b else ai t' m
  | []=>by simp only [updP,ai]
  | (k, c) :: r => by
    simp only [updP]
    by_cases h:t = k
    · subst h
      rw [if_pos rfl]
      simp only [ai]
      split <;> rfl
    · rw [if_neg h]
      simp only [ai]
      rw [aW t t' b r]
      by_cases h1:t' = k
      · subst h1
        have:¬ t' = t:=fun e=>h e.symm
        simp [this]
      · simp [h1]
theorem pg {t:Int}:∀ {m:List (Int×β)},t ∉ aT m→ai t m = none
  | [],_=>rfl
  | (k, c) :: r, h => by
    simp only [aT,List.map_cons,List.mem_cons,not_or] at h
    simp only [ai]
    rw [if_neg h.1]
    exact pg h.2
theorem look_key {t:Int}:∀ {m:List (Int×β)} {b:β},ai t m = some b→t ∈ aT m
  | (k, c) :: r, b, h => by
    simp only [ai] at h
    simp only [aT,List.map_cons,List.mem_cons]
    split at h
    · rename_i e; exact .inl e
    · exact .inr (look_key h)
theorem ei (t t':Int):∀ {m:List (Int×β)},(aT m).Nodup→ai t' (delP t m) = if t' = t then none else ai t' m
  | [],_=>by simp [delP,ai]
  | (k, c) :: r, hn => by
    simp only [aT,List.map_cons,List.nodup_cons] at hn
    simp only [delP]
    by_cases h:t = k
    · subst h
      rw [if_pos rfl]
      simp only [ai]
      by_cases h1:t' = t
      · subst h1; rw [if_pos rfl]; exact pg hn.1
      · rw [if_neg h1,if_neg h1]
    · rw [if_neg h]
      simp only [ai]
      by_cases h1:t' = k
      · subst h1
        have:¬ t' = t:=fun e=>h e.symm
        simp [this]
      · rw [if_neg h1,if_neg h1]; exact ei t t' hn.2
theorem ej (t:Int) (b:β):∀ m:List (Int×β),(updP t b m).length = if (ai t m).isSome then m.length else m.length + 1
  | []=>by simp [updP,ai]
  | (k, c) :: r => by
    simp only [updP,ai]
    by_cases h:t = k
    · simp [h]
    · simp only [if_neg h,List.length_cons,ej t b r]
      split <;> rfl
theorem mg (t:Int):∀ m:List (Int×β),(delP t m).length = if (ai t m).isSome then m.length - 1 else m.length
  | []=>by simp [delP,ai]
  | (k, c) :: r => by
    simp only [delP,ai]
    by_cases h:t = k
    · simp [h]
    · simp only [if_neg h,List.length_cons,mg t r]
      split
      · rename_i q
        have:r≠[]:=by rintro rfl; simp [ai] at q
        have:=List.length_pos_iff.2 this
        omega
      · rfl
theorem ny (t:Int) (b:β):∀ m:List (Int×β),aT (updP t b m) = if (ai t m).isSome then aT m else aT m++[t]
  | []=>by simp [updP,ai,aT]
  | (k, c) :: r => by
    simp only [updP,ai]
    by_cases h:t = k
    · simp [h,aT]
    · have:=ny t b r
      simp only [aT] at this
      simp only [if_neg h,aT,List.map_cons,this]
      split <;> rfl
theorem kl (t x:Int):∀ {m:List (Int×β)},x ∈ aT (delP t m)→x ∈ aT m
  | [],h=>h
  | (k, c) :: r, h => by
    simp only [delP] at h
    simp only [aT,List.map_cons,List.mem_cons]
    split at h
    · exact .inr h
    · simp only [aT,List.map_cons,List.mem_cons] at h
      rcases h with h | h
      · exact .inl h
      · exact .inr (kl t x h)
theorem lm {t:Int} {b:β} {m:List (Int×β)} (h:(aT m).Nodup):(aT (updP t b m)).Nodup:=by
  rw [ny]
  split
  · exact h
  · rename_i hs
    refine List.nodup_append.2 ⟨h,by simp,?_⟩
    intro x hx y hy
    simp only [List.mem_singleton] at hy
    subst hy
    rintro rfl
    have:∀ m:List (Int×β),x ∈ aT m→(ai x m).isSome = true:=by
      intro m
      induction m with
      | nil=>intro h; simp [aT] at h
      | cons p r ih =>
        obtain ⟨k,c⟩:=p
        intro h
        simp only [aT,List.map_cons,List.mem_cons] at h
        simp only [ai]
        split
        · rfl
        · rename_i hne
          rcases h with h | h
          · exact absurd h hne
          · exact ih h
    exact hs (this m hx)
theorem iR {t:Int}:∀ {m:List (Int×β)},(aT m).Nodup→(aT (delP t m)).Nodup
  | [],h=>h
  | (k, c) :: r, h => by
    simp only [aT,List.map_cons,List.nodup_cons] at h
    simp only [delP]
    split
    · exact h.2
    · simp only [aT,List.map_cons,List.nodup_cons]
      exact ⟨fun e=>h.1 (kl t k e),iR h.2⟩
def encE (k:IntKind) (ev:β→AV) (p:Int×β):AV×AV:=(.lit (.int k p.1),ev p.2)
def encM (k:IntKind) (ev:β→AV) (m:List (Int×β)):List (AV×AV):=m.map (encE k ev)
theorem iS (k:IntKind) (ev:β→AV) (t:Int):∀ (m:List (Int×β)) (i:Nat),cF (.lit (.int k t)) (encM k ev m) i = .ok ((fJ t m i).map fun p=>(p.1,ev p.2))
  | [],_=>rfl
  | (q, b) :: r, i => by
    have ih:=iS k ev t r (i + 1)
    simp only [encM,List.map_cons,encE,cF,cE,if_true,fJ] at ih ⊢
    by_cases h:t = q
    · subst h; simp
    · have:(t == q) = false:=by simpa using h
      simp only [this,if_neg h,Bool.false_eq_true,if_false]
      exact ih
end
section
variable {st st':St} {id q:Nat}
theorem getM_lt {es:List (AV×AV)} (h:st.getM id = some es):id < st.boxes.length:=by
  unfold St.getM at h
  split at h
  · rename_i hb
    exact (List.getElem?_eq_some_iff.1 hb).1
  · cases h
theorem bQ (h:st'.boxes[id]? = st.boxes[id]?):st'.get id = st.get id:=by unfold St.get; rw [h]
theorem getM_at (h:st'.boxes[id]? = st.boxes[id]?):st'.getM id = st.getM id:=by unfold St.getM; rw [h]
theorem qn (h:st'.boxes[id]? = st.boxes[id]?):st'.getB id = st.getB id:=by unfold St.getB; rw [h]
theorem dR {cs:List AV} (h:id≠q):(st.set q cs).boxes[id]? = st.boxes[id]?:=by simp [St.set,List.getElem?_set_ne (fun e=>h e.symm)]
theorem qo {es:List (AV×AV)} {bs:List Nat} {c:Nat} (h:id≠q):(st.setM q es bs c).boxes[id]? = st.boxes[id]?:=by simp [St.setM,List.getElem?_set_ne (fun e=>h e.symm)]
theorem bE {b:Box} (h:id < st.boxes.length):(st.push b).boxes[id]? = st.boxes[id]?:=by simp [St.push,List.getElem?_append_left h]
theorem ln {es:List (AV×AV)} {bs:List Nat} {c:Nat} (h:id < st.boxes.length):(st.setM id es bs c).getM id = some es:=by simp [St.setM,St.getM,h]
theorem dA {es:List (AV×AV)} {bs:List Nat} {c:Nat} (h:id < st.boxes.length):(st.setM id es bs c).getB id = (bs,c):=by simp [St.setM,St.getB,h]
theorem get_mt {es:List (AV×AV)} (h:st.getM id = some es):st.get id = none:=by
  unfold St.getM at h; unfold St.get
  split at h
  · rename_i hb; simp [hb]
  · cases h
end
theorem St.sub_push (st:St) (b:Box):St.sub st (st.push b):=fun id x h=>by
  rw [bE (List.getElem?_eq_some_iff.1 h).1]; exact h
theorem St.sub_of {st st':St} (h:∀ id,id < st.boxes.length→st'.boxes[id]? = st.boxes[id]?):St.sub st st':=fun id x hx=>by
  rw [h id (List.getElem?_eq_some_iff.1 hx).1]; exact hx
def Oth (st st':St) (S:List Nat):Prop:=st'.boxes.length = st.boxes.length∧∀ id,id ∉ S→st'.boxes[id]? = st.boxes[id]?
theorem Oth.refl (st:St) (S:List Nat):Oth st st S:=⟨rfl,fun _ _=>rfl⟩
theorem Oth.trans {a b c:St} {S:List Nat} (h:Oth a b S) (k:Oth b c S):Oth a c S:=⟨k.1.trans h.1,fun id hid=>(k.2 id hid).trans (h.2 id hid)⟩
theorem Oth.mono {a b:St} {S S':List Nat} (h:Oth a b S) (hs:∀ x ∈ S,x ∈ S'):Oth a b S':=⟨h.1,fun id hid=>h.2 id fun e=>hid (hs id e)⟩
theorem Oth.set (st:St) (q:Nat) (cs:List AV) {S:List Nat} (h:q ∈ S):Oth st (st.set q cs) S:=⟨qf ..,fun id hid=>dR fun e=>hid (e ▸ h)⟩
theorem Oth.get {a b:St} {S:List Nat} (h:Oth a b S) {id:Nat} (hid:id ∉ S):b.get id = a.get id:=bQ (h.2 id hid)
section
variable {β:Type}
structure MapIs (st:St) (id:Nat) (k:IntKind) (ev:β→AV) (m:List (Int×β)):Prop where
  get:st.getM id = some (encM k ev m)
  nd:(aT m).Nodup
  bl:(st.getB id).1.length = m.length
  bn:(st.getB id).1.Nodup
  bc:∀ b ∈ (st.getB id).1,b < (st.getB id).2
variable {st st':St} {id:Nat} {k:IntKind} {ev:β→AV} {m:List (Int×β)}
theorem MapIs.lt (h:MapIs st id k ev m):id < st.boxes.length:=getM_lt h.get
theorem MapIs.at (h:MapIs st id k ev m) (hb:st'.boxes[id]? = st.boxes[id]?):MapIs st' id k ev m:=by
  refine ⟨(getM_at hb).trans h.get,h.nd,?_,?_,?_⟩ <;> rw [qn hb]
  · exact h.bl
  · exact h.bn
  · exact h.bc
theorem MapIs.set (h:MapIs st id k ev m) {q:Nat} {cs:List AV} (hq:id≠q):MapIs (st.set q cs) id k ev m:=h.at (dR hq)
theorem MapIs.push (h:MapIs st id k ev m) (b:Box):MapIs (st.push b) id k ev m:=h.at (bE h.lt)
theorem MapIs.ne (h:MapIs st id k ev m) {q:Nat} {cs:List AV} (hq:st.get q = some cs):id≠q:=by
  rintro rfl
  rw [get_mt h.get] at hq; cases hq
theorem cH (h:MapIs st id k ev m) {z:AV} {ok:Bool} {t:Int}:cd (.int k) z ok st (.map id) (.lit (.int k t)) = .ok (match ai t m with
    | some b=>if ok then .tup [(ev b).dis,.lit (.bool true)] else (ev b).dis
    | none=>if ok then .tup [z,.lit (.bool false)] else z):=by
  have hk:keyI (.int k) (.lit (.int k t)) = true:=by simp [keyI]
  unfold cd
  rw [if_pos hk]
  simp only [h.get,Res.ofOpt,Res.bind,iS]
  rw [← fv t m 0]
  cases fJ t m 0 <;> rfl
theorem eK (h:MapIs st id k ev m) {t:Int} {b:β} {x:AV} (hx:x.solid = true) (hd:x.dis = ev b) {K:Sf→St→Prop} {sf:Sf}
    (hK:∀ st',MapIs st' id k ev (updP t b m)→Oth st st' [id]→K sf st'):updX false (.int k) (.map id) (.lit (.int k t)) x K sf st:=by
  refine ⟨by simp [keyI],rfl,hx,?_⟩
  have hlt:=h.lt
  simp only [h.get,Res.ofOpt,Res.wp,iS,hd]
  have hu:=lk (encE k ev) t b m 0
  cases hf:fJ t m 0 with
  | none =>
    rw [hf] at hu
    simp only [Option.map_none,St.updM,updA]
    have hno:ai t m = none:=by rw [← fv t m 0,hf]; rfl
    refine hK _ ⟨?_,lm h.nd,?_,?_,?_⟩ ⟨by simp [St.setM],fun q hq=>qo (by simpa using hq)⟩
    · rw [ln hlt]; exact congrArg some hu.1
    · rw [dA hlt,ej,hno]; simp [h.bl]
    · rw [dA hlt]
      refine List.nodup_append.2 ⟨h.bn,by simp,fun x hx y hy e=>?_⟩
      simp only [List.mem_singleton] at hy
      subst hy; subst e
      exact Nat.lt_irrefl _ (h.bc _ hx)
    · rw [dA hlt]
      intro b hb
      simp only [List.mem_append,List.mem_singleton] at hb
      rcases hb with hb | rfl
      · have:=h.bc b hb; simp only; omega
      · simp
  | some p =>
    obtain ⟨j,c⟩:=p
    rw [hf] at hu
    simp only [Nat.sub_zero] at hu
    simp only [Option.map_some,St.updM,updA]
    have hyes:(ai t m).isSome = true:=by rw [← fv t m 0,hf]; rfl
    refine hK _ ⟨?_,lm h.nd,?_,?_,?_⟩ ⟨by simp [St.setM],fun q hq=>qo (by simpa using hq)⟩
    · rw [ln hlt]; exact congrArg some hu.2.1
    · rw [dA hlt,ej,if_pos hyes]; exact h.bl
    · rw [dA hlt]; exact h.bn
    · rw [dA hlt]; exact h.bc
theorem iB (h:MapIs st id k ev m) {t:Int} {K:Sf→St→Prop} {sf:Sf}
    (hK:∀ st',MapIs st' id k ev (delP t m)→Oth st st' [id]→K sf st'):delX false (.int k) (.map id) (.lit (.int k t)) K sf st:=by
  refine ⟨by simp [keyI],rfl,?_⟩
  have hlt:=h.lt
  simp only [h.get,Res.ofOpt,Res.wp,iS]
  cases hf:fJ t m 0 with
  | none =>
    have hu:delP t m = m:=by
      have:∀ (m:List (Int×β)) (i:Nat),fJ t m i = none→delP t m = m:=by
        intro m
        induction m with
        | nil=>intro i _; rfl
        | cons p r ih =>
          obtain ⟨k,c⟩:=p
          intro i h
          simp only [fJ] at h
          simp only [delP]
          split at h
          · cases h
          · rename_i hne; rw [if_neg hne,ih (i + 1) h]
      exact this m 0 hf
    simp only [Option.map_none]
    exact hK _ (by rw [hu]; exact h) (Oth.refl _ _)
  | some p =>
    obtain ⟨j,c⟩:=p
    have hu:=lk (encE k ev) t c m 0
    rw [hf] at hu
    simp only [Nat.sub_zero] at hu
    simp only [Option.map_some,St.delM]
    have hyes:(ai t m).isSome = true:=by rw [← fv t m 0,hf]; rfl
    refine hK _ ⟨?_,iR h.nd,?_,?_,?_⟩ ⟨by simp [St.setM],fun q hq=>qo (by simpa using hq)⟩
    · rw [ln hlt]; exact congrArg some hu.2.2.1
    · rw [dA hlt,mg,if_pos hyes]
      simp only [List.length_eraseIdx,h.bl,if_pos hu.2.2.2]
    · rw [dA hlt]; exact h.bn.sublist (List.eraseIdx_sublist ..)
    · rw [dA hlt]; exact fun b hb=>h.bc b (List.mem_of_mem_eraseIdx hb)
theorem km (h:MapIs st id k ev m):lenI .mp st (.map id) = .ok (.lit (.int .i64 m.length)):=by
  simp only [lenI,h.get,Res.ofOpt,Res.bind,encM,List.length_map]
theorem MapIs.clone (h:MapIs st id k ev m):MapIs (st.push (.mp (encM k ev m) (st.getB id).1 (st.getB id).2)) st.boxes.length k ev m:=by
  refine ⟨pa ..,h.nd,?_,?_,?_⟩ <;> rw [pb]
  · exact h.bl
  · exact h.bn
  · exact h.bc
theorem MapIs.new (st:St) (k:IntKind) (ev:β→AV):MapIs (st.push (.mp [] [] 0)) st.boxes.length k ev []:=by
  refine ⟨pa ..,by simp [aT],?_,?_,?_⟩ <;> rw [pb] <;> simp
end
theorem aB {P:Program} {X:Cx} {f:FuncId} {fn:AFun} {vs:List AV} {st:St} (hmix:P.follows .mixedOrders = true) (hf:io P X f = some fn) (hX:X.F = id) (hlen:Nat.ble vs.length fn.n = true) {v0:AV} (h:∀ Q:AV→St→Prop,(∀ st',Q v0 st')→aFun P id true fn vs st Q):az P f vs st v0:=by
  refine pcalls_of hmix hf (Nat.le_of_ble_eq_true hlen) ?_
  rw [hX]; exact h _ fun _=>rfl
end Go.Fx
/- Linked nodes in a map: a queue (plain lists; no program in sight). -/
namespace Go.Fx
open Go
abbrev Nd:=Int×Nat×Nat
abbrev Qu:=List (Nat×Int)
def aw:Qu→Nat→Nat
  | [],h=>h
  | (x,_)::_,_=>x
def ar:Nat→Qu→Nat
  | p,[]=>p
  | _,(t,_)::r=>ar t r
def aX:Nat→Qu→Nat→Nat→Option Nd
  | _,[],_,_=>none
  | p,(u,v)::r,h,t=>if t = u then some (v,p,aw r h) else aX u r h t
def aG (L:Qu):List Nat:=L.map Prod.fst
theorem ga (B:Qu) (h t:Nat):∀ (A:Qu) (p:Nat),aX p (A++B) h t = match aX p A (aw B h) t with | some x=>some x | none=>aX (ar p A) B h t
  | [],p=>rfl
  | (u, v) :: A, p => by
    simp only [List.cons_append,aX,ar]
    split
    · cases A <;> rfl
    · exact ga B h t A u
theorem cR {h t:Nat}:∀ {L:Qu} {p:Nat},t ∉ aG L→aX p L h t = none
  | [],_,_=>rfl
  | (u, v) :: r, p, hn => by
    simp only [aG,List.map_cons,List.mem_cons,not_or] at hn
    simp only [aX]
    rw [if_neg hn.1]
    exact cR hn.2
theorem eL:∀ {L:Qu} {p:Nat},L≠[]→ar p L ∈ aG L
  | [(t,v)],p,_=>by simp [ar,aG]
  | (t, v) :: y :: r, p, _ => by
    have:=eL (L:=y::r) (p:=t) (by simp)
    simp only [ar,aG,List.map_cons,List.mem_cons] at this ⊢
    exact .inr this
theorem gc (B:Qu):∀ (A:Qu) (p:Nat),ar p (A++B) = ar (ar p A) B
  | [],_=>rfl
  | (t,v)::A,p=>gc B A t
theorem last_ne {L:Qu} {p p':Nat} (h:L≠[]):ar p L = ar p' L:=by
  cases L with
  | nil=>exact absurd rfl h
  | cons x r=>rfl
theorem qp {h h' t:Nat}:∀ {L:Qu} {p:Nat},(aG L).Nodup→L≠[]→aX p L h' t = if t = ar p L then (aX p L h t).map (fun x=>(x.1,x.2.1,h')) else aX p L h t
  | [(u, v)], p, _, _ => by
    simp only [aX,ar,aw]
    by_cases e:t = u
    · simp [e]
    · simp [e]
  | (u, v) :: (u2, v2) :: r, p, hn, _ => by
    have ih:=qp (h:=h) (h':=h') (t:=t) (L:=(u2,v2)::r) (p:=u) (List.nodup_cons.1 hn).2 (by simp)
    have hl:=eL (L:=(u2,v2)::r) (p:=u) (by simp)
    have hne:u≠ar u ((u2,v2)::r):=fun e=>(List.nodup_cons.1 hn).1 (by rw [e]; exact hl)
    have e0:∀ q,aX p ((u,v)::(u2,v2)::r) q t = if t = u then some (v,p,u2) else aX u ((u2,v2)::r) q t:=fun q=>rfl
    rw [e0,e0,show ar p ((u,v)::(u2,v2)::r) = ar u ((u2,v2)::r) from rfl]
    by_cases e:t = u
    · subst e; rw [if_pos rfl,if_pos rfl,if_neg hne]
    · rw [if_neg e,if_neg e]; exact ih
theorem nodeA_p {h t p p':Nat} {u:Nat} {v:Int} {r:Qu} (hn:(aG ((u,v)::r)).Nodup):aX p' ((u,v)::r) h t = if t = u then (aX p ((u,v)::r) h t).map (fun x=>(x.1,p',x.2.2)) else aX p ((u,v)::r) h t:=by
  simp only [aX]
  by_cases e:t = u
  · simp [e]
  · simp [e]
theorem nodeA_push {L:Qu} {u:Nat} {v:Int} {t:Nat} (hn:(aG L).Nodup) (hu:u ∉ aG L) (hL:L≠[]) :
    aX 0 (L++[(u,v)]) 0 t = if t = ar 0 L then (aX 0 L 0 t).map (fun x=>(x.1,x.2.1,u)) else if t = u then some (v,ar 0 L,0) else aX 0 L 0 t:=by
  rw [ga]
  simp only [aw,aX]
  have hl:=eL (p:=0) hL
  rw [qp (h:=0) hn hL]
  by_cases e:t = ar 0 L
  · rw [if_pos e,if_pos e]
    cases hx:aX 0 L 0 t with
    | some x=>rfl
    | none =>
      exfalso
      have:∀ (L:Qu) (p:Nat),t ∈ aG L→aX p L 0 t≠none:=by
        intro L
        induction L with
        | nil=>intro p h; simp [aG] at h
        | cons y r ih =>
          obtain ⟨a,b⟩:=y
          intro p h
          simp only [aX]
          split
          · simp
          · rename_i hne
            simp only [aG,List.map_cons,List.mem_cons] at h
            exact ih a (h.resolve_left hne)
      exact this L 0 (e ▸ hl) hx
  · rw [if_neg e,if_neg e]
    by_cases e2:t = u
    · subst e2; rw [cR hu]
      try simp
    · simp only [if_neg e2]
      cases aX 0 L 0 t <;> rfl
theorem nodeA_del {A B:Qu} {u:Nat} {v:Int} {t:Nat} (hn:(aG (A++(u,v)::B)).Nodup) :
    aX 0 (A++B) 0 t = if t = u then none else
      if A≠[]∧t = ar 0 A then (aX 0 (A++(u,v)::B) 0 t).map (fun x=>(x.1,x.2.1,aw B 0)) else
      if B≠[]∧t = aw B 0 then (aX 0 (A++(u,v)::B) 0 t).map (fun x=>(x.1,ar 0 A,x.2.2)) else aX 0 (A++(u,v)::B) 0 t:=by
  have h1:(aG A).Nodup∧(aG ((u,v)::B)).Nodup∧∀ x ∈ aG A,∀ y ∈ aG ((u,v)::B),x≠y:=by
    simp only [aG,List.map_append] at hn
    exact List.nodup_append.1 hn
  obtain ⟨hA,hB0,hAB⟩:=h1
  have hB:=List.nodup_cons.1 hB0
  have hu:u ∉ aG A:=fun e=>hAB u e u (by simp [aG]) rfl
  rw [ga,ga,show aw ((u,v)::B) 0 = u from rfl]
  by_cases e:t = u
  · subst e
    rw [if_pos rfl,cR hu]
    exact cR hB.1
  · rw [if_neg e]
    have e1:aX (ar 0 A) ((u,v)::B) 0 t = aX u B 0 t:=by simp only [aX]; rw [if_neg e]
    rw [e1]
    by_cases hAe:A = []
    · subst hAe
      simp only [aX,ar,ne_eq,not_true_eq_false,false_and,if_false]
      cases B with
      | nil=>simp [aX]
      | cons y r =>
        obtain ⟨w,z⟩:=y
        rw [nodeA_p (p:=u) (p':=0) hB.2]
        simp [show aw ((w,z)::r) 0 = w from rfl]
    · rw [qp (h:=u) (h':=aw B 0) hA hAe]
      by_cases e2:t = ar 0 A
      · have hin:t ∈ aG A:=e2 ▸ eL hAe
        rw [if_pos e2,if_pos ⟨hAe,e2⟩]
        cases hx:aX 0 A u t with
        | some x=>rfl
        | none =>
          have hnb:t ∉ aG B:=fun hb=>hAB t hin t (by simp only [aG,List.map_cons,List.mem_cons]; exact .inr hb) rfl
          simp only [Option.map_none,cR hnb]
      · rw [if_neg e2,if_neg (fun q=>e2 q.2)]
        cases B with
        | nil=>simp [aX]
        | cons y r =>
          obtain ⟨w,z⟩:=y
          rw [nodeA_p (p:=u) (p':=ar 0 A) hB.2]
          simp only [show aw ((w,z)::r) 0 = w from rfl,ne_eq,reduceCtorEq,not_false_eq_true,true_and]
          by_cases e3:t = w
          · have hna:t ∉ aG A:=fun ha=>hAB t ha t (by simp [aG,e3]) rfl
            rw [if_pos e3,if_pos e3,cR hna]
          · rw [if_neg e3,if_neg e3]
theorem nodeA_at {A B:Qu} {u:Nat} {v:Int} (hu:u ∉ aG A):aX 0 (A++(u,v)::B) 0 u = some (v,ar 0 A,aw B 0):=by
  rw [ga,cR hu]
  simp [aX]
def ndAV (x:Nd):AV:=.agg [.lit (.int .i64 x.1),.lit (.int .u64 (x.2.1:Nat)),.lit (.int .u64 (x.2.2:Nat))]
theorem ndAV_dis (x:Nd):(ndAV x).dis = ndAV x:=rfl
structure QIs (st:St) (q mid:Nat) (L:Qu) (g:Nat):Prop where
  get:st.get q = some [.lit (.int .u64 (aw L 0:Nat)),.lit (.int .u64 (ar 0 L:Nat)),.lit (.int .u64 (g:Nat)),.map mid]
  mp:∃ m,MapIs st mid .u64 ndAV m∧(∀ t:Nat,ai t m = aX 0 L 0 t)∧m.length = L.length
  srt:(aG L).Pairwise (· < ·)
  pos:∀ t ∈ aG L,0 < t∧t≤g
theorem QIs.nd {st:St} {q mid g:Nat} {L:Qu} (h:QIs st q mid L g):(aG L).Nodup:=h.srt.imp fun h=>Nat.ne_of_lt h
theorem QIs.ne {st:St} {q mid g:Nat} {L:Qu} (h:QIs st q mid L g):mid≠q:=by
  obtain ⟨m,hm,_⟩:=h.mp
  exact hm.ne h.get
theorem QIs.ltq {st:St} {q mid g:Nat} {L:Qu} (h:QIs st q mid L g):q < st.boxes.length:=bM h.get
theorem QIs.ltm {st:St} {q mid g:Nat} {L:Qu} (h:QIs st q mid L g):mid < st.boxes.length:=by
  obtain ⟨m,hm,_⟩:=h.mp
  exact hm.lt
theorem QIs.at {st st':St} {q mid g:Nat} {L:Qu} (h:QIs st q mid L g) (h1:st'.boxes[q]? = st.boxes[q]?) (h2:st'.boxes[mid]? = st.boxes[mid]?):QIs st' q mid L g:=by
  obtain ⟨m,hm,h3,h4⟩:=h.mp
  exact ⟨(bQ h1).trans h.get,⟨m,hm.at h2,h3,h4⟩,h.srt,h.pos⟩
theorem QIs.nil_iff {st:St} {q mid g:Nat} {L:Qu} (h:QIs st q mid L g):(aw L 0 = 0↔L = [])∧(ar 0 L = 0↔L = []):=by
  cases L with
  | nil=>simp [aw,ar]
  | cons x r =>
    obtain ⟨t,v⟩:=x
    have h1:=h.pos t (by simp [aG])
    have h2:=h.pos _ (eL (L:=(t,v)::r) (p:=0) (by simp))
    simp only [aw,reduceCtorEq,iff_false]
    omega
theorem fw {t:Nat}:∀ {L:Qu} {p:Nat},t ∈ aG L→∃ x,aX p L 0 t = some x
  | (u, v) :: r, p, h => by
    simp only [aX]
    split
    · exact ⟨_,rfl⟩
    · rename_i hne
      simp only [aG,List.map_cons,List.mem_cons] at h
      exact fw (h.resolve_left hne)
theorem cI (A B:Qu):aG (A++B) = aG A++aG B:=by simp [aG]
theorem QIs.clone {st st':St} {q mid q' mid' g:Nat} {L:Qu} (h:QIs st q mid L g) (hg:st'.get q' = some [.lit (.int .u64 (aw L 0:Nat)),.lit (.int .u64 (ar 0 L:Nat)),.lit (.int .u64 (g:Nat)),.map mid'])
    (hm:∀ m,MapIs st mid .u64 ndAV m→MapIs st' mid' .u64 ndAV m):QIs st' q' mid' L g:=by
  obtain ⟨m,h1,h2,h3⟩:=h.mp
  exact ⟨hg,⟨m,hm m h1,h2,h3⟩,h.srt,h.pos⟩
theorem nodeA_get {L:Qu} (hn:(aG L).Nodup) {i:Nat} (hi:i < L.length):aX 0 L 0 L[i].1 = some (L[i].2,ar 0 (L.take i),aw (L.drop (i + 1)) 0):=by
  have e:L = L.take i++(L[i].1,L[i].2)::L.drop (i + 1):=by
    rw [← List.drop_eq_getElem_cons hi,List.take_append_drop]
  have hno:L[i].1 ∉ aG (L.take i):=by
    intro hm
    have hn':=hn
    rw [e,cI] at hn'
    exact (List.nodup_append.1 hn').2.2 _ hm _ (by simp [aG]) rfl
  have:=nodeA_at (v:=L[i].2) (B:=L.drop (i + 1)) hno
  rw [← e] at this
  exact this
theorem nxt_drop {L:Qu} {i:Nat} (hi:i < L.length):aw (L.drop i) 0 = L[i].1:=by
  rw [List.drop_eq_getElem_cons hi]
  rfl
theorem tick_get {L:Qu} {i:Nat} (hi:i < L.length):L[i].1 ∈ aG L:=List.mem_map.2 ⟨L[i],List.getElem_mem hi,rfl⟩
theorem QIs.push {st st':St} {q mid g:Nat} {L:Qu} {v:Int} (h:QIs st q mid L g) {m':List (Int×Nd)} (hg:st'.get q = some [.lit (.int .u64 (aw (L++[(g + 1,v)]) 0:Nat)),.lit (.int .u64 ((g + 1:Nat))),.lit (.int .u64 ((g + 1:Nat))),.map mid])
    (hm:MapIs st' mid .u64 ndAV m') (hl:∀ t:Nat,ai t m' = aX 0 (L++[(g + 1,v)]) 0 t) (hn:m'.length = L.length + 1):QIs st' q mid (L++[(g + 1,v)]) (g + 1):=by
  refine ⟨by rw [gc]; exact hg,⟨m',hm,hl,by simp [hn]⟩,?_,fun t ht=>?_⟩
  · rw [cI]
    refine List.pairwise_append.2 ⟨h.srt,by simp [aG],fun x hx y hy=>?_⟩
    simp only [aG,List.map_cons,List.map_nil,List.mem_singleton] at hy
    have:=(h.pos x hx).2
    omega
  · rw [cI] at ht
    rcases List.mem_append.1 ht with ht | ht
    · have:=h.pos t ht; omega
    · simp only [aG,List.map_cons,List.map_nil,List.mem_singleton] at ht
      omega
theorem QIs.fresh {st:St} {q mid g:Nat} {L:Qu} (h:QIs st q mid L g):g + 1 ∉ aG L:=fun e=>by have:=(h.pos _ e).2; omega
theorem QIs.del {st st':St} {q mid g:Nat} {A B:Qu} {t:Nat} {v:Int} (h:QIs st q mid (A++(t,v)::B) g) {m':List (Int×Nd)} (hg:st'.get q = some [.lit (.int .u64 (aw (A++B) 0:Nat)),.lit (.int .u64 (ar 0 (A++B):Nat)),.lit (.int .u64 (g:Nat)),.map mid])
    (hm:MapIs st' mid .u64 ndAV m') (hl:∀ t:Nat,ai t m' = aX 0 (A++B) 0 t) (hn:m'.length = (A++B).length):QIs st' q mid (A++B) g:=by
  have hsub:(aG (A++B)).Sublist (aG (A++(t,v)::B)):=by
    simp only [cI]
    exact List.Sublist.append (List.Sublist.refl _) (List.sublist_cons_self _ _)
  exact ⟨hg,⟨m',hm,hl,hn⟩,h.srt.sublist hsub,fun x hx=>h.pos x (hsub.subset hx)⟩
end Go.Fx
/- A channel's state: plain lists, and where they lie. -/
namespace Go.Fx
open Go
abbrev W3:=Nat×Int×Int
structure ChP where
  closed:Bool
  cap:Nat
  buf:List Int
  S:List W3
  V:List W3
  g0:Nat
  g1:Nat
def qOf (l:List W3):Qu:=l.map fun x=>(x.1,x.2.1)
def wEnt (d:Int) (l:List W3):List (Int×(Int×Int×Nat)):=l.map fun x=>(x.2.1,(d,x.2.2,x.1))
def entC (S V:List W3):List (Int×(Int×Int×Nat)):=wEnt 0 S++wEnt 1 V
def wtAV (x:Int×Int×Nat):AV:=.agg [.lit (.int .i64 x.1),.lit (.int .i64 x.2.1),.lit (.int .u64 (x.2.2:Nat))]
def ints (l:List Int):List AV:=l.map fun v=>.lit (.int .i64 v)
def ae:AV→List Nat
  | .bs id _ _ _ _=>[id]
  | _=>[]
structure ChIs (st:St) (c:Nat) (P:ChP) (q0 m0 q1 m1 wid:Nat) (bv:AV):Prop where
  get:st.get c = some [.lit (.bool true),.lit (.bool P.closed),.lit (.int .i64 (P.cap:Nat)),bv,.ptr q0 0,.ptr q1 0,.map wid]
  buf:MB bv st (ints P.buf)
  s:QIs st q0 m0 (qOf P.S) P.g0
  r:QIs st q1 m1 (qOf P.V) P.g1
  w:∃ W,MapIs st wid .i64 wtAV W∧∀ t,ai t W = ai t (entC P.S P.V)
  ids:[c,q0,q1,m0,m1,wid].Nodup
  bid:∀ x ∈ ae bv,x ∉ [c,q0,q1,m0,m1,wid]
  nd:(aT (entC P.S P.V)).Nodup
  rng:∀ t ∈ aT (entC P.S P.V),0≤t∧t < 64
  zv:∀ x ∈ P.V,x.2.2 = 0
def Kp (st st':St) (F:List Nat):Prop:=st.boxes.length≤st'.boxes.length∧∀ id,id < st.boxes.length→id ∉ F→st'.boxes[id]? = st.boxes[id]?
theorem Kp.refl (st:St) (F:List Nat):Kp st st F:=⟨Nat.le_refl _,fun _ _ _=>rfl⟩
theorem Kp.trans {a b c:St} {F F':List Nat} (h:Kp a b F) (k:Kp b c F') (hf:∀ x ∈ F',x ∈ F∨a.boxes.length≤x):Kp a c F :=
  ⟨Nat.le_trans h.1 k.1,fun id hid hn=>(k.2 id (Nat.lt_of_lt_of_le hid h.1) fun e=>(hf id e).elim hn (fun q=>by omega)).trans (h.2 id hid hn)⟩
theorem Oth.kp {st st':St} {S F:List Nat} (h:Oth st st' S) (hs:∀ x ∈ S,x ∈ F):Kp st st' F:=⟨Nat.le_of_eq h.1.symm,fun id _ hn=>h.2 id fun e=>hn (hs id e)⟩
theorem MB.at {v:AV} {st st':St} {l:List AV} (h:MB v st l) (hb:∀ x ∈ ae v,st'.boxes[x]? = st.boxes[x]?):MB v st' l:=by
  rcases h with ⟨rfl,rfl⟩ | ⟨id,cap,r,rfl,hg,h1,h2⟩
  · exact .inl ⟨rfl,rfl⟩
  · exact .inr ⟨id,cap,r,rfl,(bQ (hb id (by simp [ae]))).trans hg,h1,h2⟩
theorem MB.lt {v:AV} {st:St} {l:List AV} (h:MB v st l):∀ x ∈ ae v,x < st.boxes.length:=by
  rcases h with ⟨rfl,rfl⟩ | ⟨id,cap,r,rfl,hg,h1,h2⟩
  · simp [ae]
  · intro x hx
    simp only [ae,List.mem_singleton] at hx
    subst hx
    exact bM hg
section
variable {st st':St} {c q0 m0 q1 m1 wid:Nat} {bv:AV} {P:ChP}
theorem ChIs.lts (h:ChIs st c P q0 m0 q1 m1 wid bv):∀ x ∈ [c,q0,q1,m0,m1,wid]++ae bv,x < st.boxes.length:=by
  obtain ⟨W,hW,_⟩:=h.w
  intro x hx
  simp only [List.mem_append,List.mem_cons,List.not_mem_nil,or_false] at hx
  rcases hx with (rfl | rfl | rfl | rfl | rfl | rfl) | hx
  · exact bM h.get
  · exact h.s.ltq
  · exact h.r.ltq
  · exact h.s.ltm
  · exact h.r.ltm
  · exact hW.lt
  · exact h.buf.lt x hx
end
theorem MB.grow {v:AV} {st:St} {l new:List AV} {bytes:Nat} {C:AV→St→Prop} (h:MB v st l) (hl:Lits l) (hn:Lits new) (hr:fR (l.length + new.length) bytes = true)
    (hC:∀ v' st',MB v' st' (l++new)→Kp st st' (ae v)→(∀ x ∈ ae v',x ∈ ae v∨st.boxes.length≤x)→C v' st'):appX false 1 bytes v C st new:=by
  rcases h with ⟨rfl,rfl⟩ | ⟨id,cap,r,rfl,hg,h1,h2⟩
  · refine ⟨rfl,by simpa using hr,?_⟩
    split
    · rename_i h
      have:new = []:=by simpa using h
      subst this
      exact hC _ _ (.inl ⟨rfl,rfl⟩) (Kp.refl _ _) (by simp [ae])
    · intro c hc
      refine hC _ _ (.inr ⟨st.boxes.length,c,List.replicate (c - new.length) .any,by simp,?_,by simpa using hc,by simp; omega⟩) ⟨by simp [St.push],fun id hid _=>bE hid⟩ (by simp [ae])
      rw [hn.cellsD]
      simp only [List.nil_append,Nat.mul_one]
      exact bL st _
  · refine ⟨rfl,rfl,hr,?_⟩
    rw [hg]
    show (Res.ok _).wp _
    rw [oV,hn.cellsD]
    have hid:=bM hg
    split
    · rename_i hc
      refine ⟨by omega,hC _ _ (.inr ⟨id,cap,r.drop new.length,by simp,?_,by simpa using hc,?_⟩) ⟨by simp [St.set],fun id' _ hne=>dR (by simpa [ae] using hne)⟩ (by simp [ae])⟩
      · rw [aR hid,Nat.zero_add,Nat.mul_one,iw rfl (by simp at h2; omega)]
        simp
      · simp at h2 ⊢; omega
    · rename_i hc
      have e:List.map AV.own1 (List.take (l.length * 1) (List.drop 0 (l++r))) = l:=by simp [hl.own]
      refine ⟨by simp,fun c hc=>hC _ _ (.inr ⟨st.boxes.length,c,List.replicate (c - (l.length + new.length)) .any,by simp,?_,by simpa using hc,by simp; omega⟩) ⟨by simp [St.push],fun id' hid' _=>bE hid'⟩ (by simp [ae])⟩
      rw [e]
      simp only [Nat.mul_one]
      exact bL st _
def foot (c q0 m0 q1 m1 wid:Nat) (bv:AV):List Nat:=[c,q0,q1,m0,m1,wid]++ae bv
def ChPost (st:St) (c:Nat) (P:ChP) (q0 m0 q1 m1 wid:Nat) (bv:AV) (st':St):Prop :=
  ∃ bv',ChIs st' c P q0 m0 q1 m1 wid bv'∧Kp st st' (foot c q0 m0 q1 m1 wid bv)∧∀ x ∈ ae bv',x ∈ ae bv∨st.boxes.length≤x
theorem ChIs.post {st st':St} {c q0 m0 q1 m1 wid:Nat} {bv:AV} {P:ChP} (h:ChIs st' c P q0 m0 q1 m1 wid bv) (hk:Kp st st' (foot c q0 m0 q1 m1 wid bv)):ChPost st c P q0 m0 q1 m1 wid bv st':=⟨bv,h,hk,fun _ h=>.inl h⟩
theorem ChIs.rebufC {st st1:St} {c q0 m0 q1 m1 wid:Nat} {bv bv1:AV} {P:ChP} {cl:Bool} {b':List Int} (h:ChIs st c P q0 m0 q1 m1 wid bv) (hm:MB bv1 st1 (ints b')) (hk:Kp st st1 (ae bv)) (hb:∀ x ∈ ae bv1,x ∈ ae bv∨st.boxes.length≤x) :
    ChIs (st1.set c [.lit (.bool true),.lit (.bool cl),.lit (.int .i64 (P.cap:Nat)),bv1,.ptr q0 0,.ptr q1 0,.map wid]) c { P with buf:=b',closed:=cl } q0 m0 q1 m1 wid bv1 ∧
    Kp st (st1.set c [.lit (.bool true),.lit (.bool cl),.lit (.int .i64 (P.cap:Nat)),bv1,.ptr q0 0,.ptr q1 0,.map wid]) (foot c q0 m0 q1 m1 wid bv):=by
  have hlt:=h.lts
  have hids:=h.ids
  have hbid:=h.bid
  have hcl:c < st1.boxes.length:=Nat.lt_of_lt_of_le (hlt c (by simp)) hk.1
  simp only [List.nodup_cons,List.mem_cons,List.not_mem_nil,or_false,not_or] at hids
  have hat:∀ x ∈ [q0,q1,m0,m1,wid],(st1.set c [.lit (.bool true),.lit (.bool cl),.lit (.int .i64 (P.cap:Nat)),bv1,.ptr q0 0,.ptr q1 0,.map wid]).boxes[x]? = st.boxes[x]?:=by
    intro x hx
    rw [dR (by simp at hx; omega)]
    refine hk.2 x (hlt x (by simp at hx ⊢; omega)) fun e=>?_
    exact hbid x e (by simp at hx ⊢; omega)
  have hbc:∀ x ∈ ae bv1,x ∉ [c,q0,q1,m0,m1,wid]:=by
    intro x hx hin
    rcases hb x hx with e | e
    · exact hbid x e hin
    · have:=hlt x (List.mem_append_left _ hin); omega
  obtain ⟨W,hW,hl⟩:=h.w
  refine ⟨⟨aR hcl,hm.at fun x hx=>dR fun e=>hbc x hx (by simp [e]),h.s.at (hat _ (by simp)) (hat _ (by simp)),h.r.at (hat _ (by simp)) (hat _ (by simp)),⟨W,hW.at (hat _ (by simp)),hl⟩,h.ids,hbc,h.nd,h.rng,h.zv⟩,⟨by rw [qf]; exact hk.1,fun x hx hn=>?_⟩⟩
  simp only [foot,List.mem_append,List.mem_cons,List.not_mem_nil,or_false,not_or] at hn
  rw [dR hn.1.1]
  exact hk.2 x hx hn.2
end Go.Fx
