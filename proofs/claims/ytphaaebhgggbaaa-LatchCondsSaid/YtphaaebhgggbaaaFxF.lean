/- An evaluator for resolved code, proved against the model: part 6. -/
import Derived.Test.YtphaaebhgggbaaaFxE
/- Regions that draw their order: evaluation. -/
namespace Go.Fx
open Go
section
variable (P:Program) (F:Nat→FuncId) (m:Bool) (locs0:List (Nat×List AV)) (st:St) (C:PK→Sf→Prop) (sf:Sf) (d:Option Nat) (x y i:Opd) (K:List PK→Sf→Prop) (ks:List PK)
theorem dy:bD P F locs0 st [] K ks sf = K ks sf:=rfl
theorem cp (i:AI) (r:List GI):bD P F locs0 st (⟨none,i⟩::r) K ks sf = ce P F locs0 st i (jf (bD P F locs0 st r K) ks) sf:=rfl
theorem dc:ce P F locs0 st (.mv d x) C sf = valH C d sf (sf.ev F x).dis:=rfl
theorem hh_bin (k:BinK) (op:BinOp):ce P F locs0 st (.bin d k op x y) C sf = (binI k op (sf.ev F x) (sf.ev F y)).wp (valH C d sf):=rfl
theorem hh_field (off:Nat) (k:Option Nat):ce P F locs0 st (.field d x off k) C sf = (fieldV (sf.ev F x) off k).wp (valH C d sf):=rfl
theorem bV (off:Nat):ce P F locs0 st (.addr d x off) C sf = (addA (sf.ev F x) off).wp (valH C d sf):=rfl
theorem hh_ixS (k:Nat):ce P F locs0 st (.ixS d x i k) C sf = (ixSV (sf.ev F x) (sf.ev F i) k).wp (valH C d sf):=rfl
theorem bY (k:Option Nat):ce P F locs0 st (.load d x k) C sf = (ar sf st (sf.ev F x) k).wp (valH C d sf):=rfl
theorem c8:ce P F locs0 st (.nilck d x) C sf = (aS (sf.ev F x)).wp (valH C d sf):=rfl
theorem fC (lo hi:Option Opd) (k:Nat):ce P F locs0 st (.sliS d x lo hi k) C sf = (gv (sf.ev F x) (lo.map (sf.ev F)) (hi.map (sf.ev F)) k).wp (valH C d sf):=rfl
theorem hh_bsl (k len:Nat) (z:AV) (parts:List (Nat×Opd)):ce P F locs0 st (.bsl d k len z parts) C sf = (bslV k len z (parts.map fun p=>(p.1,sf.ev F p.2))).wp (valH C d sf):=rfl
theorem oJ (places:List (Nat×Nat)) (z:AV) (parts:List (Nat×Opd)):ce P F locs0 st (.bst d places z parts) C sf = (bstV places z (parts.map fun p=>(p.1,sf.ev F p.2))).wp (valH C d sf):=rfl
theorem fK (k:KeyK) (z:AV) (ok:Bool) (mp key:Opd):ce P F locs0 st (.lookup d k z ok mp key) C sf = (de k z ok st (sf.ev F mp) (sf.ev F key)).wp (valH C d sf):=rfl
theorem h9 (k bytes:Nat):ce P F locs0 st (.app d k bytes x y) C sf = (cq st k bytes (sf.ev F x) (sf.ev F y)).wp (valH C d sf):=rfl
theorem ia (p:Bool) (f:Opd) (args:List Opd):ce P F locs0 st (.call d p f args) C sf = iA P st d (sf.ev F f) (args.map (sf.ev F)) C sf:=rfl
theorem lL (s:Nat) (cs:List AV):ce P F locs0 st (.newL s cs) C sf = C (.new s cs) (sf.set s .any):=rfl
theorem hh_store (k:Nat):ce P F locs0 st (.store k x y) C sf = e7 locs0 x (sf.ev F x) (sf.ev F y) k C sf:=rfl
theorem lu (a:Opd) (s:Nat) (v:AV) (k:Nat):e7 locs0 a (.lptr s 0) v k C sf = eQ v k s C sf (look s locs0):=rfl
theorem j7 (s:Nat) (v:AV) (k:Nat) (cs:List AV):eQ v k s C sf (some cs) = (cs.length = k∧v.dis.solid = true∧v.dis.cells.length = k∧C (.store s v.dis.cells) sf):=rfl
end
def PK.keep:PK→Bool
  | .val _=>false
  | .skip=>false
  | _=>true
theorem cS:∀ ks:List PK,a9 (ks.filter PK.keep) = a9 ks
  | []=>rfl
  | .val _::r=>cS r
  | .skip::r=>cS r
  | .mk _ _::r=>cS r
  | .hole::r=>cS r
  | .chole _ _::r=>cS r
  | .nst _ _::r=>cS r
  | .new _ _::r=>cS r
  | .app _ _::r=>cS r
  | .store s _::r=>congrArg (s::·) (cS r)
theorem dC:∀ ks:List PK,bG (ks.filter PK.keep) = bG ks
  | []=>rfl
  | .val _::r=>dC r
  | .skip::r=>dC r
  | .mk _ _::r=>dC r
  | .hole::r=>dC r
  | .chole _ _::r=>dC r
  | .nst _ _::r=>dC r
  | .store _ _::r=>dC r
  | .app _ _::r=>dC r
  | .new s _::r=>congrArg (s::·) (dC r)
theorem dD:∀ ks:List PK,bO (ks.filter PK.keep) = bO ks
  | []=>rfl
  | .val _::r=>dD r
  | .skip::r=>dD r
  | .mk _ _::r=>dD r
  | .hole::r=>dD r
  | .chole _ _::r=>dD r
  | .nst _ _::r=>dD r
  | .store _ _::r=>dD r
  | .new _ _::r=>dD r
  | .app s _::r=>congrArg (s::·) (dD r)
theorem dE:∀ (ks:List PK) (sf:Sf),cG (ks.filter PK.keep) sf = cG ks sf
  | [],_=>rfl
  | .val _::r,sf=>dE r sf
  | .skip::r,sf=>dE r sf
  | .mk _ _::r,sf=>dE r sf
  | .hole::r,sf=>dE r sf
  | .chole _ _::r,sf=>dE r sf
  | .nst _ _::r,sf=>dE r sf
  | .new _ _::r,sf=>dE r sf
  | .app _ _::r,sf=>dE r sf
  | .store _ _::r,_=>dE r _
theorem da (t:Nat):∀ ks:List PK,cU t (ks.filter PK.keep) = cU t ks
  | []=>rfl
  | .val _::r=>da t r
  | .skip::r=>da t r
  | .mk _ _::r=>da t r
  | .hole::r=>da t r
  | .chole _ _::r=>da t r
  | .store _ _::r=>da t r
  | .app _ _::r=>da t r
  | .new _ _::r=>da t r
  | .nst s cs :: r => by
    show (if s = t then some cs else cU t (r.filter PK.keep)) = if s = t then some cs else cU t r
    rw [da t r]
theorem dF:∀ ks:List PK,bP (ks.filter PK.keep) = bP ks
  | []=>rfl
  | .val _::r=>dF r
  | .skip::r=>dF r
  | .mk _ _::r=>dF r
  | .hole::r=>dF r
  | .chole _ _::r=>dF r
  | .store _ _::r=>dF r
  | .new _ _::r=>dF r
  | .app _ _::r=>dF r
  | .nst s _::r=>congrArg (s::·) (dF r)
theorem dG:∀ (ks:List PK) (seen:List (Nat×Nat)),nstB seen (ks.filter PK.keep) = nstB seen ks
  | [],_=>rfl
  | .val _::r,s=>dG r s
  | .skip::r,s=>dG r s
  | .mk _ _::r,s=>dG r s
  | .hole::r,s=>dG r s
  | .chole _ _::r,s=>dG r s
  | .store _ _::r,s=>dG r s
  | .app _ _::r,s=>dG r s
  | .new _ _::r,s=>dG r _
  | .nst _ _::r,s=>congrArg (_ && ·) (dG r s)
theorem dH (all:List PK):∀ (ks:List PK) (sf:Sf),co (all.filter PK.keep) (ks.filter PK.keep) sf = co all ks sf
  | [],_=>rfl
  | .val _::r,sf=>dH all r sf
  | .skip::r,sf=>dH all r sf
  | .mk _ _::r,sf=>dH all r sf
  | .hole::r,sf=>dH all r sf
  | .chole _ _::r,sf=>dH all r sf
  | .store _ _::r,sf=>dH all r sf
  | .app _ _::r,sf=>dH all r sf
  | .nst _ _::r,sf=>dH all r sf
  | .new s cs :: r, sf => by
    show co (all.filter PK.keep) (r.filter PK.keep) (sf.newLoc s ((cU s (all.filter PK.keep)).getD cs)) = co all r (sf.newLoc s ((cU s all).getD cs))
    rw [da,dH all r]
section
variable {P:Program} {F:Nat→FuncId} {m:Bool} {locs0:List (Nat×List AV)} {st st2:St} {drop lv ll:List Nat} {tl:List GI} {Q:Exit→Sf→St→Prop}
theorem tail_keep (ks:List PK) (sf:Sf):cR P F m drop lv ll tl Q st (ks.filter PK.keep) sf = cR P F m drop lv ll tl Q st ks sf:=by
  unfold cR ksB
  rw [cS,dC,dD,dF,dG,dE,dH]
theorem iU:∀ (r:List GI) (ks:List PK) (sf:Sf),bD P F locs0 st r (cR P F m drop lv ll tl Q st) (ks.filter PK.keep) sf = bD P F locs0 st r (cR P F m drop lv ll tl Q st) ks sf
  | [],ks,sf=>tail_keep ks sf
  | ⟨g, i⟩ :: r, ks, sf => by
    have h1:jf (bD P F locs0 st r (cR P F m drop lv ll tl Q st)) (ks.filter PK.keep) = jf (bD P F locs0 st r (cR P F m drop lv ll tl Q st)) ks:=by
      funext k sf
      simp only [jf]
      rw [← iU r (ks++[k]) sf,← iU r (ks.filter PK.keep++[k]) sf]
      simp
    have h2:∀ d,nC (bD P F locs0 st r (cR P F m drop lv ll tl Q st)) (ks.filter PK.keep) d = nC (bD P F locs0 st r (cR P F m drop lv ll tl Q st)) ks d:=by
      intro d
      funext sf
      exact congrFun (congrFun h1 .skip) (sf.put d (.tup []))
    cases g with
    | none=>simp only [bD,h1]
    | some g=>obtain ⟨t,w⟩:=g; simp only [bD,h1,h2]
variable (ks:List PK) (sf:Sf) (r:List GI) (v:AV) (d:Option Nat)
theorem fa:jf (bD P F locs0 st r (cR P F m drop lv ll tl Q st)) ks (.val v) sf = bD P F locs0 st r (cR P F m drop lv ll tl Q st) ks sf:=by
  show bD P F locs0 st r _ (ks++[.val v]) sf = _
  exact (iU r (ks++[PK.val v]) sf).symm.trans ((congrArg (fun q=>bD P F locs0 st r (cR P F m drop lv ll tl Q st) q sf) (by simp [PK.keep])).trans (iU r ks sf))
theorem bC:valH (jf (bD P F locs0 st r (cR P F m drop lv ll tl Q st)) ks) d sf v = bD P F locs0 st r (cR P F m drop lv ll tl Q st) ks (sf.put d v):=fa ks (sf.put d v) r v
theorem cf:cR P F m drop lv ll tl Q st [] sf = runI P F m tl (opsK lv ll Q) sf st:=propext ⟨fun h=>h.2,fun h=>⟨rfl,h⟩⟩
theorem iV (k:PK):cR P F m drop lv ll tl Q st (k::ks) sf = (ksB drop (k::ks) = true∧runI P F m tl (opsK lv ll Q) (co (k::ks) (k::ks) (cG (k::ks) sf)) st):=rfl
end
section
variable (H:List PK→Sf→Prop) (ks:List PK) (sf:Sf) (s:Nat) (cs:List AV) (v:AV)
theorem j8:jf H ks (.new s cs) sf = H (ks++[.new s cs]) sf:=rfl
theorem mM:jf H ks (.store s cs) sf = H (ks++[.store s cs]) sf:=rfl
end
theorem jx {P:Program} {d:Option Nat} {q:FuncId} {fs cs args vs:List AV} {sf:Sf} {st:St} {C:PK→Sf→Prop} {v:AV} (hvs:fs++args.map AV.dis++cs = vs) (hent:aQ P q = true) (h:bg P q vs st v) (hn:args.all AV.noL = true) (hK:C (.val v) (sf.put d v)):iA P st d (.fn (.func q) fs cs) args C sf:=by
  subst hvs
  exact ⟨hn,hent,v,h,hK⟩
section
variable (P:Program) (F:Nat→FuncId) (L0:List (Nat×List AV)) (ρ:St) (C:PK→Sf→Prop) (sf:Sf) (d:Option Nat) (x y i:Opd) (K:List PK→Sf→Prop) (ks:List PK)
theorem dJ:preM P F L0 ρ [] K ks sf = K ks sf:=rfl
theorem cX (i:AI) (r:List GI):preM P F L0 ρ (⟨none,i⟩::r) K ks sf = oneM P F L0 ρ i (jg (preM P F L0 ρ r K) ks) sf:=rfl
theorem dP (v:AV) (r:List GI):valM (jg (preM P F L0 ρ r K) ks) d sf v = preM P F L0 ρ r K (ks++[.val v]) (sf.put d v):=rfl
theorem d5:oneM P F L0 ρ (.mv d x) C sf = valM C d sf (sf.ev F x).dis:=rfl
theorem mm_ext (j:Nat):oneM P F L0 ρ (.ext d x j) C sf = (extV (sf.ev F x) j).wp (valM C d sf):=rfl
theorem lM (off:Nat):oneM P F L0 ρ (.addr d x off) C sf = (addA (sf.ev F x) off).wp (valM C d sf):=rfl
theorem fi (k:Nat):oneM P F L0 ρ (.ixS d x i k) C sf = (ixSV (sf.ev F x) (sf.ev F i) k).wp (valM C d sf):=rfl
theorem bL (k:Option Nat):oneM P F L0 ρ (.load d x k) C sf = (ar sf ρ (sf.ev F x) k).wp (valM C d sf):=rfl
theorem j9:oneM P F L0 ρ (.nilck d x) C sf = (aS (sf.ev F x)).wp (valM C d sf):=rfl
theorem mm_bsl (k len:Nat) (z:AV) (parts:List (Nat×Opd)):oneM P F L0 ρ (.bsl d k len z parts) C sf = (bslV k len z (parts.map fun p=>(p.1,sf.ev F p.2))).wp (valM C d sf):=rfl
theorem mm_bst (places:List (Nat×Nat)) (z:AV) (parts:List (Nat×Opd)):oneM P F L0 ρ (.bst d places z parts) C sf = (bstV places z (parts.map fun p=>(p.1,sf.ev F p.2))).wp (valM C d sf):=rfl
variable (KH:List PK→Prop) (st:St) (post:List (Bool×GI)) (T:St→Sf→Prop) (T1:Sf→Prop)
theorem ge:ed P F L0 ρ [] KH ks sf = KH ks:=rfl
theorem eX (i:AI) (r:List (Bool×GI)):ed P F L0 ρ ((false,⟨none,i⟩)::r) KH ks sf = oneM P F L0 ρ i (jg (ed P F L0 ρ r KH) ks) sf:=rfl
theorem gB (v:AV) (r:List (Bool×GI)):valM (jg (ed P F L0 ρ r KH) ks) d sf v = ed P F L0 ρ r KH (ks++[.val v]) (sf.put d v):=rfl
variable (drop:List Nat) (ks1:List PK)
theorem gf (f:Opd) (args:List Opd):atM P F L0 ρ st d f args post drop T ks1 sf = mw P F L0 ρ st d (sf.ev F f) (args.map (sf.ev F)) post drop T ks1 sf:=rfl
theorem dQ (ksh:List PK):postM post drop ks1 ksh T1 ks sf = (il post ksh ks∧finK drop T1 (ks1++ks) sf):=rfl
theorem eH:finK drop T1 ks sf = (ksB drop ks = true∧T1 (co ks ks (cG ks sf))):=rfl
theorem dR (A:List PK→Prop):holeK drop ks1 A ks = (ksB drop (ks1++ks) = true∧A ks):=rfl
theorem dn:il [] [] [] = True:=rfl
theorem eY (g:GI) (r:List (Bool×GI)) (a b:PK) (h k:List PK):il ((false,g)::r) (a::h) (b::k) = (b = a∧il r h k):=rfl
theorem dz (m:Bool) (lv ll:List Nat) (tl:List GI) (Q:Exit→Sf→St→Prop):im P F m lv ll tl Q st sf = runI P F m tl (opsK lv ll Q) sf st:=rfl
end
section
variable {P:Program} {F:Nat→FuncId} {L0:List (Nat×List AV)} {ρ st:St}
theorem gC {pre:List GI} {d:Option Nat} {f:Opd} {args:List Opd} {post:List (Bool×GI)} {sf:Sf} {T:St→Sf→Prop} (ρ:St) (hs:St.sub ρ st) (h:preM P F sf.locs ρ pre (atM P F sf.locs ρ st d f args post (eL pre post) T) [] ⟨sf.regs,br (eL pre post) sf.locs⟩):drawM P F pre d f args post sf st T:=⟨ρ,hs,h⟩
theorem draw_s {pre:List GI} {d:Option Nat} {f:Opd} {args:List Opd} {post:List (Bool×GI)} {sf:Sf} {T:St→Sf→Prop} (h:preM P F sf.locs st pre (atM P F sf.locs st st d f args post (eL pre post) T) [] ⟨sf.regs,br (eL pre post) sf.locs⟩):drawM P F pre d f args post sf st T:=⟨st,St.sub_refl st,h⟩
theorem gg {q:FuncId} {fs cs args vs:List AV} {d:Option Nat} {post:List (Bool×GI)} {drop:List Nat} {T:St→Sf→Prop} {ks1:List PK} {sf:Sf} {Qc:AV→St→Prop} (hvs:fs++args.map AV.dis++cs = vs) (hent:aQ P q = true) (hA:aZ P q vs st Qc) (hn:args.all AV.noL = true)
    (hK:ed P F L0 ρ post (holeK drop ks1 (afterM P F L0 ρ post Qc d sf drop T ks1)) [] (sf.put d .any)):mw P F L0 ρ st d (.fn (.func q) fs cs) args post drop T ks1 sf:=by
  subst hvs
  exact ⟨hn,hent,Qc,hA,hK⟩
end
section
variable (P:Program) (F:Nat→FuncId) (L0:List (Nat×List AV)) (st s:St) (d:Option Nat) (f:Opd) (args:List Opd) (pre post:List GI) (T:St→Sf→Prop) (ks:List PK) (sf:Sf) (v:AV)
theorem drawC_eq:drawC P F pre d f args post sf st T = preM P F sf.locs st pre (atC P F sf.locs st d f args post T) [] sf:=rfl
theorem atC_eq:atC P F L0 st d f args post T ks sf = mA P F L0 st d (sf.ev F f) (args.map (sf.ev F)) post T ks sf:=rfl
theorem endC_eq:endC T s ks sf = (ks.all PK.vs = true∧T s sf):=rfl
theorem vs_val:PK.vs (.val v) = true:=rfl
end
theorem call_c {P:Program} {F:Nat→FuncId} {L0:List (Nat×List AV)} {st:St} {q:FuncId} {fs cs args vs:List AV} {d:Option Nat} {post:List GI} {T:St→Sf→Prop} {ks1:List PK} {sf:Sf} {Qc:AV→St→Prop} (hvs:fs++args.map AV.dis++cs = vs) (hent:aQ P q = true) (hA:aZ P q vs st Qc) (hn:args.all AV.noL = true)
    (hk:ks1.all PK.vs = true) (hK:∀ v s,Qc v s→preM P F L0 s post (endC T s) [] (sf.put d v)):mA P F L0 st d (.fn (.func q) fs cs) args post T ks1 sf:=by
  subst hvs
  exact ⟨hn,hent,hk,Qc,hA,hK⟩
section
variable (P:Program) (F:Nat→FuncId) (L0:List (Nat×List AV)) (ρ:St) (C:PK→Sf→Prop) (sf:Sf) (d:Option Nat) (H:List PK→Sf→Prop) (KX:Nat→List PK→Sf→Prop) (ks:List PK) (SS:Nat→St→Prop) (j:Nat)
theorem g_nil:preX P F L0 ρ SS j [] KX ks sf = KX j ks sf:=by simp only [preX]
theorem g_none_f (i:AI) (r:List (Bool×GI)):preX P F L0 ρ SS j ((false,⟨none,i⟩)::r) KX ks sf = oneM P F L0 ρ i (jh (preX P F L0 ρ SS j r KX) ks) sf:=by simp only [preX]
theorem g_none_t (i:AI) (r:List (Bool×GI)):preX P F L0 ρ SS j ((true,⟨none,i⟩)::r) KX ks sf = lc P F ρ SS j i (jh (preX P F L0 ρ SS (j + 1) r KX) ks) sf:=by simp only [preX]
theorem g_val (v:AV):valM (jh H ks) d sf v = H ks (sf.put d v):=rfl
theorem g_mkv (v:AV):valG ρ (jh H ks) d sf v = H ks (sf.put d v):=rfl
theorem g_call (p:Bool) (f:Opd) (args:List Opd):lc P F ρ SS j (.call d p f args) C sf = mz P ρ SS j d (sf.ev F f) (args.map (sf.ev F)) C sf:=rfl
theorem tailG_nil (m:Bool) (drop lv ll:List Nat) (tl:List GI) (Q:Exit→Sf→St→Prop):tailX P F m drop lv ll tl Q SS j [] sf = ∀ s,SS j s→runI P F m tl (opsK lv ll Q) sf s:=propext ⟨fun h=>h.2,fun h=>⟨rfl,h⟩⟩
end
theorem draw_x {P:Program} {F:Nat→FuncId} {L0:List (Nat×List AV)} {st:St} {fl:List (Bool×GI)} {K:(Nat→St→Prop)→Nat→List PK→Sf→Prop} {sf:Sf} (SS:Nat→St→Prop) (h0:SS 0 st) (hs:∀ j s,SS j s→St.sub st s) (h:preX P F L0 st SS 0 fl (K SS) [] sf):drawX P F L0 st fl K sf:=⟨SS,h0,hs,h⟩
theorem call_x {P:Program} {ρ:St} {SS:Nat→St→Prop} {j:Nat} {q:FuncId} {fs cs args vs:List AV} {d:Option Nat} {sf:Sf} {C:PK→Sf→Prop} {v:AV} (hvs:fs++args.map AV.dis++cs = vs) (hent:aQ P q = true) (h:∀ s,SS j s→aZ P q vs s (fun v' s'=>v' = v∧SS (j + 1) s')) (hn:args.all AV.noL = true) (hK:valG ρ C d sf v):mz P ρ SS j d (.fn (.func q) fs cs) args C sf:=by
  subst hvs
  exact ⟨hn,hent,v,h,hK⟩
end Go.Fx
/- Numbers of bytes: shifts and the like. -/
namespace Go.Fx
open Go
theorem ef {P:Program} {F:Nat→FuncId} {m:Bool} {b:AC} {lv ll:List Nat} {Q:Exit→Sf→St→Prop} {A:Type} (μ:A→Nat) (S:A→Sf) (T:A→St) (I:A→Prop) (a0:A) {sf:Sf} {st:St} (h0:I a0) (hs:Sf.le (sf.mask lv ll) (S a0)) (ht:st = T a0)
    (step:∀ a,I a→∀ K:Exit→Sf→St→Prop,(∀ a' sf',I a'→μ a' < μ a→Sf.le (sf'.mask lv ll) (S a')→K .normal sf' (T a'))→(∀ id sf st,Q (.exit id) sf st→K (.exit id) sf st)→(∀ sf st,Q .ret sf st→K .ret sf st)→aC P F m b (S a) (T a) K):cO (aC P F m b) lv ll sf st Q :=
  loop_for μ S T I a0 h0 hs ht fun a ha=>step a ha _ (fun a' _ h1 h2 h3=>⟨a',⟨h1,h2⟩,h3,rfl⟩) (fun _ _ _ h=>h) (fun _ _ h=>h)
theorem aX {P:Program} {X:Cx} {f:FuncId} {fn:AFun} {vs:List AV} {st:St} (hmix:P.follows .mixedOrders = true) (hf:bj P X f = some fn) (hX:X.F = id) (hlen:Nat.ble vs.length fn.n = true) {K:AV→St→Prop} (h:∀ Q:AV→St→Prop,(∀ v st',K v st'→Q v st')→aFun P id false fn vs st Q):aZ P f vs st K :=
  acalls_id hmix hf hX hlen (h K fun _ _ h=>h)
theorem gh {P:Program} {X:Cx} {f:FuncId} {fn:AFun} {vs:List AV} {x:AV} (hmix:P.follows .mixedOrders = true) (hf:bj P X f = some fn) (hX:X.F = id) (hlen:Nat.ble vs.length fn.n = true) (hx:x.NB) (hvs:∀ v ∈ vs,v.NB)
    (h:∀ Q:AV→St→Prop,(∀ v st',v.le x→Q v st')→aFun P id false fn vs ⟨[]⟩ Q) (st:St):bg P f vs st x :=
  pure_eq (aX hmix hf hX hlen fun Q hQ=>h Q fun v st' hv=>hQ v st' hv) hx hvs st
end Go.Fx
/- Slices of plain cells that are written to and appended to. -/
namespace Go.Fx
open Go
def MB (v:AV) (st:St) (l:List AV):Prop:=(v = .lit (.slice none 0 0)∧l = [])∨∃ id cap r,v = .bs id 1 0 l.length cap∧st.get id = some (l++r)∧l.length≤cap∧cap≤(l++r).length
def Kept (st st':St) (v:AV):Prop:=st.boxes.length≤st'.boxes.length∧∀ id cs,st.get id = some cs→(∀ k o l c,v≠.bs id k o l c)→st'.get id = some cs
theorem Kept.refl (st:St) (v:AV):Kept st st v:=⟨Nat.le_refl _,fun _ _ h _=>h⟩
def NBs (st:St):Prop:=∀ id cs,st.get id = some cs→∀ c ∈ cs,c.NB
theorem NBs.nil:NBs ⟨[]⟩:=fun id cs h=>by simp [St.get] at h
theorem NBs.push {st:St} {cs:List AV} (h:NBs st) (hc:∀ c ∈ cs,c.NB):NBs (st.push (.cells cs)):=by
  intro id ds hg
  by_cases e:id < st.boxes.length
  · rw [hH e] at hg
    exact h id ds hg
  · by_cases e2:id = st.boxes.length
    · subst e2
      rw [dx] at hg
      cases hg
      exact hc
    · have:=c9 hg
      rw [bU] at this
      omega
theorem NBs.set {st:St} {id:Nat} {cs:List AV} (h:NBs st) (hid:id < st.boxes.length) (hc:∀ c ∈ cs,c.NB):NBs (st.set id cs):=by
  intro id' ds hg
  by_cases e:id = id'
  · subst e
    rw [cD hid] at hg
    cases hg
    exact hc
  · rw [mL e] at hg
    exact h id' ds hg
theorem MB.app {v:AV} {st:St} {l new:List AV} {bytes:Nat} {C:AV→St→Prop} (h:MB v st l) (hl:Lits l) (hn:Lits new) (hr:jb (l.length + new.length) bytes = true)
    (hC:∀ v' st',MB v' st' (l++new)→Kept st st' v→(NBs st→NBs st')→C v' st'):appX false 1 bytes v C st new:=by
  rcases h with ⟨rfl,rfl⟩ | ⟨id,cap,r,rfl,hg,h1,h2⟩
  · refine ⟨rfl,by simpa using hr,?_⟩
    split
    · rename_i h
      have:new = []:=by simpa using h
      subst this
      exact hC _ _ (.inl ⟨rfl,rfl⟩) (Kept.refl _ _) id
    · intro c hc
      refine hC _ _ (.inr ⟨st.boxes.length,c,List.replicate (c - new.length) .any,by simp,?_,by simpa using hc,by simp; omega⟩) ⟨by simp [St.push],fun id cs hg _=>by rw [hH (c9 hg)]; exact hg⟩ (fun h=>h.push fun x hx=>?_)
      · rw [hn.cellsD]
        simp only [List.nil_append,Nat.mul_one]
        exact dx st _
      · rw [hn.cellsD] at hx
        simp only [List.nil_append,Nat.mul_one,List.mem_append] at hx
        rcases hx with hx | hx
        · exact hn.nb x hx
        · rw [List.eq_of_mem_replicate hx]; exact .any
  · refine ⟨rfl,rfl,hr,?_⟩
    rw [hg]
    show (Res.ok _).wp _
    rw [wp_ok,hn.cellsD]
    have hid:=c9 hg
    split
    · rename_i hc
      refine ⟨by omega,hC _ _ (.inr ⟨id,cap,r.drop new.length,by simp,?_,by simpa using hc,?_⟩) ⟨by simp [St.set],fun id' cs hg' hne=>?_⟩ (fun h=>h.set hid ?_)⟩
      · rw [cD hid,Nat.zero_add,Nat.mul_one,setAt_at rfl (by simp at h2; omega)]
        simp
      · simp at h2 ⊢; omega
      · rw [mL (fun e=>hne _ _ _ _ (by rw [e])),hg']
      · rw [Nat.zero_add,Nat.mul_one,setAt_at rfl (by simp at h2; omega)]
        have h3:=h id _ hg
        intro x hx
        simp only [List.mem_append] at hx
        rcases hx with hx | hx | hx
        · exact hl.nb x hx
        · exact hn.nb x hx
        · exact h3 x (List.mem_append_right _ (List.mem_of_mem_drop hx))
    · rename_i hc
      have e:List.map AV.own1 (List.take (l.length * 1) (List.drop 0 (l++r))) = l:=by simp [hl.own]
      refine ⟨by simp,fun c hc=>hC _ _ (.inr ⟨st.boxes.length,c,List.replicate (c - (l.length + new.length)) .any,by simp,?_,by simpa using hc,by simp; omega⟩) ⟨by simp [St.push],fun id' cs hg' _=>by rw [hH (c9 hg')]; exact hg'⟩ (fun h=>h.push fun x hx=>?_)⟩
      · rw [e]
        simp only [Nat.mul_one]
        exact dx st _
      · rw [e] at hx
        simp only [List.mem_append] at hx
        rcases hx with (hx | hx) | hx
        · exact hl.nb x hx
        · exact hn.nb x hx
        · rw [List.eq_of_mem_replicate hx]; exact .any
end Go.Fx
/- Functions that keep nothing may be handed what lies in boxes. -/
namespace Go.Fx
open Go
def litB1:AV→Bool
  | .lit _=>true
  | _=>false
end Go.Fx
/- Maps with plain keys, as lists; boxes that others are left alone by. -/
namespace Go.Fx
open Go
section
variable {β:Type}
def gw (t:Int):List (Int×β)→Nat→Option (Nat×β)
  | [],_=>none
  | (k,b)::r,i=>if t = k then some (i,b) else gw t r (i + 1)
def bt (t:Int):List (Int×β)→Option β
  | []=>none
  | (k,b)::r=>if t = k then some b else bt t r
def updP (t:Int) (b:β):List (Int×β)→List (Int×β)
  | []=>[(t,b)]
  | (k,c)::r=>if t = k then (t,b)::r else (k,c)::updP t b r
def delP (t:Int):List (Int×β)→List (Int×β)
  | []=>[]
  | (k,c)::r=>if t = k then r else (k,c)::delP t r
def ck (m:List (Int×β)):List Int:=m.map Prod.fst
theorem gj (t:Int):∀ (m:List (Int×β)) (i:Nat),(gw t m i).map Prod.snd = bt t m
  | [],_=>rfl
  | (k, b) :: r, i => by
    simp only [gw,bt]; split; · rfl
    · exact gj t r (i + 1)
theorem kM {γ:Type} (e:Int×β→γ) (t:Int) (b:β):∀ (m:List (Int×β)) (i:Nat),match gw t m i with
    | some (j,_)=>i≤j∧(m.map e).set (j - i) (e (t,b)) = (updP t b m).map e∧(m.map e).eraseIdx (j - i) = (delP t m).map e∧j - i < m.length
    | none=>m.map e++[e (t,b)] = (updP t b m).map e∧delP t m = m
  | [],_=>by simp [gw,updP,delP]
  | (k, c) :: r, i => by
    simp only [gw]
    by_cases h:t = k
    · subst h
      simp [updP,delP]
    · rw [if_neg h]
      have ih:=kM e t b r (i + 1)
      cases hf:gw t r (i + 1) with
      | none=>rw [hf] at ih; simp only at ih; simp [updP,delP,h,ih.1,ih.2]
      | some p =>
        obtain ⟨j,c'⟩:=p
        rw [hf] at ih
        simp only at ih ⊢
        obtain ⟨h1,h2,h3,h4⟩:=ih
        obtain ⟨q,rfl⟩:∃ q,j = i + 1 + q:=⟨j - (i + 1),by omega⟩
        rw [show i + 1 + q - (i + 1) = q by omega] at h2 h3 h4
        rw [show i + 1 + q - i = q + 1 by omega]
        refine ⟨by omega,?_,?_,by simp; omega⟩
        · simp [updP,h,h2]
        · simp [delP,h,h3]
theorem dA (t t':Int) (b:β):∀ m:List (Int×β),bt t' (updP t b m) = if t' = t then some b else bt t' m
  | []=>by simp only [updP,bt]
  | (k, c) :: r => by
    simp only [updP]
    by_cases h:t = k
    · subst h
      rw [if_pos rfl]
      simp only [bt]
      split <;> rfl
    · rw [if_neg h]
      simp only [bt]
      rw [dA t t' b r]
      by_cases h1:t' = k
      · subst h1
        have:¬ t' = t:=fun e=>h e.symm
        simp [this]
      · simp [h1]
theorem iW {t:Int}:∀ {m:List (Int×β)},t ∉ ck m→bt t m = none
  | [],_=>rfl
  | (k, c) :: r, h => by
    simp only [ck,List.map_cons,List.mem_cons,not_or] at h
    simp only [bt]
    rw [if_neg h.1]
    exact iW h.2
theorem ka (t t':Int):∀ {m:List (Int×β)},(ck m).Nodup→bt t' (delP t m) = if t' = t then none else bt t' m
  | [],_=>by simp [delP,bt]
  | (k, c) :: r, hn => by
    simp only [ck,List.map_cons,List.nodup_cons] at hn
    simp only [delP]
    by_cases h:t = k
    · subst h
      rw [if_pos rfl]
      simp only [bt]
      by_cases h1:t' = t
      · subst h1; rw [if_pos rfl]; exact iW hn.1
      · rw [if_neg h1,if_neg h1]
    · rw [if_neg h]
      simp only [bt]
      by_cases h1:t' = k
      · subst h1
        have:¬ t' = t:=fun e=>h e.symm
        simp [this]
      · rw [if_neg h1,if_neg h1]; exact ka t t' hn.2
theorem fD (t:Int) (b:β):∀ m:List (Int×β),(updP t b m).length = if (bt t m).isSome then m.length else m.length + 1
  | []=>by simp [updP,bt]
  | (k, c) :: r => by
    simp only [updP,bt]
    by_cases h:t = k
    · simp [h]
    · simp only [if_neg h,List.length_cons,fD t b r]
      split <;> rfl
theorem oK (t:Int):∀ m:List (Int×β),(delP t m).length = if (bt t m).isSome then m.length - 1 else m.length
  | []=>by simp [delP,bt]
  | (k, c) :: r => by
    simp only [delP,bt]
    by_cases h:t = k
    · simp [h]
    · simp only [if_neg h,List.length_cons,oK t r]
      split
      · rename_i q
        have:r≠[]:=by rintro rfl; simp [bt] at q
        have:=List.length_pos_iff.2 this
        omega
      · rfl
theorem keys_upd (t:Int) (b:β):∀ m:List (Int×β),ck (updP t b m) = if (bt t m).isSome then ck m else ck m++[t]
  | []=>by simp [updP,bt,ck]
  | (k, c) :: r => by
    simp only [updP,bt]
    by_cases h:t = k
    · simp [h,ck]
    · have:=keys_upd t b r
      simp only [ck] at this
      simp only [if_neg h,ck,List.map_cons,this]
      split <;> rfl
theorem kb (t x:Int):∀ {m:List (Int×β)},x ∈ ck (delP t m)→x ∈ ck m
  | [],h=>h
  | (k, c) :: r, h => by
    simp only [delP] at h
    simp only [ck,List.map_cons,List.mem_cons]
    split at h
    · exact .inr h
    · simp only [ck,List.map_cons,List.mem_cons] at h
      rcases h with h | h
      · exact .inl h
      · exact .inr (kb t x h)
theorem nW {t:Int} {b:β} {m:List (Int×β)} (h:(ck m).Nodup):(ck (updP t b m)).Nodup:=by
  rw [keys_upd]
  split
  · exact h
  · rename_i hs
    refine List.nodup_append.2 ⟨h,by simp,?_⟩
    intro x hx y hy
    simp only [List.mem_singleton] at hy
    subst hy
    rintro rfl
    have:∀ m:List (Int×β),x ∈ ck m→(bt x m).isSome = true:=by
      intro m
      induction m with
      | nil=>intro h; simp [ck] at h
      | cons p r ih =>
        obtain ⟨k,c⟩:=p
        intro h
        simp only [ck,List.map_cons,List.mem_cons] at h
        simp only [bt]
        split
        · rfl
        · rename_i hne
          rcases h with h | h
          · exact absurd h hne
          · exact ih h
    exact hs (this m hx)
theorem nX {t:Int}:∀ {m:List (Int×β)},(ck m).Nodup→(ck (delP t m)).Nodup
  | [],h=>h
  | (k, c) :: r, h => by
    simp only [ck,List.map_cons,List.nodup_cons] at h
    simp only [delP]
    split
    · exact h.2
    · simp only [ck,List.map_cons,List.nodup_cons]
      exact ⟨fun e=>h.1 (kb t k e),nX h.2⟩
def encE (k:IntKind) (ev:β→AV) (p:Int×β):AV×AV:=(.lit (.int k p.1),ev p.2)
def encM (k:IntKind) (ev:β→AV) (m:List (Int×β)):List (AV×AV):=m.map (encE k ev)
theorem iX (k:IntKind) (ev:β→AV) (t:Int):∀ (m:List (Int×β)) (i:Nat),dM (.lit (.int k t)) (encM k ev m) i = .ok ((gw t m i).map fun p=>(p.1,ev p.2))
  | [],_=>rfl
  | (q, b) :: r, i => by
    have ih:=iX k ev t r (i + 1)
    simp only [encM,List.map_cons,encE,dM,fO,if_true,gw] at ih ⊢
    by_cases h:t = q
    · subst h; simp
    · have:(t == q) = false:=by simpa using h
      simp only [this,if_neg h,Bool.false_eq_true,if_false]
      exact ih
end
section
variable {st st':St} {id q:Nat}
theorem getM_lt {es:List (AV×AV)} (h:st.getM id = some es):id < st.boxes.length:=by
  unfold St.getM at h
  split at h
  · rename_i hb
    exact (List.getElem?_eq_some_iff.1 hb).1
  · cases h
theorem ib (h:st'.boxes[id]? = st.boxes[id]?):st'.get id = st.get id:=by unfold St.get; rw [h]
theorem getM_at (h:st'.boxes[id]? = st.boxes[id]?):st'.getM id = st.getM id:=by unfold St.getM; rw [h]
theorem getB_at (h:st'.boxes[id]? = st.boxes[id]?):st'.getB id = st.getB id:=by unfold St.getB; rw [h]
theorem mN {cs:List AV} (h:id≠q):(st.set q cs).boxes[id]? = st.boxes[id]?:=by simp [St.set,List.getElem?_set_ne (fun e=>h e.symm)]
theorem oL {es:List (AV×AV)} {bs:List Nat} {c:Nat} (h:id≠q):(st.setM q es bs c).boxes[id]? = st.boxes[id]?:=by simp [St.setM,List.getElem?_set_ne (fun e=>h e.symm)]
theorem dh {b:Box} (h:id < st.boxes.length):(st.push b).boxes[id]? = st.boxes[id]?:=by simp [St.push,List.getElem?_append_left h]
theorem kN {es:List (AV×AV)} {bs:List Nat} {c:Nat} (h:id < st.boxes.length):(st.setM id es bs c).getM id = some es:=by simp [St.setM,St.getM,h]
theorem dZ {es:List (AV×AV)} {bs:List Nat} {c:Nat} (h:id < st.boxes.length):(st.setM id es bs c).getB id = (bs,c):=by simp [St.setM,St.getB,h]
theorem get_mt {es:List (AV×AV)} (h:st.getM id = some es):st.get id = none:=by
  unfold St.getM at h; unfold St.get
  split at h
  · rename_i hb; simp [hb]
  · cases h
end
theorem St.sub_push (st:St) (b:Box):St.sub st (st.push b):=fun id x h=>by
  rw [dh (List.getElem?_eq_some_iff.1 h).1]; exact h
theorem St.sub_of {st st':St} (h:∀ id,id < st.boxes.length→st'.boxes[id]? = st.boxes[id]?):St.sub st st':=fun id x hx=>by
  rw [h id (List.getElem?_eq_some_iff.1 hx).1]; exact hx
def Oth (st st':St) (S:List Nat):Prop:=st'.boxes.length = st.boxes.length∧∀ id,id ∉ S→st'.boxes[id]? = st.boxes[id]?
theorem Oth.refl (st:St) (S:List Nat):Oth st st S:=⟨rfl,fun _ _=>rfl⟩
theorem Oth.trans {a b c:St} {S:List Nat} (h:Oth a b S) (k:Oth b c S):Oth a c S:=⟨k.1.trans h.1,fun id hid=>(k.2 id hid).trans (h.2 id hid)⟩
theorem Oth.mono {a b:St} {S S':List Nat} (h:Oth a b S) (hs:∀ x ∈ S,x ∈ S'):Oth a b S':=⟨h.1,fun id hid=>h.2 id fun e=>hid (hs id e)⟩
theorem Oth.set (st:St) (q:Nat) (cs:List AV) {S:List Nat} (h:q ∈ S):Oth st (st.set q cs) S:=⟨len_set ..,fun id hid=>mN fun e=>hid (e ▸ h)⟩
theorem Oth.get {a b:St} {S:List Nat} (h:Oth a b S) {id:Nat} (hid:id ∉ S):b.get id = a.get id:=ib (h.2 id hid)
section
variable {β:Type}
structure MapIs (st:St) (id:Nat) (k:IntKind) (ev:β→AV) (m:List (Int×β)):Prop where
  get:st.getM id = some (encM k ev m)
  nd:(ck m).Nodup
  bl:(st.getB id).1.length = m.length
  bn:(st.getB id).1.Nodup
  bc:∀ b ∈ (st.getB id).1,b < (st.getB id).2
variable {st st':St} {id:Nat} {k:IntKind} {ev:β→AV} {m:List (Int×β)}
theorem MapIs.lt (h:MapIs st id k ev m):id < st.boxes.length:=getM_lt h.get
theorem MapIs.at (h:MapIs st id k ev m) (hb:st'.boxes[id]? = st.boxes[id]?):MapIs st' id k ev m:=by
  refine ⟨(getM_at hb).trans h.get,h.nd,?_,?_,?_⟩ <;> rw [getB_at hb]
  · exact h.bl
  · exact h.bn
  · exact h.bc
theorem MapIs.oth {S:List Nat} (h:MapIs st id k ev m) (ho:Oth st st' S) (hid:id ∉ S):MapIs st' id k ev m:=h.at (ho.2 id hid)
theorem MapIs.set (h:MapIs st id k ev m) {q:Nat} {cs:List AV} (hq:id≠q):MapIs (st.set q cs) id k ev m:=h.at (mN hq)
theorem MapIs.push (h:MapIs st id k ev m) (b:Box):MapIs (st.push b) id k ev m:=h.at (dh h.lt)
theorem MapIs.ne (h:MapIs st id k ev m) {q:Nat} {cs:List AV} (hq:st.get q = some cs):id≠q:=by
  rintro rfl
  rw [get_mt h.get] at hq; cases hq
theorem d1 (h:MapIs st id k ev m) {z:AV} {ok:Bool} {t:Int}:de (.int k) z ok st (.map id) (.lit (.int k t)) = .ok (match bt t m with
    | some b=>if ok then .tup [(ev b).dis,.lit (.bool true)] else (ev b).dis
    | none=>if ok then .tup [z,.lit (.bool false)] else z):=by
  have hk:keyI (.int k) (.lit (.int k t)) = true:=by simp [keyI]
  unfold de
  rw [if_pos hk]
  simp only [h.get,Res.ofOpt,Res.bind,iX]
  rw [← gj t m 0]
  cases gw t m 0 <;> rfl
theorem fc (h:MapIs st id k ev m) {t:Int} {b:β} {x:AV} (hx:x.solid = true) (hd:x.dis = ev b) {K:Sf→St→Prop} {sf:Sf}
    (hK:∀ st',MapIs st' id k ev (updP t b m)→Oth st st' [id]→K sf st'):updX false (.int k) (.map id) (.lit (.int k t)) x K sf st:=by
  refine ⟨by simp [keyI],rfl,hx,?_⟩
  have hlt:=h.lt
  simp only [h.get,Res.ofOpt,Res.wp,iX,hd]
  have hu:=kM (encE k ev) t b m 0
  cases hf:gw t m 0 with
  | none =>
    rw [hf] at hu
    simp only [Option.map_none,St.updM,updA]
    have hno:bt t m = none:=by rw [← gj t m 0,hf]; rfl
    refine hK _ ⟨?_,nW h.nd,?_,?_,?_⟩ ⟨by simp [St.setM],fun q hq=>oL (by simpa using hq)⟩
    · rw [kN hlt]; exact congrArg some hu.1
    · rw [dZ hlt,fD,hno]; simp [h.bl]
    · rw [dZ hlt]
      refine List.nodup_append.2 ⟨h.bn,by simp,fun x hx y hy e=>?_⟩
      simp only [List.mem_singleton] at hy
      subst hy; subst e
      exact Nat.lt_irrefl _ (h.bc _ hx)
    · rw [dZ hlt]
      intro b hb
      simp only [List.mem_append,List.mem_singleton] at hb
      rcases hb with hb | rfl
      · have:=h.bc b hb; simp only; omega
      · simp
  | some p =>
    obtain ⟨j,c⟩:=p
    rw [hf] at hu
    simp only [Nat.sub_zero] at hu
    simp only [Option.map_some,St.updM,updA]
    have hyes:(bt t m).isSome = true:=by rw [← gj t m 0,hf]; rfl
    refine hK _ ⟨?_,nW h.nd,?_,?_,?_⟩ ⟨by simp [St.setM],fun q hq=>oL (by simpa using hq)⟩
    · rw [kN hlt]; exact congrArg some hu.2.1
    · rw [dZ hlt,fD,if_pos hyes]; exact h.bl
    · rw [dZ hlt]; exact h.bn
    · rw [dZ hlt]; exact h.bc
theorem kc (h:MapIs st id k ev m) {t:Int} {K:Sf→St→Prop} {sf:Sf}
    (hK:∀ st',MapIs st' id k ev (delP t m)→Oth st st' [id]→K sf st'):delX false (.int k) (.map id) (.lit (.int k t)) K sf st:=by
  refine ⟨by simp [keyI],rfl,?_⟩
  have hlt:=h.lt
  simp only [h.get,Res.ofOpt,Res.wp,iX]
  cases hf:gw t m 0 with
  | none =>
    have hu:delP t m = m:=by
      have:∀ (m:List (Int×β)) (i:Nat),gw t m i = none→delP t m = m:=by
        intro m
        induction m with
        | nil=>intro i _; rfl
        | cons p r ih =>
          obtain ⟨k,c⟩:=p
          intro i h
          simp only [gw] at h
          simp only [delP]
          split at h
          · cases h
          · rename_i hne; rw [if_neg hne,ih (i + 1) h]
      exact this m 0 hf
    simp only [Option.map_none]
    exact hK _ (by rw [hu]; exact h) (Oth.refl _ _)
  | some p =>
    obtain ⟨j,c⟩:=p
    have hu:=kM (encE k ev) t c m 0
    rw [hf] at hu
    simp only [Nat.sub_zero] at hu
    simp only [Option.map_some,St.delM]
    have hyes:(bt t m).isSome = true:=by rw [← gj t m 0,hf]; rfl
    refine hK _ ⟨?_,nX h.nd,?_,?_,?_⟩ ⟨by simp [St.setM],fun q hq=>oL (by simpa using hq)⟩
    · rw [kN hlt]; exact congrArg some hu.2.2.1
    · rw [dZ hlt,oK,if_pos hyes]
      simp only [List.length_eraseIdx,h.bl,if_pos hu.2.2.2]
    · rw [dZ hlt]; exact h.bn.sublist (List.eraseIdx_sublist ..)
    · rw [dZ hlt]; exact fun b hb=>h.bc b (List.mem_of_mem_eraseIdx hb)
theorem mO (h:MapIs st id k ev m):lenI .mp st (.map id) = .ok (.lit (.int .i64 m.length)):=by
  simp only [lenI,h.get,Res.ofOpt,Res.bind,encM,List.length_map]
theorem MapIs.clone (h:MapIs st id k ev m):MapIs (st.push (.mp (encM k ev m) (st.getB id).1 (st.getB id).2)) st.boxes.length k ev m:=by
  refine ⟨nU ..,h.nd,?_,?_,?_⟩ <;> rw [nV]
  · exact h.bl
  · exact h.bn
  · exact h.bc
theorem MapIs.new (st:St) (k:IntKind) (ev:β→AV):MapIs (st.push (.mp [] [] 0)) st.boxes.length k ev []:=by
  refine ⟨nU ..,by simp [ck],?_,?_,?_⟩ <;> rw [nV] <;> simp
end
theorem cc {P:Program} {X:Cx} {f:FuncId} {fn:AFun} {vs:List AV} {st:St} (hmix:P.follows .mixedOrders = true) (hf:bj P X f = some fn) (hX:X.F = id) (hlen:Nat.ble vs.length fn.n = true) {v0:AV} (h:∀ Q:AV→St→Prop,(∀ st',Q v0 st')→aFun P id true fn vs st Q):bg P f vs st v0:=by
  refine pcalls_of hmix hf (Nat.le_of_ble_eq_true hlen) ?_
  rw [hX]; exact h _ fun _=>rfl
end Go.Fx
/- Linked nodes in a map: a queue (plain lists; no program in sight). -/
namespace Go.Fx
open Go
abbrev Nd:=Int×Nat×Nat
abbrev Qu:=List (Nat×Int)
def bF:Qu→Nat→Nat
  | [],h=>h
  | (x,_)::_,_=>x
def bB:Nat→Qu→Nat
  | p,[]=>p
  | _,(t,_)::r=>bB t r
def cd:Nat→Qu→Nat→Nat→Option Nd
  | _,[],_,_=>none
  | p,(u,v)::r,h,t=>if t = u then some (v,p,bF r h) else cd u r h t
def bQ (L:Qu):List Nat:=L.map Prod.fst
theorem gR (B:Qu) (h t:Nat):∀ (A:Qu) (p:Nat),cd p (A++B) h t = match cd p A (bF B h) t with | some x=>some x | none=>cd (bB p A) B h t
  | [],p=>rfl
  | (u, v) :: A, p => by
    simp only [List.cons_append,cd,bB]
    split
    · cases A <;> rfl
    · exact gR B h t A u
theorem dw {h t:Nat}:∀ {L:Qu} {p:Nat},t ∉ bQ L→cd p L h t = none
  | [],_,_=>rfl
  | (u, v) :: r, p, hn => by
    simp only [bQ,List.map_cons,List.mem_cons,not_or] at hn
    simp only [cd]
    rw [if_neg hn.1]
    exact dw hn.2
theorem fd:∀ {L:Qu} {p:Nat},L≠[]→bB p L ∈ bQ L
  | [(t,v)],p,_=>by simp [bB,bQ]
  | (t, v) :: y :: r, p, _ => by
    have:=fd (L:=y::r) (p:=t) (by simp)
    simp only [bB,bQ,List.map_cons,List.mem_cons] at this ⊢
    exact .inr this
theorem gS (B:Qu):∀ (A:Qu) (p:Nat),bB p (A++B) = bB (bB p A) B
  | [],_=>rfl
  | (t,v)::A,p=>gS B A t
theorem last_ne {L:Qu} {p p':Nat} (h:L≠[]):bB p L = bB p' L:=by
  cases L with
  | nil=>exact absurd rfl h
  | cons x r=>rfl
theorem oM {h h' t:Nat}:∀ {L:Qu} {p:Nat},(bQ L).Nodup→L≠[]→cd p L h' t = if t = bB p L then (cd p L h t).map (fun x=>(x.1,x.2.1,h')) else cd p L h t
  | [(u, v)], p, _, _ => by
    simp only [cd,bB,bF]
    by_cases e:t = u
    · simp [e]
    · simp [e]
  | (u, v) :: (u2, v2) :: r, p, hn, _ => by
    have ih:=oM (h:=h) (h':=h') (t:=t) (L:=(u2,v2)::r) (p:=u) (List.nodup_cons.1 hn).2 (by simp)
    have hl:=fd (L:=(u2,v2)::r) (p:=u) (by simp)
    have hne:u≠bB u ((u2,v2)::r):=fun e=>(List.nodup_cons.1 hn).1 (by rw [e]; exact hl)
    have e0:∀ q,cd p ((u,v)::(u2,v2)::r) q t = if t = u then some (v,p,u2) else cd u ((u2,v2)::r) q t:=fun q=>rfl
    rw [e0,e0,show bB p ((u,v)::(u2,v2)::r) = bB u ((u2,v2)::r) from rfl]
    by_cases e:t = u
    · subst e; rw [if_pos rfl,if_pos rfl,if_neg hne]
    · rw [if_neg e,if_neg e]; exact ih
theorem nodeA_p {h t p p':Nat} {u:Nat} {v:Int} {r:Qu} (hn:(bQ ((u,v)::r)).Nodup):cd p' ((u,v)::r) h t = if t = u then (cd p ((u,v)::r) h t).map (fun x=>(x.1,p',x.2.2)) else cd p ((u,v)::r) h t:=by
  simp only [cd]
  by_cases e:t = u
  · simp [e]
  · simp [e]
theorem nodeA_push {L:Qu} {u:Nat} {v:Int} {t:Nat} (hn:(bQ L).Nodup) (hu:u ∉ bQ L) (hL:L≠[]) :
    cd 0 (L++[(u,v)]) 0 t = if t = bB 0 L then (cd 0 L 0 t).map (fun x=>(x.1,x.2.1,u)) else if t = u then some (v,bB 0 L,0) else cd 0 L 0 t:=by
  rw [gR]
  simp only [bF,cd]
  have hl:=fd (p:=0) hL
  rw [oM (h:=0) hn hL]
  by_cases e:t = bB 0 L
  · rw [if_pos e,if_pos e]
    cases hx:cd 0 L 0 t with
    | some x=>rfl
    | none =>
      exfalso
      have:∀ (L:Qu) (p:Nat),t ∈ bQ L→cd p L 0 t≠none:=by
        intro L
        induction L with
        | nil=>intro p h; simp [bQ] at h
        | cons y r ih =>
          obtain ⟨a,b⟩:=y
          intro p h
          simp only [cd]
          split
          · simp
          · rename_i hne
            simp only [bQ,List.map_cons,List.mem_cons] at h
            exact ih a (h.resolve_left hne)
      exact this L 0 (e ▸ hl) hx
  · rw [if_neg e,if_neg e]
    by_cases e2:t = u
    · subst e2; rw [dw hu]
      try simp
    · simp only [if_neg e2]
      cases cd 0 L 0 t <;> rfl
theorem nodeA_del {A B:Qu} {u:Nat} {v:Int} {t:Nat} (hn:(bQ (A++(u,v)::B)).Nodup) :
    cd 0 (A++B) 0 t = if t = u then none else
      if A≠[]∧t = bB 0 A then (cd 0 (A++(u,v)::B) 0 t).map (fun x=>(x.1,x.2.1,bF B 0)) else
      if B≠[]∧t = bF B 0 then (cd 0 (A++(u,v)::B) 0 t).map (fun x=>(x.1,bB 0 A,x.2.2)) else cd 0 (A++(u,v)::B) 0 t:=by
  have h1:(bQ A).Nodup∧(bQ ((u,v)::B)).Nodup∧∀ x ∈ bQ A,∀ y ∈ bQ ((u,v)::B),x≠y:=by
    simp only [bQ,List.map_append] at hn
    exact List.nodup_append.1 hn
  obtain ⟨hA,hB0,hAB⟩:=h1
  have hB:=List.nodup_cons.1 hB0
  have hu:u ∉ bQ A:=fun e=>hAB u e u (by simp [bQ]) rfl
  rw [gR,gR,show bF ((u,v)::B) 0 = u from rfl]
  by_cases e:t = u
  · subst e
    rw [if_pos rfl,dw hu]
    exact dw hB.1
  · rw [if_neg e]
    have e1:cd (bB 0 A) ((u,v)::B) 0 t = cd u B 0 t:=by simp only [cd]; rw [if_neg e]
    rw [e1]
    by_cases hAe:A = []
    · subst hAe
      simp only [cd,bB,ne_eq,not_true_eq_false,false_and,if_false]
      cases B with
      | nil=>simp [cd]
      | cons y r =>
        obtain ⟨w,z⟩:=y
        rw [nodeA_p (p:=u) (p':=0) hB.2]
        simp [show bF ((w,z)::r) 0 = w from rfl]
    · rw [oM (h:=u) (h':=bF B 0) hA hAe]
      by_cases e2:t = bB 0 A
      · have hin:t ∈ bQ A:=e2 ▸ fd hAe
        rw [if_pos e2,if_pos ⟨hAe,e2⟩]
        cases hx:cd 0 A u t with
        | some x=>rfl
        | none =>
          have hnb:t ∉ bQ B:=fun hb=>hAB t hin t (by simp only [bQ,List.map_cons,List.mem_cons]; exact .inr hb) rfl
          simp only [Option.map_none,dw hnb]
      · rw [if_neg e2,if_neg (fun q=>e2 q.2)]
        cases B with
        | nil=>simp [cd]
        | cons y r =>
          obtain ⟨w,z⟩:=y
          rw [nodeA_p (p:=u) (p':=bB 0 A) hB.2]
          simp only [show bF ((w,z)::r) 0 = w from rfl,ne_eq,reduceCtorEq,not_false_eq_true,true_and]
          by_cases e3:t = w
          · have hna:t ∉ bQ A:=fun ha=>hAB t ha t (by simp [bQ,e3]) rfl
            rw [if_pos e3,if_pos e3,dw hna]
          · rw [if_neg e3,if_neg e3]
theorem nodeA_at {A B:Qu} {u:Nat} {v:Int} (hu:u ∉ bQ A):cd 0 (A++(u,v)::B) 0 u = some (v,bB 0 A,bF B 0):=by
  rw [gR,dw hu]
  simp [cd]
def ndAV (x:Nd):AV:=.agg [.lit (.int .i64 x.1),.lit (.int .u64 (x.2.1:Nat)),.lit (.int .u64 (x.2.2:Nat))]
theorem ndAV_dis (x:Nd):(ndAV x).dis = ndAV x:=rfl
structure QIs (st:St) (q mid:Nat) (L:Qu) (g:Nat):Prop where
  get:st.get q = some [.lit (.int .u64 (bF L 0:Nat)),.lit (.int .u64 (bB 0 L:Nat)),.lit (.int .u64 (g:Nat)),.map mid]
  mp:∃ m,MapIs st mid .u64 ndAV m∧(∀ t:Nat,bt t m = cd 0 L 0 t)∧m.length = L.length
  srt:(bQ L).Pairwise (· < ·)
  pos:∀ t ∈ bQ L,0 < t∧t≤g
theorem QIs.nd {st:St} {q mid g:Nat} {L:Qu} (h:QIs st q mid L g):(bQ L).Nodup:=h.srt.imp fun h=>Nat.ne_of_lt h
theorem QIs.ne {st:St} {q mid g:Nat} {L:Qu} (h:QIs st q mid L g):mid≠q:=by
  obtain ⟨m,hm,_⟩:=h.mp
  exact hm.ne h.get
theorem QIs.ltq {st:St} {q mid g:Nat} {L:Qu} (h:QIs st q mid L g):q < st.boxes.length:=c9 h.get
theorem QIs.ltm {st:St} {q mid g:Nat} {L:Qu} (h:QIs st q mid L g):mid < st.boxes.length:=by
  obtain ⟨m,hm,_⟩:=h.mp
  exact hm.lt
theorem QIs.at {st st':St} {q mid g:Nat} {L:Qu} (h:QIs st q mid L g) (h1:st'.boxes[q]? = st.boxes[q]?) (h2:st'.boxes[mid]? = st.boxes[mid]?):QIs st' q mid L g:=by
  obtain ⟨m,hm,h3,h4⟩:=h.mp
  exact ⟨(ib h1).trans h.get,⟨m,hm.at h2,h3,h4⟩,h.srt,h.pos⟩
theorem QIs.oth {st st':St} {q mid g:Nat} {L:Qu} {S:List Nat} (h:QIs st q mid L g) (ho:Oth st st' S) (h1:q ∉ S) (h2:mid ∉ S):QIs st' q mid L g:=h.at (ho.2 _ h1) (ho.2 _ h2)
theorem QIs.nil_iff {st:St} {q mid g:Nat} {L:Qu} (h:QIs st q mid L g):(bF L 0 = 0↔L = [])∧(bB 0 L = 0↔L = []):=by
  cases L with
  | nil=>simp [bF,bB]
  | cons x r =>
    obtain ⟨t,v⟩:=x
    have h1:=h.pos t (by simp [bQ])
    have h2:=h.pos _ (fd (L:=(t,v)::r) (p:=0) (by simp))
    simp only [bF,reduceCtorEq,iff_false]
    omega
theorem gk {t:Nat}:∀ {L:Qu} {p:Nat},t ∈ bQ L→∃ x,cd p L 0 t = some x
  | (u, v) :: r, p, h => by
    simp only [cd]
    split
    · exact ⟨_,rfl⟩
    · rename_i hne
      simp only [bQ,List.map_cons,List.mem_cons] at h
      exact gk (h.resolve_left hne)
theorem dI (A B:Qu):bQ (A++B) = bQ A++bQ B:=by simp [bQ]
theorem QIs.clone {st st':St} {q mid q' mid' g:Nat} {L:Qu} (h:QIs st q mid L g) (hg:st'.get q' = some [.lit (.int .u64 (bF L 0:Nat)),.lit (.int .u64 (bB 0 L:Nat)),.lit (.int .u64 (g:Nat)),.map mid'])
    (hm:∀ m,MapIs st mid .u64 ndAV m→MapIs st' mid' .u64 ndAV m):QIs st' q' mid' L g:=by
  obtain ⟨m,h1,h2,h3⟩:=h.mp
  exact ⟨hg,⟨m,hm m h1,h2,h3⟩,h.srt,h.pos⟩
theorem QIs.push {st st':St} {q mid g:Nat} {L:Qu} {v:Int} (h:QIs st q mid L g) {m':List (Int×Nd)} (hg:st'.get q = some [.lit (.int .u64 (bF (L++[(g + 1,v)]) 0:Nat)),.lit (.int .u64 ((g + 1:Nat))),.lit (.int .u64 ((g + 1:Nat))),.map mid])
    (hm:MapIs st' mid .u64 ndAV m') (hl:∀ t:Nat,bt t m' = cd 0 (L++[(g + 1,v)]) 0 t) (hn:m'.length = L.length + 1):QIs st' q mid (L++[(g + 1,v)]) (g + 1):=by
  refine ⟨by rw [gS]; exact hg,⟨m',hm,hl,by simp [hn]⟩,?_,fun t ht=>?_⟩
  · rw [dI]
    refine List.pairwise_append.2 ⟨h.srt,by simp [bQ],fun x hx y hy=>?_⟩
    simp only [bQ,List.map_cons,List.map_nil,List.mem_singleton] at hy
    have:=(h.pos x hx).2
    omega
  · rw [dI] at ht
    rcases List.mem_append.1 ht with ht | ht
    · have:=h.pos t ht; omega
    · simp only [bQ,List.map_cons,List.map_nil,List.mem_singleton] at ht
      omega
theorem QIs.fresh {st:St} {q mid g:Nat} {L:Qu} (h:QIs st q mid L g):g + 1 ∉ bQ L:=fun e=>by have:=(h.pos _ e).2; omega
theorem QIs.del {st st':St} {q mid g:Nat} {A B:Qu} {t:Nat} {v:Int} (h:QIs st q mid (A++(t,v)::B) g) {m':List (Int×Nd)} (hg:st'.get q = some [.lit (.int .u64 (bF (A++B) 0:Nat)),.lit (.int .u64 (bB 0 (A++B):Nat)),.lit (.int .u64 (g:Nat)),.map mid])
    (hm:MapIs st' mid .u64 ndAV m') (hl:∀ t:Nat,bt t m' = cd 0 (A++B) 0 t) (hn:m'.length = (A++B).length):QIs st' q mid (A++B) g:=by
  have hsub:(bQ (A++B)).Sublist (bQ (A++(t,v)::B)):=by
    simp only [dI]
    exact List.Sublist.append (List.Sublist.refl _) (List.sublist_cons_self _ _)
  exact ⟨hg,⟨m',hm,hl,hn⟩,h.srt.sublist hsub,fun x hx=>h.pos x (hsub.subset hx)⟩
end Go.Fx
/- A channel's state: plain lists, and where they lie. -/
namespace Go.Fx
open Go
abbrev W3:=Nat×Int×Int
structure ChP where
  closed:Bool
  cap:Nat
  buf:List Int
  S:List W3
  V:List W3
  g0:Nat
  g1:Nat
def qOf (l:List W3):Qu:=l.map fun x=>(x.1,x.2.1)
def wEnt (d:Int) (l:List W3):List (Int×(Int×Int×Nat)):=l.map fun x=>(x.2.1,(d,x.2.2,x.1))
def entC (S V:List W3):List (Int×(Int×Int×Nat)):=wEnt 0 S++wEnt 1 V
def wtAV (x:Int×Int×Nat):AV:=.agg [.lit (.int .i64 x.1),.lit (.int .i64 x.2.1),.lit (.int .u64 (x.2.2:Nat))]
def ints (l:List Int):List AV:=l.map fun v=>.lit (.int .i64 v)
theorem ints_lits (l:List Int):Lits (ints l):=fun x hx=>by
  simp only [ints,List.mem_map] at hx
  obtain ⟨v,_,rfl⟩:=hx
  exact ⟨_,rfl⟩
theorem cM (l:List Int):(ints l).length = l.length:=by simp [ints]
theorem iK (l k:List Int):ints (l++k) = ints l++ints k:=by simp [ints]
theorem ic {β:Type} {k:Int} {x:β} {B:List (Int×β)}:∀ {A:List (Int×β)},(ck (A++(k,x)::B)).Nodup→bt k (A++(k,x)::B) = some x∧∀ t,bt t (A++B) = if t = k then none else bt t (A++(k,x)::B)
  | [], h => by
    simp only [List.nil_append,ck,List.map_cons,List.nodup_cons] at h
    refine ⟨by simp [bt],fun t=>?_⟩
    by_cases e:t = k
    · subst e; rw [if_pos rfl]; exact iW h.1
    · simp [bt,e]
  | (a, b) :: A, h => by
    simp only [List.cons_append,ck,List.map_cons,List.nodup_cons] at h
    obtain ⟨h1,h2⟩:=ic (A:=A) (B:=B) (k:=k) (x:=x) h.2
    have hne:¬ k = a:=fun e=>h.1 (by rw [← e]; simp)
    refine ⟨by simp only [List.cons_append,bt]; rw [if_neg hne]; exact h1,fun t=>?_⟩
    simp only [List.cons_append,bt]
    by_cases e:t = a
    · have e2:¬ t = k:=fun q=>hne (by rw [← q,e])
      rw [if_pos e,if_neg e2,if_pos e]
    · rw [if_neg e,if_neg e]; exact h2 t
theorem look_of_mem {β:Type} {k:Int} {m:List (Int×β)}:(bt k m).isSome = decide (k ∈ ck m):=by
  induction m with
  | nil=>simp [bt,ck]
  | cons p r ih =>
    obtain ⟨a,b⟩:=p
    simp only [bt,ck,List.map_cons,List.mem_cons]
    by_cases e:k = a
    · simp [e]
    · simp only [if_neg e,e,false_or]; exact ih
def eI:AV→List Nat
  | .bs id _ _ _ _=>[id]
  | _=>[]
structure ChIs (st:St) (c:Nat) (P:ChP) (q0 m0 q1 m1 wid:Nat) (bv:AV):Prop where
  get:st.get c = some [.lit (.bool true),.lit (.bool P.closed),.lit (.int .i64 (P.cap:Nat)),bv,.ptr q0 0,.ptr q1 0,.map wid]
  buf:MB bv st (ints P.buf)
  s:QIs st q0 m0 (qOf P.S) P.g0
  r:QIs st q1 m1 (qOf P.V) P.g1
  w:∃ W,MapIs st wid .i64 wtAV W∧∀ t,bt t W = bt t (entC P.S P.V)
  ids:[c,q0,q1,m0,m1,wid].Nodup
  bid:∀ x ∈ eI bv,x ∉ [c,q0,q1,m0,m1,wid]
  nd:(ck (entC P.S P.V)).Nodup
  rng:∀ t ∈ ck (entC P.S P.V),0≤t∧t < 64
  zv:∀ x ∈ P.V,x.2.2 = 0
def Kp (st st':St) (F:List Nat):Prop:=st.boxes.length≤st'.boxes.length∧∀ id,id < st.boxes.length→id ∉ F→st'.boxes[id]? = st.boxes[id]?
theorem MB.at {v:AV} {st st':St} {l:List AV} (h:MB v st l) (hb:∀ x ∈ eI v,st'.boxes[x]? = st.boxes[x]?):MB v st' l:=by
  rcases h with ⟨rfl,rfl⟩ | ⟨id,cap,r,rfl,hg,h1,h2⟩
  · exact .inl ⟨rfl,rfl⟩
  · exact .inr ⟨id,cap,r,rfl,(ib (hb id (by simp [eI]))).trans hg,h1,h2⟩
theorem MB.lt {v:AV} {st:St} {l:List AV} (h:MB v st l):∀ x ∈ eI v,x < st.boxes.length:=by
  rcases h with ⟨rfl,rfl⟩ | ⟨id,cap,r,rfl,hg,h1,h2⟩
  · simp [eI]
  · intro x hx
    simp only [eI,List.mem_singleton] at hx
    subst hx
    exact c9 hg
section
variable {st st':St} {c q0 m0 q1 m1 wid:Nat} {bv:AV} {P:ChP}
theorem ChIs.lts (h:ChIs st c P q0 m0 q1 m1 wid bv):∀ x ∈ [c,q0,q1,m0,m1,wid]++eI bv,x < st.boxes.length:=by
  obtain ⟨W,hW,_⟩:=h.w
  intro x hx
  simp only [List.mem_append,List.mem_cons,List.not_mem_nil,or_false] at hx
  rcases hx with (rfl | rfl | rfl | rfl | rfl | rfl) | hx
  · exact c9 h.get
  · exact h.s.ltq
  · exact h.r.ltq
  · exact h.s.ltm
  · exact h.r.ltm
  · exact hW.lt
  · exact h.buf.lt x hx
end
def foot (c q0 m0 q1 m1 wid:Nat) (bv:AV):List Nat:=[c,q0,q1,m0,m1,wid]++eI bv
def ChPost (st:St) (c:Nat) (P:ChP) (q0 m0 q1 m1 wid:Nat) (bv:AV) (st':St):Prop :=
  ∃ bv',ChIs st' c P q0 m0 q1 m1 wid bv'∧Kp st st' (foot c q0 m0 q1 m1 wid bv)∧∀ x ∈ eI bv',x ∈ eI bv∨st.boxes.length≤x
theorem ChIs.post {st st':St} {c q0 m0 q1 m1 wid:Nat} {bv:AV} {P:ChP} (h:ChIs st' c P q0 m0 q1 m1 wid bv) (hk:Kp st st' (foot c q0 m0 q1 m1 wid bv)):ChPost st c P q0 m0 q1 m1 wid bv st':=⟨bv,h,hk,fun _ h=>.inl h⟩
theorem ChIs.rebufC {st st1:St} {c q0 m0 q1 m1 wid:Nat} {bv bv1:AV} {P:ChP} {cl:Bool} {b':List Int} (h:ChIs st c P q0 m0 q1 m1 wid bv) (hm:MB bv1 st1 (ints b')) (hk:Kp st st1 (eI bv)) (hb:∀ x ∈ eI bv1,x ∈ eI bv∨st.boxes.length≤x) :
    ChIs (st1.set c [.lit (.bool true),.lit (.bool cl),.lit (.int .i64 (P.cap:Nat)),bv1,.ptr q0 0,.ptr q1 0,.map wid]) c { P with buf:=b',closed:=cl } q0 m0 q1 m1 wid bv1 ∧
    Kp st (st1.set c [.lit (.bool true),.lit (.bool cl),.lit (.int .i64 (P.cap:Nat)),bv1,.ptr q0 0,.ptr q1 0,.map wid]) (foot c q0 m0 q1 m1 wid bv):=by
  have hlt:=h.lts
  have hids:=h.ids
  have hbid:=h.bid
  have hcl:c < st1.boxes.length:=Nat.lt_of_lt_of_le (hlt c (by simp)) hk.1
  simp only [List.nodup_cons,List.mem_cons,List.not_mem_nil,or_false,not_or] at hids
  have hat:∀ x ∈ [q0,q1,m0,m1,wid],(st1.set c [.lit (.bool true),.lit (.bool cl),.lit (.int .i64 (P.cap:Nat)),bv1,.ptr q0 0,.ptr q1 0,.map wid]).boxes[x]? = st.boxes[x]?:=by
    intro x hx
    rw [mN (by simp at hx; omega)]
    refine hk.2 x (hlt x (by simp at hx ⊢; omega)) fun e=>?_
    exact hbid x e (by simp at hx ⊢; omega)
  have hbc:∀ x ∈ eI bv1,x ∉ [c,q0,q1,m0,m1,wid]:=by
    intro x hx hin
    rcases hb x hx with e | e
    · exact hbid x e hin
    · have:=hlt x (List.mem_append_left _ hin); omega
  obtain ⟨W,hW,hl⟩:=h.w
  refine ⟨⟨cD hcl,hm.at fun x hx=>mN fun e=>hbc x hx (by simp [e]),h.s.at (hat _ (by simp)) (hat _ (by simp)),h.r.at (hat _ (by simp)) (hat _ (by simp)),⟨W,hW.at (hat _ (by simp)),hl⟩,h.ids,hbc,h.nd,h.rng,h.zv⟩,⟨by rw [len_set]; exact hk.1,fun x hx hn=>?_⟩⟩
  simp only [foot,List.mem_append,List.mem_cons,List.not_mem_nil,or_false,not_or] at hn
  rw [mN hn.1.1]
  exact hk.2 x hx hn.2
end Go.Fx
