/- An evaluator for resolved code, proved against the model: part 6. -/
import Derived.Test.YtphaaebhgggbaaaFxE
/- Regions that draw their order: evaluation. -/
namespace Go.Fx
open Go
section
variable (P:Program) (F:Nat→FuncId) (m:Bool) (locs0:List (Nat×List AV)) (st:St) (C:PK→Sf→Prop) (sf:Sf) (d:Option Nat) (x y i:Opd) (K:List PK→Sf→Prop) (ks:List PK)
theorem gS:bt P F locs0 st [] K ks sf = K ks sf:=rfl
theorem ej (i:AI) (r:List GI):bt P F locs0 st (⟨none,i⟩::r) K ks sf = bS P F locs0 st i (jm (bt P F locs0 st r K) ks) sf:=rfl
theorem fV:bS P F locs0 st (.mv d x) C sf = valH C d sf (sf.ev F x).dis:=rfl
theorem hh_bin (k:BinK) (op:BinOp):bS P F locs0 st (.bin d k op x y) C sf = (binI k op (sf.ev F x) (sf.ev F y)).wp (valH C d sf):=rfl
theorem hh_field (off:Nat) (k:Option Nat):bS P F locs0 st (.field d x off k) C sf = (fieldV (sf.ev F x) off k).wp (valH C d sf):=rfl
theorem dS (off:Nat):bS P F locs0 st (.addr d x off) C sf = (addA (sf.ev F x) off).wp (valH C d sf):=rfl
theorem hh_ixS (k:Nat):bS P F locs0 st (.ixS d x i k) C sf = (ixSV (sf.ev F x) (sf.ev F i) k).wp (valH C d sf):=rfl
theorem dC (k:Option Nat):bS P F locs0 st (.load d x k) C sf = (aw sf st (sf.ev F x) k).wp (valH C d sf):=rfl
theorem c6:bS P F locs0 st (.nilck d x) C sf = (aO (sf.ev F x)).wp (valH C d sf):=rfl
theorem hh_bst (places:List (Nat×Nat)) (z:AV) (parts:List (Nat×Opd)):bS P F locs0 st (.bst d places z parts) C sf = (bstV places z (parts.map fun p=>(p.1,sf.ev F p.2))).wp (valH C d sf):=rfl
theorem eW (k:KeyK) (z:AV) (ok:Bool) (mp key:Opd):bS P F locs0 st (.lookup d k z ok mp key) C sf = (cN k z ok st (sf.ev F mp) (sf.ev F key)).wp (valH C d sf):=rfl
theorem hh_call (p:Bool) (f:Opd) (args:List Opd):bS P F locs0 st (.call d p f args) C sf = gI P st d (sf.ev F f) (args.map (sf.ev F)) C sf:=rfl
theorem kP (s:Nat) (cs:List AV):bS P F locs0 st (.newL s cs) C sf = C (.new s cs) (sf.set s .any):=rfl
theorem cH (t:Nat) (want:Bool) (Y N:Sf→Prop):dp t want (.lit (.bool false)) Y N sf = if false = want then Y (sf.set t (.lit (.bool false))) else N (sf.set t (.lit (.bool false))):=by
  unfold dp
  exact propext ⟨fun h=>h false rfl,fun h c e=>by subst e; exact h⟩
end
def PK.keep:PK→Bool
  | .val _=>false
  | .skip=>false
  | _=>true
theorem cD:∀ ks:List PK,bu (ks.filter PK.keep) = bu ks
  | []=>rfl
  | .val _::r=>cD r
  | .skip::r=>cD r
  | .mk _ _::r=>cD r
  | .hole::r=>cD r
  | .chole _ _::r=>cD r
  | .nst _ _::r=>cD r
  | .new _ _::r=>cD r
  | .app _ _::r=>cD r
  | .store s _::r=>congrArg (s::·) (cD r)
theorem da:∀ ks:List PK,bU (ks.filter PK.keep) = bU ks
  | []=>rfl
  | .val _::r=>da r
  | .skip::r=>da r
  | .mk _ _::r=>da r
  | .hole::r=>da r
  | .chole _ _::r=>da r
  | .nst _ _::r=>da r
  | .store _ _::r=>da r
  | .app _ _::r=>da r
  | .new s _::r=>congrArg (s::·) (da r)
theorem db:∀ ks:List PK,ck (ks.filter PK.keep) = ck ks
  | []=>rfl
  | .val _::r=>db r
  | .skip::r=>db r
  | .mk _ _::r=>db r
  | .hole::r=>db r
  | .chole _ _::r=>db r
  | .nst _ _::r=>db r
  | .store _ _::r=>db r
  | .new _ _::r=>db r
  | .app s _::r=>congrArg (s::·) (db r)
theorem dc:∀ (ks:List PK) (sf:Sf),cM (ks.filter PK.keep) sf = cM ks sf
  | [],_=>rfl
  | .val _::r,sf=>dc r sf
  | .skip::r,sf=>dc r sf
  | .mk _ _::r,sf=>dc r sf
  | .hole::r,sf=>dc r sf
  | .chole _ _::r,sf=>dc r sf
  | .nst _ _::r,sf=>dc r sf
  | .new _ _::r,sf=>dc r sf
  | .app _ _::r,sf=>dc r sf
  | .store _ _::r,_=>dc r _
theorem cL (t:Nat):∀ ks:List PK,cE t (ks.filter PK.keep) = cE t ks
  | []=>rfl
  | .val _::r=>cL t r
  | .skip::r=>cL t r
  | .mk _ _::r=>cL t r
  | .hole::r=>cL t r
  | .chole _ _::r=>cL t r
  | .store _ _::r=>cL t r
  | .app _ _::r=>cL t r
  | .new _ _::r=>cL t r
  | .nst s cs :: r => by
    show (if s = t then some cs else cE t (r.filter PK.keep)) = if s = t then some cs else cE t r
    rw [cL t r]
theorem de:∀ ks:List PK,cm (ks.filter PK.keep) = cm ks
  | []=>rfl
  | .val _::r=>de r
  | .skip::r=>de r
  | .mk _ _::r=>de r
  | .hole::r=>de r
  | .chole _ _::r=>de r
  | .store _ _::r=>de r
  | .new _ _::r=>de r
  | .app _ _::r=>de r
  | .nst s _::r=>congrArg (s::·) (de r)
theorem df:∀ (ks:List PK) (seen:List (Nat×Nat)),nstB seen (ks.filter PK.keep) = nstB seen ks
  | [],_=>rfl
  | .val _::r,s=>df r s
  | .skip::r,s=>df r s
  | .mk _ _::r,s=>df r s
  | .hole::r,s=>df r s
  | .chole _ _::r,s=>df r s
  | .store _ _::r,s=>df r s
  | .app _ _::r,s=>df r s
  | .new _ _::r,s=>df r _
  | .nst _ _::r,s=>congrArg (_ && ·) (df r s)
theorem dg (all:List PK):∀ (ks:List PK) (sf:Sf),cq (all.filter PK.keep) (ks.filter PK.keep) sf = cq all ks sf
  | [],_=>rfl
  | .val _::r,sf=>dg all r sf
  | .skip::r,sf=>dg all r sf
  | .mk _ _::r,sf=>dg all r sf
  | .hole::r,sf=>dg all r sf
  | .chole _ _::r,sf=>dg all r sf
  | .store _ _::r,sf=>dg all r sf
  | .app _ _::r,sf=>dg all r sf
  | .nst _ _::r,sf=>dg all r sf
  | .new s cs :: r, sf => by
    show cq (all.filter PK.keep) (r.filter PK.keep) (sf.newLoc s ((cE s (all.filter PK.keep)).getD cs)) = cq all r (sf.newLoc s ((cE s all).getD cs))
    rw [cL,dg all r]
section
variable {P:Program} {F:Nat→FuncId} {m:Bool} {locs0:List (Nat×List AV)} {st st2:St} {drop lv ll:List Nat} {tl:List GI} {Q:Exit→Sf→St→Prop}
theorem tail_keep (ks:List PK) (sf:Sf):cK P F m drop lv ll tl Q st (ks.filter PK.keep) sf = cK P F m drop lv ll tl Q st ks sf:=by
  unfold cK ksB
  rw [cD,da,db,de,df,dc,dg]
theorem ib:∀ (r:List GI) (ks:List PK) (sf:Sf),bt P F locs0 st r (cK P F m drop lv ll tl Q st) (ks.filter PK.keep) sf = bt P F locs0 st r (cK P F m drop lv ll tl Q st) ks sf
  | [],ks,sf=>tail_keep ks sf
  | ⟨g, i⟩ :: r, ks, sf => by
    have h1:jm (bt P F locs0 st r (cK P F m drop lv ll tl Q st)) (ks.filter PK.keep) = jm (bt P F locs0 st r (cK P F m drop lv ll tl Q st)) ks:=by
      funext k sf
      simp only [jm]
      rw [← ib r (ks++[k]) sf,← ib r (ks.filter PK.keep++[k]) sf]
      simp
    have h2:∀ d,mV (bt P F locs0 st r (cK P F m drop lv ll tl Q st)) (ks.filter PK.keep) d = mV (bt P F locs0 st r (cK P F m drop lv ll tl Q st)) ks d:=by
      intro d
      funext sf
      exact congrFun (congrFun h1 .skip) (sf.put d (.tup []))
    cases g with
    | none=>simp only [bt,h1]
    | some g=>obtain ⟨t,w⟩:=g; simp only [bt,h1,h2]
variable (ks:List PK) (sf:Sf) (r:List GI) (v:AV) (d:Option Nat)
theorem l4:jm (bt P F locs0 st r (cK P F m drop lv ll tl Q st)) ks (.val v) sf = bt P F locs0 st r (cK P F m drop lv ll tl Q st) ks sf:=by
  show bt P F locs0 st r _ (ks++[.val v]) sf = _
  exact (ib r (ks++[PK.val v]) sf).symm.trans ((congrArg (fun q=>bt P F locs0 st r (cK P F m drop lv ll tl Q st) q sf) (by simp [PK.keep])).trans (ib r ks sf))
theorem cU:valH (jm (bt P F locs0 st r (cK P F m drop lv ll tl Q st)) ks) d sf v = bt P F locs0 st r (cK P F m drop lv ll tl Q st) ks (sf.put d v):=l4 ks (sf.put d v) r v
theorem du:cK P F m drop lv ll tl Q st [] sf = runI P F m tl (opsK lv ll Q) sf st:=propext ⟨fun h=>h.2,fun h=>⟨rfl,h⟩⟩
theorem kQ (k:PK):cK P F m drop lv ll tl Q st (k::ks) sf = (ksB drop (k::ks) = true∧runI P F m tl (opsK lv ll Q) (cq (k::ks) (k::ks) (cM (k::ks) sf)) st):=rfl
end
section
variable (H:List PK→Sf→Prop) (ks:List PK) (sf:Sf) (s:Nat) (cs:List AV) (v:AV)
theorem jy:jm H ks (.new s cs) sf = H (ks++[.new s cs]) sf:=rfl
end
theorem call_h {P:Program} {d:Option Nat} {q:FuncId} {fs cs args vs:List AV} {sf:Sf} {st:St} {C:PK→Sf→Prop} {v:AV} (hvs:fs++args.map AV.dis++cs = vs) (hent:aK P q = true) (h:aM P q vs st v) (hn:args.all AV.noL = true) (hK:C (.val v) (sf.put d v)):gI P st d (.fn (.func q) fs cs) args C sf:=by
  subst hvs
  exact ⟨hn,hent,v,h,hK⟩
section
variable (P:Program) (F:Nat→FuncId) (L0:List (Nat×List AV)) (ρ:St) (C:PK→Sf→Prop) (sf:Sf) (d:Option Nat) (x y i:Opd) (K:List PK→Sf→Prop) (ks:List PK)
theorem iA:preM P F L0 ρ [] K ks sf = K ks sf:=rfl
theorem fH (i:AI) (r:List GI):preM P F L0 ρ (⟨none,i⟩::r) K ks sf = oneM P F L0 ρ i (iw (preM P F L0 ρ r K) ks) sf:=rfl
theorem iB (v:AV) (r:List GI):valM (iw (preM P F L0 ρ r K) ks) d sf v = preM P F L0 ρ r K (ks++[.val v]) (sf.put d v):=rfl
theorem ic (p:Bool) (f:Opd) (args:List Opd):oneM P F L0 ρ (.call d p f args) C sf = lI P ρ d (sf.ev F f) (args.map (sf.ev F)) C sf:=rfl
theorem dN:oneM P F L0 ρ (.mv d x) C sf = valM C d sf (sf.ev F x).dis:=rfl
theorem kR (c a b:Opd):oneM P F L0 ρ (.pick d c a b) C sf = (pickV (sf.ev F c) (sf.ev F a) (sf.ev F b)).wp (valM C d sf):=rfl
theorem nu (op:UnOp):oneM P F L0 ρ (.un d op x) C sf = (unA op (sf.ev F x)).wp (valM C d sf):=rfl
theorem mm_ext (j:Nat):oneM P F L0 ρ (.ext d x j) C sf = (extV (sf.ev F x) j).wp (valM C d sf):=rfl
theorem mm_addr (off:Nat):oneM P F L0 ρ (.addr d x off) C sf = (addA (sf.ev F x) off).wp (valM C d sf):=rfl
theorem eE (k:Nat):oneM P F L0 ρ (.ixS d x i k) C sf = (ixSV (sf.ev F x) (sf.ev F i) k).wp (valM C d sf):=rfl
theorem bG (k:Option Nat):oneM P F L0 ρ (.load d x k) C sf = (aw sf ρ (sf.ev F x) k).wp (valM C d sf):=rfl
theorem mm_nilck:oneM P F L0 ρ (.nilck d x) C sf = (aO (sf.ev F x)).wp (valM C d sf):=rfl
theorem mm_bsl (k len:Nat) (z:AV) (parts:List (Nat×Opd)):oneM P F L0 ρ (.bsl d k len z parts) C sf = (bslV k len z (parts.map fun p=>(p.1,sf.ev F p.2))).wp (valM C d sf):=rfl
variable (KH:List PK→Prop) (st:St) (post:List (Bool×GI)) (T:St→Sf→Prop) (T1:Sf→Prop)
theorem nX:dM P F L0 ρ [] KH ks sf = KH ks:=rfl
theorem kS (i:AI) (r:List (Bool×GI)):dM P F L0 ρ ((false,⟨none,i⟩)::r) KH ks sf = oneM P F L0 ρ i (iw (dM P F L0 ρ r KH) ks) sf:=rfl
theorem nY (v:AV) (r:List (Bool×GI)):valM (iw (dM P F L0 ρ r KH) ks) d sf v = dM P F L0 ρ r KH (ks++[.val v]) (sf.put d v):=rfl
variable (drop:List Nat) (ks1:List PK)
theorem nZ (f:Opd) (args:List Opd):atM P F L0 ρ st d f args post drop T ks1 sf = lJ P F L0 ρ st d (sf.ev F f) (args.map (sf.ev F)) post drop T ks1 sf:=rfl
theorem jz (ksh:List PK):postM post drop ks1 ksh T1 ks sf = (gw post ksh ks∧finK drop T1 (ks1++ks) sf):=rfl
theorem kT:finK drop T1 ks sf = (ksB drop ks = true∧T1 (cq ks ks (cM ks sf))):=rfl
theorem jA (A:List PK→Prop):holeK drop ks1 A ks = (ksB drop (ks1++ks) = true∧A ks):=rfl
theorem ig:gw [] [] [] = True:=rfl
theorem kU (g:GI) (r:List (Bool×GI)) (a b:PK) (h k:List PK):gw ((false,g)::r) (a::h) (b::k) = (b = a∧gw r h k):=rfl
theorem gT (m:Bool) (lv ll:List Nat) (tl:List GI) (Q:Exit→Sf→St→Prop):fA P F m lv ll tl Q st sf = runI P F m tl (opsK lv ll Q) sf st:=rfl
end
section
variable {P:Program} {F:Nat→FuncId} {L0:List (Nat×List AV)} {ρ st:St}
theorem n0 {pre:List GI} {d:Option Nat} {f:Opd} {args:List Opd} {post:List (Bool×GI)} {sf:Sf} {T:St→Sf→Prop} (ρ:St) (hs:St.sub ρ st) (h:preM P F sf.locs ρ pre (atM P F sf.locs ρ st d f args post (jo pre post) T) [] ⟨sf.regs,bL (jo pre post) sf.locs⟩):drawM P F pre d f args post sf st T:=⟨ρ,hs,h⟩
theorem n4 {q:FuncId} {fs cs args vs:List AV} {d:Option Nat} {post:List (Bool×GI)} {drop:List Nat} {T:St→Sf→Prop} {ks1:List PK} {sf:Sf} {Qc:AV→St→Prop} (hvs:fs++args.map AV.dis++cs = vs) (hent:aK P q = true) (hA:aW P q vs st Qc) (hn:args.all AV.noL = true)
    (hK:dM P F L0 ρ post (holeK drop ks1 (afterM P F L0 ρ post Qc d sf drop T ks1)) [] (sf.put d .any)):lJ P F L0 ρ st d (.fn (.func q) fs cs) args post drop T ks1 sf:=by
  subst hvs
  exact ⟨hn,hent,Qc,hA,hK⟩
end
section
variable (P:Program) (F:Nat→FuncId) (L0:List (Nat×List AV)) (st s:St) (d:Option Nat) (f:Opd) (args:List Opd) (pre post:List GI) (T:St→Sf→Prop) (ks:List PK) (sf:Sf) (v:AV)
theorem drawC_eq:drawC P F pre d f args post sf st T = preM P F sf.locs st pre (atC P F sf.locs st d f args post T) [] sf:=rfl
theorem atC_eq:atC P F L0 st d f args post T ks sf = lM P F L0 st d (sf.ev F f) (args.map (sf.ev F)) post T ks sf:=rfl
theorem endC_eq:endC T s ks sf = (ks.all PK.vs = true∧T s sf):=rfl
theorem vs_val:PK.vs (.val v) = true:=rfl
end
theorem call_c {P:Program} {F:Nat→FuncId} {L0:List (Nat×List AV)} {st:St} {q:FuncId} {fs cs args vs:List AV} {d:Option Nat} {post:List GI} {T:St→Sf→Prop} {ks1:List PK} {sf:Sf} {Qc:AV→St→Prop} (hvs:fs++args.map AV.dis++cs = vs) (hent:aK P q = true) (hA:aW P q vs st Qc) (hn:args.all AV.noL = true)
    (hk:ks1.all PK.vs = true) (hK:∀ v s,Qc v s→preM P F L0 s post (endC T s) [] (sf.put d v)):lM P F L0 st d (.fn (.func q) fs cs) args post T ks1 sf:=by
  subst hvs
  exact ⟨hn,hent,hk,Qc,hA,hK⟩
section
variable (P:Program) (F:Nat→FuncId) (L0:List (Nat×List AV)) (ρ:St) (C:PK→Sf→Prop) (sf:Sf) (d:Option Nat) (K H:List PK→Sf→Prop) (ks:List PK)
theorem g_nil:preG P F L0 ρ [] K ks sf = K ks sf:=rfl
theorem dO (i:AI) (r:List (Bool×GI)):preG P F L0 ρ ((false,⟨none,i⟩)::r) K ks sf = oneM P F L0 ρ i (gx (preG P F L0 ρ r K) ks) sf:=rfl
theorem g_none_t (i:AI) (r:List (Bool×GI)):preG P F L0 ρ ((true,⟨none,i⟩)::r) K ks sf = jp P F ρ i (gx (preG P F L0 ρ r K) ks) sf:=rfl
theorem c7 (t:Nat) (want:Bool) (i:AI) (r:List (Bool×GI)):preG P F L0 ρ ((false,⟨some (t,want),i⟩)::r) K ks sf = dp t want (sf.reg t) (oneM P F L0 ρ i (gx (preG P F L0 ρ r K) ks)) (m5 (preG P F L0 ρ r K) ks i.dst) sf:=rfl
theorem fW (t:Nat) (want:Bool) (i:AI) (r:List (Bool×GI)):preG P F L0 ρ ((true,⟨some (t,want),i⟩)::r) K ks sf = dp t want (sf.reg t) (jp P F ρ i (gx (preG P F L0 ρ r K) ks)) (m5 (preG P F L0 ρ r K) ks i.dst) sf:=rfl
theorem eH (v:AV):valM (gx H ks) d sf v = H ks (sf.put d v):=rfl
theorem ky (v:AV):valG ρ (gx H ks) d sf v = H ks (sf.put d v):=rfl
theorem gU (p:Bool) (f:Opd) (args:List Opd):jp P F ρ (.call d p f args) C sf = lL P ρ d (sf.ev F f) (args.map (sf.ev F)) C sf:=rfl
theorem nv (m:Bool) (st:St) (drop lv ll:List Nat) (tl:List GI) (Q:Exit→Sf→St→Prop):tailG P F m drop lv ll tl Q st [] sf = ∀ s,St.sub st s→st.boxes.length≤s.boxes.length→runI P F m tl (opsK lv ll Q) sf s:=propext ⟨fun h=>h.2,fun h=>⟨rfl,h⟩⟩
end
theorem gV {P:Program} {ρ:St} {q:FuncId} {fs cs args vs:List AV} {d:Option Nat} {sf:Sf} {C:PK→Sf→Prop} {v:AV} (hvs:fs++args.map AV.dis++cs = vs) (hent:aK P q = true) (h:∀ s,St.sub ρ s→ρ.boxes.length≤s.boxes.length→aW P q vs s (Grow v s)) (hn:args.all AV.noL = true) (hK:valG ρ C d sf v):lL P ρ d (.fn (.func q) fs cs) args C sf:=by
  subst hvs
  exact ⟨hn,hent,v,h,hK⟩
theorem j9 {P:Program} {ρ:St} {q:FuncId} {fs cs args vs:List AV} {d:Option Nat} {sf:Sf} {C:PK→Sf→Prop} {v:AV} (hvs:fs++args.map AV.dis++cs = vs) (hent:aK P q = true) (h:∀ s,St.sub ρ s→aM P q vs s v) (hn:args.all AV.noL = true) (hK:valM C d sf v):lI P ρ d (.fn (.func q) fs cs) args C sf:=by
  subst hvs
  exact ⟨hn,hent,v,h,hK⟩
end Go.Fx
/- Numbers of bytes: shifts and the like. -/
namespace Go.Fx
open Go
theorem fC {P:Program} {F:Nat→FuncId} {m:Bool} {b:AC} {lv ll:List Nat} {Q:Exit→Sf→St→Prop} {A:Type} (μ:A→Nat) (S:A→Sf) (T:A→St) (I:A→Prop) (a0:A) {sf:Sf} {st:St} (h0:I a0) (hs:Sf.le (sf.mask lv ll) (S a0)) (ht:st = T a0)
    (step:∀ a,I a→∀ K:Exit→Sf→St→Prop,(∀ a' sf',I a'→μ a' < μ a→Sf.le (sf'.mask lv ll) (S a')→K .normal sf' (T a'))→(∀ id sf st,Q (.exit id) sf st→K (.exit id) sf st)→(∀ sf st,Q .ret sf st→K .ret sf st)→aC P F m b (S a) (T a) K):cG (aC P F m b) lv ll sf st Q :=
  loop_for μ S T I a0 h0 hs ht fun a ha=>step a ha _ (fun a' _ h1 h2 h3=>⟨a',⟨h1,h2⟩,h3,rfl⟩) (fun _ _ _ h=>h) (fun _ _ h=>h)
theorem aP {P:Program} {X:Cx} {f:FuncId} {fn:AFun} {vs:List AV} {st:St} (hmix:P.follows .mixedOrders = true) (hf:bd P X f = some fn) (hX:X.F = id) (hlen:Nat.ble vs.length fn.n = true) {K:AV→St→Prop} (h:∀ Q:AV→St→Prop,(∀ v st',K v st'→Q v st')→aFun P id false fn vs st Q):aW P f vs st K :=
  acalls_id hmix hf hX hlen (h K fun _ _ h=>h)
end Go.Fx
/- Slices of plain cells that are written to and appended to. -/
namespace Go.Fx
open Go
def MB (v:AV) (st:St) (l:List AV):Prop:=(v = .lit (.slice none 0 0)∧l = [])∨∃ id cap r,v = .bs id 1 0 l.length cap∧st.get id = some (l++r)∧l.length≤cap∧cap≤(l++r).length
def Kept (st st':St) (v:AV):Prop:=st.boxes.length≤st'.boxes.length∧∀ id cs,st.get id = some cs→(∀ k o l c,v≠.bs id k o l c)→st'.get id = some cs
theorem Kept.refl (st:St) (v:AV):Kept st st v:=⟨Nat.le_refl _,fun _ _ h _=>h⟩
def NBs (st:St):Prop:=∀ id cs,st.get id = some cs→∀ c ∈ cs,c.NB
theorem NBs.nil:NBs ⟨[]⟩:=fun id cs h=>by simp [St.get] at h
theorem NBs.push {st:St} {cs:List AV} (h:NBs st) (hc:∀ c ∈ cs,c.NB):NBs (st.push (.cells cs)):=by
  intro id ds hg
  by_cases e:id < st.boxes.length
  · rw [gn e] at hg
    exact h id ds hg
  · by_cases e2:id = st.boxes.length
    · subst e2
      rw [d9] at hg
      cases hg
      exact hc
    · have:=cT hg
      rw [cw] at this
      omega
theorem NBs.set {st:St} {id:Nat} {cs:List AV} (h:NBs st) (hid:id < st.boxes.length) (hc:∀ c ∈ cs,c.NB):NBs (st.set id cs):=by
  intro id' ds hg
  by_cases e:id = id'
  · subst e
    rw [cc hid] at hg
    cases hg
    exact hc
  · rw [l0 e] at hg
    exact h id' ds hg
theorem MB.app {v:AV} {st:St} {l new:List AV} {bytes:Nat} {C:AV→St→Prop} (h:MB v st l) (hl:Lits l) (hn:Lits new) (hr:iq (l.length + new.length) bytes = true)
    (hC:∀ v' st',MB v' st' (l++new)→Kept st st' v→(NBs st→NBs st')→C v' st'):appX false 1 bytes v C st new:=by
  rcases h with ⟨rfl,rfl⟩ | ⟨id,cap,r,rfl,hg,h1,h2⟩
  · refine ⟨rfl,by simpa using hr,?_⟩
    split
    · rename_i h
      have:new = []:=by simpa using h
      subst this
      exact hC _ _ (.inl ⟨rfl,rfl⟩) (Kept.refl _ _) id
    · intro c hc
      refine hC _ _ (.inr ⟨st.boxes.length,c,List.replicate (c - new.length) .any,by simp,?_,by simpa using hc,by simp; omega⟩) ⟨by simp [St.push],fun id cs hg _=>by rw [gn (cT hg)]; exact hg⟩ (fun h=>h.push fun x hx=>?_)
      · rw [hn.cellsD]
        simp only [List.nil_append,Nat.mul_one]
        exact d9 st _
      · rw [hn.cellsD] at hx
        simp only [List.nil_append,Nat.mul_one,List.mem_append] at hx
        rcases hx with hx | hx
        · exact hn.nb x hx
        · rw [List.eq_of_mem_replicate hx]; exact .any
  · refine ⟨rfl,rfl,hr,?_⟩
    rw [hg]
    show (Res.ok _).wp _
    rw [wp_ok,hn.cellsD]
    have hid:=cT hg
    split
    · rename_i hc
      refine ⟨by omega,hC _ _ (.inr ⟨id,cap,r.drop new.length,by simp,?_,by simpa using hc,?_⟩) ⟨by simp [St.set],fun id' cs hg' hne=>?_⟩ (fun h=>h.set hid ?_)⟩
      · rw [cc hid,Nat.zero_add,Nat.mul_one,setAt_at rfl (by simp at h2; omega)]
        simp
      · simp at h2 ⊢; omega
      · rw [l0 (fun e=>hne _ _ _ _ (by rw [e])),hg']
      · rw [Nat.zero_add,Nat.mul_one,setAt_at rfl (by simp at h2; omega)]
        have h3:=h id _ hg
        intro x hx
        simp only [List.mem_append] at hx
        rcases hx with hx | hx | hx
        · exact hl.nb x hx
        · exact hn.nb x hx
        · exact h3 x (List.mem_append_right _ (List.mem_of_mem_drop hx))
    · rename_i hc
      have e:List.map AV.own1 (List.take (l.length * 1) (List.drop 0 (l++r))) = l:=by simp [hl.own]
      refine ⟨by simp,fun c hc=>hC _ _ (.inr ⟨st.boxes.length,c,List.replicate (c - (l.length + new.length)) .any,by simp,?_,by simpa using hc,by simp; omega⟩) ⟨by simp [St.push],fun id' cs hg' _=>by rw [gn (cT hg')]; exact hg'⟩ (fun h=>h.push fun x hx=>?_)⟩
      · rw [e]
        simp only [Nat.mul_one]
        exact d9 st _
      · rw [e] at hx
        simp only [List.mem_append] at hx
        rcases hx with (hx | hx) | hx
        · exact hl.nb x hx
        · exact hn.nb x hx
        · rw [List.eq_of_mem_replicate hx]; exact .any
end Go.Fx
/- Functions that keep nothing may be handed what lies in boxes. -/
namespace Go.Fx
open Go
def litB1:AV→Bool
  | .lit _=>true
  | _=>false
end Go.Fx
/- Maps with plain keys, as lists; boxes that others are left alone by. -/
namespace Go.Fx
open Go
section
variable {β:Type}
def fD (t:Int):List (Int×β)→Nat→Option (Nat×β)
  | [],_=>none
  | (k,b)::r,i=>if t = k then some (i,b) else fD t r (i + 1)
def bw (t:Int):List (Int×β)→Option β
  | []=>none
  | (k,b)::r=>if t = k then some b else bw t r
def updP (t:Int) (b:β):List (Int×β)→List (Int×β)
  | []=>[(t,b)]
  | (k,c)::r=>if t = k then (t,b)::r else (k,c)::updP t b r
def delP (t:Int):List (Int×β)→List (Int×β)
  | []=>[]
  | (k,c)::r=>if t = k then r else (k,c)::delP t r
def bW (m:List (Int×β)):List Int:=m.map Prod.fst
theorem fj (t:Int):∀ (m:List (Int×β)) (i:Nat),(fD t m i).map Prod.snd = bw t m
  | [],_=>rfl
  | (k, b) :: r, i => by
    simp only [fD,bw]; split; · rfl
    · exact fj t r (i + 1)
theorem ka {γ:Type} (e:Int×β→γ) (t:Int) (b:β):∀ (m:List (Int×β)) (i:Nat),match fD t m i with
    | some (j,_)=>i≤j∧(m.map e).set (j - i) (e (t,b)) = (updP t b m).map e∧(m.map e).eraseIdx (j - i) = (delP t m).map e∧j - i < m.length
    | none=>m.map e++[e (t,b)] = (updP t b m).map e∧delP t m = m
  | [],_=>by simp [fD,updP,delP]
  | (k, c) :: r, i => by
    simp only [fD]
    by_cases h:t = k
    · subst h
      simp [updP,delP]
    · rw [if_neg h]
      have ih:=ka e t b r (i + 1)
      cases hf:fD t r (i + 1) with
      | none=>rw [hf] at ih; simp only at ih; simp [updP,delP,h,ih.1,ih.2]
      | some p =>
        obtain ⟨j,c'⟩:=p
        rw [hf] at ih
        simp only at ih ⊢
        obtain ⟨h1,h2,h3,h4⟩:=ih
        obtain ⟨q,rfl⟩:∃ q,j = i + 1 + q:=⟨j - (i + 1),by omega⟩
        rw [show i + 1 + q - (i + 1) = q by omega] at h2 h3 h4
        rw [show i + 1 + q - i = q + 1 by omega]
        refine ⟨by omega,?_,?_,by simp; omega⟩
        · simp [updP,h,h2]
        · simp [delP,h,h3]
theorem dP (t t':Int) (b:β):∀ m:List (Int×β),bw t' (updP t b m) = if t' = t then some b else bw t' m
  | []=>by simp only [updP,bw]
  | (k, c) :: r => by
    simp only [updP]
    by_cases h:t = k
    · subst h
      rw [if_pos rfl]
      simp only [bw]
      split <;> rfl
    · rw [if_neg h]
      simp only [bw]
      rw [dP t t' b r]
      by_cases h1:t' = k
      · subst h1
        have:¬ t' = t:=fun e=>h e.symm
        simp [this]
      · simp [h1]
theorem ii {t:Int}:∀ {m:List (Int×β)},t ∉ bW m→bw t m = none
  | [],_=>rfl
  | (k, c) :: r, h => by
    simp only [bW,List.map_cons,List.mem_cons,not_or] at h
    simp only [bw]
    rw [if_neg h.1]
    exact ii h.2
theorem jB (t t':Int):∀ {m:List (Int×β)},(bW m).Nodup→bw t' (delP t m) = if t' = t then none else bw t' m
  | [],_=>by simp [delP,bw]
  | (k, c) :: r, hn => by
    simp only [bW,List.map_cons,List.nodup_cons] at hn
    simp only [delP]
    by_cases h:t = k
    · subst h
      rw [if_pos rfl]
      simp only [bw]
      by_cases h1:t' = t
      · subst h1; rw [if_pos rfl]; exact ii hn.1
      · rw [if_neg h1,if_neg h1]
    · rw [if_neg h]
      simp only [bw]
      by_cases h1:t' = k
      · subst h1
        have:¬ t' = t:=fun e=>h e.symm
        simp [this]
      · rw [if_neg h1,if_neg h1]; exact jB t t' hn.2
theorem eQ (t:Int) (b:β):∀ m:List (Int×β),(updP t b m).length = if (bw t m).isSome then m.length else m.length + 1
  | []=>by simp [updP,bw]
  | (k, c) :: r => by
    simp only [updP,bw]
    by_cases h:t = k
    · simp [h]
    · simp only [if_neg h,List.length_cons,eQ t b r]
      split <;> rfl
theorem n5 (t:Int):∀ m:List (Int×β),(delP t m).length = if (bw t m).isSome then m.length - 1 else m.length
  | []=>by simp [delP,bw]
  | (k, c) :: r => by
    simp only [delP,bw]
    by_cases h:t = k
    · simp [h]
    · simp only [if_neg h,List.length_cons,n5 t r]
      split
      · rename_i q
        have:r≠[]:=by rintro rfl; simp [bw] at q
        have:=List.length_pos_iff.2 this
        omega
      · rfl
theorem keys_upd (t:Int) (b:β):∀ m:List (Int×β),bW (updP t b m) = if (bw t m).isSome then bW m else bW m++[t]
  | []=>by simp [updP,bw,bW]
  | (k, c) :: r => by
    simp only [updP,bw]
    by_cases h:t = k
    · simp [h,bW]
    · have:=keys_upd t b r
      simp only [bW] at this
      simp only [if_neg h,bW,List.map_cons,this]
      split <;> rfl
theorem jC (t x:Int):∀ {m:List (Int×β)},x ∈ bW (delP t m)→x ∈ bW m
  | [],h=>h
  | (k, c) :: r, h => by
    simp only [delP] at h
    simp only [bW,List.map_cons,List.mem_cons]
    split at h
    · exact .inr h
    · simp only [bW,List.map_cons,List.mem_cons] at h
      rcases h with h | h
      · exact .inl h
      · exact .inr (jC t x h)
theorem nw {t:Int} {b:β} {m:List (Int×β)} (h:(bW m).Nodup):(bW (updP t b m)).Nodup:=by
  rw [keys_upd]
  split
  · exact h
  · rename_i hs
    refine List.nodup_append.2 ⟨h,by simp,?_⟩
    intro x hx y hy
    simp only [List.mem_singleton] at hy
    subst hy
    rintro rfl
    have:∀ m:List (Int×β),x ∈ bW m→(bw x m).isSome = true:=by
      intro m
      induction m with
      | nil=>intro h; simp [bW] at h
      | cons p r ih =>
        obtain ⟨k,c⟩:=p
        intro h
        simp only [bW,List.map_cons,List.mem_cons] at h
        simp only [bw]
        split
        · rfl
        · rename_i hne
          rcases h with h | h
          · exact absurd h hne
          · exact ih h
    exact hs (this m hx)
theorem nx {t:Int}:∀ {m:List (Int×β)},(bW m).Nodup→(bW (delP t m)).Nodup
  | [],h=>h
  | (k, c) :: r, h => by
    simp only [bW,List.map_cons,List.nodup_cons] at h
    simp only [delP]
    split
    · exact h.2
    · simp only [bW,List.map_cons,List.nodup_cons]
      exact ⟨fun e=>h.1 (jC t k e),nx h.2⟩
def encE (k:IntKind) (ev:β→AV) (p:Int×β):AV×AV:=(.lit (.int k p.1),ev p.2)
def encM (k:IntKind) (ev:β→AV) (m:List (Int×β)):List (AV×AV):=m.map (encE k ev)
theorem ij (k:IntKind) (ev:β→AV) (t:Int):∀ (m:List (Int×β)) (i:Nat),dn (.lit (.int k t)) (encM k ev m) i = .ok ((fD t m i).map fun p=>(p.1,ev p.2))
  | [],_=>rfl
  | (q, b) :: r, i => by
    have ih:=ij k ev t r (i + 1)
    simp only [encM,List.map_cons,encE,dn,eY,if_true,fD] at ih ⊢
    by_cases h:t = q
    · subst h; simp
    · have:(t == q) = false:=by simpa using h
      simp only [this,if_neg h,Bool.false_eq_true,if_false]
      exact ih
end
section
variable {st st':St} {id q:Nat}
theorem getM_lt {es:List (AV×AV)} (h:st.getM id = some es):id < st.boxes.length:=by
  unfold St.getM at h
  split at h
  · rename_i hb
    exact (List.getElem?_eq_some_iff.1 hb).1
  · cases h
theorem iU (h:st'.boxes[id]? = st.boxes[id]?):st'.get id = st.get id:=by unfold St.get; rw [h]
theorem getM_at (h:st'.boxes[id]? = st.boxes[id]?):st'.getM id = st.getM id:=by unfold St.getM; rw [h]
theorem getB_at (h:st'.boxes[id]? = st.boxes[id]?):st'.getB id = st.getB id:=by unfold St.getB; rw [h]
theorem l5 {cs:List AV} (h:id≠q):(st.set q cs).boxes[id]? = st.boxes[id]?:=by simp [St.set,List.getElem?_set_ne (fun e=>h e.symm)]
theorem n6 {es:List (AV×AV)} {bs:List Nat} {c:Nat} (h:id≠q):(st.setM q es bs c).boxes[id]? = st.boxes[id]?:=by simp [St.setM,List.getElem?_set_ne (fun e=>h e.symm)]
theorem eR {b:Box} (h:id < st.boxes.length):(st.push b).boxes[id]? = st.boxes[id]?:=by simp [St.push,List.getElem?_append_left h]
theorem kb {es:List (AV×AV)} {bs:List Nat} {c:Nat} (h:id < st.boxes.length):(st.setM id es bs c).getM id = some es:=by simp [St.setM,St.getM,h]
theorem dD {es:List (AV×AV)} {bs:List Nat} {c:Nat} (h:id < st.boxes.length):(st.setM id es bs c).getB id = (bs,c):=by simp [St.setM,St.getB,h]
theorem get_mt {es:List (AV×AV)} (h:st.getM id = some es):st.get id = none:=by
  unfold St.getM at h; unfold St.get
  split at h
  · rename_i hb; simp [hb]
  · cases h
end
def Oth (st st':St) (S:List Nat):Prop:=st'.boxes.length = st.boxes.length∧∀ id,id ∉ S→st'.boxes[id]? = st.boxes[id]?
theorem Oth.refl (st:St) (S:List Nat):Oth st st S:=⟨rfl,fun _ _=>rfl⟩
theorem Oth.trans {a b c:St} {S:List Nat} (h:Oth a b S) (k:Oth b c S):Oth a c S:=⟨k.1.trans h.1,fun id hid=>(k.2 id hid).trans (h.2 id hid)⟩
theorem Oth.mono {a b:St} {S S':List Nat} (h:Oth a b S) (hs:∀ x ∈ S,x ∈ S'):Oth a b S':=⟨h.1,fun id hid=>h.2 id fun e=>hid (hs id e)⟩
theorem Oth.set (st:St) (q:Nat) (cs:List AV) {S:List Nat} (h:q ∈ S):Oth st (st.set q cs) S:=⟨len_set ..,fun id hid=>l5 fun e=>hid (e ▸ h)⟩
theorem Oth.get {a b:St} {S:List Nat} (h:Oth a b S) {id:Nat} (hid:id ∉ S):b.get id = a.get id:=iU (h.2 id hid)
section
variable {β:Type}
structure MapIs (st:St) (id:Nat) (k:IntKind) (ev:β→AV) (m:List (Int×β)):Prop where
  get:st.getM id = some (encM k ev m)
  nd:(bW m).Nodup
  bl:(st.getB id).1.length = m.length
  bn:(st.getB id).1.Nodup
  bc:∀ b ∈ (st.getB id).1,b < (st.getB id).2
variable {st st':St} {id:Nat} {k:IntKind} {ev:β→AV} {m:List (Int×β)}
theorem MapIs.lt (h:MapIs st id k ev m):id < st.boxes.length:=getM_lt h.get
theorem MapIs.at (h:MapIs st id k ev m) (hb:st'.boxes[id]? = st.boxes[id]?):MapIs st' id k ev m:=by
  refine ⟨(getM_at hb).trans h.get,h.nd,?_,?_,?_⟩ <;> rw [getB_at hb]
  · exact h.bl
  · exact h.bn
  · exact h.bc
theorem MapIs.oth {S:List Nat} (h:MapIs st id k ev m) (ho:Oth st st' S) (hid:id ∉ S):MapIs st' id k ev m:=h.at (ho.2 id hid)
theorem MapIs.set (h:MapIs st id k ev m) {q:Nat} {cs:List AV} (hq:id≠q):MapIs (st.set q cs) id k ev m:=h.at (l5 hq)
theorem MapIs.push (h:MapIs st id k ev m) (b:Box):MapIs (st.push b) id k ev m:=h.at (eR h.lt)
theorem MapIs.ne (h:MapIs st id k ev m) {q:Nat} {cs:List AV} (hq:st.get q = some cs):id≠q:=by
  rintro rfl
  rw [get_mt h.get] at hq; cases hq
theorem dE (h:MapIs st id k ev m) {z:AV} {ok:Bool} {t:Int}:cN (.int k) z ok st (.map id) (.lit (.int k t)) = .ok (match bw t m with
    | some b=>if ok then .tup [(ev b).dis,.lit (.bool true)] else (ev b).dis
    | none=>if ok then .tup [z,.lit (.bool false)] else z):=by
  have hk:keyI (.int k) (.lit (.int k t)) = true:=by simp [keyI]
  unfold cN
  rw [if_pos hk]
  simp only [h.get,Res.ofOpt,Res.bind,ij]
  rw [← fj t m 0]
  cases fD t m 0 <;> rfl
theorem fk (h:MapIs st id k ev m) {t:Int} {b:β} {x:AV} (hx:x.solid = true) (hd:x.dis = ev b) {K:Sf→St→Prop} {sf:Sf}
    (hK:∀ st',MapIs st' id k ev (updP t b m)→Oth st st' [id]→K sf st'):updX false (.int k) (.map id) (.lit (.int k t)) x K sf st:=by
  refine ⟨by simp [keyI],rfl,hx,?_⟩
  have hlt:=h.lt
  simp only [h.get,Res.ofOpt,Res.wp,ij,hd]
  have hu:=ka (encE k ev) t b m 0
  cases hf:fD t m 0 with
  | none =>
    rw [hf] at hu
    simp only [Option.map_none,St.updM,updA]
    have hno:bw t m = none:=by rw [← fj t m 0,hf]; rfl
    refine hK _ ⟨?_,nw h.nd,?_,?_,?_⟩ ⟨by simp [St.setM],fun q hq=>n6 (by simpa using hq)⟩
    · rw [kb hlt]; exact congrArg some hu.1
    · rw [dD hlt,eQ,hno]; simp [h.bl]
    · rw [dD hlt]
      refine List.nodup_append.2 ⟨h.bn,by simp,fun x hx y hy e=>?_⟩
      simp only [List.mem_singleton] at hy
      subst hy; subst e
      exact Nat.lt_irrefl _ (h.bc _ hx)
    · rw [dD hlt]
      intro b hb
      simp only [List.mem_append,List.mem_singleton] at hb
      rcases hb with hb | rfl
      · have:=h.bc b hb; simp only; omega
      · simp
  | some p =>
    obtain ⟨j,c⟩:=p
    rw [hf] at hu
    simp only [Nat.sub_zero] at hu
    simp only [Option.map_some,St.updM,updA]
    have hyes:(bw t m).isSome = true:=by rw [← fj t m 0,hf]; rfl
    refine hK _ ⟨?_,nw h.nd,?_,?_,?_⟩ ⟨by simp [St.setM],fun q hq=>n6 (by simpa using hq)⟩
    · rw [kb hlt]; exact congrArg some hu.2.1
    · rw [dD hlt,eQ,if_pos hyes]; exact h.bl
    · rw [dD hlt]; exact h.bn
    · rw [dD hlt]; exact h.bc
theorem jD (h:MapIs st id k ev m) {t:Int} {K:Sf→St→Prop} {sf:Sf}
    (hK:∀ st',MapIs st' id k ev (delP t m)→Oth st st' [id]→K sf st'):delX false (.int k) (.map id) (.lit (.int k t)) K sf st:=by
  refine ⟨by simp [keyI],rfl,?_⟩
  have hlt:=h.lt
  simp only [h.get,Res.ofOpt,Res.wp,ij]
  cases hf:fD t m 0 with
  | none =>
    have hu:delP t m = m:=by
      have:∀ (m:List (Int×β)) (i:Nat),fD t m i = none→delP t m = m:=by
        intro m
        induction m with
        | nil=>intro i _; rfl
        | cons p r ih =>
          obtain ⟨k,c⟩:=p
          intro i h
          simp only [fD] at h
          simp only [delP]
          split at h
          · cases h
          · rename_i hne; rw [if_neg hne,ih (i + 1) h]
      exact this m 0 hf
    simp only [Option.map_none]
    exact hK _ (by rw [hu]; exact h) (Oth.refl _ _)
  | some p =>
    obtain ⟨j,c⟩:=p
    have hu:=ka (encE k ev) t c m 0
    rw [hf] at hu
    simp only [Nat.sub_zero] at hu
    simp only [Option.map_some,St.delM]
    have hyes:(bw t m).isSome = true:=by rw [← fj t m 0,hf]; rfl
    refine hK _ ⟨?_,nx h.nd,?_,?_,?_⟩ ⟨by simp [St.setM],fun q hq=>n6 (by simpa using hq)⟩
    · rw [kb hlt]; exact congrArg some hu.2.2.1
    · rw [dD hlt,n5,if_pos hyes]
      simp only [List.length_eraseIdx,h.bl,if_pos hu.2.2.2]
    · rw [dD hlt]; exact h.bn.sublist (List.eraseIdx_sublist ..)
    · rw [dD hlt]; exact fun b hb=>h.bc b (List.mem_of_mem_eraseIdx hb)
theorem l6 (h:MapIs st id k ev m):lenI .mp st (.map id) = .ok (.lit (.int .i64 m.length)):=by
  simp only [lenI,h.get,Res.ofOpt,Res.bind,encM,List.length_map]
theorem MapIs.new (st:St) (k:IntKind) (ev:β→AV):MapIs (st.push (.mp [] [] 0)) st.boxes.length k ev []:=by
  refine ⟨getM_push ..,by simp [bW],?_,?_,?_⟩ <;> rw [getB_push] <;> simp
end
theorem aG {P:Program} {X:Cx} {f:FuncId} {fn:AFun} {vs:List AV} {st:St} (hmix:P.follows .mixedOrders = true) (hf:bd P X f = some fn) (hX:X.F = id) (hlen:Nat.ble vs.length fn.n = true) {v0:AV} (h:∀ Q:AV→St→Prop,(∀ st',Q v0 st')→aFun P id true fn vs st Q):aM P f vs st v0:=by
  refine pcalls_of hmix hf (Nat.le_of_ble_eq_true hlen) ?_
  rw [hX]; exact h _ fun _=>rfl
end Go.Fx
/- Linked nodes in a map: a queue (plain lists; no program in sight). -/
namespace Go.Fx
open Go
abbrev Nd:=Int×Nat×Nat
abbrev Qu:=List (Nat×Int)
def bq:Qu→Nat→Nat
  | [],h=>h
  | (x,_)::_,_=>x
def bp:Nat→Qu→Nat
  | p,[]=>p
  | _,(t,_)::r=>bp t r
def bJ:Nat→Qu→Nat→Nat→Option Nd
  | _,[],_,_=>none
  | p,(u,v)::r,h,t=>if t = u then some (v,p,bq r h) else bJ u r h t
def bz (L:Qu):List Nat:=L.map Prod.fst
theorem fX (B:Qu) (h t:Nat):∀ (A:Qu) (p:Nat),bJ p (A++B) h t = match bJ p A (bq B h) t with | some x=>some x | none=>bJ (bp p A) B h t
  | [],p=>rfl
  | (u, v) :: A, p => by
    simp only [List.cons_append,bJ,bp]
    split
    · cases A <;> rfl
    · exact fX B h t A u
theorem c5 {h t:Nat}:∀ {L:Qu} {p:Nat},t ∉ bz L→bJ p L h t = none
  | [],_,_=>rfl
  | (u, v) :: r, p, hn => by
    simp only [bz,List.map_cons,List.mem_cons,not_or] at hn
    simp only [bJ]
    rw [if_neg hn.1]
    exact c5 hn.2
theorem ez:∀ {L:Qu} {p:Nat},L≠[]→bp p L ∈ bz L
  | [(t,v)],p,_=>by simp [bp,bz]
  | (t, v) :: y :: r, p, _ => by
    have:=ez (L:=y::r) (p:=t) (by simp)
    simp only [bp,bz,List.map_cons,List.mem_cons] at this ⊢
    exact .inr this
theorem fY (B:Qu):∀ (A:Qu) (p:Nat),bp p (A++B) = bp (bp p A) B
  | [],_=>rfl
  | (t,v)::A,p=>fY B A t
theorem last_ne {L:Qu} {p p':Nat} (h:L≠[]):bp p L = bp p' L:=by
  cases L with
  | nil=>exact absurd rfl h
  | cons x r=>rfl
theorem n7 {h h' t:Nat}:∀ {L:Qu} {p:Nat},(bz L).Nodup→L≠[]→bJ p L h' t = if t = bp p L then (bJ p L h t).map (fun x=>(x.1,x.2.1,h')) else bJ p L h t
  | [(u, v)], p, _, _ => by
    simp only [bJ,bp,bq]
    by_cases e:t = u
    · simp [e]
    · simp [e]
  | (u, v) :: (u2, v2) :: r, p, hn, _ => by
    have ih:=n7 (h:=h) (h':=h') (t:=t) (L:=(u2,v2)::r) (p:=u) (List.nodup_cons.1 hn).2 (by simp)
    have hl:=ez (L:=(u2,v2)::r) (p:=u) (by simp)
    have hne:u≠bp u ((u2,v2)::r):=fun e=>(List.nodup_cons.1 hn).1 (by rw [e]; exact hl)
    have e0:∀ q,bJ p ((u,v)::(u2,v2)::r) q t = if t = u then some (v,p,u2) else bJ u ((u2,v2)::r) q t:=fun q=>rfl
    rw [e0,e0,show bp p ((u,v)::(u2,v2)::r) = bp u ((u2,v2)::r) from rfl]
    by_cases e:t = u
    · subst e; rw [if_pos rfl,if_pos rfl,if_neg hne]
    · rw [if_neg e,if_neg e]; exact ih
theorem nodeA_p {h t p p':Nat} {u:Nat} {v:Int} {r:Qu} (hn:(bz ((u,v)::r)).Nodup):bJ p' ((u,v)::r) h t = if t = u then (bJ p ((u,v)::r) h t).map (fun x=>(x.1,p',x.2.2)) else bJ p ((u,v)::r) h t:=by
  simp only [bJ]
  by_cases e:t = u
  · simp [e]
  · simp [e]
theorem nodeA_push {L:Qu} {u:Nat} {v:Int} {t:Nat} (hn:(bz L).Nodup) (hu:u ∉ bz L) (hL:L≠[]) :
    bJ 0 (L++[(u,v)]) 0 t = if t = bp 0 L then (bJ 0 L 0 t).map (fun x=>(x.1,x.2.1,u)) else if t = u then some (v,bp 0 L,0) else bJ 0 L 0 t:=by
  rw [fX]
  simp only [bq,bJ]
  have hl:=ez (p:=0) hL
  rw [n7 (h:=0) hn hL]
  by_cases e:t = bp 0 L
  · rw [if_pos e,if_pos e]
    cases hx:bJ 0 L 0 t with
    | some x=>rfl
    | none =>
      exfalso
      have:∀ (L:Qu) (p:Nat),t ∈ bz L→bJ p L 0 t≠none:=by
        intro L
        induction L with
        | nil=>intro p h; simp [bz] at h
        | cons y r ih =>
          obtain ⟨a,b⟩:=y
          intro p h
          simp only [bJ]
          split
          · simp
          · rename_i hne
            simp only [bz,List.map_cons,List.mem_cons] at h
            exact ih a (h.resolve_left hne)
      exact this L 0 (e ▸ hl) hx
  · rw [if_neg e,if_neg e]
    by_cases e2:t = u
    · subst e2; rw [c5 hu]
      try simp
    · simp only [if_neg e2]
      cases bJ 0 L 0 t <;> rfl
theorem nodeA_del {A B:Qu} {u:Nat} {v:Int} {t:Nat} (hn:(bz (A++(u,v)::B)).Nodup) :
    bJ 0 (A++B) 0 t = if t = u then none else
      if A≠[]∧t = bp 0 A then (bJ 0 (A++(u,v)::B) 0 t).map (fun x=>(x.1,x.2.1,bq B 0)) else
      if B≠[]∧t = bq B 0 then (bJ 0 (A++(u,v)::B) 0 t).map (fun x=>(x.1,bp 0 A,x.2.2)) else bJ 0 (A++(u,v)::B) 0 t:=by
  have h1:(bz A).Nodup∧(bz ((u,v)::B)).Nodup∧∀ x ∈ bz A,∀ y ∈ bz ((u,v)::B),x≠y:=by
    simp only [bz,List.map_append] at hn
    exact List.nodup_append.1 hn
  obtain ⟨hA,hB0,hAB⟩:=h1
  have hB:=List.nodup_cons.1 hB0
  have hu:u ∉ bz A:=fun e=>hAB u e u (by simp [bz]) rfl
  rw [fX,fX,show bq ((u,v)::B) 0 = u from rfl]
  by_cases e:t = u
  · subst e
    rw [if_pos rfl,c5 hu]
    exact c5 hB.1
  · rw [if_neg e]
    have e1:bJ (bp 0 A) ((u,v)::B) 0 t = bJ u B 0 t:=by simp only [bJ]; rw [if_neg e]
    rw [e1]
    by_cases hAe:A = []
    · subst hAe
      simp only [bJ,bp,ne_eq,not_true_eq_false,false_and,if_false]
      cases B with
      | nil=>simp [bJ]
      | cons y r =>
        obtain ⟨w,z⟩:=y
        rw [nodeA_p (p:=u) (p':=0) hB.2]
        simp [show bq ((w,z)::r) 0 = w from rfl]
    · rw [n7 (h:=u) (h':=bq B 0) hA hAe]
      by_cases e2:t = bp 0 A
      · have hin:t ∈ bz A:=e2 ▸ ez hAe
        rw [if_pos e2,if_pos ⟨hAe,e2⟩]
        cases hx:bJ 0 A u t with
        | some x=>rfl
        | none =>
          have hnb:t ∉ bz B:=fun hb=>hAB t hin t (by simp only [bz,List.map_cons,List.mem_cons]; exact .inr hb) rfl
          simp only [Option.map_none,c5 hnb]
      · rw [if_neg e2,if_neg (fun q=>e2 q.2)]
        cases B with
        | nil=>simp [bJ]
        | cons y r =>
          obtain ⟨w,z⟩:=y
          rw [nodeA_p (p:=u) (p':=bp 0 A) hB.2]
          simp only [show bq ((w,z)::r) 0 = w from rfl,ne_eq,reduceCtorEq,not_false_eq_true,true_and]
          by_cases e3:t = w
          · have hna:t ∉ bz A:=fun ha=>hAB t ha t (by simp [bz,e3]) rfl
            rw [if_pos e3,if_pos e3,c5 hna]
          · rw [if_neg e3,if_neg e3]
theorem nodeA_at {A B:Qu} {u:Nat} {v:Int} (hu:u ∉ bz A):bJ 0 (A++(u,v)::B) 0 u = some (v,bp 0 A,bq B 0):=by
  rw [fX,c5 hu]
  simp [bJ]
def ndAV (x:Nd):AV:=.agg [.lit (.int .i64 x.1),.lit (.int .u64 (x.2.1:Nat)),.lit (.int .u64 (x.2.2:Nat))]
theorem ndAV_dis (x:Nd):(ndAV x).dis = ndAV x:=rfl
structure QIs (st:St) (q mid:Nat) (L:Qu) (g:Nat):Prop where
  get:st.get q = some [.lit (.int .u64 (bq L 0:Nat)),.lit (.int .u64 (bp 0 L:Nat)),.lit (.int .u64 (g:Nat)),.map mid]
  mp:∃ m,MapIs st mid .u64 ndAV m∧(∀ t:Nat,bw t m = bJ 0 L 0 t)∧m.length = L.length
  srt:(bz L).Pairwise (· < ·)
  pos:∀ t ∈ bz L,0 < t∧t≤g
theorem QIs.nd {st:St} {q mid g:Nat} {L:Qu} (h:QIs st q mid L g):(bz L).Nodup:=h.srt.imp fun h=>Nat.ne_of_lt h
theorem QIs.ne {st:St} {q mid g:Nat} {L:Qu} (h:QIs st q mid L g):mid≠q:=by
  obtain ⟨m,hm,_⟩:=h.mp
  exact hm.ne h.get
theorem QIs.ltq {st:St} {q mid g:Nat} {L:Qu} (h:QIs st q mid L g):q < st.boxes.length:=cT h.get
theorem QIs.ltm {st:St} {q mid g:Nat} {L:Qu} (h:QIs st q mid L g):mid < st.boxes.length:=by
  obtain ⟨m,hm,_⟩:=h.mp
  exact hm.lt
theorem QIs.at {st st':St} {q mid g:Nat} {L:Qu} (h:QIs st q mid L g) (h1:st'.boxes[q]? = st.boxes[q]?) (h2:st'.boxes[mid]? = st.boxes[mid]?):QIs st' q mid L g:=by
  obtain ⟨m,hm,h3,h4⟩:=h.mp
  exact ⟨(iU h1).trans h.get,⟨m,hm.at h2,h3,h4⟩,h.srt,h.pos⟩
theorem QIs.oth {st st':St} {q mid g:Nat} {L:Qu} {S:List Nat} (h:QIs st q mid L g) (ho:Oth st st' S) (h1:q ∉ S) (h2:mid ∉ S):QIs st' q mid L g:=h.at (ho.2 _ h1) (ho.2 _ h2)
theorem QIs.nil_iff {st:St} {q mid g:Nat} {L:Qu} (h:QIs st q mid L g):(bq L 0 = 0↔L = [])∧(bp 0 L = 0↔L = []):=by
  cases L with
  | nil=>simp [bq,bp]
  | cons x r =>
    obtain ⟨t,v⟩:=x
    have h1:=h.pos t (by simp [bz])
    have h2:=h.pos _ (ez (L:=(t,v)::r) (p:=0) (by simp))
    simp only [bq,reduceCtorEq,iff_false]
    omega
theorem fm {t:Nat}:∀ {L:Qu} {p:Nat},t ∈ bz L→∃ x,bJ p L 0 t = some x
  | (u, v) :: r, p, h => by
    simp only [bJ]
    split
    · exact ⟨_,rfl⟩
    · rename_i hne
      simp only [bz,List.map_cons,List.mem_cons] at h
      exact fm (h.resolve_left hne)
theorem dh (A B:Qu):bz (A++B) = bz A++bz B:=by simp [bz]
theorem QIs.push {st st':St} {q mid g:Nat} {L:Qu} {v:Int} (h:QIs st q mid L g) {m':List (Int×Nd)} (hg:st'.get q = some [.lit (.int .u64 (bq (L++[(g + 1,v)]) 0:Nat)),.lit (.int .u64 ((g + 1:Nat))),.lit (.int .u64 ((g + 1:Nat))),.map mid])
    (hm:MapIs st' mid .u64 ndAV m') (hl:∀ t:Nat,bw t m' = bJ 0 (L++[(g + 1,v)]) 0 t) (hn:m'.length = L.length + 1):QIs st' q mid (L++[(g + 1,v)]) (g + 1):=by
  refine ⟨by rw [fY]; exact hg,⟨m',hm,hl,by simp [hn]⟩,?_,fun t ht=>?_⟩
  · rw [dh]
    refine List.pairwise_append.2 ⟨h.srt,by simp [bz],fun x hx y hy=>?_⟩
    simp only [bz,List.map_cons,List.map_nil,List.mem_singleton] at hy
    have:=(h.pos x hx).2
    omega
  · rw [dh] at ht
    rcases List.mem_append.1 ht with ht | ht
    · have:=h.pos t ht; omega
    · simp only [bz,List.map_cons,List.map_nil,List.mem_singleton] at ht
      omega
theorem QIs.fresh {st:St} {q mid g:Nat} {L:Qu} (h:QIs st q mid L g):g + 1 ∉ bz L:=fun e=>by have:=(h.pos _ e).2; omega
theorem QIs.del {st st':St} {q mid g:Nat} {A B:Qu} {t:Nat} {v:Int} (h:QIs st q mid (A++(t,v)::B) g) {m':List (Int×Nd)} (hg:st'.get q = some [.lit (.int .u64 (bq (A++B) 0:Nat)),.lit (.int .u64 (bp 0 (A++B):Nat)),.lit (.int .u64 (g:Nat)),.map mid])
    (hm:MapIs st' mid .u64 ndAV m') (hl:∀ t:Nat,bw t m' = bJ 0 (A++B) 0 t) (hn:m'.length = (A++B).length):QIs st' q mid (A++B) g:=by
  have hsub:(bz (A++B)).Sublist (bz (A++(t,v)::B)):=by
    simp only [dh]
    exact List.Sublist.append (List.Sublist.refl _) (List.sublist_cons_self _ _)
  exact ⟨hg,⟨m',hm,hl,hn⟩,h.srt.sublist hsub,fun x hx=>h.pos x (hsub.subset hx)⟩
end Go.Fx
/- A channel's state: plain lists, and where they lie. -/
namespace Go.Fx
open Go
abbrev W3:=Nat×Int×Int
structure ChP where
  closed:Bool
  cap:Nat
  buf:List Int
  S:List W3
  V:List W3
  g0:Nat
  g1:Nat
def qOf (l:List W3):Qu:=l.map fun x=>(x.1,x.2.1)
def wEnt (d:Int) (l:List W3):List (Int×(Int×Int×Nat)):=l.map fun x=>(x.2.1,(d,x.2.2,x.1))
def entC (S V:List W3):List (Int×(Int×Int×Nat)):=wEnt 0 S++wEnt 1 V
def wtAV (x:Int×Int×Nat):AV:=.agg [.lit (.int .i64 x.1),.lit (.int .i64 x.2.1),.lit (.int .u64 (x.2.2:Nat))]
def ints (l:List Int):List AV:=l.map fun v=>.lit (.int .i64 v)
theorem ints_len (l:List Int):(ints l).length = l.length:=by simp [ints]
theorem ints_app (l k:List Int):ints (l++k) = ints l++ints k:=by simp [ints]
theorem go {β:Type} {k:Int} {x:β} {B:List (Int×β)}:∀ {A:List (Int×β)},(bW (A++(k,x)::B)).Nodup→bw k (A++(k,x)::B) = some x∧∀ t,bw t (A++B) = if t = k then none else bw t (A++(k,x)::B)
  | [], h => by
    simp only [List.nil_append,bW,List.map_cons,List.nodup_cons] at h
    refine ⟨by simp [bw],fun t=>?_⟩
    by_cases e:t = k
    · subst e; rw [if_pos rfl]; exact ii h.1
    · simp [bw,e]
  | (a, b) :: A, h => by
    simp only [List.cons_append,bW,List.map_cons,List.nodup_cons] at h
    obtain ⟨h1,h2⟩:=go (A:=A) (B:=B) (k:=k) (x:=x) h.2
    have hne:¬ k = a:=fun e=>h.1 (by rw [← e]; simp)
    refine ⟨by simp only [List.cons_append,bw]; rw [if_neg hne]; exact h1,fun t=>?_⟩
    simp only [List.cons_append,bw]
    by_cases e:t = a
    · have e2:¬ t = k:=fun q=>hne (by rw [← q,e])
      rw [if_pos e,if_neg e2,if_pos e]
    · rw [if_neg e,if_neg e]; exact h2 t
theorem look_of_mem {β:Type} {k:Int} {m:List (Int×β)}:(bw k m).isSome = decide (k ∈ bW m):=by
  induction m with
  | nil=>simp [bw,bW]
  | cons p r ih =>
    obtain ⟨a,b⟩:=p
    simp only [bw,bW,List.map_cons,List.mem_cons]
    by_cases e:k = a
    · simp [e]
    · simp only [if_neg e,e,false_or]; exact ih
def ea:AV→List Nat
  | .bs id _ _ _ _=>[id]
  | _=>[]
structure ChIs (st:St) (c:Nat) (P:ChP) (q0 m0 q1 m1 wid:Nat) (bv:AV):Prop where
  get:st.get c = some [.lit (.bool true),.lit (.bool P.closed),.lit (.int .i64 (P.cap:Nat)),bv,.ptr q0 0,.ptr q1 0,.map wid]
  buf:MB bv st (ints P.buf)
  s:QIs st q0 m0 (qOf P.S) P.g0
  r:QIs st q1 m1 (qOf P.V) P.g1
  w:∃ W,MapIs st wid .i64 wtAV W∧∀ t,bw t W = bw t (entC P.S P.V)
  ids:[c,q0,q1,m0,m1,wid].Nodup
  bid:∀ x ∈ ea bv,x ∉ [c,q0,q1,m0,m1,wid]
  nd:(bW (entC P.S P.V)).Nodup
  rng:∀ t ∈ bW (entC P.S P.V),0≤t∧t < 64
  zv:∀ x ∈ P.V,x.2.2 = 0
def Kp (st st':St) (F:List Nat):Prop:=st.boxes.length≤st'.boxes.length∧∀ id,id < st.boxes.length→id ∉ F→st'.boxes[id]? = st.boxes[id]?
theorem MB.at {v:AV} {st st':St} {l:List AV} (h:MB v st l) (hb:∀ x ∈ ea v,st'.boxes[x]? = st.boxes[x]?):MB v st' l:=by
  rcases h with ⟨rfl,rfl⟩ | ⟨id,cap,r,rfl,hg,h1,h2⟩
  · exact .inl ⟨rfl,rfl⟩
  · exact .inr ⟨id,cap,r,rfl,(iU (hb id (by simp [ea]))).trans hg,h1,h2⟩
theorem MB.lt {v:AV} {st:St} {l:List AV} (h:MB v st l):∀ x ∈ ea v,x < st.boxes.length:=by
  rcases h with ⟨rfl,rfl⟩ | ⟨id,cap,r,rfl,hg,h1,h2⟩
  · simp [ea]
  · intro x hx
    simp only [ea,List.mem_singleton] at hx
    subst hx
    exact cT hg
section
variable {st st':St} {c q0 m0 q1 m1 wid:Nat} {bv:AV} {P:ChP}
theorem ChIs.lts (h:ChIs st c P q0 m0 q1 m1 wid bv):∀ x ∈ [c,q0,q1,m0,m1,wid]++ea bv,x < st.boxes.length:=by
  obtain ⟨W,hW,_⟩:=h.w
  intro x hx
  simp only [List.mem_append,List.mem_cons,List.not_mem_nil,or_false] at hx
  rcases hx with (rfl | rfl | rfl | rfl | rfl | rfl) | hx
  · exact cT h.get
  · exact h.s.ltq
  · exact h.r.ltq
  · exact h.s.ltm
  · exact h.r.ltm
  · exact hW.lt
  · exact h.buf.lt x hx
end
def foot (c q0 m0 q1 m1 wid:Nat) (bv:AV):List Nat:=[c,q0,q1,m0,m1,wid]++ea bv
def ChPost (st:St) (c:Nat) (P:ChP) (q0 m0 q1 m1 wid:Nat) (bv:AV) (st':St):Prop :=
  ∃ bv',ChIs st' c P q0 m0 q1 m1 wid bv'∧Kp st st' (foot c q0 m0 q1 m1 wid bv)∧∀ x ∈ ea bv',x ∈ ea bv∨st.boxes.length≤x
theorem ChIs.post {st st':St} {c q0 m0 q1 m1 wid:Nat} {bv:AV} {P:ChP} (h:ChIs st' c P q0 m0 q1 m1 wid bv) (hk:Kp st st' (foot c q0 m0 q1 m1 wid bv)):ChPost st c P q0 m0 q1 m1 wid bv st':=⟨bv,h,hk,fun _ h=>.inl h⟩
theorem ChIs.rebufC {st st1:St} {c q0 m0 q1 m1 wid:Nat} {bv bv1:AV} {P:ChP} {cl:Bool} {b':List Int} (h:ChIs st c P q0 m0 q1 m1 wid bv) (hm:MB bv1 st1 (ints b')) (hk:Kp st st1 (ea bv)) (hb:∀ x ∈ ea bv1,x ∈ ea bv∨st.boxes.length≤x) :
    ChIs (st1.set c [.lit (.bool true),.lit (.bool cl),.lit (.int .i64 (P.cap:Nat)),bv1,.ptr q0 0,.ptr q1 0,.map wid]) c { P with buf:=b',closed:=cl } q0 m0 q1 m1 wid bv1 ∧
    Kp st (st1.set c [.lit (.bool true),.lit (.bool cl),.lit (.int .i64 (P.cap:Nat)),bv1,.ptr q0 0,.ptr q1 0,.map wid]) (foot c q0 m0 q1 m1 wid bv):=by
  have hlt:=h.lts
  have hids:=h.ids
  have hbid:=h.bid
  have hcl:c < st1.boxes.length:=Nat.lt_of_lt_of_le (hlt c (by simp)) hk.1
  simp only [List.nodup_cons,List.mem_cons,List.not_mem_nil,or_false,not_or] at hids
  have hat:∀ x ∈ [q0,q1,m0,m1,wid],(st1.set c [.lit (.bool true),.lit (.bool cl),.lit (.int .i64 (P.cap:Nat)),bv1,.ptr q0 0,.ptr q1 0,.map wid]).boxes[x]? = st.boxes[x]?:=by
    intro x hx
    rw [l5 (by simp at hx; omega)]
    refine hk.2 x (hlt x (by simp at hx ⊢; omega)) fun e=>?_
    exact hbid x e (by simp at hx ⊢; omega)
  have hbc:∀ x ∈ ea bv1,x ∉ [c,q0,q1,m0,m1,wid]:=by
    intro x hx hin
    rcases hb x hx with e | e
    · exact hbid x e hin
    · have:=hlt x (List.mem_append_left _ hin); omega
  obtain ⟨W,hW,hl⟩:=h.w
  refine ⟨⟨cc hcl,hm.at fun x hx=>l5 fun e=>hbc x hx (by simp [e]),h.s.at (hat _ (by simp)) (hat _ (by simp)),h.r.at (hat _ (by simp)) (hat _ (by simp)),⟨W,hW.at (hat _ (by simp)),hl⟩,h.ids,hbc,h.nd,h.rng,h.zv⟩,⟨by rw [len_set]; exact hk.1,fun x hx hn=>?_⟩⟩
  simp only [foot,List.mem_append,List.mem_cons,List.not_mem_nil,or_false,not_or] at hn
  rw [l5 hn.1.1]
  exact hk.2 x hx hn.2
end Go.Fx
