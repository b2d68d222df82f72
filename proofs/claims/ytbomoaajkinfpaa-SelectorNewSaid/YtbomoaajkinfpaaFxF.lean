/- An evaluator for resolved code, proved against the model: part 6. -/
import Derived.Test.YtbomoaajkinfpaaFxE
/- Regions that draw their order: evaluation. -/
namespace Go.Fx
open Go
section
variable (P:Program) (F:Nat→FuncId) (m:Bool) (locs0:List (Nat×List AV)) (st:St) (C:PK→Sf→Prop) (sf:Sf) (d:Option Nat) (x y i:Opd) (K:List PK→Sf→Prop) (ks:List PK)
theorem h_nil:ap P F locs0 st [] K ks sf = K ks sf:=rfl
theorem h_none (i:AI) (r:List GI):ap P F locs0 st (⟨none,i⟩::r) K ks sf = aQ P F locs0 st i (ic (ap P F locs0 st r K) ks) sf:=rfl
theorem eo (t:Nat) (want:Bool) (i:AI) (r:List GI):ap P F locs0 st (⟨some (t,want),i⟩::r) K ks sf = cu t want (sf.reg t) (aQ P F locs0 st i (ic (ap P F locs0 st r K) ks)) (ky (ap P F locs0 st r K) ks i.dst) sf:=rfl
theorem hh_mv:aQ P F locs0 st (.mv d x) C sf = valH C d sf (sf.ev F x).dis:=rfl
theorem la (c a b:Opd):aQ P F locs0 st (.pick d c a b) C sf = (pickV (sf.ev F c) (sf.ev F a) (sf.ev F b)).wp (valH C d sf):=rfl
theorem mo (k:BinK) (op:BinOp):aQ P F locs0 st (.bin d k op x y) C sf = (binI k op (sf.ev F x) (sf.ev F y)).wp (valH C d sf):=rfl
theorem hh_un (op:UnOp):aQ P F locs0 st (.un d op x) C sf = (unA op (sf.ev F x)).wp (valH C d sf):=rfl
theorem hh_field (off:Nat) (k:Option Nat):aQ P F locs0 st (.field d x off k) C sf = (l0 (sf.ev F x) off k).wp (valH C d sf):=rfl
theorem hh_addr (off:Nat):aQ P F locs0 st (.addr d x off) C sf = (addA (sf.ev F x) off).wp (valH C d sf):=rfl
theorem ep (k:Nat):aQ P F locs0 st (.ixS d x i k) C sf = (ixSV (sf.ev F x) (sf.ev F i) k).wp (valH C d sf):=rfl
theorem o3 (n k:Nat):aQ P F locs0 st (.ixA d x i n k) C sf = ((Fx.ixA (sf.ev F i) n).bind fun j=>addA (sf.ev F x) (j * k)).wp (valH C d sf):=rfl
theorem hh_load (k:Option Nat):aQ P F locs0 st (.load d x k) C sf = (ik sf st (sf.ev F x) k).wp (valH C d sf):=rfl
theorem bf:aQ P F locs0 st (.nilck d x) C sf = (ak (sf.ev F x)).wp (valH C d sf):=rfl
theorem hh_sliS (lo hi:Option Opd) (k:Nat):aQ P F locs0 st (.sliS d x lo hi k) C sf = (l3 (sf.ev F x) (lo.map (sf.ev F)) (hi.map (sf.ev F)) k).wp (valH C d sf):=rfl
theorem hh_bsl (k len:Nat) (z:AV) (parts:List (Nat×Opd)):aQ P F locs0 st (.bsl d k len z parts) C sf = (bslV k len z (parts.map fun p=>(p.1,sf.ev F p.2))).wp (valH C d sf):=rfl
theorem hh_bst (places:List (Nat×Nat)) (z:AV) (parts:List (Nat×Opd)):aQ P F locs0 st (.bst d places z parts) C sf = (bstV places z (parts.map fun p=>(p.1,sf.ev F p.2))).wp (valH C d sf):=rfl
theorem d9 (k:KeyK) (z:AV) (ok:Bool) (mp key:Opd):aQ P F locs0 st (.lookup d k z ok mp key) C sf = (bF k z ok st (sf.ev F mp) (sf.ev F key)).wp (valH C d sf):=rfl
theorem hh_mkfn (g:Nat) (first cap:List Opd):aQ P F locs0 st (.mkfn d g first cap) C sf = (mkfnV (F g) (first.map (sf.ev F)) (cap.map (sf.ev F))).wp (valH C d sf):=rfl
theorem iE (k:LenK):aQ P F locs0 st (.len d k x) C sf = (lenI k st (sf.ev F x)).wp (valH C d sf):=rfl
theorem dT (p:Bool) (f:Opd) (args:List Opd):aQ P F locs0 st (.call d p f args) C sf = gy P st d (sf.ev F f) (args.map (sf.ev F)) C sf:=rfl
theorem lc (s:Nat) (cs:List AV):aQ P F locs0 st (.newL s cs) C sf = C (.new s cs) (sf.set s .any):=rfl
theorem guardH_tt (t:Nat) (want:Bool) (Y N:Sf→Prop):cu t want (.lit (.bool true)) Y N sf = if true = want then Y (sf.set t (.lit (.bool true))) else N (sf.set t (.lit (.bool true))):=by
  unfold cu
  exact propext ⟨fun h=>h true rfl,fun h c e=>by subst e; exact h⟩
theorem cL (t:Nat) (want:Bool) (Y N:Sf→Prop):cu t want (.lit (.bool false)) Y N sf = if false = want then Y (sf.set t (.lit (.bool false))) else N (sf.set t (.lit (.bool false))):=by
  unfold cu
  exact propext ⟨fun h=>h false rfl,fun h c e=>by subst e; exact h⟩
end
theorem o4 {p:Prop} [Decidable p] {t:Nat} {want:Bool} {Y N:Sf→Prop} {sf:Sf} (h1:p→cu t want (.lit (.bool true)) Y N sf) (h2:¬ p→cu t want (.lit (.bool false)) Y N sf):cu t want (.lit (.bool (decide p))) Y N sf:=by
  by_cases h:p
  · rw [decide_eq_true h]; exact h1 h
  · rw [decide_eq_false h]; exact h2 h
def PK.keep:PK→Bool
  | .val _=>false
  | .skip=>false
  | _=>true
theorem bV:∀ ks:List PK,aV (ks.filter PK.keep) = aV ks
  | []=>rfl
  | .val _::r=>bV r
  | .skip::r=>bV r
  | .mk _ _::r=>bV r
  | .hole::r=>bV r
  | .chole _ _::r=>bV r
  | .nst _ _::r=>bV r
  | .new _ _::r=>bV r
  | .app _ _::r=>bV r
  | .store s _::r=>congrArg (s::·) (bV r)
theorem cM:∀ ks:List PK,bM (ks.filter PK.keep) = bM ks
  | []=>rfl
  | .val _::r=>cM r
  | .skip::r=>cM r
  | .mk _ _::r=>cM r
  | .hole::r=>cM r
  | .chole _ _::r=>cM r
  | .nst _ _::r=>cM r
  | .store _ _::r=>cM r
  | .app _ _::r=>cM r
  | .new s _::r=>congrArg (s::·) (cM r)
theorem cN:∀ ks:List PK,cb (ks.filter PK.keep) = cb ks
  | []=>rfl
  | .val _::r=>cN r
  | .skip::r=>cN r
  | .mk _ _::r=>cN r
  | .hole::r=>cN r
  | .chole _ _::r=>cN r
  | .nst _ _::r=>cN r
  | .store _ _::r=>cN r
  | .new _ _::r=>cN r
  | .app s _::r=>congrArg (s::·) (cN r)
theorem cO:∀ (ks:List PK) (sf:Sf),cy (ks.filter PK.keep) sf = cy ks sf
  | [],_=>rfl
  | .val _::r,sf=>cO r sf
  | .skip::r,sf=>cO r sf
  | .mk _ _::r,sf=>cO r sf
  | .hole::r,sf=>cO r sf
  | .chole _ _::r,sf=>cO r sf
  | .nst _ _::r,sf=>cO r sf
  | .new _ _::r,sf=>cO r sf
  | .app _ _::r,sf=>cO r sf
  | .store _ _::r,_=>cO r _
theorem ci (t:Nat):∀ ks:List PK,bW t (ks.filter PK.keep) = bW t ks
  | []=>rfl
  | .val _::r=>ci t r
  | .skip::r=>ci t r
  | .mk _ _::r=>ci t r
  | .hole::r=>ci t r
  | .chole _ _::r=>ci t r
  | .store _ _::r=>ci t r
  | .app _ _::r=>ci t r
  | .new _ _::r=>ci t r
  | .nst s cs :: r => by
    show (if s = t then some cs else bW t (r.filter PK.keep)) = if s = t then some cs else bW t r
    rw [ci t r]
theorem cP:∀ ks:List PK,cc (ks.filter PK.keep) = cc ks
  | []=>rfl
  | .val _::r=>cP r
  | .skip::r=>cP r
  | .mk _ _::r=>cP r
  | .hole::r=>cP r
  | .chole _ _::r=>cP r
  | .store _ _::r=>cP r
  | .new _ _::r=>cP r
  | .app _ _::r=>cP r
  | .nst s _::r=>congrArg (s::·) (cP r)
theorem cQ:∀ (ks:List PK) (seen:List (Nat×Nat)),nstB seen (ks.filter PK.keep) = nstB seen ks
  | [],_=>rfl
  | .val _::r,s=>cQ r s
  | .skip::r,s=>cQ r s
  | .mk _ _::r,s=>cQ r s
  | .hole::r,s=>cQ r s
  | .chole _ _::r,s=>cQ r s
  | .store _ _::r,s=>cQ r s
  | .app _ _::r,s=>cQ r s
  | .new _ _::r,s=>cQ r _
  | .nst _ _::r,s=>congrArg (_ && ·) (cQ r s)
theorem cR (all:List PK):∀ (ks:List PK) (sf:Sf),bU (all.filter PK.keep) (ks.filter PK.keep) sf = bU all ks sf
  | [],_=>rfl
  | .val _::r,sf=>cR all r sf
  | .skip::r,sf=>cR all r sf
  | .mk _ _::r,sf=>cR all r sf
  | .hole::r,sf=>cR all r sf
  | .chole _ _::r,sf=>cR all r sf
  | .store _ _::r,sf=>cR all r sf
  | .app _ _::r,sf=>cR all r sf
  | .nst _ _::r,sf=>cR all r sf
  | .new s cs :: r, sf => by
    show bU (all.filter PK.keep) (r.filter PK.keep) (sf.newLoc s ((bW s (all.filter PK.keep)).getD cs)) = bU all r (sf.newLoc s ((bW s all).getD cs))
    rw [ci,cR all r]
section
variable {P:Program} {F:Nat→FuncId} {m:Bool} {locs0:List (Nat×List AV)} {st st2:St} {drop lv ll:List Nat} {tl:List GI} {Q:Exit→Sf→St→Prop}
theorem tail_keep (ks:List PK) (sf:Sf):aZ P F m drop lv ll tl Q st (ks.filter PK.keep) sf = aZ P F m drop lv ll tl Q st ks sf:=by
  unfold aZ ksB
  rw [bV,cM,cN,cP,cQ,cO,cR]
theorem eJ:∀ (r:List GI) (ks:List PK) (sf:Sf),ap P F locs0 st r (aZ P F m drop lv ll tl Q st) (ks.filter PK.keep) sf = ap P F locs0 st r (aZ P F m drop lv ll tl Q st) ks sf
  | [],ks,sf=>tail_keep ks sf
  | ⟨g, i⟩ :: r, ks, sf => by
    have h1:ic (ap P F locs0 st r (aZ P F m drop lv ll tl Q st)) (ks.filter PK.keep) = ic (ap P F locs0 st r (aZ P F m drop lv ll tl Q st)) ks:=by
      funext k sf
      simp only [ic]
      rw [← eJ r (ks++[k]) sf,← eJ r (ks.filter PK.keep++[k]) sf]
      simp
    have h2:∀ d,ky (ap P F locs0 st r (aZ P F m drop lv ll tl Q st)) (ks.filter PK.keep) d = ky (ap P F locs0 st r (aZ P F m drop lv ll tl Q st)) ks d:=by
      intro d
      funext sf
      exact congrFun (congrFun h1 .skip) (sf.put d (.tup []))
    cases g with
    | none=>simp only [ap,h1]
    | some g=>obtain ⟨t,w⟩:=g; simp only [ap,h1,h2]
variable (ks:List PK) (sf:Sf) (r:List GI) (v:AV) (d:Option Nat)
theorem cI:ic (ap P F locs0 st r (aZ P F m drop lv ll tl Q st)) ks (.val v) sf = ap P F locs0 st r (aZ P F m drop lv ll tl Q st) ks sf:=by
  show ap P F locs0 st r _ (ks++[.val v]) sf = _
  exact (eJ r (ks++[PK.val v]) sf).symm.trans ((congrArg (fun q=>ap P F locs0 st r (aZ P F m drop lv ll tl Q st) q sf) (by simp [PK.keep])).trans (eJ r ks sf))
theorem cons_skip:ky (ap P F locs0 st r (aZ P F m drop lv ll tl Q st)) ks d sf = ap P F locs0 st r (aZ P F m drop lv ll tl Q st) ks (sf.put d (.tup [])):=by
  show ap P F locs0 st r _ (ks++[.skip]) (sf.put d (.tup [])) = _
  exact (eJ r (ks++[PK.skip]) _).symm.trans ((congrArg (fun q=>ap P F locs0 st r (aZ P F m drop lv ll tl Q st) q (sf.put d (.tup []))) (by simp [PK.keep])).trans (eJ r ks _))
theorem val_head:valH (ic (ap P F locs0 st r (aZ P F m drop lv ll tl Q st)) ks) d sf v = ap P F locs0 st r (aZ P F m drop lv ll tl Q st) ks (sf.put d v):=cI ks (sf.put d v) r v
theorem tail_nil:aZ P F m drop lv ll tl Q st [] sf = runI P F m tl (opsK lv ll Q) sf st:=propext ⟨fun h=>h.2,fun h=>⟨rfl,h⟩⟩
theorem ld (k:PK):aZ P F m drop lv ll tl Q st (k::ks) sf = (ksB drop (k::ks) = true∧runI P F m tl (opsK lv ll Q) (bU (k::ks) (k::ks) (cy (k::ks) sf)) st):=rfl
end
section
variable (H:List PK→Sf→Prop) (ks:List PK) (sf:Sf) (s:Nat) (cs:List AV) (v:AV)
theorem jq:ic H ks (.new s cs) sf = H (ks++[.new s cs]) sf:=rfl
end
theorem e7 {P:Program} {d:Option Nat} {q:FuncId} {fs cs args vs:List AV} {sf:Sf} {st:St} {C:PK→Sf→Prop} {v:AV} (hvs:fs++args.map AV.dis++cs = vs) (hent:al P q = true) (h:aG P q vs st v) (hn:args.all AV.noL = true) (hK:C (.val v) (sf.put d v)):gy P st d (.fn (.func q) fs cs) args C sf:=by
  subst hvs
  exact ⟨hn,hent,v,h,hK⟩
section
variable (P:Program) (F:Nat→FuncId) (L0:List (Nat×List AV)) (ρ:St) (C:PK→Sf→Prop) (sf:Sf) (d:Option Nat) (x y i:Opd) (K:List PK→Sf→Prop) (ks:List PK)
theorem m_nil:preM P F L0 ρ [] K ks sf = K ks sf:=rfl
theorem m_none (i:AI) (r:List GI):preM P F L0 ρ (⟨none,i⟩::r) K ks sf = oneM P F L0 ρ i (ig (preM P F L0 ρ r K) ks) sf:=rfl
theorem m_val (v:AV) (r:List GI):valM (ig (preM P F L0 ρ r K) ks) d sf v = preM P F L0 ρ r K (ks++[.val v]) (sf.put d v):=rfl
theorem mm_mv:oneM P F L0 ρ (.mv d x) C sf = valM C d sf (sf.ev F x).dis:=rfl
theorem mm_addr (off:Nat):oneM P F L0 ρ (.addr d x off) C sf = (addA (sf.ev F x) off).wp (valM C d sf):=rfl
theorem o5 (k:Option Nat):oneM P F L0 ρ (.load d x k) C sf = (ik sf ρ (sf.ev F x) k).wp (valM C d sf):=rfl
theorem mm_bst (places:List (Nat×Nat)) (z:AV) (parts:List (Nat×Opd)):oneM P F L0 ρ (.bst d places z parts) C sf = (bstV places z (parts.map fun p=>(p.1,sf.ev F p.2))).wp (valM C d sf):=rfl
variable (KH:List PK→Prop) (st:St) (post:List (Bool×GI)) (T:St→Sf→Prop) (T1:Sf→Prop)
theorem hm_nil:dw P F L0 ρ [] KH ks sf = KH ks:=rfl
theorem hm_none (i:AI) (r:List (Bool×GI)):dw P F L0 ρ ((false,⟨none,i⟩)::r) KH ks sf = oneM P F L0 ρ i (ig (dw P F L0 ρ r KH) ks) sf:=rfl
theorem hm_val (v:AV) (r:List (Bool×GI)):valM (ig (dw P F L0 ρ r KH) ks) d sf v = dw P F L0 ρ r KH (ks++[.val v]) (sf.put d v):=rfl
variable (drop:List Nat) (ks1:List PK)
theorem atM_eq (f:Opd) (args:List Opd):atM P F L0 ρ st d f args post drop T ks1 sf = lS P F L0 ρ st d (sf.ev F f) (args.map (sf.ev F)) post drop T ks1 sf:=rfl
theorem postM_eq (ksh:List PK):postM post drop ks1 ksh T1 ks sf = (gh post ksh ks∧finK drop T1 (ks1++ks) sf):=rfl
theorem finK_eq:finK drop T1 ks sf = (ksB drop ks = true∧T1 (bU ks ks (cy ks sf))):=rfl
theorem holeK_eq (A:List PK→Prop):holeK drop ks1 A ks = (ksB drop (ks1++ks) = true∧A ks):=rfl
theorem nU:gh [] [] [] = True:=rfl
theorem compM_f (g:GI) (r:List (Bool×GI)) (a b:PK) (h k:List PK):gh ((false,g)::r) (a::h) (b::k) = (b = a∧gh r h k):=rfl
theorem tailM_eq (m:Bool) (lv ll:List Nat) (tl:List GI) (Q:Exit→Sf→St→Prop):lW P F m lv ll tl Q st sf = runI P F m tl (opsK lv ll Q) sf st:=rfl
end
section
variable {P:Program} {F:Nat→FuncId} {L0:List (Nat×List AV)} {ρ st:St}
theorem draw_m {pre:List GI} {d:Option Nat} {f:Opd} {args:List Opd} {post:List (Bool×GI)} {sf:Sf} {T:St→Sf→Prop} (ρ:St) (hs:St.sub ρ st) (h:preM P F sf.locs ρ pre (atM P F sf.locs ρ st d f args post (lR pre post) T) [] ⟨sf.regs,aY (lR pre post) sf.locs⟩):drawM P F pre d f args post sf st T:=⟨ρ,hs,h⟩
theorem call_m {q:FuncId} {fs cs args vs:List AV} {d:Option Nat} {post:List (Bool×GI)} {drop:List Nat} {T:St→Sf→Prop} {ks1:List PK} {sf:Sf} {Qc:AV→St→Prop} (hvs:fs++args.map AV.dis++cs = vs) (hent:al P q = true) (hA:aA P q vs st Qc) (hn:args.all AV.noL = true)
    (hK:dw P F L0 ρ post (holeK drop ks1 (afterM P F L0 ρ post Qc d sf drop T ks1)) [] (sf.put d .any)):lS P F L0 ρ st d (.fn (.func q) fs cs) args post drop T ks1 sf:=by
  subst hvs
  exact ⟨hn,hent,Qc,hA,hK⟩
end
section
variable (P:Program) (F:Nat→FuncId) (L0:List (Nat×List AV)) (st s:St) (d:Option Nat) (f:Opd) (args:List Opd) (pre post:List GI) (T:St→Sf→Prop) (ks:List PK) (sf:Sf) (v:AV)
end
section
variable (P:Program) (F:Nat→FuncId) (L0:List (Nat×List AV)) (ρ:St) (C:PK→Sf→Prop) (sf:Sf) (d:Option Nat) (H:List PK→Sf→Prop) (KX:Nat→List PK→Sf→Prop) (ks:List PK) (SS:Nat→St→Prop) (j:Nat)
end
end Go.Fx
/- Numbers of bytes: shifts and the like. -/
namespace Go.Fx
open Go
theorem cF {P:Program} {F:Nat→FuncId} {m:Bool} {b:AC} {lv ll:List Nat} {Q:Exit→Sf→St→Prop} {A:Type} (μ:A→Nat) (S:A→Sf) (T:A→St) (I:A→Prop) (a0:A) {sf:Sf} {st:St} (h0:I a0) (hs:Sf.le (sf.mask lv ll) (S a0)) (ht:st = T a0)
    (step:∀ a,I a→∀ K:Exit→Sf→St→Prop,(∀ a' sf',I a'→μ a' < μ a→Sf.le (sf'.mask lv ll) (S a')→K .normal sf' (T a'))→(∀ id sf st,Q (.exit id) sf st→K (.exit id) sf st)→(∀ sf st,Q .ret sf st→K .ret sf st)→aC P F m b (S a) (T a) K):aO (aC P F m b) lv ll sf st Q :=
  loop_for μ S T I a0 h0 hs ht fun a ha=>step a ha _ (fun a' _ h1 h2 h3=>⟨a',⟨h1,h2⟩,h3,rfl⟩) (fun _ _ _ h=>h) (fun _ _ h=>h)
theorem aw {P:Program} {X:Cx} {f:FuncId} {fn:AFun} {vs:List AV} {st:St} (hmix:P.follows .mixedOrders = true) (hf:aH P X f = some fn) (hX:X.F = id) (hlen:Nat.ble vs.length fn.n = true) {K:AV→St→Prop} (h:∀ Q:AV→St→Prop,(∀ v st',K v st'→Q v st')→aFun P id false fn vs st Q):aA P f vs st K :=
  acalls_id hmix hf hX hlen (h K fun _ _ h=>h)
end Go.Fx
/- Slices of plain cells that are written to and appended to. -/
namespace Go.Fx
open Go
def MB (v:AV) (st:St) (l:List AV):Prop:=(v = .lit (.slice none 0 0)∧l = [])∨∃ id cap r,v = .bs id 1 0 l.length cap∧st.get id = some (l++r)∧l.length≤cap∧cap≤(l++r).length
def Kept (st st':St) (v:AV):Prop:=st.boxes.length≤st'.boxes.length∧∀ id cs,st.get id = some cs→(∀ k o l c,v≠.bs id k o l c)→st'.get id = some cs
theorem Kept.refl (st:St) (v:AV):Kept st st v:=⟨Nat.le_refl _,fun _ _ h _=>h⟩
theorem MB.facts {v:AV} {st:St} {l:List AV} (h:MB v st l):v.dis = v∧v.own1 = v∧v.own2 = v∧v.solid1 = true∧v.noL = true∧v.cells = [v]∧(∀ s,kill s v = v)∧∀ st',lenI .sl st' v = .ok (.lit (.int .i64 l.length)):=by
  rcases h with ⟨rfl,rfl⟩ | ⟨id,cap,r,rfl,_⟩
  · exact ⟨rfl,rfl,rfl,rfl,rfl,rfl,fun _=>rfl,fun _=>rfl⟩
  · exact ⟨rfl,rfl,rfl,rfl,rfl,rfl,fun _=>rfl,fun _=>rfl⟩
def NBs (st:St):Prop:=∀ id cs,st.get id = some cs→∀ c ∈ cs,c.NB
theorem NBs.nil:NBs ⟨[]⟩:=fun id cs h=>by simp [St.get] at h
theorem NBs.push {st:St} {cs:List AV} (h:NBs st) (hc:∀ c ∈ cs,c.NB):NBs (st.push (.cells cs)):=by
  intro id ds hg
  by_cases e:id < st.boxes.length
  · rw [ga e] at hg
    exact h id ds hg
  · by_cases e2:id = st.boxes.length
    · subst e2
      rw [cx] at hg
      cases hg
      exact hc
    · have:=bA hg
      rw [bz] at this
      omega
theorem NBs.set {st:St} {id:Nat} {cs:List AV} (h:NBs st) (hid:id < st.boxes.length) (hc:∀ c ∈ cs,c.NB):NBs (st.set id cs):=by
  intro id' ds hg
  by_cases e:id = id'
  · subst e
    rw [bg hid] at hg
    cases hg
    exact hc
  · rw [mj e] at hg
    exact h id' ds hg
theorem MB.app {v:AV} {st:St} {l new:List AV} {bytes:Nat} {C:AV→St→Prop} (h:MB v st l) (hl:Lits l) (hn:Lits new) (hr:eg (l.length + new.length) bytes = true)
    (hC:∀ v' st',MB v' st' (l++new)→Kept st st' v→(NBs st→NBs st')→C v' st'):appX false 1 bytes v C st new:=by
  rcases h with ⟨rfl,rfl⟩ | ⟨id,cap,r,rfl,hg,h1,h2⟩
  · refine ⟨rfl,by simpa using hr,?_⟩
    split
    · rename_i h
      have:new = []:=by simpa using h
      subst this
      exact hC _ _ (.inl ⟨rfl,rfl⟩) (Kept.refl _ _) id
    · intro c hc
      refine hC _ _ (.inr ⟨st.boxes.length,c,List.replicate (c - new.length) .any,by simp,?_,by simpa using hc,by simp; omega⟩) ⟨by simp [St.push],fun id cs hg _=>by rw [ga (bA hg)]; exact hg⟩ (fun h=>h.push fun x hx=>?_)
      · rw [hn.cellsD]
        simp only [List.nil_append,Nat.mul_one]
        exact cx st _
      · rw [hn.cellsD] at hx
        simp only [List.nil_append,Nat.mul_one,List.mem_append] at hx
        rcases hx with hx | hx
        · exact hn.nb x hx
        · rw [List.eq_of_mem_replicate hx]; exact .any
  · refine ⟨rfl,rfl,hr,?_⟩
    rw [hg]
    show (Res.ok _).wp _
    rw [wp_ok,hn.cellsD]
    have hid:=bA hg
    split
    · rename_i hc
      refine ⟨by omega,hC _ _ (.inr ⟨id,cap,r.drop new.length,by simp,?_,by simpa using hc,?_⟩) ⟨by simp [St.set],fun id' cs hg' hne=>?_⟩ (fun h=>h.set hid ?_)⟩
      · rw [bg hid,Nat.zero_add,Nat.mul_one,fM rfl (by simp at h2; omega)]
        simp
      · simp at h2 ⊢; omega
      · rw [mj (fun e=>hne _ _ _ _ (by rw [e])),hg']
      · rw [Nat.zero_add,Nat.mul_one,fM rfl (by simp at h2; omega)]
        have h3:=h id _ hg
        intro x hx
        simp only [List.mem_append] at hx
        rcases hx with hx | hx | hx
        · exact hl.nb x hx
        · exact hn.nb x hx
        · exact h3 x (List.mem_append_right _ (List.mem_of_mem_drop hx))
    · rename_i hc
      have e:List.map AV.own1 (List.take (l.length * 1) (List.drop 0 (l++r))) = l:=by simp [hl.own]
      refine ⟨by simp,fun c hc=>hC _ _ (.inr ⟨st.boxes.length,c,List.replicate (c - (l.length + new.length)) .any,by simp,?_,by simpa using hc,by simp; omega⟩) ⟨by simp [St.push],fun id' cs hg' _=>by rw [ga (bA hg')]; exact hg'⟩ (fun h=>h.push fun x hx=>?_)⟩
      · rw [e]
        simp only [Nat.mul_one]
        exact cx st _
      · rw [e] at hx
        simp only [List.mem_append] at hx
        rcases hx with (hx | hx) | hx
        · exact hl.nb x hx
        · exact hn.nb x hx
        · rw [List.eq_of_mem_replicate hx]; exact .any
theorem MB.src {v:AV} {st:St} {l:List AV} (h:MB v st l):∃ r,srcA st 1 v = r∧∀ K:List AV→Prop,K l→r.wp K:=by
  refine ⟨_,rfl,fun K hK=>?_⟩
  rcases h with ⟨rfl,rfl⟩ | ⟨id,cap,r,rfl,hg,h1,h2⟩
  · exact hK
  · show (cn st id 1 0 l.length).wp K
    unfold cn
    rw [hg]
    show _∧_
    refine ⟨by simp,?_⟩
    rw [List.drop_zero,grp_one (by simp),List.take_left]
    exact hK
end Go.Fx
/- Functions that keep nothing may be handed what lies in boxes. -/
namespace Go.Fx
open Go
def litB1:AV→Bool
  | .lit _=>true
  | _=>false
end Go.Fx
/- Maps with plain keys, as lists; boxes that others are left alone by. -/
namespace Go.Fx
open Go
section
variable {β:Type}
def fm (t:Int):List (Int×β)→Nat→Option (Nat×β)
  | [],_=>none
  | (k,b)::r,i=>if t = k then some (i,b) else fm t r (i + 1)
def am (t:Int):List (Int×β)→Option β
  | []=>none
  | (k,b)::r=>if t = k then some b else am t r
def updP (t:Int) (b:β):List (Int×β)→List (Int×β)
  | []=>[(t,b)]
  | (k,c)::r=>if t = k then (t,b)::r else (k,c)::updP t b r
def delP (t:Int):List (Int×β)→List (Int×β)
  | []=>[]
  | (k,c)::r=>if t = k then r else (k,c)::delP t r
def aD (m:List (Int×β)):List Int:=m.map Prod.fst
theorem e8 (t:Int):∀ (m:List (Int×β)) (i:Nat),(fm t m i).map Prod.snd = am t m
  | [],_=>rfl
  | (k, b) :: r, i => by
    simp only [fm,am]; split; · rfl
    · exact e8 t r (i + 1)
theorem j8 {γ:Type} (e:Int×β→γ) (t:Int) (b:β):∀ (m:List (Int×β)) (i:Nat),match fm t m i with
    | some (j,_)=>i≤j∧(m.map e).set (j - i) (e (t,b)) = (updP t b m).map e∧(m.map e).eraseIdx (j - i) = (delP t m).map e∧j - i < m.length
    | none=>m.map e++[e (t,b)] = (updP t b m).map e∧delP t m = m
  | [],_=>by simp [fm,updP,delP]
  | (k, c) :: r, i => by
    simp only [fm]
    by_cases h:t = k
    · subst h
      simp [updP,delP]
    · rw [if_neg h]
      have ih:=j8 e t b r (i + 1)
      cases hf:fm t r (i + 1) with
      | none=>rw [hf] at ih; simp only at ih; simp [updP,delP,h,ih.1,ih.2]
      | some p =>
        obtain ⟨j,c'⟩:=p
        rw [hf] at ih
        simp only at ih ⊢
        obtain ⟨h1,h2,h3,h4⟩:=ih
        obtain ⟨q,rfl⟩:∃ q,j = i + 1 + q:=⟨j - (i + 1),by omega⟩
        rw [show i + 1 + q - (i + 1) = q by omega] at h2 h3 h4
        rw [show i + 1 + q - i = q + 1 by omega]
        refine ⟨by omega,?_,?_,by simp; omega⟩
        · simp [updP,h,h2]
        · simp [delP,h,h3]
theorem cJ (t t':Int) (b:β):∀ m:List (Int×β),am t' (updP t b m) = if t' = t then some b else am t' m
  | []=>by simp only [updP,am]
  | (k, c) :: r => by
    simp only [updP]
    by_cases h:t = k
    · subst h
      rw [if_pos rfl]
      simp only [am]
      split <;> rfl
    · rw [if_neg h]
      simp only [am]
      rw [cJ t t' b r]
      by_cases h1:t' = k
      · subst h1
        have:¬ t' = t:=fun e=>h e.symm
        simp [this]
      · simp [h1]
theorem j9 {t:Int}:∀ {m:List (Int×β)},t ∉ aD m→am t m = none
  | [],_=>rfl
  | (k, c) :: r, h => by
    simp only [aD,List.map_cons,List.mem_cons,not_or] at h
    simp only [am]
    rw [if_neg h.1]
    exact j9 h.2
theorem e9 (t t':Int):∀ {m:List (Int×β)},(aD m).Nodup→am t' (delP t m) = if t' = t then none else am t' m
  | [],_=>by simp [delP,am]
  | (k, c) :: r, hn => by
    simp only [aD,List.map_cons,List.nodup_cons] at hn
    simp only [delP]
    by_cases h:t = k
    · subst h
      rw [if_pos rfl]
      simp only [am]
      by_cases h1:t' = t
      · subst h1; rw [if_pos rfl]; exact j9 hn.1
      · rw [if_neg h1,if_neg h1]
    · rw [if_neg h]
      simp only [am]
      by_cases h1:t' = k
      · subst h1
        have:¬ t' = t:=fun e=>h e.symm
        simp [this]
      · rw [if_neg h1,if_neg h1]; exact e9 t t' hn.2
theorem eC (t:Int) (b:β):∀ m:List (Int×β),(updP t b m).length = if (am t m).isSome then m.length else m.length + 1
  | []=>by simp [updP,am]
  | (k, c) :: r => by
    simp only [updP,am]
    by_cases h:t = k
    · simp [h]
    · simp only [if_neg h,List.length_cons,eC t b r]
      split <;> rfl
theorem o6 (t:Int):∀ m:List (Int×β),(delP t m).length = if (am t m).isSome then m.length - 1 else m.length
  | []=>by simp [delP,am]
  | (k, c) :: r => by
    simp only [delP,am]
    by_cases h:t = k
    · simp [h]
    · simp only [if_neg h,List.length_cons,o6 t r]
      split
      · rename_i q
        have:r≠[]:=by rintro rfl; simp [am] at q
        have:=List.length_pos_iff.2 this
        omega
      · rfl
theorem keys_upd (t:Int) (b:β):∀ m:List (Int×β),aD (updP t b m) = if (am t m).isSome then aD m else aD m++[t]
  | []=>by simp [updP,am,aD]
  | (k, c) :: r => by
    simp only [updP,am]
    by_cases h:t = k
    · simp [h,aD]
    · have:=keys_upd t b r
      simp only [aD] at this
      simp only [if_neg h,aD,List.map_cons,this]
      split <;> rfl
theorem jr (t x:Int):∀ {m:List (Int×β)},x ∈ aD (delP t m)→x ∈ aD m
  | [],h=>h
  | (k, c) :: r, h => by
    simp only [delP] at h
    simp only [aD,List.map_cons,List.mem_cons]
    split at h
    · exact .inr h
    · simp only [aD,List.map_cons,List.mem_cons] at h
      rcases h with h | h
      · exact .inl h
      · exact .inr (jr t x h)
theorem nV {t:Int} {b:β} {m:List (Int×β)} (h:(aD m).Nodup):(aD (updP t b m)).Nodup:=by
  rw [keys_upd]
  split
  · exact h
  · rename_i hs
    refine List.nodup_append.2 ⟨h,by simp,?_⟩
    intro x hx y hy
    simp only [List.mem_singleton] at hy
    subst hy
    rintro rfl
    have:∀ m:List (Int×β),x ∈ aD m→(am x m).isSome = true:=by
      intro m
      induction m with
      | nil=>intro h; simp [aD] at h
      | cons p r ih =>
        obtain ⟨k,c⟩:=p
        intro h
        simp only [aD,List.map_cons,List.mem_cons] at h
        simp only [am]
        split
        · rfl
        · rename_i hne
          rcases h with h | h
          · exact absurd h hne
          · exact ih h
    exact hs (this m hx)
theorem nW {t:Int}:∀ {m:List (Int×β)},(aD m).Nodup→(aD (delP t m)).Nodup
  | [],h=>h
  | (k, c) :: r, h => by
    simp only [aD,List.map_cons,List.nodup_cons] at h
    simp only [delP]
    split
    · exact h.2
    · simp only [aD,List.map_cons,List.nodup_cons]
      exact ⟨fun e=>h.1 (jr t k e),nW h.2⟩
def encE (k:IntKind) (ev:β→AV) (p:Int×β):AV×AV:=(.lit (.int k p.1),ev p.2)
def encM (k:IntKind) (ev:β→AV) (m:List (Int×β)):List (AV×AV):=m.map (encE k ev)
theorem gT (k:IntKind) (ev:β→AV) (t:Int):∀ (m:List (Int×β)) (i:Nat),cW (.lit (.int k t)) (encM k ev m) i = .ok ((fm t m i).map fun p=>(p.1,ev p.2))
  | [],_=>rfl
  | (q, b) :: r, i => by
    have ih:=gT k ev t r (i + 1)
    simp only [encM,List.map_cons,encE,cW,eN,if_true,fm] at ih ⊢
    by_cases h:t = q
    · subst h; simp
    · have:(t == q) = false:=by simpa using h
      simp only [this,if_neg h,Bool.false_eq_true,if_false]
      exact ih
end
section
variable {st st':St} {id q:Nat}
theorem getM_lt {es:List (AV×AV)} (h:st.getM id = some es):id < st.boxes.length:=by
  unfold St.getM at h
  split at h
  · rename_i hb
    exact (List.getElem?_eq_some_iff.1 hb).1
  · cases h
theorem dB (h:st'.boxes[id]? = st.boxes[id]?):st'.get id = st.get id:=by unfold St.get; rw [h]
theorem getM_at (h:st'.boxes[id]? = st.boxes[id]?):st'.getM id = st.getM id:=by unfold St.getM; rw [h]
theorem getB_at (h:st'.boxes[id]? = st.boxes[id]?):st'.getB id = st.getB id:=by unfold St.getB; rw [h]
theorem c9 {cs:List AV} (h:id≠q):(st.set q cs).boxes[id]? = st.boxes[id]?:=by simp [St.set,List.getElem?_set_ne (fun e=>h e.symm)]
theorem o7 {es:List (AV×AV)} {bs:List Nat} {c:Nat} (h:id≠q):(st.setM q es bs c).boxes[id]? = st.boxes[id]?:=by simp [St.setM,List.getElem?_set_ne (fun e=>h e.symm)]
theorem cG {b:Box} (h:id < st.boxes.length):(st.push b).boxes[id]? = st.boxes[id]?:=by simp [St.push,List.getElem?_append_left h]
theorem ka {es:List (AV×AV)} {bs:List Nat} {c:Nat} (h:id < st.boxes.length):(st.setM id es bs c).getM id = some es:=by simp [St.setM,St.getM,h]
theorem dj {es:List (AV×AV)} {bs:List Nat} {c:Nat} (h:id < st.boxes.length):(st.setM id es bs c).getB id = (bs,c):=by simp [St.setM,St.getB,h]
theorem get_mt {es:List (AV×AV)} (h:st.getM id = some es):st.get id = none:=by
  unfold St.getM at h; unfold St.get
  split at h
  · rename_i hb; simp [hb]
  · cases h
end
def Oth (st st':St) (S:List Nat):Prop:=st'.boxes.length = st.boxes.length∧∀ id,id ∉ S→st'.boxes[id]? = st.boxes[id]?
theorem Oth.refl (st:St) (S:List Nat):Oth st st S:=⟨rfl,fun _ _=>rfl⟩
theorem Oth.trans {a b c:St} {S:List Nat} (h:Oth a b S) (k:Oth b c S):Oth a c S:=⟨k.1.trans h.1,fun id hid=>(k.2 id hid).trans (h.2 id hid)⟩
theorem Oth.mono {a b:St} {S S':List Nat} (h:Oth a b S) (hs:∀ x ∈ S,x ∈ S'):Oth a b S':=⟨h.1,fun id hid=>h.2 id fun e=>hid (hs id e)⟩
theorem Oth.set (st:St) (q:Nat) (cs:List AV) {S:List Nat} (h:q ∈ S):Oth st (st.set q cs) S:=⟨f9 ..,fun id hid=>c9 fun e=>hid (e ▸ h)⟩
theorem Oth.get {a b:St} {S:List Nat} (h:Oth a b S) {id:Nat} (hid:id ∉ S):b.get id = a.get id:=dB (h.2 id hid)
section
variable {β:Type}
structure MapIs (st:St) (id:Nat) (k:IntKind) (ev:β→AV) (m:List (Int×β)):Prop where
  get:st.getM id = some (encM k ev m)
  nd:(aD m).Nodup
  bl:(st.getB id).1.length = m.length
  bn:(st.getB id).1.Nodup
  bc:∀ b ∈ (st.getB id).1,b < (st.getB id).2
variable {st st':St} {id:Nat} {k:IntKind} {ev:β→AV} {m:List (Int×β)}
theorem MapIs.lt (h:MapIs st id k ev m):id < st.boxes.length:=getM_lt h.get
theorem MapIs.at (h:MapIs st id k ev m) (hb:st'.boxes[id]? = st.boxes[id]?):MapIs st' id k ev m:=by
  refine ⟨(getM_at hb).trans h.get,h.nd,?_,?_,?_⟩ <;> rw [getB_at hb]
  · exact h.bl
  · exact h.bn
  · exact h.bc
theorem MapIs.oth {S:List Nat} (h:MapIs st id k ev m) (ho:Oth st st' S) (hid:id ∉ S):MapIs st' id k ev m:=h.at (ho.2 id hid)
theorem MapIs.set (h:MapIs st id k ev m) {q:Nat} {cs:List AV} (hq:id≠q):MapIs (st.set q cs) id k ev m:=h.at (c9 hq)
theorem MapIs.push (h:MapIs st id k ev m) (b:Box):MapIs (st.push b) id k ev m:=h.at (cG h.lt)
theorem MapIs.ne (h:MapIs st id k ev m) {q:Nat} {cs:List AV} (hq:st.get q = some cs):id≠q:=by
  rintro rfl
  rw [get_mt h.get] at hq; cases hq
theorem bH (h:MapIs st id k ev m) {z:AV} {ok:Bool} {t:Int}:bF (.int k) z ok st (.map id) (.lit (.int k t)) = .ok (match am t m with
    | some b=>if ok then .tup [(ev b).dis,.lit (.bool true)] else (ev b).dis
    | none=>if ok then .tup [z,.lit (.bool false)] else z):=by
  have hk:keyI (.int k) (.lit (.int k t)) = true:=by simp [keyI]
  unfold bF
  rw [if_pos hk]
  simp only [h.get,Res.ofOpt,Res.bind,gT]
  rw [← e8 t m 0]
  cases fm t m 0 <;> rfl
theorem dU (h:MapIs st id k ev m) {t:Int} {b:β} {x:AV} (hx:x.solid = true) (hd:x.dis = ev b) {K:Sf→St→Prop} {sf:Sf}
    (hK:∀ st',MapIs st' id k ev (updP t b m)→Oth st st' [id]→K sf st'):updX false (.int k) (.map id) (.lit (.int k t)) x K sf st:=by
  refine ⟨by simp [keyI],rfl,hx,?_⟩
  have hlt:=h.lt
  simp only [h.get,Res.ofOpt,Res.wp,gT,hd]
  have hu:=j8 (encE k ev) t b m 0
  cases hf:fm t m 0 with
  | none =>
    rw [hf] at hu
    simp only [Option.map_none,St.updM,updA]
    have hno:am t m = none:=by rw [← e8 t m 0,hf]; rfl
    refine hK _ ⟨?_,nV h.nd,?_,?_,?_⟩ ⟨by simp [St.setM],fun q hq=>o7 (by simpa using hq)⟩
    · rw [ka hlt]; exact congrArg some hu.1
    · rw [dj hlt,eC,hno]; simp [h.bl]
    · rw [dj hlt]
      refine List.nodup_append.2 ⟨h.bn,by simp,fun x hx y hy e=>?_⟩
      simp only [List.mem_singleton] at hy
      subst hy; subst e
      exact Nat.lt_irrefl _ (h.bc _ hx)
    · rw [dj hlt]
      intro b hb
      simp only [List.mem_append,List.mem_singleton] at hb
      rcases hb with hb | rfl
      · have:=h.bc b hb; simp only; omega
      · simp
  | some p =>
    obtain ⟨j,c⟩:=p
    rw [hf] at hu
    simp only [Nat.sub_zero] at hu
    simp only [Option.map_some,St.updM,updA]
    have hyes:(am t m).isSome = true:=by rw [← e8 t m 0,hf]; rfl
    refine hK _ ⟨?_,nV h.nd,?_,?_,?_⟩ ⟨by simp [St.setM],fun q hq=>o7 (by simpa using hq)⟩
    · rw [ka hlt]; exact congrArg some hu.2.1
    · rw [dj hlt,eC,if_pos hyes]; exact h.bl
    · rw [dj hlt]; exact h.bn
    · rw [dj hlt]; exact h.bc
theorem fO (h:MapIs st id k ev m) {t:Int} {K:Sf→St→Prop} {sf:Sf}
    (hK:∀ st',MapIs st' id k ev (delP t m)→Oth st st' [id]→K sf st'):delX false (.int k) (.map id) (.lit (.int k t)) K sf st:=by
  refine ⟨by simp [keyI],rfl,?_⟩
  have hlt:=h.lt
  simp only [h.get,Res.ofOpt,Res.wp,gT]
  cases hf:fm t m 0 with
  | none =>
    have hu:delP t m = m:=by
      have:∀ (m:List (Int×β)) (i:Nat),fm t m i = none→delP t m = m:=by
        intro m
        induction m with
        | nil=>intro i _; rfl
        | cons p r ih =>
          obtain ⟨k,c⟩:=p
          intro i h
          simp only [fm] at h
          simp only [delP]
          split at h
          · cases h
          · rename_i hne; rw [if_neg hne,ih (i + 1) h]
      exact this m 0 hf
    simp only [Option.map_none]
    exact hK _ (by rw [hu]; exact h) (Oth.refl _ _)
  | some p =>
    obtain ⟨j,c⟩:=p
    have hu:=j8 (encE k ev) t c m 0
    rw [hf] at hu
    simp only [Nat.sub_zero] at hu
    simp only [Option.map_some,St.delM]
    have hyes:(am t m).isSome = true:=by rw [← e8 t m 0,hf]; rfl
    refine hK _ ⟨?_,nW h.nd,?_,?_,?_⟩ ⟨by simp [St.setM],fun q hq=>o7 (by simpa using hq)⟩
    · rw [ka hlt]; exact congrArg some hu.2.2.1
    · rw [dj hlt,o6,if_pos hyes]
      simp only [List.length_eraseIdx,h.bl,if_pos hu.2.2.2]
    · rw [dj hlt]; exact h.bn.sublist (List.eraseIdx_sublist ..)
    · rw [dj hlt]; exact fun b hb=>h.bc b (List.mem_of_mem_eraseIdx hb)
theorem mq (h:MapIs st id k ev m):lenI .mp st (.map id) = .ok (.lit (.int .i64 m.length)):=by
  simp only [lenI,h.get,Res.ofOpt,Res.bind,encM,List.length_map]
theorem MapIs.new (st:St) (k:IntKind) (ev:β→AV):MapIs (st.push (.mp [] [] 0)) st.boxes.length k ev []:=by
  refine ⟨getM_push ..,by simp [aD],?_,?_,?_⟩ <;> rw [getB_push] <;> simp
end
theorem au {P:Program} {X:Cx} {f:FuncId} {fn:AFun} {vs:List AV} {st:St} (hmix:P.follows .mixedOrders = true) (hf:aH P X f = some fn) (hX:X.F = id) (hlen:Nat.ble vs.length fn.n = true) {v0:AV} (h:∀ Q:AV→St→Prop,(∀ st',Q v0 st')→aFun P id true fn vs st Q):aG P f vs st v0:=by
  refine pcalls_of hmix hf (Nat.le_of_ble_eq_true hlen) ?_
  rw [hX]; exact h _ fun _=>rfl
end Go.Fx
/- Linked nodes in a map: a queue (plain lists; no program in sight). -/
namespace Go.Fx
open Go
abbrev Nd:=Int×Nat×Nat
abbrev Qu:=List (Nat×Int)
def aK:Qu→Nat→Nat
  | [],h=>h
  | (x,_)::_,_=>x
def aI:Nat→Qu→Nat
  | p,[]=>p
  | _,(t,_)::r=>aI t r
def a9:Nat→Qu→Nat→Nat→Option Nd
  | _,[],_,_=>none
  | p,(u,v)::r,h,t=>if t = u then some (v,p,aK r h) else a9 u r h t
def aM (L:Qu):List Nat:=L.map Prod.fst
theorem fP (B:Qu) (h t:Nat):∀ (A:Qu) (p:Nat),a9 p (A++B) h t = match a9 p A (aK B h) t with | some x=>some x | none=>a9 (aI p A) B h t
  | [],p=>rfl
  | (u, v) :: A, p => by
    simp only [List.cons_append,a9,aI]
    split
    · cases A <;> rfl
    · exact fP B h t A u
theorem cH {h t:Nat}:∀ {L:Qu} {p:Nat},t ∉ aM L→a9 p L h t = none
  | [],_,_=>rfl
  | (u, v) :: r, p, hn => by
    simp only [aM,List.map_cons,List.mem_cons,not_or] at hn
    simp only [a9]
    rw [if_neg hn.1]
    exact cH hn.2
theorem ej:∀ {L:Qu} {p:Nat},L≠[]→aI p L ∈ aM L
  | [(t,v)],p,_=>by simp [aI,aM]
  | (t, v) :: y :: r, p, _ => by
    have:=ej (L:=y::r) (p:=t) (by simp)
    simp only [aI,aM,List.map_cons,List.mem_cons] at this ⊢
    exact .inr this
theorem fQ (B:Qu):∀ (A:Qu) (p:Nat),aI p (A++B) = aI (aI p A) B
  | [],_=>rfl
  | (t,v)::A,p=>fQ B A t
theorem last_ne {L:Qu} {p p':Nat} (h:L≠[]):aI p L = aI p' L:=by
  cases L with
  | nil=>exact absurd rfl h
  | cons x r=>rfl
theorem o8 {h h' t:Nat}:∀ {L:Qu} {p:Nat},(aM L).Nodup→L≠[]→a9 p L h' t = if t = aI p L then (a9 p L h t).map (fun x=>(x.1,x.2.1,h')) else a9 p L h t
  | [(u, v)], p, _, _ => by
    simp only [a9,aI,aK]
    by_cases e:t = u
    · simp [e]
    · simp [e]
  | (u, v) :: (u2, v2) :: r, p, hn, _ => by
    have ih:=o8 (h:=h) (h':=h') (t:=t) (L:=(u2,v2)::r) (p:=u) (List.nodup_cons.1 hn).2 (by simp)
    have hl:=ej (L:=(u2,v2)::r) (p:=u) (by simp)
    have hne:u≠aI u ((u2,v2)::r):=fun e=>(List.nodup_cons.1 hn).1 (by rw [e]; exact hl)
    have e0:∀ q,a9 p ((u,v)::(u2,v2)::r) q t = if t = u then some (v,p,u2) else a9 u ((u2,v2)::r) q t:=fun q=>rfl
    rw [e0,e0,show aI p ((u,v)::(u2,v2)::r) = aI u ((u2,v2)::r) from rfl]
    by_cases e:t = u
    · subst e; rw [if_pos rfl,if_pos rfl,if_neg hne]
    · rw [if_neg e,if_neg e]; exact ih
theorem nodeA_p {h t p p':Nat} {u:Nat} {v:Int} {r:Qu} (hn:(aM ((u,v)::r)).Nodup):a9 p' ((u,v)::r) h t = if t = u then (a9 p ((u,v)::r) h t).map (fun x=>(x.1,p',x.2.2)) else a9 p ((u,v)::r) h t:=by
  simp only [a9]
  by_cases e:t = u
  · simp [e]
  · simp [e]
theorem nodeA_push {L:Qu} {u:Nat} {v:Int} {t:Nat} (hn:(aM L).Nodup) (hu:u ∉ aM L) (hL:L≠[]) :
    a9 0 (L++[(u,v)]) 0 t = if t = aI 0 L then (a9 0 L 0 t).map (fun x=>(x.1,x.2.1,u)) else if t = u then some (v,aI 0 L,0) else a9 0 L 0 t:=by
  rw [fP]
  simp only [aK,a9]
  have hl:=ej (p:=0) hL
  rw [o8 (h:=0) hn hL]
  by_cases e:t = aI 0 L
  · rw [if_pos e,if_pos e]
    cases hx:a9 0 L 0 t with
    | some x=>rfl
    | none =>
      exfalso
      have:∀ (L:Qu) (p:Nat),t ∈ aM L→a9 p L 0 t≠none:=by
        intro L
        induction L with
        | nil=>intro p h; simp [aM] at h
        | cons y r ih =>
          obtain ⟨a,b⟩:=y
          intro p h
          simp only [a9]
          split
          · simp
          · rename_i hne
            simp only [aM,List.map_cons,List.mem_cons] at h
            exact ih a (h.resolve_left hne)
      exact this L 0 (e ▸ hl) hx
  · rw [if_neg e,if_neg e]
    by_cases e2:t = u
    · subst e2; rw [cH hu]
      try simp
    · simp only [if_neg e2]
      cases a9 0 L 0 t <;> rfl
theorem nodeA_del {A B:Qu} {u:Nat} {v:Int} {t:Nat} (hn:(aM (A++(u,v)::B)).Nodup) :
    a9 0 (A++B) 0 t = if t = u then none else
      if A≠[]∧t = aI 0 A then (a9 0 (A++(u,v)::B) 0 t).map (fun x=>(x.1,x.2.1,aK B 0)) else
      if B≠[]∧t = aK B 0 then (a9 0 (A++(u,v)::B) 0 t).map (fun x=>(x.1,aI 0 A,x.2.2)) else a9 0 (A++(u,v)::B) 0 t:=by
  have h1:(aM A).Nodup∧(aM ((u,v)::B)).Nodup∧∀ x ∈ aM A,∀ y ∈ aM ((u,v)::B),x≠y:=by
    simp only [aM,List.map_append] at hn
    exact List.nodup_append.1 hn
  obtain ⟨hA,hB0,hAB⟩:=h1
  have hB:=List.nodup_cons.1 hB0
  have hu:u ∉ aM A:=fun e=>hAB u e u (by simp [aM]) rfl
  rw [fP,fP,show aK ((u,v)::B) 0 = u from rfl]
  by_cases e:t = u
  · subst e
    rw [if_pos rfl,cH hu]
    exact cH hB.1
  · rw [if_neg e]
    have e1:a9 (aI 0 A) ((u,v)::B) 0 t = a9 u B 0 t:=by simp only [a9]; rw [if_neg e]
    rw [e1]
    by_cases hAe:A = []
    · subst hAe
      simp only [a9,aI,ne_eq,not_true_eq_false,false_and,if_false]
      cases B with
      | nil=>simp [a9]
      | cons y r =>
        obtain ⟨w,z⟩:=y
        rw [nodeA_p (p:=u) (p':=0) hB.2]
        simp [show aK ((w,z)::r) 0 = w from rfl]
    · rw [o8 (h:=u) (h':=aK B 0) hA hAe]
      by_cases e2:t = aI 0 A
      · have hin:t ∈ aM A:=e2 ▸ ej hAe
        rw [if_pos e2,if_pos ⟨hAe,e2⟩]
        cases hx:a9 0 A u t with
        | some x=>rfl
        | none =>
          have hnb:t ∉ aM B:=fun hb=>hAB t hin t (by simp only [aM,List.map_cons,List.mem_cons]; exact .inr hb) rfl
          simp only [Option.map_none,cH hnb]
      · rw [if_neg e2,if_neg (fun q=>e2 q.2)]
        cases B with
        | nil=>simp [a9]
        | cons y r =>
          obtain ⟨w,z⟩:=y
          rw [nodeA_p (p:=u) (p':=aI 0 A) hB.2]
          simp only [show aK ((w,z)::r) 0 = w from rfl,ne_eq,reduceCtorEq,not_false_eq_true,true_and]
          by_cases e3:t = w
          · have hna:t ∉ aM A:=fun ha=>hAB t ha t (by simp [aM,e3]) rfl
            rw [if_pos e3,if_pos e3,cH hna]
          · rw [if_neg e3,if_neg e3]
theorem nodeA_at {A B:Qu} {u:Nat} {v:Int} (hu:u ∉ aM A):a9 0 (A++(u,v)::B) 0 u = some (v,aI 0 A,aK B 0):=by
  rw [fP,cH hu]
  simp [a9]
def ndAV (x:Nd):AV:=.agg [.lit (.int .i64 x.1),.lit (.int .u64 (x.2.1:Nat)),.lit (.int .u64 (x.2.2:Nat))]
theorem ndAV_dis (x:Nd):(ndAV x).dis = ndAV x:=rfl
structure QIs (st:St) (q mid:Nat) (L:Qu) (g:Nat):Prop where
  get:st.get q = some [.lit (.int .u64 (aK L 0:Nat)),.lit (.int .u64 (aI 0 L:Nat)),.lit (.int .u64 (g:Nat)),.map mid]
  mp:∃ m,MapIs st mid .u64 ndAV m∧(∀ t:Nat,am t m = a9 0 L 0 t)∧m.length = L.length
  srt:(aM L).Pairwise (· < ·)
  pos:∀ t ∈ aM L,0 < t∧t≤g
theorem QIs.nd {st:St} {q mid g:Nat} {L:Qu} (h:QIs st q mid L g):(aM L).Nodup:=h.srt.imp fun h=>Nat.ne_of_lt h
theorem QIs.ne {st:St} {q mid g:Nat} {L:Qu} (h:QIs st q mid L g):mid≠q:=by
  obtain ⟨m,hm,_⟩:=h.mp
  exact hm.ne h.get
theorem QIs.ltq {st:St} {q mid g:Nat} {L:Qu} (h:QIs st q mid L g):q < st.boxes.length:=bA h.get
theorem QIs.ltm {st:St} {q mid g:Nat} {L:Qu} (h:QIs st q mid L g):mid < st.boxes.length:=by
  obtain ⟨m,hm,_⟩:=h.mp
  exact hm.lt
theorem QIs.at {st st':St} {q mid g:Nat} {L:Qu} (h:QIs st q mid L g) (h1:st'.boxes[q]? = st.boxes[q]?) (h2:st'.boxes[mid]? = st.boxes[mid]?):QIs st' q mid L g:=by
  obtain ⟨m,hm,h3,h4⟩:=h.mp
  exact ⟨(dB h1).trans h.get,⟨m,hm.at h2,h3,h4⟩,h.srt,h.pos⟩
theorem QIs.oth {st st':St} {q mid g:Nat} {L:Qu} {S:List Nat} (h:QIs st q mid L g) (ho:Oth st st' S) (h1:q ∉ S) (h2:mid ∉ S):QIs st' q mid L g:=h.at (ho.2 _ h1) (ho.2 _ h2)
theorem QIs.nil_iff {st:St} {q mid g:Nat} {L:Qu} (h:QIs st q mid L g):(aK L 0 = 0↔L = [])∧(aI 0 L = 0↔L = []):=by
  cases L with
  | nil=>simp [aK,aI]
  | cons x r =>
    obtain ⟨t,v⟩:=x
    have h1:=h.pos t (by simp [aM])
    have h2:=h.pos _ (ej (L:=(t,v)::r) (p:=0) (by simp))
    simp only [aK,reduceCtorEq,iff_false]
    omega
theorem fa {t:Nat}:∀ {L:Qu} {p:Nat},t ∈ aM L→∃ x,a9 p L 0 t = some x
  | (u, v) :: r, p, h => by
    simp only [a9]
    split
    · exact ⟨_,rfl⟩
    · rename_i hne
      simp only [aM,List.map_cons,List.mem_cons] at h
      exact fa (h.resolve_left hne)
theorem cS (A B:Qu):aM (A++B) = aM A++aM B:=by simp [aM]
theorem QIs.push {st st':St} {q mid g:Nat} {L:Qu} {v:Int} (h:QIs st q mid L g) {m':List (Int×Nd)} (hg:st'.get q = some [.lit (.int .u64 (aK (L++[(g + 1,v)]) 0:Nat)),.lit (.int .u64 ((g + 1:Nat))),.lit (.int .u64 ((g + 1:Nat))),.map mid])
    (hm:MapIs st' mid .u64 ndAV m') (hl:∀ t:Nat,am t m' = a9 0 (L++[(g + 1,v)]) 0 t) (hn:m'.length = L.length + 1):QIs st' q mid (L++[(g + 1,v)]) (g + 1):=by
  refine ⟨by rw [fQ]; exact hg,⟨m',hm,hl,by simp [hn]⟩,?_,fun t ht=>?_⟩
  · rw [cS]
    refine List.pairwise_append.2 ⟨h.srt,by simp [aM],fun x hx y hy=>?_⟩
    simp only [aM,List.map_cons,List.map_nil,List.mem_singleton] at hy
    have:=(h.pos x hx).2
    omega
  · rw [cS] at ht
    rcases List.mem_append.1 ht with ht | ht
    · have:=h.pos t ht; omega
    · simp only [aM,List.map_cons,List.map_nil,List.mem_singleton] at ht
      omega
theorem QIs.fresh {st:St} {q mid g:Nat} {L:Qu} (h:QIs st q mid L g):g + 1 ∉ aM L:=fun e=>by have:=(h.pos _ e).2; omega
theorem QIs.del {st st':St} {q mid g:Nat} {A B:Qu} {t:Nat} {v:Int} (h:QIs st q mid (A++(t,v)::B) g) {m':List (Int×Nd)} (hg:st'.get q = some [.lit (.int .u64 (aK (A++B) 0:Nat)),.lit (.int .u64 (aI 0 (A++B):Nat)),.lit (.int .u64 (g:Nat)),.map mid])
    (hm:MapIs st' mid .u64 ndAV m') (hl:∀ t:Nat,am t m' = a9 0 (A++B) 0 t) (hn:m'.length = (A++B).length):QIs st' q mid (A++B) g:=by
  have hsub:(aM (A++B)).Sublist (aM (A++(t,v)::B)):=by
    simp only [cS]
    exact List.Sublist.append (List.Sublist.refl _) (List.sublist_cons_self _ _)
  exact ⟨hg,⟨m',hm,hl,hn⟩,h.srt.sublist hsub,fun x hx=>h.pos x (hsub.subset hx)⟩
end Go.Fx
/- A channel's state: plain lists, and where they lie. -/
namespace Go.Fx
open Go
abbrev W3:=Nat×Int×Int
structure ChP where
  closed:Bool
  cap:Nat
  buf:List Int
  S:List W3
  V:List W3
  g0:Nat
  g1:Nat
def qOf (l:List W3):Qu:=l.map fun x=>(x.1,x.2.1)
def wEnt (d:Int) (l:List W3):List (Int×(Int×Int×Nat)):=l.map fun x=>(x.2.1,(d,x.2.2,x.1))
def entC (S V:List W3):List (Int×(Int×Int×Nat)):=wEnt 0 S++wEnt 1 V
def wtAV (x:Int×Int×Nat):AV:=.agg [.lit (.int .i64 x.1),.lit (.int .i64 x.2.1),.lit (.int .u64 (x.2.2:Nat))]
def ints (l:List Int):List AV:=l.map fun v=>.lit (.int .i64 v)
theorem dL (l:List Int):Lits (ints l):=fun x hx=>by
  simp only [ints,List.mem_map] at hx
  obtain ⟨v,_,rfl⟩:=hx
  exact ⟨_,rfl⟩
theorem aq (l:List Int):(ints l).length = l.length:=by simp [ints]
theorem fR (l k:List Int):ints (l++k) = ints l++ints k:=by simp [ints]
theorem dC {β:Type} {k:Int} {x:β} {B:List (Int×β)}:∀ {A:List (Int×β)},(aD (A++(k,x)::B)).Nodup→am k (A++(k,x)::B) = some x∧∀ t,am t (A++B) = if t = k then none else am t (A++(k,x)::B)
  | [], h => by
    simp only [List.nil_append,aD,List.map_cons,List.nodup_cons] at h
    refine ⟨by simp [am],fun t=>?_⟩
    by_cases e:t = k
    · subst e; rw [if_pos rfl]; exact j9 h.1
    · simp [am,e]
  | (a, b) :: A, h => by
    simp only [List.cons_append,aD,List.map_cons,List.nodup_cons] at h
    obtain ⟨h1,h2⟩:=dC (A:=A) (B:=B) (k:=k) (x:=x) h.2
    have hne:¬ k = a:=fun e=>h.1 (by rw [← e]; simp)
    refine ⟨by simp only [List.cons_append,am]; rw [if_neg hne]; exact h1,fun t=>?_⟩
    simp only [List.cons_append,am]
    by_cases e:t = a
    · have e2:¬ t = k:=fun q=>hne (by rw [← q,e])
      rw [if_pos e,if_neg e2,if_pos e]
    · rw [if_neg e,if_neg e]; exact h2 t
theorem ek {β:Type} (A B:List (Int×β)):aD (A++B) = aD A++aD B:=by simp [aD]
theorem look_of_mem {β:Type} {k:Int} {m:List (Int×β)}:(am k m).isSome = decide (k ∈ aD m):=by
  induction m with
  | nil=>simp [am,aD]
  | cons p r ih =>
    obtain ⟨a,b⟩:=p
    simp only [am,aD,List.map_cons,List.mem_cons]
    by_cases e:k = a
    · simp [e]
    · simp only [if_neg e,e,false_or]; exact ih
def ae:AV→List Nat
  | .bs id _ _ _ _=>[id]
  | _=>[]
structure ChIs (st:St) (c:Nat) (P:ChP) (q0 m0 q1 m1 wid:Nat) (bv:AV):Prop where
  get:st.get c = some [.lit (.bool true),.lit (.bool P.closed),.lit (.int .i64 (P.cap:Nat)),bv,.ptr q0 0,.ptr q1 0,.map wid]
  buf:MB bv st (ints P.buf)
  s:QIs st q0 m0 (qOf P.S) P.g0
  r:QIs st q1 m1 (qOf P.V) P.g1
  w:∃ W,MapIs st wid .i64 wtAV W∧∀ t,am t W = am t (entC P.S P.V)
  ids:[c,q0,q1,m0,m1,wid].Nodup
  bid:∀ x ∈ ae bv,x ∉ [c,q0,q1,m0,m1,wid]
  nd:(aD (entC P.S P.V)).Nodup
  rng:∀ t ∈ aD (entC P.S P.V),0≤t∧t < 64
  zv:∀ x ∈ P.V,x.2.2 = 0
def Kp (st st':St) (F:List Nat):Prop:=st.boxes.length≤st'.boxes.length∧∀ id,id < st.boxes.length→id ∉ F→st'.boxes[id]? = st.boxes[id]?
theorem Kp.refl (st:St) (F:List Nat):Kp st st F:=⟨Nat.le_refl _,fun _ _ _=>rfl⟩
theorem Kp.trans {a b c:St} {F F':List Nat} (h:Kp a b F) (k:Kp b c F') (hf:∀ x ∈ F',x ∈ F∨a.boxes.length≤x):Kp a c F :=
  ⟨Nat.le_trans h.1 k.1,fun id hid hn=>(k.2 id (Nat.lt_of_lt_of_le hid h.1) fun e=>(hf id e).elim hn (fun q=>by omega)).trans (h.2 id hid hn)⟩
theorem Oth.kp {st st':St} {S F:List Nat} (h:Oth st st' S) (hs:∀ x ∈ S,x ∈ F):Kp st st' F:=⟨Nat.le_of_eq h.1.symm,fun id _ hn=>h.2 id fun e=>hn (hs id e)⟩
theorem MB.at {v:AV} {st st':St} {l:List AV} (h:MB v st l) (hb:∀ x ∈ ae v,st'.boxes[x]? = st.boxes[x]?):MB v st' l:=by
  rcases h with ⟨rfl,rfl⟩ | ⟨id,cap,r,rfl,hg,h1,h2⟩
  · exact .inl ⟨rfl,rfl⟩
  · exact .inr ⟨id,cap,r,rfl,(dB (hb id (by simp [ae]))).trans hg,h1,h2⟩
theorem MB.lt {v:AV} {st:St} {l:List AV} (h:MB v st l):∀ x ∈ ae v,x < st.boxes.length:=by
  rcases h with ⟨rfl,rfl⟩ | ⟨id,cap,r,rfl,hg,h1,h2⟩
  · simp [ae]
  · intro x hx
    simp only [ae,List.mem_singleton] at hx
    subst hx
    exact bA hg
section
variable {st st':St} {c q0 m0 q1 m1 wid:Nat} {bv:AV} {P:ChP}
theorem ChIs.lts (h:ChIs st c P q0 m0 q1 m1 wid bv):∀ x ∈ [c,q0,q1,m0,m1,wid]++ae bv,x < st.boxes.length:=by
  obtain ⟨W,hW,_⟩:=h.w
  intro x hx
  simp only [List.mem_append,List.mem_cons,List.not_mem_nil,or_false] at hx
  rcases hx with (rfl | rfl | rfl | rfl | rfl | rfl) | hx
  · exact bA h.get
  · exact h.s.ltq
  · exact h.r.ltq
  · exact h.s.ltm
  · exact h.r.ltm
  · exact hW.lt
  · exact h.buf.lt x hx
theorem ChIs.kp (h:ChIs st c P q0 m0 q1 m1 wid bv) {F:List Nat} (hk:Kp st st' F) (hf:∀ x ∈ [c,q0,q1,m0,m1,wid]++ae bv,x ∉ F):ChIs st' c P q0 m0 q1 m1 wid bv:=by
  have hat:∀ x ∈ [c,q0,q1,m0,m1,wid]++ae bv,st'.boxes[x]? = st.boxes[x]?:=fun x hx=>hk.2 x (h.lts x hx) (hf x hx)
  obtain ⟨W,hW,hl⟩:=h.w
  exact ⟨(dB (hat c (by simp))).trans h.get,h.buf.at fun x hx=>hat x (by simp only [List.mem_append]; exact .inr hx),h.s.at (hat _ (by simp)) (hat _ (by simp)),h.r.at (hat _ (by simp)) (hat _ (by simp)),⟨W,hW.at (hat _ (by simp)),hl⟩,h.ids,h.bid,h.nd,h.rng,h.zv⟩
end
theorem MB.grow {v:AV} {st:St} {l new:List AV} {bytes:Nat} {C:AV→St→Prop} (h:MB v st l) (hl:Lits l) (hn:Lits new) (hr:eg (l.length + new.length) bytes = true)
    (hC:∀ v' st',MB v' st' (l++new)→Kp st st' (ae v)→(∀ x ∈ ae v',x ∈ ae v∨st.boxes.length≤x)→C v' st'):appX false 1 bytes v C st new:=by
  rcases h with ⟨rfl,rfl⟩ | ⟨id,cap,r,rfl,hg,h1,h2⟩
  · refine ⟨rfl,by simpa using hr,?_⟩
    split
    · rename_i h
      have:new = []:=by simpa using h
      subst this
      exact hC _ _ (.inl ⟨rfl,rfl⟩) (Kp.refl _ _) (by simp [ae])
    · intro c hc
      refine hC _ _ (.inr ⟨st.boxes.length,c,List.replicate (c - new.length) .any,by simp,?_,by simpa using hc,by simp; omega⟩) ⟨by simp [St.push],fun id hid _=>cG hid⟩ (by simp [ae])
      rw [hn.cellsD]
      simp only [List.nil_append,Nat.mul_one]
      exact cx st _
  · refine ⟨rfl,rfl,hr,?_⟩
    rw [hg]
    show (Res.ok _).wp _
    rw [wp_ok,hn.cellsD]
    have hid:=bA hg
    split
    · rename_i hc
      refine ⟨by omega,hC _ _ (.inr ⟨id,cap,r.drop new.length,by simp,?_,by simpa using hc,?_⟩) ⟨by simp [St.set],fun id' _ hne=>c9 (by simpa [ae] using hne)⟩ (by simp [ae])⟩
      · rw [bg hid,Nat.zero_add,Nat.mul_one,fM rfl (by simp at h2; omega)]
        simp
      · simp at h2 ⊢; omega
    · rename_i hc
      have e:List.map AV.own1 (List.take (l.length * 1) (List.drop 0 (l++r))) = l:=by simp [hl.own]
      refine ⟨by simp,fun c hc=>hC _ _ (.inr ⟨st.boxes.length,c,List.replicate (c - (l.length + new.length)) .any,by simp,?_,by simpa using hc,by simp; omega⟩) ⟨by simp [St.push],fun id' hid' _=>cG hid'⟩ (by simp [ae])⟩
      rw [e]
      simp only [Nat.mul_one]
      exact cx st _
abbrev It := Int × Int × Int  -- task, value, error
def itAV (x:It):AV:=.agg [.lit (.int .i64 x.1),.lit (.int .i64 0),.lit (.int .i64 x.2.1),.lit (.int .i64 x.2.2)]
def bO (l:List It):AV:=if l = [] then .lit (.slice none 0 0) else .sl false 4 (l.map itAV)
theorem cg (l:List It):(bO l).dis = bO l∧(bO l).own1 = bO l∧(bO l).own2 = bO l∧(bO l).solid1 = true∧(bO l).noL = true∧(bO l).cells = [bO l]∧∀ s,kill s (bO l) = bO l:=by
  unfold bO; split <;> exact ⟨rfl,rfl,rfl,rfl,rfl,rfl,fun _=>rfl⟩
def aJ (P:ChP) (v:Int):ChP×List It×Int :=
  if P.closed = true then (P,[],14) else
  match P.V with
  | x::l=>({ P with V:=l },[(x.2.1,v,0)],0)
  | []=>if P.buf.length < P.cap then ({ P with buf:=P.buf++[v] },[],0) else (P,[],16)
def foot (c q0 m0 q1 m1 wid:Nat) (bv:AV):List Nat:=[c,q0,q1,m0,m1,wid]++ae bv
def ck (st:St) (c:Nat) (P:ChP) (q0 m0 q1 m1 wid:Nat) (bv:AV) (st':St):Prop :=
  ∃ bv',ChIs st' c P q0 m0 q1 m1 wid bv'∧Kp st st' (foot c q0 m0 q1 m1 wid bv)∧∀ x ∈ ae bv',x ∈ ae bv∨st.boxes.length≤x
theorem ChIs.post {st st':St} {c q0 m0 q1 m1 wid:Nat} {bv:AV} {P:ChP} (h:ChIs st' c P q0 m0 q1 m1 wid bv) (hk:Kp st st' (foot c q0 m0 q1 m1 wid bv)):ck st c P q0 m0 q1 m1 wid bv st':=⟨bv,h,hk,fun _ h=>.inl h⟩
theorem ck.trans {a b st':St} {c q0 m0 q1 m1 wid:Nat} {bv bv1:AV} {P:ChP} (hk:Kp a b (foot c q0 m0 q1 m1 wid bv)) (hb:∀ x ∈ ae bv1,x ∈ ae bv∨a.boxes.length≤x) (h:ck b c P q0 m0 q1 m1 wid bv1 st'):ck a c P q0 m0 q1 m1 wid bv st':=by
  obtain ⟨bv',h1,h2,h3⟩:=h
  refine ⟨bv',h1,hk.trans h2 fun x hx=>?_,fun x hx=>?_⟩
  · simp only [foot,List.mem_append] at hx ⊢
    rcases hx with hx | hx
    · exact .inl (.inl hx)
    · exact (hb x hx).elim (fun e=>.inl (.inr e)) .inr
  · rcases h3 x hx with h | h
    · exact hb x h
    · exact .inr (Nat.le_trans hk.1 h)
theorem ChIs.rebufC {st st1:St} {c q0 m0 q1 m1 wid:Nat} {bv bv1:AV} {P:ChP} {cl:Bool} {b':List Int} (h:ChIs st c P q0 m0 q1 m1 wid bv) (hm:MB bv1 st1 (ints b')) (hk:Kp st st1 (ae bv)) (hb:∀ x ∈ ae bv1,x ∈ ae bv∨st.boxes.length≤x) :
    ChIs (st1.set c [.lit (.bool true),.lit (.bool cl),.lit (.int .i64 (P.cap:Nat)),bv1,.ptr q0 0,.ptr q1 0,.map wid]) c { P with buf:=b',closed:=cl } q0 m0 q1 m1 wid bv1 ∧
    Kp st (st1.set c [.lit (.bool true),.lit (.bool cl),.lit (.int .i64 (P.cap:Nat)),bv1,.ptr q0 0,.ptr q1 0,.map wid]) (foot c q0 m0 q1 m1 wid bv):=by
  have hlt:=h.lts
  have hids:=h.ids
  have hbid:=h.bid
  have hcl:c < st1.boxes.length:=Nat.lt_of_lt_of_le (hlt c (by simp)) hk.1
  simp only [List.nodup_cons,List.mem_cons,List.not_mem_nil,or_false,not_or] at hids
  have hat:∀ x ∈ [q0,q1,m0,m1,wid],(st1.set c [.lit (.bool true),.lit (.bool cl),.lit (.int .i64 (P.cap:Nat)),bv1,.ptr q0 0,.ptr q1 0,.map wid]).boxes[x]? = st.boxes[x]?:=by
    intro x hx
    rw [c9 (by simp at hx; omega)]
    refine hk.2 x (hlt x (by simp at hx ⊢; omega)) fun e=>?_
    exact hbid x e (by simp at hx ⊢; omega)
  have hbc:∀ x ∈ ae bv1,x ∉ [c,q0,q1,m0,m1,wid]:=by
    intro x hx hin
    rcases hb x hx with e | e
    · exact hbid x e hin
    · have:=hlt x (List.mem_append_left _ hin); omega
  obtain ⟨W,hW,hl⟩:=h.w
  refine ⟨⟨bg hcl,hm.at fun x hx=>c9 fun e=>hbc x hx (by simp [e]),h.s.at (hat _ (by simp)) (hat _ (by simp)),h.r.at (hat _ (by simp)) (hat _ (by simp)),⟨W,hW.at (hat _ (by simp)),hl⟩,h.ids,hbc,h.nd,h.rng,h.zv⟩,⟨by rw [f9]; exact hk.1,fun x hx hn=>?_⟩⟩
  simp only [foot,List.mem_append,List.mem_cons,List.not_mem_nil,or_false,not_or] at hn
  rw [c9 hn.1.1]
  exact hk.2 x hx hn.2
theorem ChIs.rebuf {st st1:St} {c q0 m0 q1 m1 wid:Nat} {bv bv1:AV} {P:ChP} {cl:Bool} {b':List Int} (h:ChIs st c P q0 m0 q1 m1 wid bv) (hm:MB bv1 st1 (ints b')) (hk:Kp st st1 (ae bv)) (hb:∀ x ∈ ae bv1,x ∈ ae bv∨st.boxes.length≤x) :
    ck st c { P with buf:=b',closed:=cl } q0 m0 q1 m1 wid bv (st1.set c [.lit (.bool true),.lit (.bool cl),.lit (.int .i64 (P.cap:Nat)),bv1,.ptr q0 0,.ptr q1 0,.map wid]) :=
  ⟨bv1,(h.rebufC hm hk hb).1,(h.rebufC hm hk hb).2,hb⟩
def chk (P:ChP) (t:Int):Int:=if t < 0∨64≤t then 2 else if t ∈ aD (entC P.S P.V) then 11 else 0
def js (P:ChP) (t v:Int):ChP×Bool×List It×Int :=
  if chk P t≠0 then (P,false,[],chk P t) else
  if (aJ P v).2.2 = 16 then ({ P with S:=P.S++[(P.g0 + 1,t,v)],g0:=P.g0 + 1 },false,[],0)
  else ((aJ P v).1,(aJ P v).2.2 == 0,(aJ P v).2.1,(aJ P v).2.2)
def ai (P:ChP):ChP×Int×List It×Int :=
  match P.S with
  | x::l=>({ P with S:=l,buf:=(P.buf++[x.2.2]).tail },(P.buf++[x.2.2]).headD 0,[(x.2.1,0,0)],0)
  | [] => match P.buf with
    | []=>(P,0,[],if P.closed = true then 13 else 16)
    | x::b=>({ P with buf:=b },x,[],0)
def fu (P:ChP):ChP×List It×Int :=
  if P.closed = true then (P,[],14) else ({ P with closed:=true,S:=[],V:=[] },P.V.map (fun x=>(x.2.1,0,13))++P.S.map (fun x=>(x.2.1,0,14)),0)
def gb (P:ChP) (t:Int):ChP×Int :=
  if chk P t = 11 then ({ P with S:=P.S.filter (fun x=>x.2.1 != t),V:=P.V.filter (fun x=>x.2.1 != t) },0) else if chk P t = 0 then (P,9) else (P,chk P t)
def dx (P:ChP) (t:Int):ChP×Int×Bool×List It×Int :=
  if chk P t≠0 then (P,0,false,[],chk P t) else
  if (ai P).2.2.2 = 16 then ({ P with V:=P.V++[(P.g1 + 1,t,0)],g1:=P.g1 + 1 },0,false,[],0)
  else ((ai P).1,(ai P).2.1,(ai P).2.2.2 == 0,(ai P).2.2.1,(ai P).2.2.2)
def Bd (P:ChP) (n:Nat):Prop:=P.g0≤n∧P.g1≤n∧P.buf.length≤n∧P.S.length≤n∧P.V.length≤n∧P.cap≤4096
theorem try_16 {P:ChP} {v:Int} (h:(aJ P v).2.2 = 16):(aJ P v).1 = P∧(aJ P v).2.1 = []:=by
  unfold aJ at *
  split
  · exact ⟨rfl,rfl⟩
  · rename_i h1
    rw [if_neg h1] at h
    split
    · rename_i h2; rw [h2] at h; simp at h
    · rename_i h2; rw [h2] at h
      split
      · rename_i h3; simp [if_pos h3] at h
      · exact ⟨rfl,rfl⟩
theorem tryr_16 {P:ChP} (h:(ai P).2.2.2 = 16):(ai P).1 = P∧(ai P).2.2.1 = []∧(ai P).2.1 = 0:=by
  unfold ai at *
  split
  · rename_i h1; rw [h1] at h; simp at h
  · rename_i h1
    split
    · exact ⟨rfl,rfl,rfl⟩
    · rename_i h2; rw [h1,h2] at h; simp at h
end Go.Fx
