/- An evaluator for resolved code, proved against the model: part 5. -/
import Derived.Test.YtbomoaajkinfpaaFxD
/- Lists of cells, boxes and numbers: small laws for evaluation. -/
namespace Go.Fx
open Go
theorem up_addL (a k:Nat):(a:Int) + (no_index (OfNat.ofNat k)) = ((a + OfNat.ofNat k:Nat):Int):=by exact id rfl
theorem mN:∀ (vs cs:List AV) (i:Nat),(bB cs i vs).length = cs.length
  | [],cs,i=>rfl
  | v::vs,cs,i=>by simp only [bB]; rw [mN vs]; simp
theorem mO (cs:List AV) (i:Nat):bB cs i [] = cs:=by cases cs <;> rfl
theorem cellsD_nil:Fx.cellsD [] = []:=rfl
theorem jf:∀ (vs xs rs:List AV),vs.length≤rs.length→bB (xs++rs) xs.length vs = xs++(vs++rs.drop vs.length)
  | [],xs,rs,_=>by simp [bB]
  | v::vs,xs,[],h=>by simp at h
  | v :: vs, xs, r :: rs, h => by
    simp only [bB]
    have h1:(xs++r::rs).set xs.length v = (xs++[v])++rs:=by simp
    have h2:xs.length + 1 = (xs++[v]).length:=by simp
    rw [h1,h2,jf vs (xs++[v]) rs (by simpa using h)]
    simp
theorem setAt_zero {vs cs:List AV} (h:vs.length≤cs.length):bB cs 0 vs = vs++cs.drop vs.length:=jf vs [] cs h
theorem fa {vs xs rs:List AV} {n:Nat} (hn:n = xs.length) (h:vs.length≤rs.length):bB (xs++rs) n vs = xs++(vs++rs.drop vs.length):=by subst hn; exact jf vs xs rs h
def Lits (l:List AV):Prop:=∀ x ∈ l,∃ v,x = .lit v
theorem Lits.nil:Lits []:=fun _ h=>by cases h
theorem Lits.app {l l':List AV} (h:Lits l) (h':Lits l'):Lits (l++l'):=fun x hx=>(List.mem_append.1 hx).elim (h x) (h' x)
theorem Lits.drop {l:List AV} (h:Lits l) (n:Nat):Lits (l.drop n):=fun x hx=>h x (List.mem_of_mem_drop hx)
theorem Lits.map {A:Type} (f:A→Value) (l:List A):Lits (l.map fun a=>.lit (f a)):=fun x hx=>by
  obtain ⟨a,_,rfl⟩:=List.mem_map.1 hx; exact ⟨_,rfl⟩
theorem Lits.dis {l:List AV} (h:Lits l):l.map AV.dis = l:=by
  induction l with
  | nil=>rfl
  | cons x r ih =>
    obtain ⟨v,rfl⟩:=h x (List.mem_cons_self ..)
    simp only [List.map_cons,j0]
    rw [ih fun y hy=>h y (List.mem_cons_of_mem _ hy)]
theorem Lits.own {l:List AV} (h:Lits l):l.map AV.own1 = l:=by
  induction l with
  | nil=>rfl
  | cons x r ih =>
    obtain ⟨v,rfl⟩:=h x (List.mem_cons_self ..)
    simp only [List.map_cons,im]
    rw [ih fun y hy=>h y (List.mem_cons_of_mem _ hy)]
theorem Lits.cells {l:List AV} (h:Lits l):l.flatMap AV.cells = l:=by
  induction l with
  | nil=>rfl
  | cons x r ih =>
    obtain ⟨v,rfl⟩:=h x (List.mem_cons_self ..)
    simp only [List.flatMap_cons,jb]
    rw [ih fun y hy=>h y (List.mem_cons_of_mem _ hy)]
    rfl
theorem Lits.cellsD {l:List AV} (h:Lits l):Fx.cellsD l = l:=by unfold Fx.cellsD; rw [h.dis,h.cells]
theorem Lits.grp {l:List AV}:∀ (n:Nat) (l:List AV),n≤l.length→Fx.grp 1 n l = l.take n
  | 0,l,_=>by simp [Fx.grp]
  | n + 1,[],h=>by simp at h
  | n + 1,x::l,h=>by simp only [Fx.grp,if_true,List.getD_cons_zero,List.drop_succ_cons,List.drop_zero,List.take_succ_cons]; rw [Lits.grp (l:=l) n l (by simpa using h)]
theorem grp_one {n:Nat} {l:List AV} (h:n≤l.length):grp 1 n l = l.take n:=Lits.grp (l:=l) n l h
theorem Lits.nb {l:List AV} (h:Lits l):∀ x ∈ l,x.NB:=fun x hx=>by obtain ⟨v,rfl⟩:=h x hx; exact .lit v
theorem acalls_id {P:Program} {X:Cx} {f:FuncId} {fn:AFun} {vs:List AV} {st:St} (hmix:P.follows .mixedOrders = true) (hf:gD P X f = some fn) (hX:X.F = id) (hlen:Nat.ble vs.length fn.n = true) {K:AV→St→Prop} (h:aFun P id false fn vs st K):aB P f vs st K:=by
  refine acalls_of hmix hf (Nat.le_of_ble_eq_true hlen) ?_
  rw [hX]; exact h
theorem cb (st:St) (cs:List AV):(st.push (.cells cs)).get st.boxes.length = some cs:=by simp [St.push,St.get]
theorem getM_push (st:St) (es:List (AV×AV)) (bs:List Nat) (k:Nat):(st.push (.mp es bs k)).getM st.boxes.length = some es:=by simp [St.push,St.getM]
theorem getB_push (st:St) (es:List (AV×AV)) (bs:List Nat) (k:Nat):(st.push (.mp es bs k)).getB st.boxes.length = (bs,k):=by simp [St.push,St.getB]
theorem bh (st:St) (b:Box):(st.push b).boxes.length = st.boxes.length + 1:=by simp [St.push]
theorem fw (st:St) (id:Nat) (cs:List AV):(st.set id cs).boxes.length = st.boxes.length:=by simp [St.set]
theorem fA {st:St} {b:Box} {id:Nat} (h:id < st.boxes.length):(st.push b).get id = st.get id:=by simp [St.push,St.get,List.getElem?_append_left h]
theorem bj {st:St} {id:Nat} {cs:List AV} (h:st.get id = some cs):id < st.boxes.length:=by
  rcases Nat.lt_or_ge id st.boxes.length with hl | hl
  · exact hl
  · simp [St.get,List.getElem?_eq_none hl] at h
theorem aV {st:St} {id:Nat} {cs:List AV} (h:id < st.boxes.length):(st.set id cs).get id = some cs:=by simp [St.set,St.get,h]
theorem ln {st:St} {id id':Nat} {cs:List AV} (h:id≠id'):(st.set id cs).get id' = st.get id':=by simp [St.set,St.get,List.getElem?_set_ne h]
theorem j6 (st:St) (id:Nat) (cs ds:List AV):(st.set id cs).set id ds = st.set id ds:=by simp [St.set]
theorem lq (cs:List AV) (i:Nat) (v:AV) (vs:List AV):bB cs i (v::vs) = bB (cs.set i v) (i + 1) vs:=rfl
end Go.Fx
/- Loops with states that are told; lists of bytes. -/
namespace Go.Fx
open Go
section
variable {P:Program} {F:Nat→FuncId} {m:Bool} {b:AC} {lv ll:List Nat} {Q:Exit→Sf→St→Prop}
def stepQ {A:Type} (S:A→Sf) (T:A→St) (R:A→Prop) (lv ll:List Nat) (Q:Exit→Sf→St→Prop):Exit→Sf→St→Prop
  | .normal,sf,st=>∃ a,R a∧Sf.le (sf.mask lv ll) (S a)∧st = T a
  | e,sf,st=>Q e sf st
theorem loop_for {A:Type} (μ:A→Nat) (S:A→Sf) (T:A→St) (I:A→Prop) (a0:A) {sf:Sf} {st:St} (h0:I a0) (hs:Sf.le (sf.mask lv ll) (S a0)) (ht:st = T a0)
    (step:∀ a,I a→aC P F m b (S a) (T a) (stepQ S T (fun a'=>I a'∧μ a' < μ a) lv ll Q)):aL (aC P F m b) lv ll sf st Q:=by
  refine ⟨fun k sf st=>∃ a,I a∧μ a = k∧sf = S a∧st = T a,⟨μ a0,_,hs,a0,h0,rfl,rfl,ht⟩,?_⟩
  rintro k sf st ⟨a,ha,rfl,rfl,rfl⟩
  refine aC_mono (fun e sf st=>?_) (step a ha)
  cases e with
  | normal=>exact fun ⟨a',⟨h1,h2⟩,h3,h4⟩=>⟨μ a',h2,S a',h3,a',h1,rfl,rfl,h4⟩
  | _=>exact fun q=>q
variable {A:Type} (S:A→Sf) (T:A→St) (R:A→Prop) (sf:Sf) (st:St)
end
section
variable {CB:Sf→St→(Exit→Sf→St→Prop)→Prop} {id:Nat} {r:Loop} {rs:List (Nat×AV)} {Q:Bool→St→Prop} {sf:Sf} {st:St}
end
end Go.Fx
/- Regions that draw their order: evaluation. -/
namespace Go.Fx
open Go
section
variable (P:Program) (F:Nat→FuncId) (m:Bool) (locs0:List (Nat×List AV)) (st:St) (C:PK→Sf→Prop) (sf:Sf) (d:Option Nat) (x y i:Opd) (K:List PK→Sf→Prop) (ks:List PK)
theorem h_nil:aD P F locs0 st [] K ks sf = K ks sf:=rfl
theorem h_none (i:AI) (r:List GI):aD P F locs0 st (⟨none,i⟩::r) K ks sf = aQ P F locs0 st i (gB (aD P F locs0 st r K) ks) sf:=rfl
theorem h_some (t:Nat) (want:Bool) (i:AI) (r:List GI):aD P F locs0 st (⟨some (t,want),i⟩::r) K ks sf = cC t want (sf.reg t) (aQ P F locs0 st i (gB (aD P F locs0 st r K) ks)) (jz (aD P F locs0 st r K) ks i.dst) sf:=rfl
theorem hh_mv:aQ P F locs0 st (.mv d x) C sf = valH C d sf (sf.ev F x).dis:=rfl
theorem hh_bin (k:BinK) (op:BinOp):aQ P F locs0 st (.bin d k op x y) C sf = (binI k op (sf.ev F x) (sf.ev F y)).wp (valH C d sf):=rfl
theorem hh_field (off:Nat) (k:Option Nat):aQ P F locs0 st (.field d x off k) C sf = (k7 (sf.ev F x) off k).wp (valH C d sf):=rfl
theorem a9 (off:Nat):aQ P F locs0 st (.addr d x off) C sf = (addA (sf.ev F x) off).wp (valH C d sf):=rfl
theorem fB (k:Nat):aQ P F locs0 st (.ixS d x i k) C sf = (ixSV (sf.ev F x) (sf.ev F i) k).wp (valH C d sf):=rfl
theorem nI (n k:Nat):aQ P F locs0 st (.ixA d x i n k) C sf = ((Fx.ixA (sf.ev F i) n).bind fun j=>addA (sf.ev F x) (j * k)).wp (valH C d sf):=rfl
theorem hh_load (k:Option Nat):aQ P F locs0 st (.load d x k) C sf = (gF sf st (sf.ev F x) k).wp (valH C d sf):=rfl
theorem aS:aQ P F locs0 st (.nilck d x) C sf = (ak (sf.ev F x)).wp (valH C d sf):=rfl
theorem hh_sliS (lo hi:Option Opd) (k:Nat):aQ P F locs0 st (.sliS d x lo hi k) C sf = (k8 (sf.ev F x) (lo.map (sf.ev F)) (hi.map (sf.ev F)) k).wp (valH C d sf):=rfl
theorem hh_bst (places:List (Nat×Nat)) (z:AV) (parts:List (Nat×Opd)):aQ P F locs0 st (.bst d places z parts) C sf = (bstV places z (parts.map fun p=>(p.1,sf.ev F p.2))).wp (valH C d sf):=rfl
theorem dI (k:KeyK) (z:AV) (ok:Bool) (mp key:Opd):aQ P F locs0 st (.lookup d k z ok mp key) C sf = (bm k z ok st (sf.ev F mp) (sf.ev F key)).wp (valH C d sf):=rfl
theorem hh_mkfn (g:Nat) (first cap:List Opd):aQ P F locs0 st (.mkfn d g first cap) C sf = (mkfnV (F g) (first.map (sf.ev F)) (cap.map (sf.ev F))).wp (valH C d sf):=rfl
theorem hh_len (k:LenK):aQ P F locs0 st (.len d k x) C sf = (lenI k st (sf.ev F x)).wp (valH C d sf):=rfl
theorem hh_call (p:Bool) (f:Opd) (args:List Opd):aQ P F locs0 st (.call d p f args) C sf = fQ P st d (sf.ev F f) (args.map (sf.ev F)) C sf:=rfl
theorem j7 (s:Nat) (cs:List AV):aQ P F locs0 st (.newL s cs) C sf = C (.new s cs) (sf.set s .any):=rfl
theorem guardH_tt (t:Nat) (want:Bool) (Y N:Sf→Prop):cC t want (.lit (.bool true)) Y N sf = if true = want then Y (sf.set t (.lit (.bool true))) else N (sf.set t (.lit (.bool true))):=by
  unfold cC
  exact propext ⟨fun h=>h true rfl,fun h c e=>by subst e; exact h⟩
theorem guardH_ff (t:Nat) (want:Bool) (Y N:Sf→Prop):cC t want (.lit (.bool false)) Y N sf = if false = want then Y (sf.set t (.lit (.bool false))) else N (sf.set t (.lit (.bool false))):=by
  unfold cC
  exact propext ⟨fun h=>h false rfl,fun h c e=>by subst e; exact h⟩
end
theorem nJ {p:Prop} [Decidable p] {t:Nat} {want:Bool} {Y N:Sf→Prop} {sf:Sf} (h1:p→cC t want (.lit (.bool true)) Y N sf) (h2:¬ p→cC t want (.lit (.bool false)) Y N sf):cC t want (.lit (.bool (decide p))) Y N sf:=by
  by_cases h:p
  · rw [decide_eq_true h]; exact h1 h
  · rw [decide_eq_false h]; exact h2 h
def PK.keep:PK→Bool
  | .val _=>false
  | .skip=>false
  | _=>true
theorem bK:∀ ks:List PK,aW (ks.filter PK.keep) = aW ks
  | []=>rfl
  | .val _::r=>bK r
  | .skip::r=>bK r
  | .mk _ _::r=>bK r
  | .hole::r=>bK r
  | .chole _ _::r=>bK r
  | .nst _ _::r=>bK r
  | .new _ _::r=>bK r
  | .app _ _::r=>bK r
  | .store s _::r=>congrArg (s::·) (bK r)
theorem cp:∀ ks:List PK,bH (ks.filter PK.keep) = bH ks
  | []=>rfl
  | .val _::r=>cp r
  | .skip::r=>cp r
  | .mk _ _::r=>cp r
  | .hole::r=>cp r
  | .chole _ _::r=>cp r
  | .nst _ _::r=>cp r
  | .store _ _::r=>cp r
  | .app _ _::r=>cp r
  | .new s _::r=>congrArg (s::·) (cp r)
theorem cq:∀ ks:List PK,b8 (ks.filter PK.keep) = b8 ks
  | []=>rfl
  | .val _::r=>cq r
  | .skip::r=>cq r
  | .mk _ _::r=>cq r
  | .hole::r=>cq r
  | .chole _ _::r=>cq r
  | .nst _ _::r=>cq r
  | .store _ _::r=>cq r
  | .new _ _::r=>cq r
  | .app s _::r=>congrArg (s::·) (cq r)
theorem cr:∀ (ks:List PK) (sf:Sf),cZ (ks.filter PK.keep) sf = cZ ks sf
  | [],_=>rfl
  | .val _::r,sf=>cr r sf
  | .skip::r,sf=>cr r sf
  | .mk _ _::r,sf=>cr r sf
  | .hole::r,sf=>cr r sf
  | .chole _ _::r,sf=>cr r sf
  | .nst _ _::r,sf=>cr r sf
  | .new _ _::r,sf=>cr r sf
  | .app _ _::r,sf=>cr r sf
  | .store _ _::r,_=>cr r _
theorem bT (t:Nat):∀ ks:List PK,bV t (ks.filter PK.keep) = bV t ks
  | []=>rfl
  | .val _::r=>bT t r
  | .skip::r=>bT t r
  | .mk _ _::r=>bT t r
  | .hole::r=>bT t r
  | .chole _ _::r=>bT t r
  | .store _ _::r=>bT t r
  | .app _ _::r=>bT t r
  | .new _ _::r=>bT t r
  | .nst s cs :: r => by
    show (if s = t then some cs else bV t (r.filter PK.keep)) = if s = t then some cs else bV t r
    rw [bT t r]
theorem cu:∀ ks:List PK,b9 (ks.filter PK.keep) = b9 ks
  | []=>rfl
  | .val _::r=>cu r
  | .skip::r=>cu r
  | .mk _ _::r=>cu r
  | .hole::r=>cu r
  | .chole _ _::r=>cu r
  | .store _ _::r=>cu r
  | .new _ _::r=>cu r
  | .app _ _::r=>cu r
  | .nst s _::r=>congrArg (s::·) (cu r)
theorem cw:∀ (ks:List PK) (seen:List (Nat×Nat)),nstB seen (ks.filter PK.keep) = nstB seen ks
  | [],_=>rfl
  | .val _::r,s=>cw r s
  | .skip::r,s=>cw r s
  | .mk _ _::r,s=>cw r s
  | .hole::r,s=>cw r s
  | .chole _ _::r,s=>cw r s
  | .store _ _::r,s=>cw r s
  | .app _ _::r,s=>cw r s
  | .new _ _::r,s=>cw r _
  | .nst _ _::r,s=>congrArg (_ && ·) (cw r s)
theorem cx (all:List PK):∀ (ks:List PK) (sf:Sf),ca (all.filter PK.keep) (ks.filter PK.keep) sf = ca all ks sf
  | [],_=>rfl
  | .val _::r,sf=>cx all r sf
  | .skip::r,sf=>cx all r sf
  | .mk _ _::r,sf=>cx all r sf
  | .hole::r,sf=>cx all r sf
  | .chole _ _::r,sf=>cx all r sf
  | .store _ _::r,sf=>cx all r sf
  | .app _ _::r,sf=>cx all r sf
  | .nst _ _::r,sf=>cx all r sf
  | .new s cs :: r, sf => by
    show ca (all.filter PK.keep) (r.filter PK.keep) (sf.newLoc s ((bV s (all.filter PK.keep)).getD cs)) = ca all r (sf.newLoc s ((bV s all).getD cs))
    rw [bT,cx all r]
section
variable {P:Program} {F:Nat→FuncId} {m:Bool} {locs0:List (Nat×List AV)} {st st2:St} {drop lv ll:List Nat} {tl:List GI} {Q:Exit→Sf→St→Prop}
theorem tail_keep (ks:List PK) (sf:Sf):c8 P F m drop lv ll tl Q st (ks.filter PK.keep) sf = c8 P F m drop lv ll tl Q st ks sf:=by
  unfold c8 ksB
  rw [bK,cp,cq,cu,cw,cr,cx]
theorem ed:∀ (r:List GI) (ks:List PK) (sf:Sf),aD P F locs0 st r (c8 P F m drop lv ll tl Q st) (ks.filter PK.keep) sf = aD P F locs0 st r (c8 P F m drop lv ll tl Q st) ks sf
  | [],ks,sf=>tail_keep ks sf
  | ⟨g, i⟩ :: r, ks, sf => by
    have h1:gB (aD P F locs0 st r (c8 P F m drop lv ll tl Q st)) (ks.filter PK.keep) = gB (aD P F locs0 st r (c8 P F m drop lv ll tl Q st)) ks:=by
      funext k sf
      simp only [gB]
      rw [← ed r (ks++[k]) sf,← ed r (ks.filter PK.keep++[k]) sf]
      simp
    have h2:∀ d,jz (aD P F locs0 st r (c8 P F m drop lv ll tl Q st)) (ks.filter PK.keep) d = jz (aD P F locs0 st r (c8 P F m drop lv ll tl Q st)) ks d:=by
      intro d
      funext sf
      exact congrFun (congrFun h1 .skip) (sf.put d (.tup []))
    cases g with
    | none=>simp only [aD,h1]
    | some g=>obtain ⟨t,w⟩:=g; simp only [aD,h1,h2]
variable (ks:List PK) (sf:Sf) (r:List GI) (v:AV) (d:Option Nat)
theorem lu:gB (aD P F locs0 st r (c8 P F m drop lv ll tl Q st)) ks (.val v) sf = aD P F locs0 st r (c8 P F m drop lv ll tl Q st) ks sf:=by
  show aD P F locs0 st r _ (ks++[.val v]) sf = _
  exact (ed r (ks++[PK.val v]) sf).symm.trans ((congrArg (fun q=>aD P F locs0 st r (c8 P F m drop lv ll tl Q st) q sf) (by simp [PK.keep])).trans (ed r ks sf))
theorem cons_skip:jz (aD P F locs0 st r (c8 P F m drop lv ll tl Q st)) ks d sf = aD P F locs0 st r (c8 P F m drop lv ll tl Q st) ks (sf.put d (.tup [])):=by
  show aD P F locs0 st r _ (ks++[.skip]) (sf.put d (.tup [])) = _
  exact (ed r (ks++[PK.skip]) _).symm.trans ((congrArg (fun q=>aD P F locs0 st r (c8 P F m drop lv ll tl Q st) q (sf.put d (.tup []))) (by simp [PK.keep])).trans (ed r ks _))
theorem val_head:valH (gB (aD P F locs0 st r (c8 P F m drop lv ll tl Q st)) ks) d sf v = aD P F locs0 st r (c8 P F m drop lv ll tl Q st) ks (sf.put d v):=lu ks (sf.put d v) r v
theorem tail_nil:c8 P F m drop lv ll tl Q st [] sf = runI P F m tl (opsK lv ll Q) sf st:=propext ⟨fun h=>h.2,fun h=>⟨rfl,h⟩⟩
theorem j8 (k:PK):c8 P F m drop lv ll tl Q st (k::ks) sf = (ksB drop (k::ks) = true∧runI P F m tl (opsK lv ll Q) (ca (k::ks) (k::ks) (cZ (k::ks) sf)) st):=rfl
end
section
variable (H:List PK→Sf→Prop) (ks:List PK) (sf:Sf) (s:Nat) (cs:List AV) (v:AV)
theorem iy:gB H ks (.new s cs) sf = H (ks++[.new s cs]) sf:=rfl
end
theorem call_h {P:Program} {d:Option Nat} {q:FuncId} {fs cs args vs:List AV} {sf:Sf} {st:St} {C:PK→Sf→Prop} {v:AV} (hvs:fs++args.map AV.dis++cs = vs) (hent:cL P q = true) (h:aH P q vs st v) (hn:args.all AV.noL = true) (hK:C (.val v) (sf.put d v)):fQ P st d (.fn (.func q) fs cs) args C sf:=by
  subst hvs
  exact ⟨hn,hent,v,h,hK⟩
section
variable (P:Program) (F:Nat→FuncId) (L0:List (Nat×List AV)) (ρ:St) (C:PK→Sf→Prop) (sf:Sf) (d:Option Nat) (x y i:Opd) (K:List PK→Sf→Prop) (ks:List PK)
theorem mP:preM P F L0 ρ [] K ks sf = K ks sf:=rfl
theorem lw (i:AI) (r:List GI):preM P F L0 ρ (⟨none,i⟩::r) K ks sf = oneM P F L0 ρ i (gC (preM P F L0 ρ r K) ks) sf:=rfl
theorem m_val (v:AV) (r:List GI):valM (gC (preM P F L0 ρ r K) ks) d sf v = preM P F L0 ρ r K (ks++[.val v]) (sf.put d v):=rfl
theorem mm_mv:oneM P F L0 ρ (.mv d x) C sf = valM C d sf (sf.ev F x).dis:=rfl
theorem mm_ext (j:Nat):oneM P F L0 ρ (.ext d x j) C sf = (extV (sf.ev F x) j).wp (valM C d sf):=rfl
theorem mm_addr (off:Nat):oneM P F L0 ρ (.addr d x off) C sf = (addA (sf.ev F x) off).wp (valM C d sf):=rfl
theorem mm_ixS (k:Nat):oneM P F L0 ρ (.ixS d x i k) C sf = (ixSV (sf.ev F x) (sf.ev F i) k).wp (valM C d sf):=rfl
theorem j9 (k:Option Nat):oneM P F L0 ρ (.load d x k) C sf = (gF sf ρ (sf.ev F x) k).wp (valM C d sf):=rfl
theorem mm_bst (places:List (Nat×Nat)) (z:AV) (parts:List (Nat×Opd)):oneM P F L0 ρ (.bst d places z parts) C sf = (bstV places z (parts.map fun p=>(p.1,sf.ev F p.2))).wp (valM C d sf):=rfl
variable (KH:List PK→Prop) (st:St) (post:List (Bool×GI)) (T:St→Sf→Prop) (T1:Sf→Prop)
theorem hm_nil:cE P F L0 ρ [] KH ks sf = KH ks:=rfl
theorem hm_hole (g:GI) (r:List (Bool×GI)):cE P F L0 ρ ((true,g)::r) KH ks sf = cE P F L0 ρ r KH (ks++[.hole]) (sf.put g.i.dst .any):=by simp only [cE]
theorem hm_none (i:AI) (r:List (Bool×GI)):cE P F L0 ρ ((false,⟨none,i⟩)::r) KH ks sf = oneM P F L0 ρ i (gC (cE P F L0 ρ r KH) ks) sf:=rfl
theorem hm_val (v:AV) (r:List (Bool×GI)):valM (gC (cE P F L0 ρ r KH) ks) d sf v = cE P F L0 ρ r KH (ks++[.val v]) (sf.put d v):=rfl
variable (drop:List Nat) (ks1:List PK)
theorem atM_eq (f:Opd) (args:List Opd):atM P F L0 ρ st d f args post drop T ks1 sf = kT P F L0 ρ st d (sf.ev F f) (args.map (sf.ev F)) post drop T ks1 sf:=rfl
theorem lx (ksh:List PK):postM post drop ks1 ksh T1 ks sf = (eM post ksh ks∧finK drop T1 (ks1++ks) sf):=rfl
theorem nK:finK drop T1 ks sf = (ksB drop ks = true∧T1 (ca ks ks (cZ ks sf))):=rfl
theorem ly (A:List PK→Prop):holeK drop ks1 A ks = (ksB drop (ks1++ks) = true∧A ks):=rfl
theorem jg:eM [] [] [] = True:=rfl
theorem compM_t (g:GI) (r:List (Bool×GI)) (a:PK) (v:AV) (h k:List PK):eM ((true,g)::r) (a::h) (.val v::k) = eM r h k:=rfl
theorem compM_f (g:GI) (r:List (Bool×GI)) (a b:PK) (h k:List PK):eM ((false,g)::r) (a::h) (b::k) = (b = a∧eM r h k):=rfl
theorem lz (m:Bool) (lv ll:List Nat) (tl:List GI) (Q:Exit→Sf→St→Prop):tailM P F m lv ll tl Q st sf = runI P F m tl (opsK lv ll Q) sf st:=rfl
end
section
variable {P:Program} {F:Nat→FuncId} {L0:List (Nat×List AV)} {ρ st:St}
theorem draw_m {pre:List GI} {d:Option Nat} {f:Opd} {args:List Opd} {post:List (Bool×GI)} {sf:Sf} {T:St→Sf→Prop} (ρ:St) (hs:St.sub ρ st) (h:preM P F sf.locs ρ pre (atM P F sf.locs ρ st d f args post (jA pre post) T) [] ⟨sf.regs,dC (jA pre post) sf.locs⟩):drawM P F pre d f args post sf st T:=⟨ρ,hs,h⟩
theorem call_m {q:FuncId} {fs cs args vs:List AV} {d:Option Nat} {post:List (Bool×GI)} {drop:List Nat} {T:St→Sf→Prop} {ks1:List PK} {sf:Sf} {Qc:AV→St→Prop} (hvs:fs++args.map AV.dis++cs = vs) (hent:cL P q = true) (hA:aB P q vs st Qc) (hn:args.all AV.noL = true)
    (hK:cE P F L0 ρ post (holeK drop ks1 (afterM P F L0 ρ post Qc d sf drop T ks1)) [] (sf.put d .any)):kT P F L0 ρ st d (.fn (.func q) fs cs) args post drop T ks1 sf:=by
  subst hvs
  exact ⟨hn,hent,Qc,hA,hK⟩
end
section
variable (P:Program) (F:Nat→FuncId) (L0:List (Nat×List AV)) (st s:St) (d:Option Nat) (f:Opd) (args:List Opd) (pre post:List GI) (T:St→Sf→Prop) (ks:List PK) (sf:Sf) (v:AV)
end
section
variable (P:Program) (F:Nat→FuncId) (L0:List (Nat×List AV)) (ρ:St) (C:PK→Sf→Prop) (sf:Sf) (d:Option Nat) (H:List PK→Sf→Prop) (KX:Nat→List PK→Sf→Prop) (ks:List PK) (SS:Nat→St→Prop) (j:Nat)
end
end Go.Fx
/- Numbers of bytes: shifts and the like. -/
namespace Go.Fx
open Go
theorem cH {P:Program} {F:Nat→FuncId} {m:Bool} {b:AC} {lv ll:List Nat} {Q:Exit→Sf→St→Prop} {A:Type} (μ:A→Nat) (S:A→Sf) (T:A→St) (I:A→Prop) (a0:A) {sf:Sf} {st:St} (h0:I a0) (hs:Sf.le (sf.mask lv ll) (S a0)) (ht:st = T a0)
    (step:∀ a,I a→∀ K:Exit→Sf→St→Prop,(∀ a' sf',I a'→μ a' < μ a→Sf.le (sf'.mask lv ll) (S a')→K .normal sf' (T a'))→(∀ id sf st,Q (.exit id) sf st→K (.exit id) sf st)→(∀ sf st,Q .ret sf st→K .ret sf st)→aC P F m b (S a) (T a) K):aL (aC P F m b) lv ll sf st Q :=
  loop_for μ S T I a0 h0 hs ht fun a ha=>step a ha _ (fun a' _ h1 h2 h3=>⟨a',⟨h1,h2⟩,h3,rfl⟩) (fun _ _ _ h=>h) (fun _ _ h=>h)
theorem ar {P:Program} {X:Cx} {f:FuncId} {fn:AFun} {vs:List AV} {st:St} (hmix:P.follows .mixedOrders = true) (hf:gD P X f = some fn) (hX:X.F = id) (hlen:Nat.ble vs.length fn.n = true) {K:AV→St→Prop} (h:∀ Q:AV→St→Prop,(∀ v st',K v st'→Q v st')→aFun P id false fn vs st Q):aB P f vs st K :=
  acalls_id hmix hf hX hlen (h K fun _ _ h=>h)
end Go.Fx
/- Slices of plain cells that are written to and appended to. -/
namespace Go.Fx
open Go
def MB (v:AV) (st:St) (l:List AV):Prop:=(v = .lit (.slice none 0 0)∧l = [])∨∃ id cap r,v = .bs id 1 0 l.length cap∧st.get id = some (l++r)∧l.length≤cap∧cap≤(l++r).length
def Kept (st st':St) (v:AV):Prop:=st.boxes.length≤st'.boxes.length∧∀ id cs,st.get id = some cs→(∀ k o l c,v≠.bs id k o l c)→st'.get id = some cs
theorem Kept.refl (st:St) (v:AV):Kept st st v:=⟨Nat.le_refl _,fun _ _ h _=>h⟩
theorem MB.facts {v:AV} {st:St} {l:List AV} (h:MB v st l):v.dis = v∧v.own1 = v∧v.own2 = v∧v.solid1 = true∧v.noL = true∧v.cells = [v]∧(∀ s,kill s v = v)∧∀ st',lenI .sl st' v = .ok (.lit (.int .i64 l.length)):=by
  rcases h with ⟨rfl,rfl⟩ | ⟨id,cap,r,rfl,_⟩
  · exact ⟨rfl,rfl,rfl,rfl,rfl,rfl,fun _=>rfl,fun _=>rfl⟩
  · exact ⟨rfl,rfl,rfl,rfl,rfl,rfl,fun _=>rfl,fun _=>rfl⟩
def NBs (st:St):Prop:=∀ id cs,st.get id = some cs→∀ c ∈ cs,c.NB
theorem NBs.nil:NBs ⟨[]⟩:=fun id cs h=>by simp [St.get] at h
theorem NBs.push {st:St} {cs:List AV} (h:NBs st) (hc:∀ c ∈ cs,c.NB):NBs (st.push (.cells cs)):=by
  intro id ds hg
  by_cases e:id < st.boxes.length
  · rw [fA e] at hg
    exact h id ds hg
  · by_cases e2:id = st.boxes.length
    · subst e2
      rw [cb] at hg
      cases hg
      exact hc
    · have:=bj hg
      rw [bh] at this
      omega
theorem NBs.set {st:St} {id:Nat} {cs:List AV} (h:NBs st) (hid:id < st.boxes.length) (hc:∀ c ∈ cs,c.NB):NBs (st.set id cs):=by
  intro id' ds hg
  by_cases e:id = id'
  · subst e
    rw [aV hid] at hg
    cases hg
    exact hc
  · rw [ln e] at hg
    exact h id' ds hg
theorem MB.app {v:AV} {st:St} {l new:List AV} {bytes:Nat} {C:AV→St→Prop} (h:MB v st l) (hl:Lits l) (hn:Lits new) (hr:dQ (l.length + new.length) bytes = true)
    (hC:∀ v' st',MB v' st' (l++new)→Kept st st' v→(NBs st→NBs st')→C v' st'):appX false 1 bytes v C st new:=by
  rcases h with ⟨rfl,rfl⟩ | ⟨id,cap,r,rfl,hg,h1,h2⟩
  · refine ⟨rfl,by simpa using hr,?_⟩
    split
    · rename_i h
      have:new = []:=by simpa using h
      subst this
      exact hC _ _ (.inl ⟨rfl,rfl⟩) (Kept.refl _ _) id
    · intro c hc
      refine hC _ _ (.inr ⟨st.boxes.length,c,List.replicate (c - new.length) .any,by simp,?_,by simpa using hc,by simp; omega⟩) ⟨by simp [St.push],fun id cs hg _=>by rw [fA (bj hg)]; exact hg⟩ (fun h=>h.push fun x hx=>?_)
      · rw [hn.cellsD]
        simp only [List.nil_append,Nat.mul_one]
        exact cb st _
      · rw [hn.cellsD] at hx
        simp only [List.nil_append,Nat.mul_one,List.mem_append] at hx
        rcases hx with hx | hx
        · exact hn.nb x hx
        · rw [List.eq_of_mem_replicate hx]; exact .any
  · refine ⟨rfl,rfl,hr,?_⟩
    rw [hg]
    show (Res.ok _).wp _
    rw [wp_ok,hn.cellsD]
    have hid:=bj hg
    split
    · rename_i hc
      refine ⟨by omega,hC _ _ (.inr ⟨id,cap,r.drop new.length,by simp,?_,by simpa using hc,?_⟩) ⟨by simp [St.set],fun id' cs hg' hne=>?_⟩ (fun h=>h.set hid ?_)⟩
      · rw [aV hid,Nat.zero_add,Nat.mul_one,fa rfl (by simp at h2; omega)]
        simp
      · simp at h2 ⊢; omega
      · rw [ln (fun e=>hne _ _ _ _ (by rw [e])),hg']
      · rw [Nat.zero_add,Nat.mul_one,fa rfl (by simp at h2; omega)]
        have h3:=h id _ hg
        intro x hx
        simp only [List.mem_append] at hx
        rcases hx with hx | hx | hx
        · exact hl.nb x hx
        · exact hn.nb x hx
        · exact h3 x (List.mem_append_right _ (List.mem_of_mem_drop hx))
    · rename_i hc
      have e:List.map AV.own1 (List.take (l.length * 1) (List.drop 0 (l++r))) = l:=by simp [hl.own]
      refine ⟨by simp,fun c hc=>hC _ _ (.inr ⟨st.boxes.length,c,List.replicate (c - (l.length + new.length)) .any,by simp,?_,by simpa using hc,by simp; omega⟩) ⟨by simp [St.push],fun id' cs hg' _=>by rw [fA (bj hg')]; exact hg'⟩ (fun h=>h.push fun x hx=>?_)⟩
      · rw [e]
        simp only [Nat.mul_one]
        exact cb st _
      · rw [e] at hx
        simp only [List.mem_append] at hx
        rcases hx with (hx | hx) | hx
        · exact hl.nb x hx
        · exact hn.nb x hx
        · rw [List.eq_of_mem_replicate hx]; exact .any
theorem MB.src {v:AV} {st:St} {l:List AV} (h:MB v st l):∃ r,srcA st 1 v = r∧∀ K:List AV→Prop,K l→r.wp K:=by
  refine ⟨_,rfl,fun K hK=>?_⟩
  rcases h with ⟨rfl,rfl⟩ | ⟨id,cap,r,rfl,hg,h1,h2⟩
  · exact hK
  · show (c9 st id 1 0 l.length).wp K
    unfold c9
    rw [hg]
    show _∧_
    refine ⟨by simp,?_⟩
    rw [List.drop_zero,grp_one (by simp),List.take_left]
    exact hK
end Go.Fx
/- Functions that keep nothing may be handed what lies in boxes. -/
namespace Go.Fx
open Go
def litB1:AV→Bool
  | .lit _=>true
  | _=>false
end Go.Fx
/- Maps with plain keys, as lists; boxes that others are left alone by. -/
namespace Go.Fx
open Go
section
variable {β:Type}
def eN (t:Int):List (Int×β)→Nat→Option (Nat×β)
  | [],_=>none
  | (k,b)::r,i=>if t = k then some (i,b) else eN t r (i + 1)
def aj (t:Int):List (Int×β)→Option β
  | []=>none
  | (k,b)::r=>if t = k then some b else aj t r
def updP (t:Int) (b:β):List (Int×β)→List (Int×β)
  | []=>[(t,b)]
  | (k,c)::r=>if t = k then (t,b)::r else (k,c)::updP t b r
def delP (t:Int):List (Int×β)→List (Int×β)
  | []=>[]
  | (k,c)::r=>if t = k then r else (k,c)::delP t r
def az (m:List (Int×β)):List Int:=m.map Prod.fst
theorem eB (t:Int):∀ (m:List (Int×β)) (i:Nat),(eN t m i).map Prod.snd = aj t m
  | [],_=>rfl
  | (k, b) :: r, i => by
    simp only [eN,aj]; split; · rfl
    · exact eB t r (i + 1)
theorem jh {γ:Type} (e:Int×β→γ) (t:Int) (b:β):∀ (m:List (Int×β)) (i:Nat),match eN t m i with
    | some (j,_)=>i≤j∧(m.map e).set (j - i) (e (t,b)) = (updP t b m).map e∧(m.map e).eraseIdx (j - i) = (delP t m).map e∧j - i < m.length
    | none=>m.map e++[e (t,b)] = (updP t b m).map e∧delP t m = m
  | [],_=>by simp [eN,updP,delP]
  | (k, c) :: r, i => by
    simp only [eN]
    by_cases h:t = k
    · subst h
      simp [updP,delP]
    · rw [if_neg h]
      have ih:=jh e t b r (i + 1)
      cases hf:eN t r (i + 1) with
      | none=>rw [hf] at ih; simp only at ih; simp [updP,delP,h,ih.1,ih.2]
      | some p =>
        obtain ⟨j,c'⟩:=p
        rw [hf] at ih
        simp only at ih ⊢
        obtain ⟨h1,h2,h3,h4⟩:=ih
        obtain ⟨q,rfl⟩:∃ q,j = i + 1 + q:=⟨j - (i + 1),by omega⟩
        rw [show i + 1 + q - (i + 1) = q by omega] at h2 h3 h4
        rw [show i + 1 + q - i = q + 1 by omega]
        refine ⟨by omega,?_,?_,by simp; omega⟩
        · simp [updP,h,h2]
        · simp [delP,h,h3]
theorem cm (t t':Int) (b:β):∀ m:List (Int×β),aj t' (updP t b m) = if t' = t then some b else aj t' m
  | []=>by simp only [updP,aj]
  | (k, c) :: r => by
    simp only [updP]
    by_cases h:t = k
    · subst h
      rw [if_pos rfl]
      simp only [aj]
      split <;> rfl
    · rw [if_neg h]
      simp only [aj]
      rw [cm t t' b r]
      by_cases h1:t' = k
      · subst h1
        have:¬ t' = t:=fun e=>h e.symm
        simp [this]
      · simp [h1]
theorem ji {t:Int}:∀ {m:List (Int×β)},t ∉ az m→aj t m = none
  | [],_=>rfl
  | (k, c) :: r, h => by
    simp only [az,List.map_cons,List.mem_cons,not_or] at h
    simp only [aj]
    rw [if_neg h.1]
    exact ji h.2
theorem eC (t t':Int):∀ {m:List (Int×β)},(az m).Nodup→aj t' (delP t m) = if t' = t then none else aj t' m
  | [],_=>by simp [delP,aj]
  | (k, c) :: r, hn => by
    simp only [az,List.map_cons,List.nodup_cons] at hn
    simp only [delP]
    by_cases h:t = k
    · subst h
      rw [if_pos rfl]
      simp only [aj]
      by_cases h1:t' = t
      · subst h1; rw [if_pos rfl]; exact ji hn.1
      · rw [if_neg h1,if_neg h1]
    · rw [if_neg h]
      simp only [aj]
      by_cases h1:t' = k
      · subst h1
        have:¬ t' = t:=fun e=>h e.symm
        simp [this]
      · rw [if_neg h1,if_neg h1]; exact eC t t' hn.2
theorem d8 (t:Int) (b:β):∀ m:List (Int×β),(updP t b m).length = if (aj t m).isSome then m.length else m.length + 1
  | []=>by simp [updP,aj]
  | (k, c) :: r => by
    simp only [updP,aj]
    by_cases h:t = k
    · simp [h]
    · simp only [if_neg h,List.length_cons,d8 t b r]
      split <;> rfl
theorem nL (t:Int):∀ m:List (Int×β),(delP t m).length = if (aj t m).isSome then m.length - 1 else m.length
  | []=>by simp [delP,aj]
  | (k, c) :: r => by
    simp only [delP,aj]
    by_cases h:t = k
    · simp [h]
    · simp only [if_neg h,List.length_cons,nL t r]
      split
      · rename_i q
        have:r≠[]:=by rintro rfl; simp [aj] at q
        have:=List.length_pos_iff.2 this
        omega
      · rfl
theorem keys_upd (t:Int) (b:β):∀ m:List (Int×β),az (updP t b m) = if (aj t m).isSome then az m else az m++[t]
  | []=>by simp [updP,aj,az]
  | (k, c) :: r => by
    simp only [updP,aj]
    by_cases h:t = k
    · simp [h,az]
    · have:=keys_upd t b r
      simp only [az] at this
      simp only [if_neg h,az,List.map_cons,this]
      split <;> rfl
theorem iz (t x:Int):∀ {m:List (Int×β)},x ∈ az (delP t m)→x ∈ az m
  | [],h=>h
  | (k, c) :: r, h => by
    simp only [delP] at h
    simp only [az,List.map_cons,List.mem_cons]
    split at h
    · exact .inr h
    · simp only [az,List.map_cons,List.mem_cons] at h
      rcases h with h | h
      · exact .inl h
      · exact .inr (iz t x h)
theorem mQ {t:Int} {b:β} {m:List (Int×β)} (h:(az m).Nodup):(az (updP t b m)).Nodup:=by
  rw [keys_upd]
  split
  · exact h
  · rename_i hs
    refine List.nodup_append.2 ⟨h,by simp,?_⟩
    intro x hx y hy
    simp only [List.mem_singleton] at hy
    subst hy
    rintro rfl
    have:∀ m:List (Int×β),x ∈ az m→(aj x m).isSome = true:=by
      intro m
      induction m with
      | nil=>intro h; simp [az] at h
      | cons p r ih =>
        obtain ⟨k,c⟩:=p
        intro h
        simp only [az,List.map_cons,List.mem_cons] at h
        simp only [aj]
        split
        · rfl
        · rename_i hne
          rcases h with h | h
          · exact absurd h hne
          · exact ih h
    exact hs (this m hx)
theorem mR {t:Int}:∀ {m:List (Int×β)},(az m).Nodup→(az (delP t m)).Nodup
  | [],h=>h
  | (k, c) :: r, h => by
    simp only [az,List.map_cons,List.nodup_cons] at h
    simp only [delP]
    split
    · exact h.2
    · simp only [az,List.map_cons,List.nodup_cons]
      exact ⟨fun e=>h.1 (iz t k e),mR h.2⟩
def encE (k:IntKind) (ev:β→AV) (p:Int×β):AV×AV:=(.lit (.int k p.1),ev p.2)
def encM (k:IntKind) (ev:β→AV) (m:List (Int×β)):List (AV×AV):=m.map (encE k ev)
theorem gj (k:IntKind) (ev:β→AV) (t:Int):∀ (m:List (Int×β)) (i:Nat),cK (.lit (.int k t)) (encM k ev m) i = .ok ((eN t m i).map fun p=>(p.1,ev p.2))
  | [],_=>rfl
  | (q, b) :: r, i => by
    have ih:=gj k ev t r (i + 1)
    simp only [encM,List.map_cons,encE,cK,eg,if_true,eN] at ih ⊢
    by_cases h:t = q
    · subst h; simp
    · have:(t == q) = false:=by simpa using h
      simp only [this,if_neg h,Bool.false_eq_true,if_false]
      exact ih
end
section
variable {st st':St} {id q:Nat}
theorem getM_lt {es:List (AV×AV)} (h:st.getM id = some es):id < st.boxes.length:=by
  unfold St.getM at h
  split at h
  · rename_i hb
    exact (List.getElem?_eq_some_iff.1 hb).1
  · cases h
theorem dg (h:st'.boxes[id]? = st.boxes[id]?):st'.get id = st.get id:=by unfold St.get; rw [h]
theorem getM_at (h:st'.boxes[id]? = st.boxes[id]?):st'.getM id = st.getM id:=by unfold St.getM; rw [h]
theorem getB_at (h:st'.boxes[id]? = st.boxes[id]?):st'.getB id = st.getB id:=by unfold St.getB; rw [h]
theorem cO {cs:List AV} (h:id≠q):(st.set q cs).boxes[id]? = st.boxes[id]?:=by simp [St.set,List.getElem?_set_ne (fun e=>h e.symm)]
theorem nM {es:List (AV×AV)} {bs:List Nat} {c:Nat} (h:id≠q):(st.setM q es bs c).boxes[id]? = st.boxes[id]?:=by simp [St.setM,List.getElem?_set_ne (fun e=>h e.symm)]
theorem cf {b:Box} (h:id < st.boxes.length):(st.push b).boxes[id]? = st.boxes[id]?:=by simp [St.push,List.getElem?_append_left h]
theorem jk {es:List (AV×AV)} {bs:List Nat} {c:Nat} (h:id < st.boxes.length):(st.setM id es bs c).getM id = some es:=by simp [St.setM,St.getM,h]
theorem cU {es:List (AV×AV)} {bs:List Nat} {c:Nat} (h:id < st.boxes.length):(st.setM id es bs c).getB id = (bs,c):=by simp [St.setM,St.getB,h]
theorem get_mt {es:List (AV×AV)} (h:st.getM id = some es):st.get id = none:=by
  unfold St.getM at h; unfold St.get
  split at h
  · rename_i hb; simp [hb]
  · cases h
end
def Oth (st st':St) (S:List Nat):Prop:=st'.boxes.length = st.boxes.length∧∀ id,id ∉ S→st'.boxes[id]? = st.boxes[id]?
theorem Oth.refl (st:St) (S:List Nat):Oth st st S:=⟨rfl,fun _ _=>rfl⟩
theorem Oth.trans {a b c:St} {S:List Nat} (h:Oth a b S) (k:Oth b c S):Oth a c S:=⟨k.1.trans h.1,fun id hid=>(k.2 id hid).trans (h.2 id hid)⟩
theorem Oth.mono {a b:St} {S S':List Nat} (h:Oth a b S) (hs:∀ x ∈ S,x ∈ S'):Oth a b S':=⟨h.1,fun id hid=>h.2 id fun e=>hid (hs id e)⟩
theorem Oth.set (st:St) (q:Nat) (cs:List AV) {S:List Nat} (h:q ∈ S):Oth st (st.set q cs) S:=⟨fw ..,fun id hid=>cO fun e=>hid (e ▸ h)⟩
theorem Oth.get {a b:St} {S:List Nat} (h:Oth a b S) {id:Nat} (hid:id ∉ S):b.get id = a.get id:=dg (h.2 id hid)
section
variable {β:Type}
structure MapIs (st:St) (id:Nat) (k:IntKind) (ev:β→AV) (m:List (Int×β)):Prop where
  get:st.getM id = some (encM k ev m)
  nd:(az m).Nodup
  bl:(st.getB id).1.length = m.length
  bn:(st.getB id).1.Nodup
  bc:∀ b ∈ (st.getB id).1,b < (st.getB id).2
variable {st st':St} {id:Nat} {k:IntKind} {ev:β→AV} {m:List (Int×β)}
theorem MapIs.lt (h:MapIs st id k ev m):id < st.boxes.length:=getM_lt h.get
theorem MapIs.at (h:MapIs st id k ev m) (hb:st'.boxes[id]? = st.boxes[id]?):MapIs st' id k ev m:=by
  refine ⟨(getM_at hb).trans h.get,h.nd,?_,?_,?_⟩ <;> rw [getB_at hb]
  · exact h.bl
  · exact h.bn
  · exact h.bc
theorem MapIs.oth {S:List Nat} (h:MapIs st id k ev m) (ho:Oth st st' S) (hid:id ∉ S):MapIs st' id k ev m:=h.at (ho.2 id hid)
theorem MapIs.set (h:MapIs st id k ev m) {q:Nat} {cs:List AV} (hq:id≠q):MapIs (st.set q cs) id k ev m:=h.at (cO hq)
theorem MapIs.push (h:MapIs st id k ev m) (b:Box):MapIs (st.push b) id k ev m:=h.at (cf h.lt)
theorem MapIs.ne (h:MapIs st id k ev m) {q:Nat} {cs:List AV} (hq:st.get q = some cs):id≠q:=by
  rintro rfl
  rw [get_mt h.get] at hq; cases hq
theorem bu (h:MapIs st id k ev m) {z:AV} {ok:Bool} {t:Int}:bm (.int k) z ok st (.map id) (.lit (.int k t)) = .ok (match aj t m with
    | some b=>if ok then .tup [(ev b).dis,.lit (.bool true)] else (ev b).dis
    | none=>if ok then .tup [z,.lit (.bool false)] else z):=by
  have hk:keyI (.int k) (.lit (.int k t)) = true:=by simp [keyI]
  unfold bm
  rw [if_pos hk]
  simp only [h.get,Res.ofOpt,Res.bind,gj]
  rw [← eB t m 0]
  cases eN t m 0 <;> rfl
theorem dz (h:MapIs st id k ev m) {t:Int} {b:β} {x:AV} (hx:x.solid = true) (hd:x.dis = ev b) {K:Sf→St→Prop} {sf:Sf}
    (hK:∀ st',MapIs st' id k ev (updP t b m)→Oth st st' [id]→K sf st'):updX false (.int k) (.map id) (.lit (.int k t)) x K sf st:=by
  refine ⟨by simp [keyI],rfl,hx,?_⟩
  have hlt:=h.lt
  simp only [h.get,Res.ofOpt,Res.wp,gj,hd]
  have hu:=jh (encE k ev) t b m 0
  cases hf:eN t m 0 with
  | none =>
    rw [hf] at hu
    simp only [Option.map_none,St.updM,updA]
    have hno:aj t m = none:=by rw [← eB t m 0,hf]; rfl
    refine hK _ ⟨?_,mQ h.nd,?_,?_,?_⟩ ⟨by simp [St.setM],fun q hq=>nM (by simpa using hq)⟩
    · rw [jk hlt]; exact congrArg some hu.1
    · rw [cU hlt,d8,hno]; simp [h.bl]
    · rw [cU hlt]
      refine List.nodup_append.2 ⟨h.bn,by simp,fun x hx y hy e=>?_⟩
      simp only [List.mem_singleton] at hy
      subst hy; subst e
      exact Nat.lt_irrefl _ (h.bc _ hx)
    · rw [cU hlt]
      intro b hb
      simp only [List.mem_append,List.mem_singleton] at hb
      rcases hb with hb | rfl
      · have:=h.bc b hb; simp only; omega
      · simp
  | some p =>
    obtain ⟨j,c⟩:=p
    rw [hf] at hu
    simp only [Nat.sub_zero] at hu
    simp only [Option.map_some,St.updM,updA]
    have hyes:(aj t m).isSome = true:=by rw [← eB t m 0,hf]; rfl
    refine hK _ ⟨?_,mQ h.nd,?_,?_,?_⟩ ⟨by simp [St.setM],fun q hq=>nM (by simpa using hq)⟩
    · rw [jk hlt]; exact congrArg some hu.2.1
    · rw [cU hlt,d8,if_pos hyes]; exact h.bl
    · rw [cU hlt]; exact h.bn
    · rw [cU hlt]; exact h.bc
theorem fc (h:MapIs st id k ev m) {t:Int} {K:Sf→St→Prop} {sf:Sf}
    (hK:∀ st',MapIs st' id k ev (delP t m)→Oth st st' [id]→K sf st'):delX false (.int k) (.map id) (.lit (.int k t)) K sf st:=by
  refine ⟨by simp [keyI],rfl,?_⟩
  have hlt:=h.lt
  simp only [h.get,Res.ofOpt,Res.wp,gj]
  cases hf:eN t m 0 with
  | none =>
    have hu:delP t m = m:=by
      have:∀ (m:List (Int×β)) (i:Nat),eN t m i = none→delP t m = m:=by
        intro m
        induction m with
        | nil=>intro i _; rfl
        | cons p r ih =>
          obtain ⟨k,c⟩:=p
          intro i h
          simp only [eN] at h
          simp only [delP]
          split at h
          · cases h
          · rename_i hne; rw [if_neg hne,ih (i + 1) h]
      exact this m 0 hf
    simp only [Option.map_none]
    exact hK _ (by rw [hu]; exact h) (Oth.refl _ _)
  | some p =>
    obtain ⟨j,c⟩:=p
    have hu:=jh (encE k ev) t c m 0
    rw [hf] at hu
    simp only [Nat.sub_zero] at hu
    simp only [Option.map_some,St.delM]
    have hyes:(aj t m).isSome = true:=by rw [← eB t m 0,hf]; rfl
    refine hK _ ⟨?_,mR h.nd,?_,?_,?_⟩ ⟨by simp [St.setM],fun q hq=>nM (by simpa using hq)⟩
    · rw [jk hlt]; exact congrArg some hu.2.2.1
    · rw [cU hlt,nL,if_pos hyes]
      simp only [List.length_eraseIdx,h.bl,if_pos hu.2.2.2]
    · rw [cU hlt]; exact h.bn.sublist (List.eraseIdx_sublist ..)
    · rw [cU hlt]; exact fun b hb=>h.bc b (List.mem_of_mem_eraseIdx hb)
theorem lA (h:MapIs st id k ev m):lenI .mp st (.map id) = .ok (.lit (.int .i64 m.length)):=by
  simp only [lenI,h.get,Res.ofOpt,Res.bind,encM,List.length_map]
theorem MapIs.new (st:St) (k:IntKind) (ev:β→AV):MapIs (st.push (.mp [] [] 0)) st.boxes.length k ev []:=by
  refine ⟨getM_push ..,by simp [az],?_,?_,?_⟩ <;> rw [getB_push] <;> simp
end
theorem aw {P:Program} {X:Cx} {f:FuncId} {fn:AFun} {vs:List AV} {st:St} (hmix:P.follows .mixedOrders = true) (hf:gD P X f = some fn) (hX:X.F = id) (hlen:Nat.ble vs.length fn.n = true) {v0:AV} (h:∀ Q:AV→St→Prop,(∀ st',Q v0 st')→aFun P id true fn vs st Q):aH P f vs st v0:=by
  refine pcalls_of hmix hf (Nat.le_of_ble_eq_true hlen) ?_
  rw [hX]; exact h _ fun _=>rfl
end Go.Fx
/- Linked nodes in a map: a queue (plain lists; no program in sight). -/
namespace Go.Fx
open Go
abbrev Nd:=Int×Nat×Nat
abbrev Qu:=List (Nat×Int)
def aI:Qu→Nat→Nat
  | [],h=>h
  | (x,_)::_,_=>x
def aG:Nat→Qu→Nat
  | p,[]=>p
  | _,(t,_)::r=>aG t r
def aR:Nat→Qu→Nat→Nat→Option Nd
  | _,[],_,_=>none
  | p,(u,v)::r,h,t=>if t = u then some (v,p,aI r h) else aR u r h t
def aJ (L:Qu):List Nat:=L.map Prod.fst
theorem fd (B:Qu) (h t:Nat):∀ (A:Qu) (p:Nat),aR p (A++B) h t = match aR p A (aI B h) t with | some x=>some x | none=>aR (aG p A) B h t
  | [],p=>rfl
  | (u, v) :: A, p => by
    simp only [List.cons_append,aR,aG]
    split
    · cases A <;> rfl
    · exact fd B h t A u
theorem cg {h t:Nat}:∀ {L:Qu} {p:Nat},t ∉ aJ L→aR p L h t = none
  | [],_,_=>rfl
  | (u, v) :: r, p, hn => by
    simp only [aJ,List.map_cons,List.mem_cons,not_or] at hn
    simp only [aR]
    rw [if_neg hn.1]
    exact cg hn.2
theorem dT:∀ {L:Qu} {p:Nat},L≠[]→aG p L ∈ aJ L
  | [(t,v)],p,_=>by simp [aG,aJ]
  | (t, v) :: y :: r, p, _ => by
    have:=dT (L:=y::r) (p:=t) (by simp)
    simp only [aG,aJ,List.map_cons,List.mem_cons] at this ⊢
    exact .inr this
theorem ff (B:Qu):∀ (A:Qu) (p:Nat),aG p (A++B) = aG (aG p A) B
  | [],_=>rfl
  | (t,v)::A,p=>ff B A t
theorem last_ne {L:Qu} {p p':Nat} (h:L≠[]):aG p L = aG p' L:=by
  cases L with
  | nil=>exact absurd rfl h
  | cons x r=>rfl
theorem nN {h h' t:Nat}:∀ {L:Qu} {p:Nat},(aJ L).Nodup→L≠[]→aR p L h' t = if t = aG p L then (aR p L h t).map (fun x=>(x.1,x.2.1,h')) else aR p L h t
  | [(u, v)], p, _, _ => by
    simp only [aR,aG,aI]
    by_cases e:t = u
    · simp [e]
    · simp [e]
  | (u, v) :: (u2, v2) :: r, p, hn, _ => by
    have ih:=nN (h:=h) (h':=h') (t:=t) (L:=(u2,v2)::r) (p:=u) (List.nodup_cons.1 hn).2 (by simp)
    have hl:=dT (L:=(u2,v2)::r) (p:=u) (by simp)
    have hne:u≠aG u ((u2,v2)::r):=fun e=>(List.nodup_cons.1 hn).1 (by rw [e]; exact hl)
    have e0:∀ q,aR p ((u,v)::(u2,v2)::r) q t = if t = u then some (v,p,u2) else aR u ((u2,v2)::r) q t:=fun q=>rfl
    rw [e0,e0,show aG p ((u,v)::(u2,v2)::r) = aG u ((u2,v2)::r) from rfl]
    by_cases e:t = u
    · subst e; rw [if_pos rfl,if_pos rfl,if_neg hne]
    · rw [if_neg e,if_neg e]; exact ih
theorem nodeA_p {h t p p':Nat} {u:Nat} {v:Int} {r:Qu} (hn:(aJ ((u,v)::r)).Nodup):aR p' ((u,v)::r) h t = if t = u then (aR p ((u,v)::r) h t).map (fun x=>(x.1,p',x.2.2)) else aR p ((u,v)::r) h t:=by
  simp only [aR]
  by_cases e:t = u
  · simp [e]
  · simp [e]
theorem nodeA_push {L:Qu} {u:Nat} {v:Int} {t:Nat} (hn:(aJ L).Nodup) (hu:u ∉ aJ L) (hL:L≠[]) :
    aR 0 (L++[(u,v)]) 0 t = if t = aG 0 L then (aR 0 L 0 t).map (fun x=>(x.1,x.2.1,u)) else if t = u then some (v,aG 0 L,0) else aR 0 L 0 t:=by
  rw [fd]
  simp only [aI,aR]
  have hl:=dT (p:=0) hL
  rw [nN (h:=0) hn hL]
  by_cases e:t = aG 0 L
  · rw [if_pos e,if_pos e]
    cases hx:aR 0 L 0 t with
    | some x=>rfl
    | none =>
      exfalso
      have:∀ (L:Qu) (p:Nat),t ∈ aJ L→aR p L 0 t≠none:=by
        intro L
        induction L with
        | nil=>intro p h; simp [aJ] at h
        | cons y r ih =>
          obtain ⟨a,b⟩:=y
          intro p h
          simp only [aR]
          split
          · simp
          · rename_i hne
            simp only [aJ,List.map_cons,List.mem_cons] at h
            exact ih a (h.resolve_left hne)
      exact this L 0 (e ▸ hl) hx
  · rw [if_neg e,if_neg e]
    by_cases e2:t = u
    · subst e2; rw [cg hu]
      try simp
    · simp only [if_neg e2]
      cases aR 0 L 0 t <;> rfl
theorem nodeA_del {A B:Qu} {u:Nat} {v:Int} {t:Nat} (hn:(aJ (A++(u,v)::B)).Nodup) :
    aR 0 (A++B) 0 t = if t = u then none else
      if A≠[]∧t = aG 0 A then (aR 0 (A++(u,v)::B) 0 t).map (fun x=>(x.1,x.2.1,aI B 0)) else
      if B≠[]∧t = aI B 0 then (aR 0 (A++(u,v)::B) 0 t).map (fun x=>(x.1,aG 0 A,x.2.2)) else aR 0 (A++(u,v)::B) 0 t:=by
  have h1:(aJ A).Nodup∧(aJ ((u,v)::B)).Nodup∧∀ x ∈ aJ A,∀ y ∈ aJ ((u,v)::B),x≠y:=by
    simp only [aJ,List.map_append] at hn
    exact List.nodup_append.1 hn
  obtain ⟨hA,hB0,hAB⟩:=h1
  have hB:=List.nodup_cons.1 hB0
  have hu:u ∉ aJ A:=fun e=>hAB u e u (by simp [aJ]) rfl
  rw [fd,fd,show aI ((u,v)::B) 0 = u from rfl]
  by_cases e:t = u
  · subst e
    rw [if_pos rfl,cg hu]
    exact cg hB.1
  · rw [if_neg e]
    have e1:aR (aG 0 A) ((u,v)::B) 0 t = aR u B 0 t:=by simp only [aR]; rw [if_neg e]
    rw [e1]
    by_cases hAe:A = []
    · subst hAe
      simp only [aR,aG,ne_eq,not_true_eq_false,false_and,if_false]
      cases B with
      | nil=>simp [aR]
      | cons y r =>
        obtain ⟨w,z⟩:=y
        rw [nodeA_p (p:=u) (p':=0) hB.2]
        simp [show aI ((w,z)::r) 0 = w from rfl]
    · rw [nN (h:=u) (h':=aI B 0) hA hAe]
      by_cases e2:t = aG 0 A
      · have hin:t ∈ aJ A:=e2 ▸ dT hAe
        rw [if_pos e2,if_pos ⟨hAe,e2⟩]
        cases hx:aR 0 A u t with
        | some x=>rfl
        | none =>
          have hnb:t ∉ aJ B:=fun hb=>hAB t hin t (by simp only [aJ,List.map_cons,List.mem_cons]; exact .inr hb) rfl
          simp only [Option.map_none,cg hnb]
      · rw [if_neg e2,if_neg (fun q=>e2 q.2)]
        cases B with
        | nil=>simp [aR]
        | cons y r =>
          obtain ⟨w,z⟩:=y
          rw [nodeA_p (p:=u) (p':=aG 0 A) hB.2]
          simp only [show aI ((w,z)::r) 0 = w from rfl,ne_eq,reduceCtorEq,not_false_eq_true,true_and]
          by_cases e3:t = w
          · have hna:t ∉ aJ A:=fun ha=>hAB t ha t (by simp [aJ,e3]) rfl
            rw [if_pos e3,if_pos e3,cg hna]
          · rw [if_neg e3,if_neg e3]
theorem nodeA_at {A B:Qu} {u:Nat} {v:Int} (hu:u ∉ aJ A):aR 0 (A++(u,v)::B) 0 u = some (v,aG 0 A,aI B 0):=by
  rw [fd,cg hu]
  simp [aR]
def ndAV (x:Nd):AV:=.agg [.lit (.int .i64 x.1),.lit (.int .u64 (x.2.1:Nat)),.lit (.int .u64 (x.2.2:Nat))]
theorem ndAV_dis (x:Nd):(ndAV x).dis = ndAV x:=rfl
structure QIs (st:St) (q mid:Nat) (L:Qu) (g:Nat):Prop where
  get:st.get q = some [.lit (.int .u64 (aI L 0:Nat)),.lit (.int .u64 (aG 0 L:Nat)),.lit (.int .u64 (g:Nat)),.map mid]
  mp:∃ m,MapIs st mid .u64 ndAV m∧(∀ t:Nat,aj t m = aR 0 L 0 t)∧m.length = L.length
  srt:(aJ L).Pairwise (· < ·)
  pos:∀ t ∈ aJ L,0 < t∧t≤g
theorem QIs.nd {st:St} {q mid g:Nat} {L:Qu} (h:QIs st q mid L g):(aJ L).Nodup:=h.srt.imp fun h=>Nat.ne_of_lt h
theorem QIs.ne {st:St} {q mid g:Nat} {L:Qu} (h:QIs st q mid L g):mid≠q:=by
  obtain ⟨m,hm,_⟩:=h.mp
  exact hm.ne h.get
theorem QIs.ltq {st:St} {q mid g:Nat} {L:Qu} (h:QIs st q mid L g):q < st.boxes.length:=bj h.get
theorem QIs.ltm {st:St} {q mid g:Nat} {L:Qu} (h:QIs st q mid L g):mid < st.boxes.length:=by
  obtain ⟨m,hm,_⟩:=h.mp
  exact hm.lt
theorem QIs.at {st st':St} {q mid g:Nat} {L:Qu} (h:QIs st q mid L g) (h1:st'.boxes[q]? = st.boxes[q]?) (h2:st'.boxes[mid]? = st.boxes[mid]?):QIs st' q mid L g:=by
  obtain ⟨m,hm,h3,h4⟩:=h.mp
  exact ⟨(dg h1).trans h.get,⟨m,hm.at h2,h3,h4⟩,h.srt,h.pos⟩
theorem QIs.oth {st st':St} {q mid g:Nat} {L:Qu} {S:List Nat} (h:QIs st q mid L g) (ho:Oth st st' S) (h1:q ∉ S) (h2:mid ∉ S):QIs st' q mid L g:=h.at (ho.2 _ h1) (ho.2 _ h2)
theorem QIs.nil_iff {st:St} {q mid g:Nat} {L:Qu} (h:QIs st q mid L g):(aI L 0 = 0↔L = [])∧(aG 0 L = 0↔L = []):=by
  cases L with
  | nil=>simp [aI,aG]
  | cons x r =>
    obtain ⟨t,v⟩:=x
    have h1:=h.pos t (by simp [aJ])
    have h2:=h.pos _ (dT (L:=(t,v)::r) (p:=0) (by simp))
    simp only [aI,reduceCtorEq,iff_false]
    omega
theorem eD {t:Nat}:∀ {L:Qu} {p:Nat},t ∈ aJ L→∃ x,aR p L 0 t = some x
  | (u, v) :: r, p, h => by
    simp only [aR]
    split
    · exact ⟨_,rfl⟩
    · rename_i hne
      simp only [aJ,List.map_cons,List.mem_cons] at h
      exact eD (h.resolve_left hne)
theorem cy (A B:Qu):aJ (A++B) = aJ A++aJ B:=by simp [aJ]
theorem QIs.push {st st':St} {q mid g:Nat} {L:Qu} {v:Int} (h:QIs st q mid L g) {m':List (Int×Nd)} (hg:st'.get q = some [.lit (.int .u64 (aI (L++[(g + 1,v)]) 0:Nat)),.lit (.int .u64 ((g + 1:Nat))),.lit (.int .u64 ((g + 1:Nat))),.map mid])
    (hm:MapIs st' mid .u64 ndAV m') (hl:∀ t:Nat,aj t m' = aR 0 (L++[(g + 1,v)]) 0 t) (hn:m'.length = L.length + 1):QIs st' q mid (L++[(g + 1,v)]) (g + 1):=by
  refine ⟨by rw [ff]; exact hg,⟨m',hm,hl,by simp [hn]⟩,?_,fun t ht=>?_⟩
  · rw [cy]
    refine List.pairwise_append.2 ⟨h.srt,by simp [aJ],fun x hx y hy=>?_⟩
    simp only [aJ,List.map_cons,List.map_nil,List.mem_singleton] at hy
    have:=(h.pos x hx).2
    omega
  · rw [cy] at ht
    rcases List.mem_append.1 ht with ht | ht
    · have:=h.pos t ht; omega
    · simp only [aJ,List.map_cons,List.map_nil,List.mem_singleton] at ht
      omega
theorem QIs.fresh {st:St} {q mid g:Nat} {L:Qu} (h:QIs st q mid L g):g + 1 ∉ aJ L:=fun e=>by have:=(h.pos _ e).2; omega
theorem QIs.del {st st':St} {q mid g:Nat} {A B:Qu} {t:Nat} {v:Int} (h:QIs st q mid (A++(t,v)::B) g) {m':List (Int×Nd)} (hg:st'.get q = some [.lit (.int .u64 (aI (A++B) 0:Nat)),.lit (.int .u64 (aG 0 (A++B):Nat)),.lit (.int .u64 (g:Nat)),.map mid])
    (hm:MapIs st' mid .u64 ndAV m') (hl:∀ t:Nat,aj t m' = aR 0 (A++B) 0 t) (hn:m'.length = (A++B).length):QIs st' q mid (A++B) g:=by
  have hsub:(aJ (A++B)).Sublist (aJ (A++(t,v)::B)):=by
    simp only [cy]
    exact List.Sublist.append (List.Sublist.refl _) (List.sublist_cons_self _ _)
  exact ⟨hg,⟨m',hm,hl,hn⟩,h.srt.sublist hsub,fun x hx=>h.pos x (hsub.subset hx)⟩
end Go.Fx
/- A channel's state: plain lists, and where they lie. -/
namespace Go.Fx
open Go
abbrev W3:=Nat×Int×Int
structure ChP where
  closed:Bool
  cap:Nat
  buf:List Int
  S:List W3
  V:List W3
  g0:Nat
  g1:Nat
def qOf (l:List W3):Qu:=l.map fun x=>(x.1,x.2.1)
def wEnt (d:Int) (l:List W3):List (Int×(Int×Int×Nat)):=l.map fun x=>(x.2.1,(d,x.2.2,x.1))
def entC (S V:List W3):List (Int×(Int×Int×Nat)):=wEnt 0 S++wEnt 1 V
def wtAV (x:Int×Int×Nat):AV:=.agg [.lit (.int .i64 x.1),.lit (.int .i64 x.2.1),.lit (.int .u64 (x.2.2:Nat))]
def ints (l:List Int):List AV:=l.map fun v=>.lit (.int .i64 v)
theorem dl (l:List Int):Lits (ints l):=fun x hx=>by
  simp only [ints,List.mem_map] at hx
  obtain ⟨v,_,rfl⟩:=hx
  exact ⟨_,rfl⟩
theorem au (l:List Int):(ints l).length = l.length:=by simp [ints]
theorem fX (l k:List Int):ints (l++k) = ints l++ints k:=by simp [ints]
theorem dh {β:Type} {k:Int} {x:β} {B:List (Int×β)}:∀ {A:List (Int×β)},(az (A++(k,x)::B)).Nodup→aj k (A++(k,x)::B) = some x∧∀ t,aj t (A++B) = if t = k then none else aj t (A++(k,x)::B)
  | [], h => by
    simp only [List.nil_append,az,List.map_cons,List.nodup_cons] at h
    refine ⟨by simp [aj],fun t=>?_⟩
    by_cases e:t = k
    · subst e; rw [if_pos rfl]; exact ji h.1
    · simp [aj,e]
  | (a, b) :: A, h => by
    simp only [List.cons_append,az,List.map_cons,List.nodup_cons] at h
    obtain ⟨h1,h2⟩:=dh (A:=A) (B:=B) (k:=k) (x:=x) h.2
    have hne:¬ k = a:=fun e=>h.1 (by rw [← e]; simp)
    refine ⟨by simp only [List.cons_append,aj]; rw [if_neg hne]; exact h1,fun t=>?_⟩
    simp only [List.cons_append,aj]
    by_cases e:t = a
    · have e2:¬ t = k:=fun q=>hne (by rw [← q,e])
      rw [if_pos e,if_neg e2,if_pos e]
    · rw [if_neg e,if_neg e]; exact h2 t
theorem dU {β:Type} (A B:List (Int×β)):az (A++B) = az A++az B:=by simp [az]
theorem look_of_mem {β:Type} {k:Int} {m:List (Int×β)}:(aj k m).isSome = decide (k ∈ az m):=by
  induction m with
  | nil=>simp [aj,az]
  | cons p r ih =>
    obtain ⟨a,b⟩:=p
    simp only [aj,az,List.map_cons,List.mem_cons]
    by_cases e:k = a
    · simp [e]
    · simp only [if_neg e,e,false_or]; exact ih
def ae:AV→List Nat
  | .bs id _ _ _ _=>[id]
  | _=>[]
structure ChIs (st:St) (c:Nat) (P:ChP) (q0 m0 q1 m1 wid:Nat) (bv:AV):Prop where
  get:st.get c = some [.lit (.bool true),.lit (.bool P.closed),.lit (.int .i64 (P.cap:Nat)),bv,.ptr q0 0,.ptr q1 0,.map wid]
  buf:MB bv st (ints P.buf)
  s:QIs st q0 m0 (qOf P.S) P.g0
  r:QIs st q1 m1 (qOf P.V) P.g1
  w:∃ W,MapIs st wid .i64 wtAV W∧∀ t,aj t W = aj t (entC P.S P.V)
  ids:[c,q0,q1,m0,m1,wid].Nodup
  bid:∀ x ∈ ae bv,x ∉ [c,q0,q1,m0,m1,wid]
  nd:(az (entC P.S P.V)).Nodup
  rng:∀ t ∈ az (entC P.S P.V),0≤t∧t < 64
  zv:∀ x ∈ P.V,x.2.2 = 0
def Kp (st st':St) (F:List Nat):Prop:=st.boxes.length≤st'.boxes.length∧∀ id,id < st.boxes.length→id ∉ F→st'.boxes[id]? = st.boxes[id]?
theorem Kp.refl (st:St) (F:List Nat):Kp st st F:=⟨Nat.le_refl _,fun _ _ _=>rfl⟩
theorem Kp.trans {a b c:St} {F F':List Nat} (h:Kp a b F) (k:Kp b c F') (hf:∀ x ∈ F',x ∈ F∨a.boxes.length≤x):Kp a c F :=
  ⟨Nat.le_trans h.1 k.1,fun id hid hn=>(k.2 id (Nat.lt_of_lt_of_le hid h.1) fun e=>(hf id e).elim hn (fun q=>by omega)).trans (h.2 id hid hn)⟩
theorem Oth.kp {st st':St} {S F:List Nat} (h:Oth st st' S) (hs:∀ x ∈ S,x ∈ F):Kp st st' F:=⟨Nat.le_of_eq h.1.symm,fun id _ hn=>h.2 id fun e=>hn (hs id e)⟩
theorem MB.at {v:AV} {st st':St} {l:List AV} (h:MB v st l) (hb:∀ x ∈ ae v,st'.boxes[x]? = st.boxes[x]?):MB v st' l:=by
  rcases h with ⟨rfl,rfl⟩ | ⟨id,cap,r,rfl,hg,h1,h2⟩
  · exact .inl ⟨rfl,rfl⟩
  · exact .inr ⟨id,cap,r,rfl,(dg (hb id (by simp [ae]))).trans hg,h1,h2⟩
theorem MB.lt {v:AV} {st:St} {l:List AV} (h:MB v st l):∀ x ∈ ae v,x < st.boxes.length:=by
  rcases h with ⟨rfl,rfl⟩ | ⟨id,cap,r,rfl,hg,h1,h2⟩
  · simp [ae]
  · intro x hx
    simp only [ae,List.mem_singleton] at hx
    subst hx
    exact bj hg
section
variable {st st':St} {c q0 m0 q1 m1 wid:Nat} {bv:AV} {P:ChP}
theorem ChIs.lts (h:ChIs st c P q0 m0 q1 m1 wid bv):∀ x ∈ [c,q0,q1,m0,m1,wid]++ae bv,x < st.boxes.length:=by
  obtain ⟨W,hW,_⟩:=h.w
  intro x hx
  simp only [List.mem_append,List.mem_cons,List.not_mem_nil,or_false] at hx
  rcases hx with (rfl | rfl | rfl | rfl | rfl | rfl) | hx
  · exact bj h.get
  · exact h.s.ltq
  · exact h.r.ltq
  · exact h.s.ltm
  · exact h.r.ltm
  · exact hW.lt
  · exact h.buf.lt x hx
theorem ChIs.kp (h:ChIs st c P q0 m0 q1 m1 wid bv) {F:List Nat} (hk:Kp st st' F) (hf:∀ x ∈ [c,q0,q1,m0,m1,wid]++ae bv,x ∉ F):ChIs st' c P q0 m0 q1 m1 wid bv:=by
  have hat:∀ x ∈ [c,q0,q1,m0,m1,wid]++ae bv,st'.boxes[x]? = st.boxes[x]?:=fun x hx=>hk.2 x (h.lts x hx) (hf x hx)
  obtain ⟨W,hW,hl⟩:=h.w
  exact ⟨(dg (hat c (by simp))).trans h.get,h.buf.at fun x hx=>hat x (by simp only [List.mem_append]; exact .inr hx),h.s.at (hat _ (by simp)) (hat _ (by simp)),h.r.at (hat _ (by simp)) (hat _ (by simp)),⟨W,hW.at (hat _ (by simp)),hl⟩,h.ids,h.bid,h.nd,h.rng,h.zv⟩
end
theorem MB.grow {v:AV} {st:St} {l new:List AV} {bytes:Nat} {C:AV→St→Prop} (h:MB v st l) (hl:Lits l) (hn:Lits new) (hr:dQ (l.length + new.length) bytes = true)
    (hC:∀ v' st',MB v' st' (l++new)→Kp st st' (ae v)→(∀ x ∈ ae v',x ∈ ae v∨st.boxes.length≤x)→C v' st'):appX false 1 bytes v C st new:=by
  rcases h with ⟨rfl,rfl⟩ | ⟨id,cap,r,rfl,hg,h1,h2⟩
  · refine ⟨rfl,by simpa using hr,?_⟩
    split
    · rename_i h
      have:new = []:=by simpa using h
      subst this
      exact hC _ _ (.inl ⟨rfl,rfl⟩) (Kp.refl _ _) (by simp [ae])
    · intro c hc
      refine hC _ _ (.inr ⟨st.boxes.length,c,List.replicate (c - new.length) .any,by simp,?_,by simpa using hc,by simp; omega⟩) ⟨by simp [St.push],fun id hid _=>cf hid⟩ (by simp [ae])
      rw [hn.cellsD]
      simp only [List.nil_append,Nat.mul_one]
      exact cb st _
  · refine ⟨rfl,rfl,hr,?_⟩
    rw [hg]
    show (Res.ok _).wp _
    rw [wp_ok,hn.cellsD]
    have hid:=bj hg
    split
    · rename_i hc
      refine ⟨by omega,hC _ _ (.inr ⟨id,cap,r.drop new.length,by simp,?_,by simpa using hc,?_⟩) ⟨by simp [St.set],fun id' _ hne=>cO (by simpa [ae] using hne)⟩ (by simp [ae])⟩
      · rw [aV hid,Nat.zero_add,Nat.mul_one,fa rfl (by simp at h2; omega)]
        simp
      · simp at h2 ⊢; omega
    · rename_i hc
      have e:List.map AV.own1 (List.take (l.length * 1) (List.drop 0 (l++r))) = l:=by simp [hl.own]
      refine ⟨by simp,fun c hc=>hC _ _ (.inr ⟨st.boxes.length,c,List.replicate (c - (l.length + new.length)) .any,by simp,?_,by simpa using hc,by simp; omega⟩) ⟨by simp [St.push],fun id' hid' _=>cf hid'⟩ (by simp [ae])⟩
      rw [e]
      simp only [Nat.mul_one]
      exact cb st _
abbrev It := Int × Int × Int  -- task, value, error
def itAV (x:It):AV:=.agg [.lit (.int .i64 x.1),.lit (.int .i64 0),.lit (.int .i64 x.2.1),.lit (.int .i64 x.2.2)]
def bp (l:List It):AV:=if l = [] then .lit (.slice none 0 0) else .sl false 4 (l.map itAV)
theorem bR (l:List It):(bp l).dis = bp l∧(bp l).own1 = bp l∧(bp l).own2 = bp l∧(bp l).solid1 = true∧(bp l).noL = true∧(bp l).cells = [bp l]∧∀ s,kill s (bp l) = bp l:=by
  unfold bp; split <;> exact ⟨rfl,rfl,rfl,rfl,rfl,rfl,fun _=>rfl⟩
def aA (P:ChP) (v:Int):ChP×List It×Int :=
  if P.closed = true then (P,[],14) else
  match P.V with
  | x::l=>({ P with V:=l },[(x.2.1,v,0)],0)
  | []=>if P.buf.length < P.cap then ({ P with buf:=P.buf++[v] },[],0) else (P,[],16)
def foot (c q0 m0 q1 m1 wid:Nat) (bv:AV):List Nat:=[c,q0,q1,m0,m1,wid]++ae bv
def bN (st:St) (c:Nat) (P:ChP) (q0 m0 q1 m1 wid:Nat) (bv:AV) (st':St):Prop :=
  ∃ bv',ChIs st' c P q0 m0 q1 m1 wid bv'∧Kp st st' (foot c q0 m0 q1 m1 wid bv)∧∀ x ∈ ae bv',x ∈ ae bv∨st.boxes.length≤x
theorem ChIs.post {st st':St} {c q0 m0 q1 m1 wid:Nat} {bv:AV} {P:ChP} (h:ChIs st' c P q0 m0 q1 m1 wid bv) (hk:Kp st st' (foot c q0 m0 q1 m1 wid bv)):bN st c P q0 m0 q1 m1 wid bv st':=⟨bv,h,hk,fun _ h=>.inl h⟩
theorem bN.trans {a b st':St} {c q0 m0 q1 m1 wid:Nat} {bv bv1:AV} {P:ChP} (hk:Kp a b (foot c q0 m0 q1 m1 wid bv)) (hb:∀ x ∈ ae bv1,x ∈ ae bv∨a.boxes.length≤x) (h:bN b c P q0 m0 q1 m1 wid bv1 st'):bN a c P q0 m0 q1 m1 wid bv st':=by
  obtain ⟨bv',h1,h2,h3⟩:=h
  refine ⟨bv',h1,hk.trans h2 fun x hx=>?_,fun x hx=>?_⟩
  · simp only [foot,List.mem_append] at hx ⊢
    rcases hx with hx | hx
    · exact .inl (.inl hx)
    · exact (hb x hx).elim (fun e=>.inl (.inr e)) .inr
  · rcases h3 x hx with h | h
    · exact hb x h
    · exact .inr (Nat.le_trans hk.1 h)
theorem ChIs.rebufC {st st1:St} {c q0 m0 q1 m1 wid:Nat} {bv bv1:AV} {P:ChP} {cl:Bool} {b':List Int} (h:ChIs st c P q0 m0 q1 m1 wid bv) (hm:MB bv1 st1 (ints b')) (hk:Kp st st1 (ae bv)) (hb:∀ x ∈ ae bv1,x ∈ ae bv∨st.boxes.length≤x) :
    ChIs (st1.set c [.lit (.bool true),.lit (.bool cl),.lit (.int .i64 (P.cap:Nat)),bv1,.ptr q0 0,.ptr q1 0,.map wid]) c { P with buf:=b',closed:=cl } q0 m0 q1 m1 wid bv1 ∧
    Kp st (st1.set c [.lit (.bool true),.lit (.bool cl),.lit (.int .i64 (P.cap:Nat)),bv1,.ptr q0 0,.ptr q1 0,.map wid]) (foot c q0 m0 q1 m1 wid bv):=by
  have hlt:=h.lts
  have hids:=h.ids
  have hbid:=h.bid
  have hcl:c < st1.boxes.length:=Nat.lt_of_lt_of_le (hlt c (by simp)) hk.1
  simp only [List.nodup_cons,List.mem_cons,List.not_mem_nil,or_false,not_or] at hids
  have hat:∀ x ∈ [q0,q1,m0,m1,wid],(st1.set c [.lit (.bool true),.lit (.bool cl),.lit (.int .i64 (P.cap:Nat)),bv1,.ptr q0 0,.ptr q1 0,.map wid]).boxes[x]? = st.boxes[x]?:=by
    intro x hx
    rw [cO (by simp at hx; omega)]
    refine hk.2 x (hlt x (by simp at hx ⊢; omega)) fun e=>?_
    exact hbid x e (by simp at hx ⊢; omega)
  have hbc:∀ x ∈ ae bv1,x ∉ [c,q0,q1,m0,m1,wid]:=by
    intro x hx hin
    rcases hb x hx with e | e
    · exact hbid x e hin
    · have:=hlt x (List.mem_append_left _ hin); omega
  obtain ⟨W,hW,hl⟩:=h.w
  refine ⟨⟨aV hcl,hm.at fun x hx=>cO fun e=>hbc x hx (by simp [e]),h.s.at (hat _ (by simp)) (hat _ (by simp)),h.r.at (hat _ (by simp)) (hat _ (by simp)),⟨W,hW.at (hat _ (by simp)),hl⟩,h.ids,hbc,h.nd,h.rng,h.zv⟩,⟨by rw [fw]; exact hk.1,fun x hx hn=>?_⟩⟩
  simp only [foot,List.mem_append,List.mem_cons,List.not_mem_nil,or_false,not_or] at hn
  rw [cO hn.1.1]
  exact hk.2 x hx hn.2
theorem ChIs.rebuf {st st1:St} {c q0 m0 q1 m1 wid:Nat} {bv bv1:AV} {P:ChP} {cl:Bool} {b':List Int} (h:ChIs st c P q0 m0 q1 m1 wid bv) (hm:MB bv1 st1 (ints b')) (hk:Kp st st1 (ae bv)) (hb:∀ x ∈ ae bv1,x ∈ ae bv∨st.boxes.length≤x) :
    bN st c { P with buf:=b',closed:=cl } q0 m0 q1 m1 wid bv (st1.set c [.lit (.bool true),.lit (.bool cl),.lit (.int .i64 (P.cap:Nat)),bv1,.ptr q0 0,.ptr q1 0,.map wid]) :=
  ⟨bv1,(h.rebufC hm hk hb).1,(h.rebufC hm hk hb).2,hb⟩
def chk (P:ChP) (t:Int):Int:=if t < 0∨64≤t then 2 else if t ∈ az (entC P.S P.V) then 11 else 0
def dm (P:ChP) (t v:Int):ChP×Bool×List It×Int :=
  if chk P t≠0 then (P,false,[],chk P t) else
  if (aA P v).2.2 = 16 then ({ P with S:=P.S++[(P.g0 + 1,t,v)],g0:=P.g0 + 1 },false,[],0)
  else ((aA P v).1,(aA P v).2.2 == 0,(aA P v).2.1,(aA P v).2.2)
def ag (P:ChP):ChP×Int×List It×Int :=
  match P.S with
  | x::l=>({ P with S:=l,buf:=(P.buf++[x.2.2]).tail },(P.buf++[x.2.2]).headD 0,[(x.2.1,0,0)],0)
  | [] => match P.buf with
    | []=>(P,0,[],if P.closed = true then 13 else 16)
    | x::b=>({ P with buf:=b },x,[],0)
def bU (P:ChP):ChP×List It×Int :=
  if P.closed = true then (P,[],14) else ({ P with closed:=true,S:=[],V:=[] },P.V.map (fun x=>(x.2.1,0,13))++P.S.map (fun x=>(x.2.1,0,14)),0)
def cI (P:ChP) (t:Int):ChP×Int :=
  if chk P t = 11 then ({ P with S:=P.S.filter (fun x=>x.2.1 != t),V:=P.V.filter (fun x=>x.2.1 != t) },0) else if chk P t = 0 then (P,9) else (P,chk P t)
def aT (P:ChP) (t:Int):ChP×Int×Bool×List It×Int :=
  if chk P t≠0 then (P,0,false,[],chk P t) else
  if (ag P).2.2.2 = 16 then ({ P with V:=P.V++[(P.g1 + 1,t,0)],g1:=P.g1 + 1 },0,false,[],0)
  else ((ag P).1,(ag P).2.1,(ag P).2.2.2 == 0,(ag P).2.2.1,(ag P).2.2.2)
def Bd (P:ChP) (n:Nat):Prop:=P.g0≤n∧P.g1≤n∧P.buf.length≤n∧P.S.length≤n∧P.V.length≤n∧P.cap≤4096
theorem try_16 {P:ChP} {v:Int} (h:(aA P v).2.2 = 16):(aA P v).1 = P∧(aA P v).2.1 = []:=by
  unfold aA at *
  split
  · exact ⟨rfl,rfl⟩
  · rename_i h1
    rw [if_neg h1] at h
    split
    · rename_i h2; rw [h2] at h; simp at h
    · rename_i h2; rw [h2] at h
      split
      · rename_i h3; simp [if_pos h3] at h
      · exact ⟨rfl,rfl⟩
theorem tryr_16 {P:ChP} (h:(ag P).2.2.2 = 16):(ag P).1 = P∧(ag P).2.2.1 = []∧(ag P).2.1 = 0:=by
  unfold ag at *
  split
  · rename_i h1; rw [h1] at h; simp at h
  · rename_i h1
    split
    · exact ⟨rfl,rfl,rfl⟩
    · rename_i h2; rw [h1,h2] at h; simp at h
end Go.Fx
