/- An evaluator for resolved code, proved against the model: part 6. -/
import Derived.Test.YtbdjfccgkdgbfaaFxE
/- Loops with states that are told; lists of bytes. -/
namespace Go.Fx
open Go
section
variable {P:Program} {F:Nat→FuncId} {m:Bool} {b:AC} {lv ll:List Nat} {Q:Exit→Sf→St→Prop}
def stepQ {A:Type} (S:A→Sf) (T:A→St) (R:A→Prop) (lv ll:List Nat) (Q:Exit→Sf→St→Prop):Exit→Sf→St→Prop
  | .normal,sf,st=>∃ a,R a∧Sf.le (sf.mask lv ll) (S a)∧st = T a
  | e,sf,st=>Q e sf st
theorem loop_for {A:Type} (μ:A→Nat) (S:A→Sf) (T:A→St) (I:A→Prop) (a0:A) {sf:Sf} {st:St} (h0:I a0) (hs:Sf.le (sf.mask lv ll) (S a0)) (ht:st = T a0)
    (step:∀ a,I a→aC P F m b (S a) (T a) (stepQ S T (fun a'=>I a'∧μ a' < μ a) lv ll Q)):aY (aC P F m b) lv ll sf st Q:=by
  refine ⟨fun k sf st=>∃ a,I a∧μ a = k∧sf = S a∧st = T a,⟨μ a0,_,hs,a0,h0,rfl,rfl,ht⟩,?_⟩
  rintro k sf st ⟨a,ha,rfl,rfl,rfl⟩
  refine aC_mono (fun e sf st=>?_) (step a ha)
  cases e with
  | normal=>exact fun ⟨a',⟨h1,h2⟩,h3,h4⟩=>⟨μ a',h2,S a',h3,a',h1,rfl,rfl,h4⟩
  | _=>exact fun q=>q
variable {A:Type} (S:A→Sf) (T:A→St) (R:A→Prop) (sf:Sf) (st:St)
end
section
variable {CB:Sf→St→(Exit→Sf→St→Prop)→Prop} {id:Nat} {r:Loop} {rs:List (Nat×AV)} {Q:Bool→St→Prop} {sf:Sf} {st:St}
end
def BB (l:List UInt8):List AV:=l.map bN
theorem aR (l:List UInt8):(BB l).length = l.length:=by simp [BB]
theorem oM (l:List UInt8) (n:Nat):(BB l).take n = BB (l.take n):=by simp [BB,List.map_take]
theorem BB_drop (l:List UInt8) (n:Nat):(BB l).drop n = BB (l.drop n):=by simp [BB,List.map_drop]
theorem BB_app (l r:List UInt8):BB l++BB r = BB (l++r):=by simp [BB]
theorem BB_lits (l:List UInt8):Lits (BB l):=Lits.map (fun b:UInt8=>Value.int .u8 b.toNat) l
theorem BB_dis (l:List UInt8):(BB l).map AV.dis = BB l:=(BB_lits l).dis
theorem kc (l:List UInt8):Fx.cellsD (BB l) = BB l:=(BB_lits l).cellsD
theorem BB_nil:BB [] = []:=rfl
theorem BB_cons (x:UInt8) (l:List UInt8):BB (x::l) = .lit (.int .u8 x.toNat)::BB l:=rfl
def str (l:List UInt8):ByteArray:=⟨l.toArray⟩
theorem strOf_BB (l:List UInt8):kr (BB l) = some (str l):=by
  have:(BB l).mapM byteA = some l:=by
    induction l with
    | nil=>rfl
    | cons x r ih=>simp only [BB_cons,List.mapM_cons,ih,byteA]; simp
  simp [kr,this,str]
theorem conv_sl (st:St) (o:Bool) (l:List UInt8):gc st .bs (.sl o 1 (BB l)) = .ok (.lit (.string (str l))):=by
  simp [gc,strOf_BB,Res.ofOpt,Res.bind]
theorem str_list (a:List UInt8):(str a).toList = a:=by rw [ByteArray.toList_eq]; simp [str]
theorem oN (a b:List UInt8):binI .num .eql (.lit (.string (str a))) (.lit (.string (str b))) = .ok (.lit (.bool (decide (a = b)))):=by
  have:((str a).toList == (str b).toList) = decide (a = b):=by rw [str_list,str_list]; exact Bool.eq_iff_iff.2 (by simp)
  rw [← this]; rfl
theorem byte_of (n:Nat):AV.lit (.int .u8 (IntKind.u8.wrap n)) = bN (UInt8.ofNat n):=by
  unfold bN
  congr 2
theorem pure_eq {P:Program} {f:FuncId} {vs:List AV} {x:AV} (h:am P f vs ⟨[]⟩ (fun v _=>AV.le v x)) (hx:x.NB) (hvs:∀ v ∈ vs,v.NB) (st:St):ao P f vs st x :=
  pure_of (h.mono fun _ _ h=>.le _ _ h hx) hvs st
end Go.Fx
/- Regions that draw their order: evaluation. -/
namespace Go.Fx
open Go
section
variable (P:Program) (F:Nat→FuncId) (m:Bool) (locs0:List (Nat×List AV)) (st:St) (C:PK→Sf→Prop) (sf:Sf) (d:Option Nat) (x y i:Opd) (K:List PK→Sf→Prop) (ks:List PK)
theorem eO:aE P F locs0 st [] K ks sf = K ks sf:=rfl
theorem cP (i:AI) (r:List GI):aE P F locs0 st (⟨none,i⟩::r) K ks sf = aT P F locs0 st i (jg (aE P F locs0 st r K) ks) sf:=rfl
theorem d6:aT P F locs0 st (.mv d x) C sf = valH C d sf (sf.ev F x).dis:=rfl
theorem ke (k:BinK) (op:BinOp):aT P F locs0 st (.bin d k op x y) C sf = (binI k op (sf.ev F x) (sf.ev F y)).wp (valH C d sf):=rfl
theorem hh_field (off:Nat) (k:Option Nat):aT P F locs0 st (.field d x off k) C sf = (l4 (sf.ev F x) off k).wp (valH C d sf):=rfl
theorem cV (off:Nat):aT P F locs0 st (.addr d x off) C sf = (addA (sf.ev F x) off).wp (valH C d sf):=rfl
theorem hh_ixS (k:Nat):aT P F locs0 st (.ixS d x i k) C sf = (ixSV (sf.ev F x) (sf.ev F i) k).wp (valH C d sf):=rfl
theorem co (k:Option Nat):aT P F locs0 st (.load d x k) C sf = (ir sf st (sf.ev F x) k).wp (valH C d sf):=rfl
theorem cg:aT P F locs0 st (.nilck d x) C sf = (aj (sf.ev F x)).wp (valH C d sf):=rfl
theorem oO (lo hi:Option Opd) (mx:Opd) (k:Nat):aT P F locs0 st (.sli3 d x lo hi mx k) C sf = (sli3V (sf.ev F x) (lo.map (sf.ev F)) (hi.map (sf.ev F)) (sf.ev F mx) k).wp (valH C d sf):=rfl
theorem hh_bst (places:List (Nat×Nat)) (z:AV) (parts:List (Nat×Opd)):aT P F locs0 st (.bst d places z parts) C sf = (bstV places z (parts.map fun p=>(p.1,sf.ev F p.2))).wp (valH C d sf):=rfl
theorem fH (k:KeyK) (z:AV) (ok:Bool) (mp key:Opd):aT P F locs0 st (.lookup d k z ok mp key) C sf = (cc k z ok st (sf.ev F mp) (sf.ev F key)).wp (valH C d sf):=rfl
theorem oP (k:LenK):aT P F locs0 st (.len d k x) C sf = (lenI k st (sf.ev F x)).wp (valH C d sf):=rfl
theorem oQ (p:Bool) (f:Opd) (args:List Opd):aT P F locs0 st (.call d p f args) C sf = gv P st d (sf.ev F f) (args.map (sf.ev F)) C sf:=rfl
theorem kY (s:Nat) (cs:List AV):aT P F locs0 st (.newL s cs) C sf = C (.new s cs) (sf.set s .any):=rfl
end
theorem oR {p:Prop} [Decidable p] {t:Nat} {want:Bool} {Y N:Sf→Prop} {sf:Sf} (h1:p→dt t want (.lit (.bool true)) Y N sf) (h2:¬ p→dt t want (.lit (.bool false)) Y N sf):dt t want (.lit (.bool (decide p))) Y N sf:=by
  by_cases h:p
  · rw [decide_eq_true h]; exact h1 h
  · rw [decide_eq_false h]; exact h2 h
def PK.keep:PK→Bool
  | .val _=>false
  | .skip=>false
  | _=>true
theorem bM:∀ ks:List PK,aP (ks.filter PK.keep) = aP ks
  | []=>rfl
  | .val _::r=>bM r
  | .skip::r=>bM r
  | .mk _ _::r=>bM r
  | .hole::r=>bM r
  | .chole _ _::r=>bM r
  | .nst _ _::r=>bM r
  | .new _ _::r=>bM r
  | .app _ _::r=>bM r
  | .store s _::r=>congrArg (s::·) (bM r)
theorem cH:∀ ks:List PK,bC (ks.filter PK.keep) = bC ks
  | []=>rfl
  | .val _::r=>cH r
  | .skip::r=>cH r
  | .mk _ _::r=>cH r
  | .hole::r=>cH r
  | .chole _ _::r=>cH r
  | .nst _ _::r=>cH r
  | .store _ _::r=>cH r
  | .app _ _::r=>cH r
  | .new s _::r=>congrArg (s::·) (cH r)
theorem cI:∀ ks:List PK,bX (ks.filter PK.keep) = bX ks
  | []=>rfl
  | .val _::r=>cI r
  | .skip::r=>cI r
  | .mk _ _::r=>cI r
  | .hole::r=>cI r
  | .chole _ _::r=>cI r
  | .nst _ _::r=>cI r
  | .store _ _::r=>cI r
  | .new _ _::r=>cI r
  | .app s _::r=>congrArg (s::·) (cI r)
theorem cJ:∀ (ks:List PK) (sf:Sf),cz (ks.filter PK.keep) sf = cz ks sf
  | [],_=>rfl
  | .val _::r,sf=>cJ r sf
  | .skip::r,sf=>cJ r sf
  | .mk _ _::r,sf=>cJ r sf
  | .hole::r,sf=>cJ r sf
  | .chole _ _::r,sf=>cJ r sf
  | .nst _ _::r,sf=>cJ r sf
  | .new _ _::r,sf=>cJ r sf
  | .app _ _::r,sf=>cJ r sf
  | .store _ _::r,_=>cJ r _
theorem ci (t:Nat):∀ ks:List PK,bP t (ks.filter PK.keep) = bP t ks
  | []=>rfl
  | .val _::r=>ci t r
  | .skip::r=>ci t r
  | .mk _ _::r=>ci t r
  | .hole::r=>ci t r
  | .chole _ _::r=>ci t r
  | .store _ _::r=>ci t r
  | .app _ _::r=>ci t r
  | .new _ _::r=>ci t r
  | .nst s cs :: r => by
    show (if s = t then some cs else bP t (r.filter PK.keep)) = if s = t then some cs else bP t r
    rw [ci t r]
theorem cK:∀ ks:List PK,bY (ks.filter PK.keep) = bY ks
  | []=>rfl
  | .val _::r=>cK r
  | .skip::r=>cK r
  | .mk _ _::r=>cK r
  | .hole::r=>cK r
  | .chole _ _::r=>cK r
  | .store _ _::r=>cK r
  | .new _ _::r=>cK r
  | .app _ _::r=>cK r
  | .nst s _::r=>congrArg (s::·) (cK r)
theorem cL:∀ (ks:List PK) (seen:List (Nat×Nat)),nstB seen (ks.filter PK.keep) = nstB seen ks
  | [],_=>rfl
  | .val _::r,s=>cL r s
  | .skip::r,s=>cL r s
  | .mk _ _::r,s=>cL r s
  | .hole::r,s=>cL r s
  | .chole _ _::r,s=>cL r s
  | .store _ _::r,s=>cL r s
  | .app _ _::r,s=>cL r s
  | .new _ _::r,s=>cL r _
  | .nst _ _::r,s=>congrArg (_ && ·) (cL r s)
theorem cM (all:List PK):∀ (ks:List PK) (sf:Sf),bL (all.filter PK.keep) (ks.filter PK.keep) sf = bL all ks sf
  | [],_=>rfl
  | .val _::r,sf=>cM all r sf
  | .skip::r,sf=>cM all r sf
  | .mk _ _::r,sf=>cM all r sf
  | .hole::r,sf=>cM all r sf
  | .chole _ _::r,sf=>cM all r sf
  | .store _ _::r,sf=>cM all r sf
  | .app _ _::r,sf=>cM all r sf
  | .nst _ _::r,sf=>cM all r sf
  | .new s cs :: r, sf => by
    show bL (all.filter PK.keep) (r.filter PK.keep) (sf.newLoc s ((bP s (all.filter PK.keep)).getD cs)) = bL all r (sf.newLoc s ((bP s all).getD cs))
    rw [ci,cM all r]
section
variable {P:Program} {F:Nat→FuncId} {m:Bool} {locs0:List (Nat×List AV)} {st st2:St} {drop lv ll:List Nat} {tl:List GI} {Q:Exit→Sf→St→Prop}
theorem tail_keep (ks:List PK) (sf:Sf):dO P F m drop lv ll tl Q st (ks.filter PK.keep) sf = dO P F m drop lv ll tl Q st ks sf:=by
  unfold dO ksB
  rw [bM,cH,cI,cK,cL,cJ,cM]
theorem g8:∀ (r:List GI) (ks:List PK) (sf:Sf),aE P F locs0 st r (dO P F m drop lv ll tl Q st) (ks.filter PK.keep) sf = aE P F locs0 st r (dO P F m drop lv ll tl Q st) ks sf
  | [],ks,sf=>tail_keep ks sf
  | ⟨g, i⟩ :: r, ks, sf => by
    have h1:jg (aE P F locs0 st r (dO P F m drop lv ll tl Q st)) (ks.filter PK.keep) = jg (aE P F locs0 st r (dO P F m drop lv ll tl Q st)) ks:=by
      funext k sf
      simp only [jg]
      rw [← g8 r (ks++[k]) sf,← g8 r (ks.filter PK.keep++[k]) sf]
      simp
    have h2:∀ d,nr (aE P F locs0 st r (dO P F m drop lv ll tl Q st)) (ks.filter PK.keep) d = nr (aE P F locs0 st r (dO P F m drop lv ll tl Q st)) ks d:=by
      intro d
      funext sf
      exact congrFun (congrFun h1 .skip) (sf.put d (.tup []))
    cases g with
    | none=>simp only [aE,h1]
    | some g=>obtain ⟨t,w⟩:=g; simp only [aE,h1,h2]
variable (ks:List PK) (sf:Sf) (r:List GI) (v:AV) (d:Option Nat)
theorem jv:jg (aE P F locs0 st r (dO P F m drop lv ll tl Q st)) ks (.val v) sf = aE P F locs0 st r (dO P F m drop lv ll tl Q st) ks sf:=by
  show aE P F locs0 st r _ (ks++[.val v]) sf = _
  exact (g8 r (ks++[PK.val v]) sf).symm.trans ((congrArg (fun q=>aE P F locs0 st r (dO P F m drop lv ll tl Q st) q sf) (by simp [PK.keep])).trans (g8 r ks sf))
theorem bp:valH (jg (aE P F locs0 st r (dO P F m drop lv ll tl Q st)) ks) d sf v = aE P F locs0 st r (dO P F m drop lv ll tl Q st) ks (sf.put d v):=jv ks (sf.put d v) r v
theorem bR:dO P F m drop lv ll tl Q st [] sf = runI P F m tl (opsK lv ll Q) sf st:=propext ⟨fun h=>h.2,fun h=>⟨rfl,h⟩⟩
theorem kZ (k:PK):dO P F m drop lv ll tl Q st (k::ks) sf = (ksB drop (k::ks) = true∧runI P F m tl (opsK lv ll Q) (bL (k::ks) (k::ks) (cz (k::ks) sf)) st):=rfl
end
section
variable (H:List PK→Sf→Prop) (ks:List PK) (sf:Sf) (s:Nat) (cs:List AV) (v:AV)
theorem jx:jg H ks (.new s cs) sf = H (ks++[.new s cs]) sf:=rfl
end
theorem call_h {P:Program} {d:Option Nat} {q:FuncId} {fs cs args vs:List AV} {sf:Sf} {st:St} {C:PK→Sf→Prop} {v:AV} (hvs:fs++args.map AV.dis++cs = vs) (hent:bO P q = true) (h:ao P q vs st v) (hn:args.all AV.noL = true) (hK:C (.val v) (sf.put d v)):gv P st d (.fn (.func q) fs cs) args C sf:=by
  subst hvs
  exact ⟨hn,hent,v,h,hK⟩
section
variable (P:Program) (F:Nat→FuncId) (L0:List (Nat×List AV)) (ρ:St) (C:PK→Sf→Prop) (sf:Sf) (d:Option Nat) (x y i:Opd) (K:List PK→Sf→Prop) (ks:List PK)
theorem m_nil:preM P F L0 ρ [] K ks sf = K ks sf:=rfl
theorem oS (i:AI) (r:List GI):preM P F L0 ρ (⟨none,i⟩::r) K ks sf = oneM P F L0 ρ i (ip (preM P F L0 ρ r K) ks) sf:=rfl
theorem m_val (v:AV) (r:List GI):valM (ip (preM P F L0 ρ r K) ks) d sf v = preM P F L0 ρ r K (ks++[.val v]) (sf.put d v):=rfl
theorem mm_mv:oneM P F L0 ρ (.mv d x) C sf = valM C d sf (sf.ev F x).dis:=rfl
theorem mm_bin (k:BinK) (op:BinOp):oneM P F L0 ρ (.bin d k op x y) C sf = (binI k op (sf.ev F x) (sf.ev F y)).wp (valM C d sf):=rfl
theorem mm_conv (k:ConvK):oneM P F L0 ρ (.conv d k x) C sf = (gc ρ k (sf.ev F x)).wp (valM C d sf):=rfl
theorem mm_ext (j:Nat):oneM P F L0 ρ (.ext d x j) C sf = (extV (sf.ev F x) j).wp (valM C d sf):=rfl
theorem oT (off:Nat):oneM P F L0 ρ (.addr d x off) C sf = (addA (sf.ev F x) off).wp (valM C d sf):=rfl
theorem mm_ixS (k:Nat):oneM P F L0 ρ (.ixS d x i k) C sf = (ixSV (sf.ev F x) (sf.ev F i) k).wp (valM C d sf):=rfl
theorem mm_load (k:Option Nat):oneM P F L0 ρ (.load d x k) C sf = (ir sf ρ (sf.ev F x) k).wp (valM C d sf):=rfl
theorem my:oneM P F L0 ρ (.nilck d x) C sf = (aj (sf.ev F x)).wp (valM C d sf):=rfl
variable (KH:List PK→Prop) (st:St) (post:List (Bool×GI)) (T:St→Sf→Prop) (T1:Sf→Prop)
theorem hm_nil:cR P F L0 ρ [] KH ks sf = KH ks:=rfl
theorem hm_hole (g:GI) (r:List (Bool×GI)):cR P F L0 ρ ((true,g)::r) KH ks sf = cR P F L0 ρ r KH (ks++[.hole]) (sf.put g.i.dst .any):=by simp only [cR]
theorem hm_none (i:AI) (r:List (Bool×GI)):cR P F L0 ρ ((false,⟨none,i⟩)::r) KH ks sf = oneM P F L0 ρ i (ip (cR P F L0 ρ r KH) ks) sf:=rfl
theorem hm_val (v:AV) (r:List (Bool×GI)):valM (ip (cR P F L0 ρ r KH) ks) d sf v = cR P F L0 ρ r KH (ks++[.val v]) (sf.put d v):=rfl
variable (drop:List Nat) (ks1:List PK)
theorem atM_eq (f:Opd) (args:List Opd):atM P F L0 ρ st d f args post drop T ks1 sf = lU P F L0 ρ st d (sf.ev F f) (args.map (sf.ev F)) post drop T ks1 sf:=rfl
theorem postM_eq (ksh:List PK):postM post drop ks1 ksh T1 ks sf = (fc post ksh ks∧finK drop T1 (ks1++ks) sf):=rfl
theorem finK_eq:finK drop T1 ks sf = (ksB drop ks = true∧T1 (bL ks ks (cz ks sf))):=rfl
theorem holeK_eq (A:List PK→Prop):holeK drop ks1 A ks = (ksB drop (ks1++ks) = true∧A ks):=rfl
theorem nQ:fc [] [] [] = True:=rfl
theorem compM_t (g:GI) (r:List (Bool×GI)) (a:PK) (v:AV) (h k:List PK):fc ((true,g)::r) (a::h) (.val v::k) = fc r h k:=rfl
theorem compM_f (g:GI) (r:List (Bool×GI)) (a b:PK) (h k:List PK):fc ((false,g)::r) (a::h) (b::k) = (b = a∧fc r h k):=rfl
theorem tailM_eq (m:Bool) (lv ll:List Nat) (tl:List GI) (Q:Exit→Sf→St→Prop):nB P F m lv ll tl Q st sf = runI P F m tl (opsK lv ll Q) sf st:=rfl
end
section
variable {P:Program} {F:Nat→FuncId} {L0:List (Nat×List AV)} {ρ st:St}
theorem draw_m {pre:List GI} {d:Option Nat} {f:Opd} {args:List Opd} {post:List (Bool×GI)} {sf:Sf} {T:St→Sf→Prop} (ρ:St) (hs:St.sub ρ st) (h:preM P F sf.locs ρ pre (atM P F sf.locs ρ st d f args post (lT pre post) T) [] ⟨sf.regs,bF (lT pre post) sf.locs⟩):drawM P F pre d f args post sf st T:=⟨ρ,hs,h⟩
theorem call_m {q:FuncId} {fs cs args vs:List AV} {d:Option Nat} {post:List (Bool×GI)} {drop:List Nat} {T:St→Sf→Prop} {ks1:List PK} {sf:Sf} {Qc:AV→St→Prop} (hvs:fs++args.map AV.dis++cs = vs) (hent:bO P q = true) (hA:am P q vs st Qc) (hn:args.all AV.noL = true)
    (hK:cR P F L0 ρ post (holeK drop ks1 (afterM P F L0 ρ post Qc d sf drop T ks1)) [] (sf.put d .any)):lU P F L0 ρ st d (.fn (.func q) fs cs) args post drop T ks1 sf:=by
  subst hvs
  exact ⟨hn,hent,Qc,hA,hK⟩
end
section
variable (P:Program) (F:Nat→FuncId) (L0:List (Nat×List AV)) (st s:St) (d:Option Nat) (f:Opd) (args:List Opd) (pre post:List GI) (T:St→Sf→Prop) (ks:List PK) (sf:Sf) (v:AV)
end
section
variable (P:Program) (F:Nat→FuncId) (L0:List (Nat×List AV)) (ρ:St) (C:PK→Sf→Prop) (sf:Sf) (d:Option Nat) (H:List PK→Sf→Prop) (KX:Nat→List PK→Sf→Prop) (ks:List PK) (SS:Nat→St→Prop) (j:Nat)
end
end Go.Fx
/- Numbers of bytes: shifts and the like. -/
namespace Go.Fx
open Go
theorem n_shr8 {k':IntKind} {n:Int}:binI .num .shr (.lit (.int .i64 n)) (.lit (.int k' 8)) = .req true (.ok (.lit (.int .i64 (n / 256)))):=by
  show ((jC .shr .i64 n 8).bind fun v=>Res.ok (AV.lit v)) = _
  have:n.fdiv (2 ^ 8) = n / 256:=Int.fdiv_eq_ediv_of_nonneg n (by decide)
  rw [← this]; rfl
theorem n_shl8 {k':IntKind} {n:Int}:binI .num .shl (.lit (.int .i64 n)) (.lit (.int k' 8)) = .req true (.ok (.lit (.int .i64 (IntKind.i64.wrap (n * 256))))):=rfl
theorem or_nat (a b:Nat) (ha:a < 65536) (hb:b < 256):(BitVec.ofInt 64 ((a:Int) * 256) ||| BitVec.ofInt 64 (b:Int)).toNat = a * 256 + b:=by
  have e:(a:Int) * 256 = ((a * 256:Nat):Int):=by omega
  rw [e,BitVec.toNat_or,BitVec.ofInt_natCast,BitVec.ofInt_natCast,BitVec.toNat_ofNat,BitVec.toNat_ofNat,Nat.mod_eq_of_lt (by omega),Nat.mod_eq_of_lt (by omega)]
  have h:=Nat.shiftLeft_add_eq_or_of_lt (i:=8) hb a
  rw [Nat.shiftLeft_eq] at h
  exact h.symm
theorem n_or8 (x y:UInt8):binI .num .or (.lit (.int .i64 ((x.toNat:Int) * 256))) (.lit (.int .i64 (y.toNat:Int))) = .ok (.lit (.int .i64 ((256 * x.toNat + y.toNat:Nat):Int))):=by
  have h:=or_nat x.toNat y.toNat (by have:=x.toNat_lt; omega) y.toNat_lt
  have e:IntKind.i64.wrap ((BitVec.ofInt 64 ((x.toNat:Int) * 256) ||| BitVec.ofInt 64 (y.toNat:Int)).toNat:Int) = ((256 * x.toNat + y.toNat:Nat):Int):=by
    rw [h,IntWalk.i64_in _ (by have:=x.toNat_lt; have:=y.toNat_lt; omega)]
    omega
  rw [← e]; rfl
theorem w_u8 (n:Nat):AV.lit (.int .u8 (IntKind.u8.wrap n)) = .lit (.int .u8 (UInt8.ofNat n).toNat):=byte_of n
theorem w_u8' {n:Nat} (h:n < 256):AV.lit (.int .u8 (n:Int)) = .lit (.int .u8 (UInt8.ofNat n).toNat):=by
  congr 2; simp [UInt8.toNat_ofNat']; omega
theorem len_sl (st:St) (o:Bool) (k:Nat) (es:List AV):lenI .sl st (.sl o k es) = .ok (.lit (.int .i64 es.length)):=rfl
def twoB (n:Nat):List UInt8:=[UInt8.ofNat (n / 256),UInt8.ofNat n]
theorem jy (n:Nat):(twoB n).length = 2:=rfl
theorem ff {P:Program} {F:Nat→FuncId} {m:Bool} {b:AC} {lv ll:List Nat} {Q:Exit→Sf→St→Prop} {A:Type} (μ:A→Nat) (S:A→Sf) (T:A→St) (I:A→Prop) (a0:A) {sf:Sf} {st:St} (h0:I a0) (hs:Sf.le (sf.mask lv ll) (S a0)) (ht:st = T a0)
    (step:∀ a,I a→∀ K:Exit→Sf→St→Prop,(∀ a' sf',I a'→μ a' < μ a→Sf.le (sf'.mask lv ll) (S a')→K .normal sf' (T a'))→(∀ id sf st,Q (.exit id) sf st→K (.exit id) sf st)→(∀ sf st,Q .ret sf st→K .ret sf st)→aC P F m b (S a) (T a) K):aY (aC P F m b) lv ll sf st Q :=
  loop_for μ S T I a0 h0 hs ht fun a ha=>step a ha _ (fun a' _ h1 h2 h3=>⟨a',⟨h1,h2⟩,h3,rfl⟩) (fun _ _ _ h=>h) (fun _ _ h=>h)
theorem ar {P:Program} {X:Cx} {f:FuncId} {fn:AFun} {vs:List AV} {st:St} (hmix:P.follows .mixedOrders = true) (hf:gD P X f = some fn) (hX:X.F = id) (hlen:Nat.ble vs.length fn.n = true) {K:AV→St→Prop} (h:∀ Q:AV→St→Prop,(∀ v st',K v st'→Q v st')→aFun P id false fn vs st Q):am P f vs st K :=
  acalls_id hmix hf hX hlen (h K fun _ _ h=>h)
theorem pure_lev {P:Program} {X:Cx} {f:FuncId} {fn:AFun} {vs:List AV} {x:AV} (hmix:P.follows .mixedOrders = true) (hf:gD P X f = some fn) (hX:X.F = id) (hlen:Nat.ble vs.length fn.n = true) (hx:x.NB) (hvs:∀ v ∈ vs,v.NB)
    (h:∀ Q:AV→St→Prop,(∀ v st',v.le x→Q v st')→aFun P id false fn vs ⟨[]⟩ Q) (st:St):ao P f vs st x :=
  pure_eq (ar hmix hf hX hlen fun Q hQ=>h Q fun v st' hv=>hQ v st' hv) hx hvs st
end Go.Fx
/- Slices of plain cells that are written to and appended to. -/
namespace Go.Fx
open Go
def MB (v:AV) (st:St) (l:List AV):Prop:=(v = .lit (.slice none 0 0)∧l = [])∨∃ id cap r,v = .bs id 1 0 l.length cap∧st.get id = some (l++r)∧l.length≤cap∧cap≤(l++r).length
def Kept (st st':St) (v:AV):Prop:=st.boxes.length≤st'.boxes.length∧∀ id cs,st.get id = some cs→(∀ k o l c,v≠.bs id k o l c)→st'.get id = some cs
theorem Kept.refl (st:St) (v:AV):Kept st st v:=⟨Nat.le_refl _,fun _ _ h _=>h⟩
theorem MB.facts {v:AV} {st:St} {l:List AV} (h:MB v st l):v.dis = v∧v.own1 = v∧v.own2 = v∧v.solid1 = true∧v.noL = true∧v.cells = [v]∧(∀ s,kill s v = v)∧∀ st',lenI .sl st' v = .ok (.lit (.int .i64 l.length)):=by
  rcases h with ⟨rfl,rfl⟩ | ⟨id,cap,r,rfl,_⟩
  · exact ⟨rfl,rfl,rfl,rfl,rfl,rfl,fun _=>rfl,fun _=>rfl⟩
  · exact ⟨rfl,rfl,rfl,rfl,rfl,rfl,fun _=>rfl,fun _=>rfl⟩
def NBs (st:St):Prop:=∀ id cs,st.get id = some cs→∀ c ∈ cs,c.NB
theorem NBs.nil:NBs ⟨[]⟩:=fun id cs h=>by simp [St.get] at h
theorem NBs.push {st:St} {cs:List AV} (h:NBs st) (hc:∀ c ∈ cs,c.NB):NBs (st.push (.cells cs)):=by
  intro id ds hg
  by_cases e:id < st.boxes.length
  · rw [cf e] at hg
    exact h id ds hg
  · by_cases e2:id = st.boxes.length
    · subst e2
      rw [bI] at hg
      cases hg
      exact hc
    · have:=bE hg
      rw [aD] at this
      omega
theorem NBs.set {st:St} {id:Nat} {cs:List AV} (h:NBs st) (hid:id < st.boxes.length) (hc:∀ c ∈ cs,c.NB):NBs (st.set id cs):=by
  intro id' ds hg
  by_cases e:id = id'
  · subst e
    rw [aw hid] at hg
    cases hg
    exact hc
  · rw [c6 e] at hg
    exact h id' ds hg
theorem MB.app {v:AV} {st:St} {l new:List AV} {bytes:Nat} {C:AV→St→Prop} (h:MB v st l) (hl:Lits l) (hn:Lits new) (hr:ij (l.length + new.length) bytes = true)
    (hC:∀ v' st',MB v' st' (l++new)→Kept st st' v→(NBs st→NBs st')→C v' st'):appX false 1 bytes v C st new:=by
  rcases h with ⟨rfl,rfl⟩ | ⟨id,cap,r,rfl,hg,h1,h2⟩
  · refine ⟨rfl,by simpa using hr,?_⟩
    split
    · rename_i h
      have:new = []:=by simpa using h
      subst this
      exact hC _ _ (.inl ⟨rfl,rfl⟩) (Kept.refl _ _) id
    · intro c hc
      refine hC _ _ (.inr ⟨st.boxes.length,c,List.replicate (c - new.length) .any,by simp,?_,by simpa using hc,by simp; omega⟩) ⟨by simp [St.push],fun id cs hg _=>by rw [cf (bE hg)]; exact hg⟩ (fun h=>h.push fun x hx=>?_)
      · rw [hn.cellsD]
        simp only [List.nil_append,Nat.mul_one]
        exact bI st _
      · rw [hn.cellsD] at hx
        simp only [List.nil_append,Nat.mul_one,List.mem_append] at hx
        rcases hx with hx | hx
        · exact hn.nb x hx
        · rw [List.eq_of_mem_replicate hx]; exact .any
  · refine ⟨rfl,rfl,hr,?_⟩
    rw [hg]
    show (Res.ok _).wp _
    rw [wp_ok,hn.cellsD]
    have hid:=bE hg
    split
    · rename_i hc
      refine ⟨by omega,hC _ _ (.inr ⟨id,cap,r.drop new.length,by simp,?_,by simpa using hc,?_⟩) ⟨by simp [St.set],fun id' cs hg' hne=>?_⟩ (fun h=>h.set hid ?_)⟩
      · rw [aw hid,Nat.zero_add,Nat.mul_one,ju rfl (by simp at h2; omega)]
        simp
      · simp at h2 ⊢; omega
      · rw [c6 (fun e=>hne _ _ _ _ (by rw [e])),hg']
      · rw [Nat.zero_add,Nat.mul_one,ju rfl (by simp at h2; omega)]
        have h3:=h id _ hg
        intro x hx
        simp only [List.mem_append] at hx
        rcases hx with hx | hx | hx
        · exact hl.nb x hx
        · exact hn.nb x hx
        · exact h3 x (List.mem_append_right _ (List.mem_of_mem_drop hx))
    · rename_i hc
      have e:List.map AV.own1 (List.take (l.length * 1) (List.drop 0 (l++r))) = l:=by simp [hl.own]
      refine ⟨by simp,fun c hc=>hC _ _ (.inr ⟨st.boxes.length,c,List.replicate (c - (l.length + new.length)) .any,by simp,?_,by simpa using hc,by simp; omega⟩) ⟨by simp [St.push],fun id' cs hg' _=>by rw [cf (bE hg')]; exact hg'⟩ (fun h=>h.push fun x hx=>?_)⟩
      · rw [e]
        simp only [Nat.mul_one]
        exact bI st _
      · rw [e] at hx
        simp only [List.mem_append] at hx
        rcases hx with (hx | hx) | hx
        · exact hl.nb x hx
        · exact hn.nb x hx
        · rw [List.eq_of_mem_replicate hx]; exact .any
end Go.Fx
/- Functions that keep nothing may be handed what lies in boxes. -/
namespace Go.Fx
open Go
def litB1:AV→Bool
  | .lit _=>true
  | _=>false
end Go.Fx
/- Maps with plain keys, as lists; boxes that others are left alone by. -/
namespace Go.Fx
open Go
section
variable {β:Type}
def fg (t:Int):List (Int×β)→Nat→Option (Nat×β)
  | [],_=>none
  | (k,b)::r,i=>if t = k then some (i,b) else fg t r (i + 1)
def aZ (t:Int):List (Int×β)→Option β
  | []=>none
  | (k,b)::r=>if t = k then some b else aZ t r
def updP (t:Int) (b:β):List (Int×β)→List (Int×β)
  | []=>[(t,b)]
  | (k,c)::r=>if t = k then (t,b)::r else (k,c)::updP t b r
def delP (t:Int):List (Int×β)→List (Int×β)
  | []=>[]
  | (k,c)::r=>if t = k then r else (k,c)::delP t r
def bV (m:List (Int×β)):List Int:=m.map Prod.fst
theorem eP (t:Int):∀ (m:List (Int×β)) (i:Nat),(fg t m i).map Prod.snd = aZ t m
  | [],_=>rfl
  | (k, b) :: r, i => by
    simp only [fg,aZ]; split; · rfl
    · exact eP t r (i + 1)
theorem kg {γ:Type} (e:Int×β→γ) (t:Int) (b:β):∀ (m:List (Int×β)) (i:Nat),match fg t m i with
    | some (j,_)=>i≤j∧(m.map e).set (j - i) (e (t,b)) = (updP t b m).map e∧(m.map e).eraseIdx (j - i) = (delP t m).map e∧j - i < m.length
    | none=>m.map e++[e (t,b)] = (updP t b m).map e∧delP t m = m
  | [],_=>by simp [fg,updP,delP]
  | (k, c) :: r, i => by
    simp only [fg]
    by_cases h:t = k
    · subst h
      simp [updP,delP]
    · rw [if_neg h]
      have ih:=kg e t b r (i + 1)
      cases hf:fg t r (i + 1) with
      | none=>rw [hf] at ih; simp only at ih; simp [updP,delP,h,ih.1,ih.2]
      | some p =>
        obtain ⟨j,c'⟩:=p
        rw [hf] at ih
        simp only at ih ⊢
        obtain ⟨h1,h2,h3,h4⟩:=ih
        obtain ⟨q,rfl⟩:∃ q,j = i + 1 + q:=⟨j - (i + 1),by omega⟩
        rw [show i + 1 + q - (i + 1) = q by omega] at h2 h3 h4
        rw [show i + 1 + q - i = q + 1 by omega]
        refine ⟨by omega,?_,?_,by simp; omega⟩
        · simp [updP,h,h2]
        · simp [delP,h,h3]
theorem dl (t t':Int) (b:β):∀ m:List (Int×β),aZ t' (updP t b m) = if t' = t then some b else aZ t' m
  | []=>by simp only [updP,aZ]
  | (k, c) :: r => by
    simp only [updP]
    by_cases h:t = k
    · subst h
      rw [if_pos rfl]
      simp only [aZ]
      split <;> rfl
    · rw [if_neg h]
      simp only [aZ]
      rw [dl t t' b r]
      by_cases h1:t' = k
      · subst h1
        have:¬ t' = t:=fun e=>h e.symm
        simp [this]
      · simp [h1]
theorem nR {t:Int}:∀ {m:List (Int×β)},t ∉ bV m→aZ t m = none
  | [],_=>rfl
  | (k, c) :: r, h => by
    simp only [bV,List.map_cons,List.mem_cons,not_or] at h
    simp only [aZ]
    rw [if_neg h.1]
    exact nR h.2
theorem mz (t t':Int):∀ {m:List (Int×β)},(bV m).Nodup→aZ t' (delP t m) = if t' = t then none else aZ t' m
  | [],_=>by simp [delP,aZ]
  | (k, c) :: r, hn => by
    simp only [bV,List.map_cons,List.nodup_cons] at hn
    simp only [delP]
    by_cases h:t = k
    · subst h
      rw [if_pos rfl]
      simp only [aZ]
      by_cases h1:t' = t
      · subst h1; rw [if_pos rfl]; exact nR hn.1
      · rw [if_neg h1,if_neg h1]
    · rw [if_neg h]
      simp only [aZ]
      by_cases h1:t' = k
      · subst h1
        have:¬ t' = t:=fun e=>h e.symm
        simp [this]
      · rw [if_neg h1,if_neg h1]; exact mz t t' hn.2
theorem em (t:Int) (b:β):∀ m:List (Int×β),(updP t b m).length = if (aZ t m).isSome then m.length else m.length + 1
  | []=>by simp [updP,aZ]
  | (k, c) :: r => by
    simp only [updP,aZ]
    by_cases h:t = k
    · simp [h]
    · simp only [if_neg h,List.length_cons,em t b r]
      split <;> rfl
theorem oU (t:Int):∀ m:List (Int×β),(delP t m).length = if (aZ t m).isSome then m.length - 1 else m.length
  | []=>by simp [delP,aZ]
  | (k, c) :: r => by
    simp only [delP,aZ]
    by_cases h:t = k
    · simp [h]
    · simp only [if_neg h,List.length_cons,oU t r]
      split
      · rename_i q
        have:r≠[]:=by rintro rfl; simp [aZ] at q
        have:=List.length_pos_iff.2 this
        omega
      · rfl
theorem keys_upd (t:Int) (b:β):∀ m:List (Int×β),bV (updP t b m) = if (aZ t m).isSome then bV m else bV m++[t]
  | []=>by simp [updP,aZ,bV]
  | (k, c) :: r => by
    simp only [updP,aZ]
    by_cases h:t = k
    · simp [h,bV]
    · have:=keys_upd t b r
      simp only [bV] at this
      simp only [if_neg h,bV,List.map_cons,this]
      split <;> rfl
theorem jz (t x:Int):∀ {m:List (Int×β)},x ∈ bV (delP t m)→x ∈ bV m
  | [],h=>h
  | (k, c) :: r, h => by
    simp only [delP] at h
    simp only [bV,List.map_cons,List.mem_cons]
    split at h
    · exact .inr h
    · simp only [bV,List.map_cons,List.mem_cons] at h
      rcases h with h | h
      · exact .inl h
      · exact .inr (jz t x h)
theorem kh {t:Int} {b:β} {m:List (Int×β)} (h:(bV m).Nodup):(bV (updP t b m)).Nodup:=by
  rw [keys_upd]
  split
  · exact h
  · rename_i hs
    refine List.nodup_append.2 ⟨h,by simp,?_⟩
    intro x hx y hy
    simp only [List.mem_singleton] at hy
    subst hy
    rintro rfl
    have:∀ m:List (Int×β),x ∈ bV m→(aZ x m).isSome = true:=by
      intro m
      induction m with
      | nil=>intro h; simp [bV] at h
      | cons p r ih =>
        obtain ⟨k,c⟩:=p
        intro h
        simp only [bV,List.map_cons,List.mem_cons] at h
        simp only [aZ]
        split
        · rfl
        · rename_i hne
          rcases h with h | h
          · exact absurd h hne
          · exact ih h
    exact hs (this m hx)
theorem ki {t:Int}:∀ {m:List (Int×β)},(bV m).Nodup→(bV (delP t m)).Nodup
  | [],h=>h
  | (k, c) :: r, h => by
    simp only [bV,List.map_cons,List.nodup_cons] at h
    simp only [delP]
    split
    · exact h.2
    · simp only [bV,List.map_cons,List.nodup_cons]
      exact ⟨fun e=>h.1 (jz t k e),ki h.2⟩
def encE (k:IntKind) (ev:β→AV) (p:Int×β):AV×AV:=(.lit (.int k p.1),ev p.2)
def encM (k:IntKind) (ev:β→AV) (m:List (Int×β)):List (AV×AV):=m.map (encE k ev)
theorem g9 (k:IntKind) (ev:β→AV) (t:Int):∀ (m:List (Int×β)) (i:Nat),cr (.lit (.int k t)) (encM k ev m) i = .ok ((fg t m i).map fun p=>(p.1,ev p.2))
  | [],_=>rfl
  | (q, b) :: r, i => by
    have ih:=g9 k ev t r (i + 1)
    simp only [encM,List.map_cons,encE,cr,cq,if_true,fg] at ih ⊢
    by_cases h:t = q
    · subst h; simp
    · have:(t == q) = false:=by simpa using h
      simp only [this,if_neg h,Bool.false_eq_true,if_false]
      exact ih
end
section
variable {st st':St} {id q:Nat}
theorem getM_lt {es:List (AV×AV)} (h:st.getM id = some es):id < st.boxes.length:=by
  unfold St.getM at h
  split at h
  · rename_i hb
    exact (List.getElem?_eq_some_iff.1 hb).1
  · cases h
theorem cy (h:st'.boxes[id]? = st.boxes[id]?):st'.get id = st.get id:=by unfold St.get; rw [h]
theorem getM_at (h:st'.boxes[id]? = st.boxes[id]?):st'.getM id = st.getM id:=by unfold St.getM; rw [h]
theorem getB_at (h:st'.boxes[id]? = st.boxes[id]?):st'.getB id = st.getB id:=by unfold St.getB; rw [h]
theorem b8 {cs:List AV} (h:id≠q):(st.set q cs).boxes[id]? = st.boxes[id]?:=by simp [St.set,List.getElem?_set_ne (fun e=>h e.symm)]
theorem oV {es:List (AV×AV)} {bs:List Nat} {c:Nat} (h:id≠q):(st.setM q es bs c).boxes[id]? = st.boxes[id]?:=by simp [St.setM,List.getElem?_set_ne (fun e=>h e.symm)]
theorem cp {b:Box} (h:id < st.boxes.length):(st.push b).boxes[id]? = st.boxes[id]?:=by simp [St.push,List.getElem?_append_left h]
theorem kj {es:List (AV×AV)} {bs:List Nat} {c:Nat} (h:id < st.boxes.length):(st.setM id es bs c).getM id = some es:=by simp [St.setM,St.getM,h]
theorem dc {es:List (AV×AV)} {bs:List Nat} {c:Nat} (h:id < st.boxes.length):(st.setM id es bs c).getB id = (bs,c):=by simp [St.setM,St.getB,h]
theorem get_mt {es:List (AV×AV)} (h:st.getM id = some es):st.get id = none:=by
  unfold St.getM at h; unfold St.get
  split at h
  · rename_i hb; simp [hb]
  · cases h
end
def Oth (st st':St) (S:List Nat):Prop:=st'.boxes.length = st.boxes.length∧∀ id,id ∉ S→st'.boxes[id]? = st.boxes[id]?
theorem Oth.refl (st:St) (S:List Nat):Oth st st S:=⟨rfl,fun _ _=>rfl⟩
theorem Oth.trans {a b c:St} {S:List Nat} (h:Oth a b S) (k:Oth b c S):Oth a c S:=⟨k.1.trans h.1,fun id hid=>(k.2 id hid).trans (h.2 id hid)⟩
theorem Oth.mono {a b:St} {S S':List Nat} (h:Oth a b S) (hs:∀ x ∈ S,x ∈ S'):Oth a b S':=⟨h.1,fun id hid=>h.2 id fun e=>hid (hs id e)⟩
theorem Oth.set (st:St) (q:Nat) (cs:List AV) {S:List Nat} (h:q ∈ S):Oth st (st.set q cs) S:=⟨fd ..,fun id hid=>b8 fun e=>hid (e ▸ h)⟩
theorem Oth.get {a b:St} {S:List Nat} (h:Oth a b S) {id:Nat} (hid:id ∉ S):b.get id = a.get id:=cy (h.2 id hid)
section
variable {β:Type}
structure MapIs (st:St) (id:Nat) (k:IntKind) (ev:β→AV) (m:List (Int×β)):Prop where
  get:st.getM id = some (encM k ev m)
  nd:(bV m).Nodup
  bl:(st.getB id).1.length = m.length
  bn:(st.getB id).1.Nodup
  bc:∀ b ∈ (st.getB id).1,b < (st.getB id).2
variable {st st':St} {id:Nat} {k:IntKind} {ev:β→AV} {m:List (Int×β)}
theorem MapIs.lt (h:MapIs st id k ev m):id < st.boxes.length:=getM_lt h.get
theorem MapIs.at (h:MapIs st id k ev m) (hb:st'.boxes[id]? = st.boxes[id]?):MapIs st' id k ev m:=by
  refine ⟨(getM_at hb).trans h.get,h.nd,?_,?_,?_⟩ <;> rw [getB_at hb]
  · exact h.bl
  · exact h.bn
  · exact h.bc
theorem MapIs.set (h:MapIs st id k ev m) {q:Nat} {cs:List AV} (hq:id≠q):MapIs (st.set q cs) id k ev m:=h.at (b8 hq)
theorem MapIs.push (h:MapIs st id k ev m) (b:Box):MapIs (st.push b) id k ev m:=h.at (cp h.lt)
theorem MapIs.ne (h:MapIs st id k ev m) {q:Nat} {cs:List AV} (hq:st.get q = some cs):id≠q:=by
  rintro rfl
  rw [get_mt h.get] at hq; cases hq
theorem cN (h:MapIs st id k ev m) {z:AV} {ok:Bool} {t:Int}:cc (.int k) z ok st (.map id) (.lit (.int k t)) = .ok (match aZ t m with
    | some b=>if ok then .tup [(ev b).dis,.lit (.bool true)] else (ev b).dis
    | none=>if ok then .tup [z,.lit (.bool false)] else z):=by
  have hk:keyI (.int k) (.lit (.int k t)) = true:=by simp [keyI]
  unfold cc
  rw [if_pos hk]
  simp only [h.get,Res.ofOpt,Res.bind,g9]
  rw [← eP t m 0]
  cases fg t m 0 <;> rfl
theorem eQ (h:MapIs st id k ev m) {t:Int} {b:β} {x:AV} (hx:x.solid = true) (hd:x.dis = ev b) {K:Sf→St→Prop} {sf:Sf}
    (hK:∀ st',MapIs st' id k ev (updP t b m)→Oth st st' [id]→K sf st'):updX false (.int k) (.map id) (.lit (.int k t)) x K sf st:=by
  refine ⟨by simp [keyI],rfl,hx,?_⟩
  have hlt:=h.lt
  simp only [h.get,Res.ofOpt,Res.wp,g9,hd]
  have hu:=kg (encE k ev) t b m 0
  cases hf:fg t m 0 with
  | none =>
    rw [hf] at hu
    simp only [Option.map_none,St.updM,updA]
    have hno:aZ t m = none:=by rw [← eP t m 0,hf]; rfl
    refine hK _ ⟨?_,kh h.nd,?_,?_,?_⟩ ⟨by simp [St.setM],fun q hq=>oV (by simpa using hq)⟩
    · rw [kj hlt]; exact congrArg some hu.1
    · rw [dc hlt,em,hno]; simp [h.bl]
    · rw [dc hlt]
      refine List.nodup_append.2 ⟨h.bn,by simp,fun x hx y hy e=>?_⟩
      simp only [List.mem_singleton] at hy
      subst hy; subst e
      exact Nat.lt_irrefl _ (h.bc _ hx)
    · rw [dc hlt]
      intro b hb
      simp only [List.mem_append,List.mem_singleton] at hb
      rcases hb with hb | rfl
      · have:=h.bc b hb; simp only; omega
      · simp
  | some p =>
    obtain ⟨j,c⟩:=p
    rw [hf] at hu
    simp only [Nat.sub_zero] at hu
    simp only [Option.map_some,St.updM,updA]
    have hyes:(aZ t m).isSome = true:=by rw [← eP t m 0,hf]; rfl
    refine hK _ ⟨?_,kh h.nd,?_,?_,?_⟩ ⟨by simp [St.setM],fun q hq=>oV (by simpa using hq)⟩
    · rw [kj hlt]; exact congrArg some hu.2.1
    · rw [dc hlt,em,if_pos hyes]; exact h.bl
    · rw [dc hlt]; exact h.bn
    · rw [dc hlt]; exact h.bc
theorem del_step (h:MapIs st id k ev m) {t:Int} {K:Sf→St→Prop} {sf:Sf}
    (hK:∀ st',MapIs st' id k ev (delP t m)→Oth st st' [id]→K sf st'):delX false (.int k) (.map id) (.lit (.int k t)) K sf st:=by
  refine ⟨by simp [keyI],rfl,?_⟩
  have hlt:=h.lt
  simp only [h.get,Res.ofOpt,Res.wp,g9]
  cases hf:fg t m 0 with
  | none =>
    have hu:delP t m = m:=by
      have:∀ (m:List (Int×β)) (i:Nat),fg t m i = none→delP t m = m:=by
        intro m
        induction m with
        | nil=>intro i _; rfl
        | cons p r ih =>
          obtain ⟨k,c⟩:=p
          intro i h
          simp only [fg] at h
          simp only [delP]
          split at h
          · cases h
          · rename_i hne; rw [if_neg hne,ih (i + 1) h]
      exact this m 0 hf
    simp only [Option.map_none]
    exact hK _ (by rw [hu]; exact h) (Oth.refl _ _)
  | some p =>
    obtain ⟨j,c⟩:=p
    have hu:=kg (encE k ev) t c m 0
    rw [hf] at hu
    simp only [Nat.sub_zero] at hu
    simp only [Option.map_some,St.delM]
    have hyes:(aZ t m).isSome = true:=by rw [← eP t m 0,hf]; rfl
    refine hK _ ⟨?_,ki h.nd,?_,?_,?_⟩ ⟨by simp [St.setM],fun q hq=>oV (by simpa using hq)⟩
    · rw [kj hlt]; exact congrArg some hu.2.2.1
    · rw [dc hlt,oU,if_pos hyes]
      simp only [List.length_eraseIdx,h.bl,if_pos hu.2.2.2]
    · rw [dc hlt]; exact h.bn.sublist (List.eraseIdx_sublist ..)
    · rw [dc hlt]; exact fun b hb=>h.bc b (List.mem_of_mem_eraseIdx hb)
theorem mA (h:MapIs st id k ev m):lenI .mp st (.map id) = .ok (.lit (.int .i64 m.length)):=by
  simp only [lenI,h.get,Res.ofOpt,Res.bind,encM,List.length_map]
theorem MapIs.new (st:St) (k:IntKind) (ev:β→AV):MapIs (st.push (.mp [] [] 0)) st.boxes.length k ev []:=by
  refine ⟨getM_push ..,by simp [bV],?_,?_,?_⟩ <;> rw [getB_push] <;> simp
end
theorem al {P:Program} {X:Cx} {f:FuncId} {fn:AFun} {vs:List AV} {st:St} (hmix:P.follows .mixedOrders = true) (hf:gD P X f = some fn) (hX:X.F = id) (hlen:Nat.ble vs.length fn.n = true) {v0:AV} (h:∀ Q:AV→St→Prop,(∀ st',Q v0 st')→aFun P id true fn vs st Q):ao P f vs st v0:=by
  refine pcalls_of hmix hf (Nat.le_of_ble_eq_true hlen) ?_
  rw [hX]; exact h _ fun _=>rfl
end Go.Fx
/- Linked nodes in a map: a queue (plain lists; no program in sight). -/
namespace Go.Fx
open Go
abbrev Nd:=Int×Nat×Nat
abbrev Qu:=List (Nat×Int)
def au:Qu→Nat→Nat
  | [],h=>h
  | (x,_)::_,_=>x
def aq:Nat→Qu→Nat
  | p,[]=>p
  | _,(t,_)::r=>aq t r
def aQ:Nat→Qu→Nat→Nat→Option Nd
  | _,[],_,_=>none
  | p,(u,v)::r,h,t=>if t = u then some (v,p,au r h) else aQ u r h t
def aB (L:Qu):List Nat:=L.map Prod.fst
theorem fI (B:Qu) (h t:Nat):∀ (A:Qu) (p:Nat),aQ p (A++B) h t = match aQ p A (au B h) t with | some x=>some x | none=>aQ (aq p A) B h t
  | [],p=>rfl
  | (u, v) :: A, p => by
    simp only [List.cons_append,aQ,aq]
    split
    · cases A <;> rfl
    · exact fI B h t A u
theorem cE {h t:Nat}:∀ {L:Qu} {p:Nat},t ∉ aB L→aQ p L h t = none
  | [],_,_=>rfl
  | (u, v) :: r, p, hn => by
    simp only [aB,List.map_cons,List.mem_cons,not_or] at hn
    simp only [aQ]
    rw [if_neg hn.1]
    exact cE hn.2
theorem d7:∀ {L:Qu} {p:Nat},L≠[]→aq p L ∈ aB L
  | [(t,v)],p,_=>by simp [aq,aB]
  | (t, v) :: y :: r, p, _ => by
    have:=d7 (L:=y::r) (p:=t) (by simp)
    simp only [aq,aB,List.map_cons,List.mem_cons] at this ⊢
    exact .inr this
theorem fJ (B:Qu):∀ (A:Qu) (p:Nat),aq p (A++B) = aq (aq p A) B
  | [],_=>rfl
  | (t,v)::A,p=>fJ B A t
theorem last_ne {L:Qu} {p p':Nat} (h:L≠[]):aq p L = aq p' L:=by
  cases L with
  | nil=>exact absurd rfl h
  | cons x r=>rfl
theorem oW {h h' t:Nat}:∀ {L:Qu} {p:Nat},(aB L).Nodup→L≠[]→aQ p L h' t = if t = aq p L then (aQ p L h t).map (fun x=>(x.1,x.2.1,h')) else aQ p L h t
  | [(u, v)], p, _, _ => by
    simp only [aQ,aq,au]
    by_cases e:t = u
    · simp [e]
    · simp [e]
  | (u, v) :: (u2, v2) :: r, p, hn, _ => by
    have ih:=oW (h:=h) (h':=h') (t:=t) (L:=(u2,v2)::r) (p:=u) (List.nodup_cons.1 hn).2 (by simp)
    have hl:=d7 (L:=(u2,v2)::r) (p:=u) (by simp)
    have hne:u≠aq u ((u2,v2)::r):=fun e=>(List.nodup_cons.1 hn).1 (by rw [e]; exact hl)
    have e0:∀ q,aQ p ((u,v)::(u2,v2)::r) q t = if t = u then some (v,p,u2) else aQ u ((u2,v2)::r) q t:=fun q=>rfl
    rw [e0,e0,show aq p ((u,v)::(u2,v2)::r) = aq u ((u2,v2)::r) from rfl]
    by_cases e:t = u
    · subst e; rw [if_pos rfl,if_pos rfl,if_neg hne]
    · rw [if_neg e,if_neg e]; exact ih
theorem nodeA_p {h t p p':Nat} {u:Nat} {v:Int} {r:Qu} (hn:(aB ((u,v)::r)).Nodup):aQ p' ((u,v)::r) h t = if t = u then (aQ p ((u,v)::r) h t).map (fun x=>(x.1,p',x.2.2)) else aQ p ((u,v)::r) h t:=by
  simp only [aQ]
  by_cases e:t = u
  · simp [e]
  · simp [e]
theorem nodeA_push {L:Qu} {u:Nat} {v:Int} {t:Nat} (hn:(aB L).Nodup) (hu:u ∉ aB L) (hL:L≠[]) :
    aQ 0 (L++[(u,v)]) 0 t = if t = aq 0 L then (aQ 0 L 0 t).map (fun x=>(x.1,x.2.1,u)) else if t = u then some (v,aq 0 L,0) else aQ 0 L 0 t:=by
  rw [fI]
  simp only [au,aQ]
  have hl:=d7 (p:=0) hL
  rw [oW (h:=0) hn hL]
  by_cases e:t = aq 0 L
  · rw [if_pos e,if_pos e]
    cases hx:aQ 0 L 0 t with
    | some x=>rfl
    | none =>
      exfalso
      have:∀ (L:Qu) (p:Nat),t ∈ aB L→aQ p L 0 t≠none:=by
        intro L
        induction L with
        | nil=>intro p h; simp [aB] at h
        | cons y r ih =>
          obtain ⟨a,b⟩:=y
          intro p h
          simp only [aQ]
          split
          · simp
          · rename_i hne
            simp only [aB,List.map_cons,List.mem_cons] at h
            exact ih a (h.resolve_left hne)
      exact this L 0 (e ▸ hl) hx
  · rw [if_neg e,if_neg e]
    by_cases e2:t = u
    · subst e2; rw [cE hu]
      try simp
    · simp only [if_neg e2]
      cases aQ 0 L 0 t <;> rfl
theorem nodeA_del {A B:Qu} {u:Nat} {v:Int} {t:Nat} (hn:(aB (A++(u,v)::B)).Nodup) :
    aQ 0 (A++B) 0 t = if t = u then none else
      if A≠[]∧t = aq 0 A then (aQ 0 (A++(u,v)::B) 0 t).map (fun x=>(x.1,x.2.1,au B 0)) else
      if B≠[]∧t = au B 0 then (aQ 0 (A++(u,v)::B) 0 t).map (fun x=>(x.1,aq 0 A,x.2.2)) else aQ 0 (A++(u,v)::B) 0 t:=by
  have h1:(aB A).Nodup∧(aB ((u,v)::B)).Nodup∧∀ x ∈ aB A,∀ y ∈ aB ((u,v)::B),x≠y:=by
    simp only [aB,List.map_append] at hn
    exact List.nodup_append.1 hn
  obtain ⟨hA,hB0,hAB⟩:=h1
  have hB:=List.nodup_cons.1 hB0
  have hu:u ∉ aB A:=fun e=>hAB u e u (by simp [aB]) rfl
  rw [fI,fI,show au ((u,v)::B) 0 = u from rfl]
  by_cases e:t = u
  · subst e
    rw [if_pos rfl,cE hu]
    exact cE hB.1
  · rw [if_neg e]
    have e1:aQ (aq 0 A) ((u,v)::B) 0 t = aQ u B 0 t:=by simp only [aQ]; rw [if_neg e]
    rw [e1]
    by_cases hAe:A = []
    · subst hAe
      simp only [aQ,aq,ne_eq,not_true_eq_false,false_and,if_false]
      cases B with
      | nil=>simp [aQ]
      | cons y r =>
        obtain ⟨w,z⟩:=y
        rw [nodeA_p (p:=u) (p':=0) hB.2]
        simp [show au ((w,z)::r) 0 = w from rfl]
    · rw [oW (h:=u) (h':=au B 0) hA hAe]
      by_cases e2:t = aq 0 A
      · have hin:t ∈ aB A:=e2 ▸ d7 hAe
        rw [if_pos e2,if_pos ⟨hAe,e2⟩]
        cases hx:aQ 0 A u t with
        | some x=>rfl
        | none =>
          have hnb:t ∉ aB B:=fun hb=>hAB t hin t (by simp only [aB,List.map_cons,List.mem_cons]; exact .inr hb) rfl
          simp only [Option.map_none,cE hnb]
      · rw [if_neg e2,if_neg (fun q=>e2 q.2)]
        cases B with
        | nil=>simp [aQ]
        | cons y r =>
          obtain ⟨w,z⟩:=y
          rw [nodeA_p (p:=u) (p':=aq 0 A) hB.2]
          simp only [show au ((w,z)::r) 0 = w from rfl,ne_eq,reduceCtorEq,not_false_eq_true,true_and]
          by_cases e3:t = w
          · have hna:t ∉ aB A:=fun ha=>hAB t ha t (by simp [aB,e3]) rfl
            rw [if_pos e3,if_pos e3,cE hna]
          · rw [if_neg e3,if_neg e3]
theorem nodeA_at {A B:Qu} {u:Nat} {v:Int} (hu:u ∉ aB A):aQ 0 (A++(u,v)::B) 0 u = some (v,aq 0 A,au B 0):=by
  rw [fI,cE hu]
  simp [aQ]
def ndAV (x:Nd):AV:=.agg [.lit (.int .i64 x.1),.lit (.int .u64 (x.2.1:Nat)),.lit (.int .u64 (x.2.2:Nat))]
theorem ndAV_dis (x:Nd):(ndAV x).dis = ndAV x:=rfl
structure QIs (st:St) (q mid:Nat) (L:Qu) (g:Nat):Prop where
  get:st.get q = some [.lit (.int .u64 (au L 0:Nat)),.lit (.int .u64 (aq 0 L:Nat)),.lit (.int .u64 (g:Nat)),.map mid]
  mp:∃ m,MapIs st mid .u64 ndAV m∧(∀ t:Nat,aZ t m = aQ 0 L 0 t)∧m.length = L.length
  srt:(aB L).Pairwise (· < ·)
  pos:∀ t ∈ aB L,0 < t∧t≤g
theorem QIs.nd {st:St} {q mid g:Nat} {L:Qu} (h:QIs st q mid L g):(aB L).Nodup:=h.srt.imp fun h=>Nat.ne_of_lt h
theorem QIs.ne {st:St} {q mid g:Nat} {L:Qu} (h:QIs st q mid L g):mid≠q:=by
  obtain ⟨m,hm,_⟩:=h.mp
  exact hm.ne h.get
theorem QIs.ltq {st:St} {q mid g:Nat} {L:Qu} (h:QIs st q mid L g):q < st.boxes.length:=bE h.get
theorem QIs.ltm {st:St} {q mid g:Nat} {L:Qu} (h:QIs st q mid L g):mid < st.boxes.length:=by
  obtain ⟨m,hm,_⟩:=h.mp
  exact hm.lt
theorem QIs.at {st st':St} {q mid g:Nat} {L:Qu} (h:QIs st q mid L g) (h1:st'.boxes[q]? = st.boxes[q]?) (h2:st'.boxes[mid]? = st.boxes[mid]?):QIs st' q mid L g:=by
  obtain ⟨m,hm,h3,h4⟩:=h.mp
  exact ⟨(cy h1).trans h.get,⟨m,hm.at h2,h3,h4⟩,h.srt,h.pos⟩
theorem QIs.nil_iff {st:St} {q mid g:Nat} {L:Qu} (h:QIs st q mid L g):(au L 0 = 0↔L = [])∧(aq 0 L = 0↔L = []):=by
  cases L with
  | nil=>simp [au,aq]
  | cons x r =>
    obtain ⟨t,v⟩:=x
    have h1:=h.pos t (by simp [aB])
    have h2:=h.pos _ (d7 (L:=(t,v)::r) (p:=0) (by simp))
    simp only [au,reduceCtorEq,iff_false]
    omega
theorem eR {t:Nat}:∀ {L:Qu} {p:Nat},t ∈ aB L→∃ x,aQ p L 0 t = some x
  | (u, v) :: r, p, h => by
    simp only [aQ]
    split
    · exact ⟨_,rfl⟩
    · rename_i hne
      simp only [aB,List.map_cons,List.mem_cons] at h
      exact eR (h.resolve_left hne)
theorem cO (A B:Qu):aB (A++B) = aB A++aB B:=by simp [aB]
theorem QIs.push {st st':St} {q mid g:Nat} {L:Qu} {v:Int} (h:QIs st q mid L g) {m':List (Int×Nd)} (hg:st'.get q = some [.lit (.int .u64 (au (L++[(g + 1,v)]) 0:Nat)),.lit (.int .u64 ((g + 1:Nat))),.lit (.int .u64 ((g + 1:Nat))),.map mid])
    (hm:MapIs st' mid .u64 ndAV m') (hl:∀ t:Nat,aZ t m' = aQ 0 (L++[(g + 1,v)]) 0 t) (hn:m'.length = L.length + 1):QIs st' q mid (L++[(g + 1,v)]) (g + 1):=by
  refine ⟨by rw [fJ]; exact hg,⟨m',hm,hl,by simp [hn]⟩,?_,fun t ht=>?_⟩
  · rw [cO]
    refine List.pairwise_append.2 ⟨h.srt,by simp [aB],fun x hx y hy=>?_⟩
    simp only [aB,List.map_cons,List.map_nil,List.mem_singleton] at hy
    have:=(h.pos x hx).2
    omega
  · rw [cO] at ht
    rcases List.mem_append.1 ht with ht | ht
    · have:=h.pos t ht; omega
    · simp only [aB,List.map_cons,List.map_nil,List.mem_singleton] at ht
      omega
theorem QIs.fresh {st:St} {q mid g:Nat} {L:Qu} (h:QIs st q mid L g):g + 1 ∉ aB L:=fun e=>by have:=(h.pos _ e).2; omega
theorem QIs.del {st st':St} {q mid g:Nat} {A B:Qu} {t:Nat} {v:Int} (h:QIs st q mid (A++(t,v)::B) g) {m':List (Int×Nd)} (hg:st'.get q = some [.lit (.int .u64 (au (A++B) 0:Nat)),.lit (.int .u64 (aq 0 (A++B):Nat)),.lit (.int .u64 (g:Nat)),.map mid])
    (hm:MapIs st' mid .u64 ndAV m') (hl:∀ t:Nat,aZ t m' = aQ 0 (A++B) 0 t) (hn:m'.length = (A++B).length):QIs st' q mid (A++B) g:=by
  have hsub:(aB (A++B)).Sublist (aB (A++(t,v)::B)):=by
    simp only [cO]
    exact List.Sublist.append (List.Sublist.refl _) (List.sublist_cons_self _ _)
  exact ⟨hg,⟨m',hm,hl,hn⟩,h.srt.sublist hsub,fun x hx=>h.pos x (hsub.subset hx)⟩
end Go.Fx
/- A channel's state: plain lists, and where they lie. -/
namespace Go.Fx
open Go
abbrev W3:=Nat×Int×Int
structure ChP where
  closed:Bool
  cap:Nat
  buf:List Int
  S:List W3
  V:List W3
  g0:Nat
  g1:Nat
def qOf (l:List W3):Qu:=l.map fun x=>(x.1,x.2.1)
def wEnt (d:Int) (l:List W3):List (Int×(Int×Int×Nat)):=l.map fun x=>(x.2.1,(d,x.2.2,x.1))
def entC (S V:List W3):List (Int×(Int×Int×Nat)):=wEnt 0 S++wEnt 1 V
def wtAV (x:Int×Int×Nat):AV:=.agg [.lit (.int .i64 x.1),.lit (.int .i64 x.2.1),.lit (.int .u64 (x.2.2:Nat))]
def ints (l:List Int):List AV:=l.map fun v=>.lit (.int .i64 v)
def aO:AV→List Nat
  | .bs id _ _ _ _=>[id]
  | _=>[]
structure ChIs (st:St) (c:Nat) (P:ChP) (q0 m0 q1 m1 wid:Nat) (bv:AV):Prop where
  get:st.get c = some [.lit (.bool true),.lit (.bool P.closed),.lit (.int .i64 (P.cap:Nat)),bv,.ptr q0 0,.ptr q1 0,.map wid]
  buf:MB bv st (ints P.buf)
  s:QIs st q0 m0 (qOf P.S) P.g0
  r:QIs st q1 m1 (qOf P.V) P.g1
  w:∃ W,MapIs st wid .i64 wtAV W∧∀ t,aZ t W = aZ t (entC P.S P.V)
  ids:[c,q0,q1,m0,m1,wid].Nodup
  bid:∀ x ∈ aO bv,x ∉ [c,q0,q1,m0,m1,wid]
  nd:(bV (entC P.S P.V)).Nodup
  rng:∀ t ∈ bV (entC P.S P.V),0≤t∧t < 64
  zv:∀ x ∈ P.V,x.2.2 = 0
def Kp (st st':St) (F:List Nat):Prop:=st.boxes.length≤st'.boxes.length∧∀ id,id < st.boxes.length→id ∉ F→st'.boxes[id]? = st.boxes[id]?
theorem Kp.refl (st:St) (F:List Nat):Kp st st F:=⟨Nat.le_refl _,fun _ _ _=>rfl⟩
theorem Kp.trans {a b c:St} {F F':List Nat} (h:Kp a b F) (k:Kp b c F') (hf:∀ x ∈ F',x ∈ F∨a.boxes.length≤x):Kp a c F :=
  ⟨Nat.le_trans h.1 k.1,fun id hid hn=>(k.2 id (Nat.lt_of_lt_of_le hid h.1) fun e=>(hf id e).elim hn (fun q=>by omega)).trans (h.2 id hid hn)⟩
theorem Oth.kp {st st':St} {S F:List Nat} (h:Oth st st' S) (hs:∀ x ∈ S,x ∈ F):Kp st st' F:=⟨Nat.le_of_eq h.1.symm,fun id _ hn=>h.2 id fun e=>hn (hs id e)⟩
theorem MB.at {v:AV} {st st':St} {l:List AV} (h:MB v st l) (hb:∀ x ∈ aO v,st'.boxes[x]? = st.boxes[x]?):MB v st' l:=by
  rcases h with ⟨rfl,rfl⟩ | ⟨id,cap,r,rfl,hg,h1,h2⟩
  · exact .inl ⟨rfl,rfl⟩
  · exact .inr ⟨id,cap,r,rfl,(cy (hb id (by simp [aO]))).trans hg,h1,h2⟩
theorem MB.lt {v:AV} {st:St} {l:List AV} (h:MB v st l):∀ x ∈ aO v,x < st.boxes.length:=by
  rcases h with ⟨rfl,rfl⟩ | ⟨id,cap,r,rfl,hg,h1,h2⟩
  · simp [aO]
  · intro x hx
    simp only [aO,List.mem_singleton] at hx
    subst hx
    exact bE hg
section
variable {st st':St} {c q0 m0 q1 m1 wid:Nat} {bv:AV} {P:ChP}
theorem ChIs.lts (h:ChIs st c P q0 m0 q1 m1 wid bv):∀ x ∈ [c,q0,q1,m0,m1,wid]++aO bv,x < st.boxes.length:=by
  obtain ⟨W,hW,_⟩:=h.w
  intro x hx
  simp only [List.mem_append,List.mem_cons,List.not_mem_nil,or_false] at hx
  rcases hx with (rfl | rfl | rfl | rfl | rfl | rfl) | hx
  · exact bE h.get
  · exact h.s.ltq
  · exact h.r.ltq
  · exact h.s.ltm
  · exact h.r.ltm
  · exact hW.lt
  · exact h.buf.lt x hx
end
abbrev It := Int × Int × Int  -- task, value, error
def itAV (x:It):AV:=.agg [.lit (.int .i64 x.1),.lit (.int .i64 0),.lit (.int .i64 x.2.1),.lit (.int .i64 x.2.2)]
def eS (l:List It):AV:=if l = [] then .lit (.slice none 0 0) else .sl false 4 (l.map itAV)
def foot (c q0 m0 q1 m1 wid:Nat) (bv:AV):List Nat:=[c,q0,q1,m0,m1,wid]++aO bv
def ChPost (st:St) (c:Nat) (P:ChP) (q0 m0 q1 m1 wid:Nat) (bv:AV) (st':St):Prop :=
  ∃ bv',ChIs st' c P q0 m0 q1 m1 wid bv'∧Kp st st' (foot c q0 m0 q1 m1 wid bv)∧∀ x ∈ aO bv',x ∈ aO bv∨st.boxes.length≤x
theorem ChIs.post {st st':St} {c q0 m0 q1 m1 wid:Nat} {bv:AV} {P:ChP} (h:ChIs st' c P q0 m0 q1 m1 wid bv) (hk:Kp st st' (foot c q0 m0 q1 m1 wid bv)):ChPost st c P q0 m0 q1 m1 wid bv st':=⟨bv,h,hk,fun _ h=>.inl h⟩
theorem ChIs.rebufC {st st1:St} {c q0 m0 q1 m1 wid:Nat} {bv bv1:AV} {P:ChP} {cl:Bool} {b':List Int} (h:ChIs st c P q0 m0 q1 m1 wid bv) (hm:MB bv1 st1 (ints b')) (hk:Kp st st1 (aO bv)) (hb:∀ x ∈ aO bv1,x ∈ aO bv∨st.boxes.length≤x) :
    ChIs (st1.set c [.lit (.bool true),.lit (.bool cl),.lit (.int .i64 (P.cap:Nat)),bv1,.ptr q0 0,.ptr q1 0,.map wid]) c { P with buf:=b',closed:=cl } q0 m0 q1 m1 wid bv1 ∧
    Kp st (st1.set c [.lit (.bool true),.lit (.bool cl),.lit (.int .i64 (P.cap:Nat)),bv1,.ptr q0 0,.ptr q1 0,.map wid]) (foot c q0 m0 q1 m1 wid bv):=by
  have hlt:=h.lts
  have hids:=h.ids
  have hbid:=h.bid
  have hcl:c < st1.boxes.length:=Nat.lt_of_lt_of_le (hlt c (by simp)) hk.1
  simp only [List.nodup_cons,List.mem_cons,List.not_mem_nil,or_false,not_or] at hids
  have hat:∀ x ∈ [q0,q1,m0,m1,wid],(st1.set c [.lit (.bool true),.lit (.bool cl),.lit (.int .i64 (P.cap:Nat)),bv1,.ptr q0 0,.ptr q1 0,.map wid]).boxes[x]? = st.boxes[x]?:=by
    intro x hx
    rw [b8 (by simp at hx; omega)]
    refine hk.2 x (hlt x (by simp at hx ⊢; omega)) fun e=>?_
    exact hbid x e (by simp at hx ⊢; omega)
  have hbc:∀ x ∈ aO bv1,x ∉ [c,q0,q1,m0,m1,wid]:=by
    intro x hx hin
    rcases hb x hx with e | e
    · exact hbid x e hin
    · have:=hlt x (List.mem_append_left _ hin); omega
  obtain ⟨W,hW,hl⟩:=h.w
  refine ⟨⟨aw hcl,hm.at fun x hx=>b8 fun e=>hbc x hx (by simp [e]),h.s.at (hat _ (by simp)) (hat _ (by simp)),h.r.at (hat _ (by simp)) (hat _ (by simp)),⟨W,hW.at (hat _ (by simp)),hl⟩,h.ids,hbc,h.nd,h.rng,h.zv⟩,⟨by rw [fd]; exact hk.1,fun x hx hn=>?_⟩⟩
  simp only [foot,List.mem_append,List.mem_cons,List.not_mem_nil,or_false,not_or] at hn
  rw [b8 hn.1.1]
  exact hk.2 x hx hn.2
end Go.Fx
