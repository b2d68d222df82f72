/- An evaluator for resolved code, proved against the model: part 6. -/
import Derived.Test.YtgmeefljgbaanaaFxE
namespace Go.Fx
open Go
section
variable {P:Program} {F:Nat→FuncId} {m:Bool} {b:AC} {lv ll:List Nat} {Q:Exit→Sf→St→Prop}
def stepQ {A:Type} (S:A→Sf) (T:A→St) (R:A→Prop) (lv ll:List Nat) (Q:Exit→Sf→St→Prop):Exit→Sf→St→Prop
 | .normal,sf,st=>∃ a,R a∧Sf.le (sf.mask lv ll) (S a)∧st = T a
 | e,sf,st=>Q e sf st
theorem loop_for {A:Type} (μ:A→Nat) (S:A→Sf) (T:A→St) (I:A→Prop) (a0:A) {sf:Sf} {st:St} (h0:I a0) (hs:Sf.le (sf.mask lv ll) (S a0)) (ht:st = T a0)
  (step:∀ a,I a→aC P F m b (S a) (T a) (stepQ S T (fun a'=>I a'∧μ a' < μ a) lv ll Q)):aJ (aC P F m b) lv ll sf st Q:=by
 refine ⟨fun k sf st=>∃ a,I a∧μ a = k∧sf = S a∧st = T a,⟨μ a0,_,hs,a0,h0,rfl,rfl,ht⟩,?_⟩
 rintro k sf st ⟨a,ha,rfl,rfl,rfl⟩
 refine aC_mono (fun e sf st=>?_) (step a ha)
 cases e with
 | normal=>exact fun ⟨a',⟨h1,h2⟩,h3,h4⟩=>⟨μ a',h2,S a',h3,a',h1,rfl,rfl,h4⟩
 | _=>exact fun q=>q
variable {A:Type} (S:A→Sf) (T:A→St) (R:A→Prop) (sf:Sf) (st:St)
end
section
variable {CB:Sf→St→(Exit→Sf→St→Prop)→Prop} {id:Nat} {r:Loop} {rs:List (Nat×AV)} {Q:Bool→St→Prop} {sf:Sf} {st:St}
theorem keep_eq (v:AV):v.keep = if v.noL = true then v.dis else .any:=rfl
theorem pj (sf:Sf):fZ [] sf = []:=rfl
theorem ny (t:Nat) (l:List Nat) (sf:Sf):fZ (t::l) sf = (t,(getR sf.regs t).keep)::fZ l sf:=rfl
theorem setRs_nil (rg:List (Nat×AV)) (vs:List AV):gX rg [] vs = rg:=by cases vs <;> rfl
theorem setRs_cons (rg:List (Nat×AV)) (p:Nat) (ps:List Nat) (v:AV) (vs:List AV):gX rg (p::ps) (v::vs) = gX (setR rg p v.dis) ps vs:=rfl
theorem iD:p8 CB id r rs Q .normal sf st = (st.isLp id r rs∧CB sf (st.setL id (dQ r) rs) (endI id r rs Q)):=rfl
theorem lW:endI id r rs Q .normal sf st = (st.isLp id (dQ r) rs∧Q true (st.setL id r rs)):=rfl
theorem round_a {P:Program} {CA CB:Sf→St→(Exit→Sf→St→Prop)→Prop} {ps:List Nat} (hy:∀ vs st' Q',p9 CA CB ps id r rs vs st' Q'→gL P id vs st' Q') {vs:List AV} (hl:st.isLp id r rs) (hn:vs.length = ps.length)
  (h:CA ⟨gX rs ps vs,[]⟩ st (p8 CB id r rs Q)):gL P id vs st Q:=hy _ _ _ ⟨hl,hn,h⟩
end
theorem iE {st:St} {id q:Nat} {r:Loop} {rs:List (Nat×AV)} (h:q≠id):(st.setL id r rs).boxes[q]? = st.boxes[q]?:=by
 simp only [St.setL]; rw [List.getElem?_set_ne (fun e=>h e.symm)]
theorem pk {st:St} {id:Nat} {r r':Loop} {rs rs':List (Nat×AV)} (h:st.isLp id r' rs'):(st.setL id r rs).isLp id r rs:=by
 have hl:id < st.boxes.length:=(List.getElem?_eq_some_iff.1 h).1
 simp [St.isLp,St.setL,hl]
theorem lX {st:St} {id q:Nat} (h:q≠id):(st.drop id).boxes[q]? = st.boxes[q]?:=by
 simp only [St.drop]; rw [List.getElem?_set_ne (fun e=>h e.symm)]
theorem drop_len {st:St} {id:Nat}:(st.drop id).boxes.length = st.boxes.length:=by simp [St.drop]
theorem push_isLp (st:St) (r:Loop) (rs:List (Nat×AV)):(st.push (.lp r rs)).isLp st.boxes.length r rs:=by simp [St.isLp,St.push]
theorem me {st st':St} {id:Nat} {r:Loop} {rs:List (Nat×AV)} (h:st.isLp id r rs) (hb:st'.boxes[id]? = st.boxes[id]?):st'.isLp id r rs:=hb.trans h
def BB (l:List UInt8):List AV:=l.map dX
theorem bg (l:List UInt8):(BB l).length = l.length:=by simp [BB]
theorem fm (l:List UInt8) (n:Nat):(BB l).take n = BB (l.take n):=by simp [BB,List.map_take]
theorem iT (l:List UInt8) (n:Nat):(BB l).drop n = BB (l.drop n):=by simp [BB,List.map_drop]
theorem qn (l:List UInt8):Lits (BB l):=Lits.map (fun b:UInt8=>Value.int .u8 b.toNat) l
theorem nz (l:List UInt8):(BB l).map AV.dis = BB l:=(qn l).dis
theorem BB_nb (l:List UInt8):∀ x ∈ BB l,x.NB:=(qn l).nb
theorem BB_slnb (l:List UInt8) (o:Bool):(AV.sl o 1 (BB l)).NB:=.sl _ _ _ (BB_nb l)
theorem BB_nil:BB [] = []:=rfl
theorem mf (x:UInt8) (l:List UInt8):BB (x::l) = .lit (.int .u8 x.toNat)::BB l:=rfl
def str (l:List UInt8):ByteArray:=⟨l.toArray⟩
theorem strOf_BB (l:List UInt8):lD (BB l) = some (str l):=by
 have:(BB l).mapM byteA = some l:=by
  induction l with
  | nil=>rfl
  | cons x r ih=>simp only [mf,List.mapM_cons,ih,byteA]; simp
 simp [lD,this,str]
theorem conv_sl (st:St) (o:Bool) (l:List UInt8):jf st .bs (.sl o 1 (BB l)) = .ok (.lit (.string (str l))):=by
 simp [jf,strOf_BB,Res.ofOpt,Res.bind]
theorem str_list (a:List UInt8):(str a).toList = a:=by rw [ByteArray.toList_eq]; simp [str]
theorem str_eql (a b:List UInt8):binI .num .eql (.lit (.string (str a))) (.lit (.string (str b))) = .ok (.lit (.bool (decide (a = b)))):=by
 have:((str a).toList == (str b).toList) = decide (a = b):=by rw [str_list,str_list]; exact Bool.eq_iff_iff.2 (by simp)
 rw [← this]; rfl
theorem pure_eq {P:Program} {f:FuncId} {vs:List AV} {x:AV} (h:aE P f vs ⟨[]⟩ (fun v _=>AV.le v x)) (hx:x.NB) (hvs:∀ v ∈ vs,v.NB) (st:St):aw P f vs st x :=
 ma (h.mono fun _ _ h=>.le _ _ h hx) hvs st
end Go.Fx
namespace Go.Fx
open Go
section
variable (P:Program) (F:Nat→FuncId) (m:Bool) (locs0:List (Nat×List AV)) (st:St) (C:PK→Sf→Prop) (sf:Sf) (d:Option Nat) (x y i:Opd) (K:List PK→Sf→Prop) (ks:List PK)
theorem h_nil:aG P F locs0 st [] K ks sf = K ks sf:=rfl
theorem h_none (i:AI) (r:List GI):aG P F locs0 st (⟨none,i⟩::r) K ks sf = bf P F locs0 st i (im (aG P F locs0 st r K) ks) sf:=rfl
theorem h_some (t:Nat) (want:Bool) (i:AI) (r:List GI):aG P F locs0 st (⟨some (t,want),i⟩::r) K ks sf = cu t want (sf.reg t) (bf P F locs0 st i (im (aG P F locs0 st r K) ks)) (lP (aG P F locs0 st r K) ks i.dst) sf:=rfl
theorem hh_mv:bf P F locs0 st (.mv d x) C sf = valH C d sf (sf.ev F x).dis:=rfl
theorem dL (c a b:Opd):bf P F locs0 st (.pick d c a b) C sf = (pickV (sf.ev F c) (sf.ev F a) (sf.ev F b)).wp (valH C d sf):=rfl
theorem hh_bin (k:BinK) (op:BinOp):bf P F locs0 st (.bin d k op x y) C sf = (binI k op (sf.ev F x) (sf.ev F y)).wp (valH C d sf):=rfl
theorem hh_field (off:Nat) (k:Option Nat):bf P F locs0 st (.field d x off k) C sf = (eH (sf.ev F x) off k).wp (valH C d sf):=rfl
theorem hh_addr (off:Nat):bf P F locs0 st (.addr d x off) C sf = (addA (sf.ev F x) off).wp (valH C d sf):=rfl
theorem eL (k:Nat):bf P F locs0 st (.ixS d x i k) C sf = (ixSV (sf.ev F x) (sf.ev F i) k).wp (valH C d sf):=rfl
theorem hh_load (k:Option Nat):bf P F locs0 st (.load d x k) C sf = (jl sf st (sf.ev F x) k).wp (valH C d sf):=rfl
theorem bE:bf P F locs0 st (.nilck d x) C sf = (az (sf.ev F x)).wp (valH C d sf):=rfl
theorem f9 (lo hi:Option Opd) (k:Nat):bf P F locs0 st (.sliS d x lo hi k) C sf = (co (sf.ev F x) (lo.map (sf.ev F)) (hi.map (sf.ev F)) k).wp (valH C d sf):=rfl
theorem hh_bsl (k len:Nat) (z:AV) (parts:List (Nat×Opd)):bf P F locs0 st (.bsl d k len z parts) C sf = (bslV k len z (parts.map fun p=>(p.1,sf.ev F p.2))).wp (valH C d sf):=rfl
theorem nD (places:List (Nat×Nat)) (z:AV) (parts:List (Nat×Opd)):bf P F locs0 st (.bst d places z parts) C sf = (bstV places z (parts.map fun p=>(p.1,sf.ev F p.2))).wp (valH C d sf):=rfl
theorem eM (k:KeyK) (z:AV) (ok:Bool) (mp key:Opd):bf P F locs0 st (.lookup d k z ok mp key) C sf = (cr k z ok st (sf.ev F mp) (sf.ev F key)).wp (valH C d sf):=rfl
theorem cI (k:LenK):bf P F locs0 st (.len d k x) C sf = (lenI k st (sf.ev F x)).wp (valH C d sf):=rfl
theorem gm (k bytes:Nat):bf P F locs0 st (.app d k bytes x y) C sf = (aY st k bytes (sf.ev F x) (sf.ev F y)).wp (valH C d sf):=rfl
theorem bT (p:Bool) (f:Opd) (args:List Opd):bf P F locs0 st (.call d p f args) C sf = io P st d (sf.ev F f) (args.map (sf.ev F)) C sf:=rfl
theorem ga (s:Nat) (cs:List AV):bf P F locs0 st (.newL s cs) C sf = C (.new s cs) (sf.set s .any):=rfl
theorem eo (k:Nat):bf P F locs0 st (.store k x y) C sf = dS locs0 x (sf.ev F x) (sf.ev F y) k C sf:=rfl
theorem cD (a:Opd) (s:Nat) (v:AV) (k:Nat):dS locs0 a (.lptr s 0) v k C sf = eG v k s C sf (look s locs0):=rfl
theorem headNst_eq (s:Nat) (v:AV) (k:Nat):dS locs0 (.r s) .any v k C sf = (v.dis.solid = true∧v.dis.cells.length = k∧C (.nst s v.dis.cells) sf):=rfl
theorem ci (s:Nat) (v:AV) (k:Nat) (cs:List AV):eG v k s C sf (some cs) = (cs.length = k∧v.dis.solid = true∧v.dis.cells.length = k∧C (.store s v.dis.cells) sf):=rfl
theorem cT (t:Nat) (want:Bool) (Y N:Sf→Prop):cu t want (.lit (.bool true)) Y N sf = if true = want then Y (sf.set t (.lit (.bool true))) else N (sf.set t (.lit (.bool true))):=by
 unfold cu
 exact propext ⟨fun h=>h true rfl,fun h c e=>by subst e; exact h⟩
theorem aT (t:Nat) (want:Bool) (Y N:Sf→Prop):cu t want (.lit (.bool false)) Y N sf = if false = want then Y (sf.set t (.lit (.bool false))) else N (sf.set t (.lit (.bool false))):=by
 unfold cu
 exact propext ⟨fun h=>h false rfl,fun h c e=>by subst e; exact h⟩
end
theorem cE {p:Prop} [Decidable p] {t:Nat} {want:Bool} {Y N:Sf→Prop} {sf:Sf} (h1:p→cu t want (.lit (.bool true)) Y N sf) (h2:¬ p→cu t want (.lit (.bool false)) Y N sf):cu t want (.lit (.bool (decide p))) Y N sf:=by
 by_cases h:p
 ·rw [decide_eq_true h]; exact h1 h
 ·rw [decide_eq_false h]; exact h2 h
def PK.keep:PK→Bool
 | .val _=>false
 | .skip=>false
 | _=>true
theorem ck:∀ ks:List PK,aI (ks.filter PK.keep) = aI ks
 | []=>rfl
 | .val _::r=>ck r
 | .skip::r=>ck r
 | .mk _ _::r=>ck r
 | .hole::r=>ck r
 | .chole _ _::r=>ck r
 | .nst _ _::r=>ck r
 | .new _ _::r=>ck r
 | .app _ _::r=>ck r
 | .store s _::r=>congrArg (s::·) (ck r)
theorem dn:∀ ks:List PK,bd (ks.filter PK.keep) = bd ks
 | []=>rfl
 | .val _::r=>dn r
 | .skip::r=>dn r
 | .mk _ _::r=>dn r
 | .hole::r=>dn r
 | .chole _ _::r=>dn r
 | .nst _ _::r=>dn r
 | .store _ _::r=>dn r
 | .app _ _::r=>dn r
 | .new s _::r=>congrArg (s::·) (dn r)
theorem dp:∀ ks:List PK,bw (ks.filter PK.keep) = bw ks
 | []=>rfl
 | .val _::r=>dp r
 | .skip::r=>dp r
 | .mk _ _::r=>dp r
 | .hole::r=>dp r
 | .chole _ _::r=>dp r
 | .nst _ _::r=>dp r
 | .store _ _::r=>dp r
 | .new _ _::r=>dp r
 | .app s _::r=>congrArg (s::·) (dp r)
theorem dq:∀ (ks:List PK) (sf:Sf),bQ (ks.filter PK.keep) sf = bQ ks sf
 | [],_=>rfl
 | .val _::r,sf=>dq r sf
 | .skip::r,sf=>dq r sf
 | .mk _ _::r,sf=>dq r sf
 | .hole::r,sf=>dq r sf
 | .chole _ _::r,sf=>dq r sf
 | .nst _ _::r,sf=>dq r sf
 | .new _ _::r,sf=>dq r sf
 | .app _ _::r,sf=>dq r sf
 | .store _ _::r,_=>dq r _
theorem nst_beq (a b c d:Nat):((a,b) == (c,d)) = ((a == c) && (b == d)):=rfl
theorem cJ (t:Nat):∀ ks:List PK,bX t (ks.filter PK.keep) = bX t ks
 | []=>rfl
 | .val _::r=>cJ t r
 | .skip::r=>cJ t r
 | .mk _ _::r=>cJ t r
 | .hole::r=>cJ t r
 | .chole _ _::r=>cJ t r
 | .store _ _::r=>cJ t r
 | .app _ _::r=>cJ t r
 | .new _ _::r=>cJ t r
 | .nst s cs :: r => by
   show (if s = t then some cs else bX t (r.filter PK.keep)) = if s = t then some cs else bX t r
   rw [cJ t r]
theorem dt:∀ ks:List PK,bz (ks.filter PK.keep) = bz ks
 | []=>rfl
 | .val _::r=>dt r
 | .skip::r=>dt r
 | .mk _ _::r=>dt r
 | .hole::r=>dt r
 | .chole _ _::r=>dt r
 | .store _ _::r=>dt r
 | .new _ _::r=>dt r
 | .app _ _::r=>dt r
 | .nst s _::r=>congrArg (s::·) (dt r)
theorem du:∀ (ks:List PK) (seen:List (Nat×Nat)),nstB seen (ks.filter PK.keep) = nstB seen ks
 | [],_=>rfl
 | .val _::r,s=>du r s
 | .skip::r,s=>du r s
 | .mk _ _::r,s=>du r s
 | .hole::r,s=>du r s
 | .chole _ _::r,s=>du r s
 | .store _ _::r,s=>du r s
 | .app _ _::r,s=>du r s
 | .new _ _::r,s=>du r _
 | .nst _ _::r,s=>congrArg (_ && ·) (du r s)
theorem dw (all:List PK):∀ (ks:List PK) (sf:Sf),bC (all.filter PK.keep) (ks.filter PK.keep) sf = bC all ks sf
 | [],_=>rfl
 | .val _::r,sf=>dw all r sf
 | .skip::r,sf=>dw all r sf
 | .mk _ _::r,sf=>dw all r sf
 | .hole::r,sf=>dw all r sf
 | .chole _ _::r,sf=>dw all r sf
 | .store _ _::r,sf=>dw all r sf
 | .app _ _::r,sf=>dw all r sf
 | .nst _ _::r,sf=>dw all r sf
 | .new s cs :: r, sf => by
   show bC (all.filter PK.keep) (r.filter PK.keep) (sf.newLoc s ((bX s (all.filter PK.keep)).getD cs)) = bC all r (sf.newLoc s ((bX s all).getD cs))
   rw [cJ,dw all r]
section
variable {P:Program} {F:Nat→FuncId} {m:Bool} {locs0:List (Nat×List AV)} {st st2:St} {drop lv ll:List Nat} {tl:List GI} {Q:Exit→Sf→St→Prop}
theorem tail_keep (ks:List PK) (sf:Sf):dT P F m drop lv ll tl Q st (ks.filter PK.keep) sf = dT P F m drop lv ll tl Q st ks sf:=by
 unfold dT ksB
 rw [ck,dn,dp,dt,du,dq,dw]
theorem fu:∀ (r:List GI) (ks:List PK) (sf:Sf),aG P F locs0 st r (dT P F m drop lv ll tl Q st) (ks.filter PK.keep) sf = aG P F locs0 st r (dT P F m drop lv ll tl Q st) ks sf
 | [],ks,sf=>tail_keep ks sf
 | ⟨g, i⟩ :: r, ks, sf => by
   have h1:im (aG P F locs0 st r (dT P F m drop lv ll tl Q st)) (ks.filter PK.keep) = im (aG P F locs0 st r (dT P F m drop lv ll tl Q st)) ks:=by
    funext k sf
    simp only [im]
    rw [← fu r (ks++[k]) sf,← fu r (ks.filter PK.keep++[k]) sf]
    simp
   have h2:∀ d,lP (aG P F locs0 st r (dT P F m drop lv ll tl Q st)) (ks.filter PK.keep) d = lP (aG P F locs0 st r (dT P F m drop lv ll tl Q st)) ks d:=by
    intro d
    funext sf
    exact congrFun (congrFun h1 .skip) (sf.put d (.tup []))
   cases g with
   | none=>simp only [aG,h1]
   | some g=>obtain ⟨t,w⟩:=g; simp only [aG,h1,h2]
variable (ks:List PK) (sf:Sf) (r:List GI) (v:AV) (d:Option Nat)
theorem bA:im (aG P F locs0 st r (dT P F m drop lv ll tl Q st)) ks (.val v) sf = aG P F locs0 st r (dT P F m drop lv ll tl Q st) ks sf:=by
 show aG P F locs0 st r _ (ks++[.val v]) sf = _
 exact (fu r (ks++[PK.val v]) sf).symm.trans ((congrArg (fun q=>aG P F locs0 st r (dT P F m drop lv ll tl Q st) q sf) (by simp [PK.keep])).trans (fu r ks sf))
theorem dx:lP (aG P F locs0 st r (dT P F m drop lv ll tl Q st)) ks d sf = aG P F locs0 st r (dT P F m drop lv ll tl Q st) ks (sf.put d (.tup [])):=by
 show aG P F locs0 st r _ (ks++[.skip]) (sf.put d (.tup [])) = _
 exact (fu r (ks++[PK.skip]) _).symm.trans ((congrArg (fun q=>aG P F locs0 st r (dT P F m drop lv ll tl Q st) q (sf.put d (.tup []))) (by simp [PK.keep])).trans (fu r ks _))
theorem val_head:valH (im (aG P F locs0 st r (dT P F m drop lv ll tl Q st)) ks) d sf v = aG P F locs0 st r (dT P F m drop lv ll tl Q st) ks (sf.put d v):=bA ks (sf.put d v) r v
theorem tail_nil:dT P F m drop lv ll tl Q st [] sf = runI P F m tl (opsK lv ll Q) sf st:=propext ⟨fun h=>h.2,fun h=>⟨rfl,h⟩⟩
theorem cF (k:PK):dT P F m drop lv ll tl Q st (k::ks) sf = (ksB drop (k::ks) = true∧runI P F m tl (opsK lv ll Q) (bC (k::ks) (k::ks) (bQ (k::ks) sf)) st):=rfl
end
section
variable (H:List PK→Sf→Prop) (ks:List PK) (sf:Sf) (s:Nat) (cs:List AV) (v:AV)
theorem eZ:im H ks (.new s cs) sf = H (ks++[.new s cs]) sf:=rfl
theorem dg:im H ks (.store s cs) sf = H (ks++[.store s cs]) sf:=rfl
end
theorem cw {P:Program} {d:Option Nat} {q:FuncId} {fs cs args vs:List AV} {sf:Sf} {st:St} {C:PK→Sf→Prop} {v:AV} (hvs:fs++args.map AV.dis++cs = vs) (hent:cn P q = true) (h:aw P q vs st v) (hn:args.all AV.noL = true) (hK:C (.val v) (sf.put d v)):io P st d (.fn (.func q) fs cs) args C sf:=by
 subst hvs
 exact ⟨hn,hent,v,h,hK⟩
section
variable (P:Program) (F:Nat→FuncId) (L0:List (Nat×List AV)) (ρ:St) (C:PK→Sf→Prop) (sf:Sf) (d:Option Nat) (x y i:Opd) (K:List PK→Sf→Prop) (ks:List PK)
theorem pl:preM P F L0 ρ [] K ks sf = K ks sf:=rfl
theorem qo (i:AI) (r:List GI):preM P F L0 ρ (⟨none,i⟩::r) K ks sf = oneM P F L0 ρ i (gW (preM P F L0 ρ r K) ks) sf:=rfl
theorem m_val (v:AV) (r:List GI):valM (gW (preM P F L0 ρ r K) ks) d sf v = preM P F L0 ρ r K (ks++[.val v]) (sf.put d v):=rfl
theorem mm_mv:oneM P F L0 ρ (.mv d x) C sf = valM C d sf (sf.ev F x).dis:=rfl
theorem mm_ext (j:Nat):oneM P F L0 ρ (.ext d x j) C sf = (extV (sf.ev F x) j).wp (valM C d sf):=rfl
theorem qp (off:Nat):oneM P F L0 ρ (.addr d x off) C sf = (addA (sf.ev F x) off).wp (valM C d sf):=rfl
theorem mm_ixS (k:Nat):oneM P F L0 ρ (.ixS d x i k) C sf = (ixSV (sf.ev F x) (sf.ev F i) k).wp (valM C d sf):=rfl
theorem mg (k:Option Nat):oneM P F L0 ρ (.load d x k) C sf = (jl sf ρ (sf.ev F x) k).wp (valM C d sf):=rfl
theorem nE:oneM P F L0 ρ (.nilck d x) C sf = (az (sf.ev F x)).wp (valM C d sf):=rfl
theorem mm_bsl (k len:Nat) (z:AV) (parts:List (Nat×Opd)):oneM P F L0 ρ (.bsl d k len z parts) C sf = (bslV k len z (parts.map fun p=>(p.1,sf.ev F p.2))).wp (valM C d sf):=rfl
theorem mm_bst (places:List (Nat×Nat)) (z:AV) (parts:List (Nat×Opd)):oneM P F L0 ρ (.bst d places z parts) C sf = (bstV places z (parts.map fun p=>(p.1,sf.ev F p.2))).wp (valM C d sf):=rfl
variable (KH:List PK→Prop) (st:St) (post:List (Bool×GI)) (T:St→Sf→Prop) (T1:Sf→Prop)
theorem hm_nil:c9 P F L0 ρ [] KH ks sf = KH ks:=rfl
theorem hm_hole (g:GI) (r:List (Bool×GI)):c9 P F L0 ρ ((true,g)::r) KH ks sf = c9 P F L0 ρ r KH (ks++[.hole]) (sf.put g.i.dst .any):=by simp only [c9]
theorem hm_none (i:AI) (r:List (Bool×GI)):c9 P F L0 ρ ((false,⟨none,i⟩)::r) KH ks sf = oneM P F L0 ρ i (gW (c9 P F L0 ρ r KH) ks) sf:=rfl
theorem m_new (s:Nat) (cs:List AV) (r:List GI):gW (preM P F L0 ρ r K) ks (.new s cs) sf = preM P F L0 ρ r K (ks++[.new s cs]) sf:=rfl
theorem m_nst (s:Nat) (cs:List AV) (r:List GI):gW (preM P F L0 ρ r K) ks (.nst s cs) sf = preM P F L0 ρ r K (ks++[.nst s cs]) sf:=rfl
theorem hm_new (s:Nat) (cs:List AV) (r:List (Bool×GI)):gW (c9 P F L0 ρ r KH) ks (.new s cs) sf = c9 P F L0 ρ r KH (ks++[.new s cs]) sf:=rfl
theorem mm_newL (s:Nat) (cs:List AV):oneM P F L0 ρ (.newL s cs) C sf = C (.new s cs) (sf.set s .any):=rfl
theorem mm_store (k:Nat):oneM P F L0 ρ (.store k x y) C sf = dS L0 x (sf.ev F x) (sf.ev F y) k C sf:=rfl
variable (drop:List Nat) (ks1:List PK)
theorem atM_eq (f:Opd) (args:List Opd):atM P F L0 ρ st d f args post drop T ks1 sf = mQ P F L0 ρ st d (sf.ev F f) (args.map (sf.ev F)) post drop T ks1 sf:=rfl
theorem nF (ksh:List PK):postM post drop ks1 ksh T1 ks sf = (eW post ksh ks∧finK drop T1 (ks1++ks) sf):=rfl
theorem qq:finK drop T1 ks sf = (ksB drop ks = true∧T1 (bC ks ks (bQ ks sf))):=rfl
theorem nG (A:List PK→Prop):holeK drop ks1 A ks = (ksB drop (ks1++ks) = true∧A ks):=rfl
theorem lj:eW [] [] [] = True:=rfl
theorem compM_t (g:GI) (r:List (Bool×GI)) (a:PK) (v:AV) (h k:List PK):eW ((true,g)::r) (a::h) (.val v::k) = eW r h k:=rfl
theorem compM_tn (g:GI) (r:List (Bool×GI)) (a:PK) (s:Nat) (cs:List AV) (h k:List PK):eW ((true,g)::r) (a::h) (.nst s cs::k) = eW r h k:=rfl
theorem compM_f (g:GI) (r:List (Bool×GI)) (a b:PK) (h k:List PK):eW ((false,g)::r) (a::h) (b::k) = (b = a∧eW r h k):=rfl
theorem nH (m:Bool) (lv ll:List Nat) (tl:List GI) (Q:Exit→Sf→St→Prop):mT P F m lv ll tl Q st sf = runI P F m tl (opsK lv ll Q) sf st:=rfl
end
section
variable {P:Program} {F:Nat→FuncId} {L0:List (Nat×List AV)} {ρ st:St}
theorem atA_eq {d:Option Nat} {k bytes:Nat} {post:List (Bool×GI)} {drop:List Nat} {T:St→Sf→Prop} {ks1:List PK} {sf:Sf} (b y:Opd):atA P F L0 ρ st d b k bytes y post drop T ks1 sf = appM P F L0 ρ st d k bytes (sf.ev F b) (sf.ev F y) post drop T ks1 sf:=rfl
theorem draw_a {pre:List GI} {d:Option Nat} {b:Opd} {k bytes:Nat} {y:Opd} {post:List (Bool×GI)} {sf:Sf} {T:St→Sf→Prop} (ρ:St) (hs:St.sub ρ st) (h:preM P F sf.locs ρ pre (atA P F sf.locs ρ st d b k bytes y post (fI pre post) T) [] ⟨sf.regs,cA (fI pre post) sf.locs⟩):drawA P F pre d b k bytes y post sf st T:=⟨ρ,hs,h⟩
theorem app_m {d:Option Nat} {k bytes:Nat} {b y:AV} {post:List (Bool×GI)} {drop:List Nat} {T:St→Sf→Prop} {ks1:List PK} {sf:Sf} (Qc:AV→St→Prop) (hb:b.noL = true) (hy:y.noL = true) (hA:(srcA st k y.dis).wp (appX false k bytes b.dis Qc st))
  (hK:c9 P F L0 ρ post (holeK drop ks1 (p6 P F L0 ρ post Qc d sf drop T ks1)) [] (sf.put d .any)):appM P F L0 ρ st d k bytes b y post drop T ks1 sf:=⟨hb,hy,Qc,hA,hK⟩
theorem draw_m {pre:List GI} {d:Option Nat} {f:Opd} {args:List Opd} {post:List (Bool×GI)} {sf:Sf} {T:St→Sf→Prop} (ρ:St) (hs:St.sub ρ st) (h:preM P F sf.locs ρ pre (atM P F sf.locs ρ st d f args post (fI pre post) T) [] ⟨sf.regs,cA (fI pre post) sf.locs⟩):drawM P F pre d f args post sf st T:=⟨ρ,hs,h⟩
theorem draw_s {pre:List GI} {d:Option Nat} {f:Opd} {args:List Opd} {post:List (Bool×GI)} {sf:Sf} {T:St→Sf→Prop} (h:preM P F sf.locs st pre (atM P F sf.locs st st d f args post (fI pre post) T) [] ⟨sf.regs,cA (fI pre post) sf.locs⟩):drawM P F pre d f args post sf st T:=⟨st,St.sub_refl st,h⟩
theorem call_m {q:FuncId} {fs cs args vs:List AV} {d:Option Nat} {post:List (Bool×GI)} {drop:List Nat} {T:St→Sf→Prop} {ks1:List PK} {sf:Sf} {Qc:AV→St→Prop} (hvs:fs++args.map AV.dis++cs = vs) (hent:cn P q = true) (hA:aE P q vs st Qc) (hn:args.all AV.noL = true)
  (hK:c9 P F L0 ρ post (holeK drop ks1 (p6 P F L0 ρ post Qc d sf drop T ks1)) [] (sf.put d .any)):mQ P F L0 ρ st d (.fn (.func q) fs cs) args post drop T ks1 sf:=by
 subst hvs
 exact ⟨hn,hent,Qc,hA,hK⟩
end
section
variable (P:Program) (F:Nat→FuncId) (L0:List (Nat×List AV)) (st s:St) (d:Option Nat) (f:Opd) (args:List Opd) (pre post:List GI) (T:St→Sf→Prop) (ks:List PK) (sf:Sf) (v:AV)
end
section
variable (P:Program) (F:Nat→FuncId) (L0:List (Nat×List AV)) (ρ:St) (C:PK→Sf→Prop) (sf:Sf) (d:Option Nat) (H:List PK→Sf→Prop) (KX:Nat→List PK→Sf→Prop) (ks:List PK) (SS:Nat→St→Prop) (j:Nat)
theorem g_nil:preX P F L0 ρ SS j [] KX ks sf = KX j ks sf:=by simp only [preX]
theorem g_none_f (i:AI) (r:List (Bool×GI)):preX P F L0 ρ SS j ((false,⟨none,i⟩)::r) KX ks sf = oneM P F L0 ρ i (ji (preX P F L0 ρ SS j r KX) ks) sf:=by simp only [preX]
theorem g_none_t (i:AI) (r:List (Bool×GI)):preX P F L0 ρ SS j ((true,⟨none,i⟩)::r) KX ks sf = ir P F ρ SS j i (ji (preX P F L0 ρ SS (j + 1) r KX) ks) sf:=by simp only [preX]
theorem g_val (v:AV):valM (ji H ks) d sf v = H ks (sf.put d v):=rfl
theorem g_mkv (v:AV):valG ρ (ji H ks) d sf v = H ks (sf.put d v):=rfl
theorem g_call (p:Bool) (f:Opd) (args:List Opd):ir P F ρ SS j (.call d p f args) C sf = mS P ρ SS j d (sf.ev F f) (args.map (sf.ev F)) C sf:=rfl
theorem g_box (b k:Nat) (x:Opd):ir P F ρ SS j (.boxB b k x) C sf = boxX1 ρ SS j b k (sf.ev F x) C sf:=rfl
theorem tailG_nil (m:Bool) (drop lv ll:List Nat) (tl:List GI) (Q:Exit→Sf→St→Prop):tailX P F m drop lv ll tl Q SS j [] sf = ∀ s,SS j s→runI P F m tl (opsK lv ll Q) sf s:=propext ⟨fun h=>h.2,fun h=>⟨rfl,h⟩⟩
end
theorem draw_x {P:Program} {F:Nat→FuncId} {L0:List (Nat×List AV)} {st:St} {fl:List (Bool×GI)} {K:(Nat→St→Prop)→Nat→List PK→Sf→Prop} {sf:Sf} (SS:Nat→St→Prop) (h0:SS 0 st) (hs:∀ j s,SS j s→St.sub st s) (h:preX P F L0 st SS 0 fl (K SS) [] sf):drawX P F L0 st fl K sf:=⟨SS,h0,hs,h⟩
theorem call_x {P:Program} {ρ:St} {SS:Nat→St→Prop} {j:Nat} {q:FuncId} {fs cs args vs:List AV} {d:Option Nat} {sf:Sf} {C:PK→Sf→Prop} {v:AV} (hvs:fs++args.map AV.dis++cs = vs) (hent:cn P q = true) (h:∀ s,SS j s→aE P q vs s (fun v' s'=>v' = v∧SS (j + 1) s')) (hn:args.all AV.noL = true) (hK:valG ρ C d sf v):mS P ρ SS j d (.fn (.func q) fs cs) args C sf:=by
 subst hvs
 exact ⟨hn,hent,v,h,hK⟩
theorem box_x {ρ:St} {SS:Nat→St→Prop} {j b k:Nat} {x:AV} {sf:Sf} {C:PK→Sf→Prop} (n:Nat) (hs:x.dis.solid = true) (hk:x.dis.cells.length = k) (h:∀ s,SS j s→s.boxes.length = n∧SS (j + 1) (s.push (.cells x.dis.cells))) (hK:valG ρ C (some b) sf (.ptr n 0)):boxX1 ρ SS j b k x C sf :=
 ⟨hs,hk,.ptr n 0,fun s q=>⟨by rw [(h s q).1],(h s q).2⟩,hK⟩
end Go.Fx
namespace Go.Fx
open Go
theorem ep (st:St) (o:Bool) (k:Nat) (es:List AV):lenI .sl st (.sl o k es) = .ok (.lit (.int .i64 es.length)):=rfl
theorem bD {P:Program} {F:Nat→FuncId} {m:Bool} {b:AC} {lv ll:List Nat} {Q:Exit→Sf→St→Prop} {A:Type} (μ:A→Nat) (S:A→Sf) (T:A→St) (I:A→Prop) (a0:A) {sf:Sf} {st:St} (h0:I a0) (hs:Sf.le (sf.mask lv ll) (S a0)) (ht:st = T a0)
  (step:∀ a,I a→∀ K:Exit→Sf→St→Prop,(∀ a' sf',I a'→μ a' < μ a→Sf.le (sf'.mask lv ll) (S a')→K .normal sf' (T a'))→(∀ id sf st,Q (.exit id) sf st→K (.exit id) sf st)→(∀ sf st,Q .ret sf st→K .ret sf st)→aC P F m b (S a) (T a) K):aJ (aC P F m b) lv ll sf st Q :=
 loop_for μ S T I a0 h0 hs ht fun a ha=>step a ha _ (fun a' _ h1 h2 h3=>⟨a',⟨h1,h2⟩,h3,rfl⟩) (fun _ _ _ h=>h) (fun _ _ h=>h)
theorem dZ {p:Prop} [Decidable p] (h:p) {t:Nat} {want:Bool} {Y N:Sf→Prop} {sf:Sf}:cu t want (.lit (.bool (decide p))) Y N sf = if true = want then Y (sf.set t (.lit (.bool true))) else N (sf.set t (.lit (.bool true))):=by
 rw [decide_eq_true h,cT]
theorem dy {p:Prop} [Decidable p] (h:¬ p) {t:Nat} {want:Bool} {Y N:Sf→Prop} {sf:Sf}:cu t want (.lit (.bool (decide p))) Y N sf = if false = want then Y (sf.set t (.lit (.bool false))) else N (sf.set t (.lit (.bool false))):=by
 rw [decide_eq_false h,aT]
theorem aL {P:Program} {X:Cx} {f:FuncId} {fn:AFun} {vs:List AV} {st:St} (hmix:P.follows .mixedOrders = true) (hf:ix P X f = some fn) (hX:X.F = id) (hlen:Nat.ble vs.length fn.n = true) {K:AV→St→Prop} (h:∀ Q:AV→St→Prop,(∀ v st',K v st'→Q v st')→aFun P id false fn vs st Q):aE P f vs st K :=
 acalls_id hmix hf hX hlen (h K fun _ _ h=>h)
theorem pure_lev {P:Program} {X:Cx} {f:FuncId} {fn:AFun} {vs:List AV} {x:AV} (hmix:P.follows .mixedOrders = true) (hf:ix P X f = some fn) (hX:X.F = id) (hlen:Nat.ble vs.length fn.n = true) (hx:x.NB) (hvs:∀ v ∈ vs,v.NB)
  (h:∀ Q:AV→St→Prop,(∀ v st',v.le x→Q v st')→aFun P id false fn vs ⟨[]⟩ Q) (st:St):aw P f vs st x :=
 pure_eq (aL hmix hf hX hlen fun Q hQ=>h Q fun v st' hv=>hQ v st' hv) hx hvs st
end Go.Fx
namespace Go.Fx
open Go
def MB (v:AV) (st:St) (l:List AV):Prop:=(v = .lit (.slice none 0 0)∧l = [])∨∃ id cap r,v = .bs id 1 0 l.length cap∧st.get id = some (l++r)∧l.length≤cap∧cap≤(l++r).length
def Kept (st st':St) (v:AV):Prop:=st.boxes.length≤st'.boxes.length∧∀ id cs,st.get id = some cs→(∀ k o l c,v≠.bs id k o l c)→st'.get id = some cs
theorem Kept.refl (st:St) (v:AV):Kept st st v:=⟨Nat.le_refl _,fun _ _ h _=>h⟩
theorem MB.facts {v:AV} {st:St} {l:List AV} (h:MB v st l):v.dis = v∧v.own1 = v∧v.own2 = v∧v.solid1 = true∧v.noL = true∧v.cells = [v]∧(∀ s,kill s v = v)∧∀ st',lenI .sl st' v = .ok (.lit (.int .i64 l.length)):=by
 rcases h with ⟨rfl,rfl⟩ | ⟨id,cap,r,rfl,_⟩
 ·exact ⟨rfl,rfl,rfl,rfl,rfl,rfl,fun _=>rfl,fun _=>rfl⟩
 ·exact ⟨rfl,rfl,rfl,rfl,rfl,rfl,fun _=>rfl,fun _=>rfl⟩
def NBs (st:St):Prop:=∀ id cs,st.get id = some cs→∀ c ∈ cs,c.NB
theorem NBs.nil:NBs ⟨[]⟩:=fun id cs h=>by simp [St.get] at h
theorem NBs.push {st:St} {cs:List AV} (h:NBs st) (hc:∀ c ∈ cs,c.NB):NBs (st.push (.cells cs)):=by
 intro id ds hg
 by_cases e:id < st.boxes.length
 ·rw [gS e] at hg
  exact h id ds hg
 ·by_cases e2:id = st.boxes.length
  ·subst e2
   rw [bU] at hg
   cases hg
   exact hc
  ·have:=bO hg
   rw [aX] at this
   omega
theorem NBs.set {st:St} {id:Nat} {cs:List AV} (h:NBs st) (hid:id < st.boxes.length) (hc:∀ c ∈ cs,c.NB):NBs (st.set id cs):=by
 intro id' ds hg
 by_cases e:id = id'
 ·subst e
  rw [aZ hid] at hg
  cases hg
  exact hc
 ·rw [jD e] at hg
  exact h id' ds hg
theorem MB.app {v:AV} {st:St} {l new:List AV} {bytes:Nat} {C:AV→St→Prop} (h:MB v st l) (hl:Lits l) (hn:Lits new) (hr:eU (l.length + new.length) bytes = true)
  (hC:∀ v' st',MB v' st' (l++new)→Kept st st' v→(NBs st→NBs st')→C v' st'):appX false 1 bytes v C st new:=by
 rcases h with ⟨rfl,rfl⟩ | ⟨id,cap,r,rfl,hg,h1,h2⟩
 ·refine ⟨rfl,by simpa using hr,?_⟩
  split
  ·rename_i h
   have:new = []:=by simpa using h
   subst this
   exact hC _ _ (.inl ⟨rfl,rfl⟩) (Kept.refl _ _) id
  ·intro c hc
   refine hC _ _ (.inr ⟨st.boxes.length,c,List.replicate (c - new.length) .any,by simp,?_,by simpa using hc,by simp; omega⟩) ⟨by simp [St.push],fun id cs hg _=>by rw [gS (bO hg)]; exact hg⟩ (fun h=>h.push fun x hx=>?_)
   ·rw [hn.cellsD]
    simp only [List.nil_append,Nat.mul_one]
    exact bU st _
   ·rw [hn.cellsD] at hx
    simp only [List.nil_append,Nat.mul_one,List.mem_append] at hx
    rcases hx with hx | hx
    ·exact hn.nb x hx
    ·rw [List.eq_of_mem_replicate hx]; exact .any
 ·refine ⟨rfl,rfl,hr,?_⟩
  rw [hg]
  show (Res.ok _).wp _
  rw [o8,hn.cellsD]
  have hid:=bO hg
  split
  ·rename_i hc
   refine ⟨by omega,hC _ _ (.inr ⟨id,cap,r.drop new.length,by simp,?_,by simpa using hc,?_⟩) ⟨by simp [St.set],fun id' cs hg' hne=>?_⟩ (fun h=>h.set hid ?_)⟩
   ·rw [aZ hid,Nat.zero_add,Nat.mul_one,gB rfl (by simp at h2; omega)]
    simp
   ·simp at h2 ⊢; omega
   ·rw [jD (fun e=>hne _ _ _ _ (by rw [e])),hg']
   ·rw [Nat.zero_add,Nat.mul_one,gB rfl (by simp at h2; omega)]
    have h3:=h id _ hg
    intro x hx
    simp only [List.mem_append] at hx
    rcases hx with hx | hx | hx
    ·exact hl.nb x hx
    ·exact hn.nb x hx
    ·exact h3 x (List.mem_append_right _ (List.mem_of_mem_drop hx))
  ·rename_i hc
   have e:List.map AV.own1 (List.take (l.length * 1) (List.drop 0 (l++r))) = l:=by simp [hl.own]
   refine ⟨by simp,fun c hc=>hC _ _ (.inr ⟨st.boxes.length,c,List.replicate (c - (l.length + new.length)) .any,by simp,?_,by simpa using hc,by simp; omega⟩) ⟨by simp [St.push],fun id' cs hg' _=>by rw [gS (bO hg')]; exact hg'⟩ (fun h=>h.push fun x hx=>?_)⟩
   ·rw [e]
    simp only [Nat.mul_one]
    exact bU st _
   ·rw [e] at hx
    simp only [List.mem_append] at hx
    rcases hx with (hx | hx) | hx
    ·exact hl.nb x hx
    ·exact hn.nb x hx
    ·rw [List.eq_of_mem_replicate hx]; exact .any
end Go.Fx
namespace Go.Fx
open Go
def litB1:AV→Bool
 | .lit _=>true
 | _=>false
end Go.Fx
namespace Go.Fx
open Go
section
variable {β:Type}
def gc (t:Int):List (Int×β)→Nat→Option (Nat×β)
 | [],_=>none
 | (k,b)::r,i=>if t = k then some (i,b) else gc t r (i + 1)
def ak (t:Int):List (Int×β)→Option β
 | []=>none
 | (k,b)::r=>if t = k then some b else ak t r
def updP (t:Int) (b:β):List (Int×β)→List (Int×β)
 | []=>[(t,b)]
 | (k,c)::r=>if t = k then (t,b)::r else (k,c)::updP t b r
def delP (t:Int):List (Int×β)→List (Int×β)
 | []=>[]
 | (k,c)::r=>if t = k then r else (k,c)::delP t r
def bk (m:List (Int×β)):List Int:=m.map Prod.fst
theorem fL (t:Int):∀ (m:List (Int×β)) (i:Nat),(gc t m i).map Prod.snd = ak t m
 | [],_=>rfl
 | (k, b) :: r, i => by
   simp only [gc,ak]; split; · rfl
   ·exact fL t r (i + 1)
theorem lk {γ:Type} (e:Int×β→γ) (t:Int) (b:β):∀ (m:List (Int×β)) (i:Nat),match gc t m i with
  | some (j,_)=>i≤j∧(m.map e).set (j - i) (e (t,b)) = (updP t b m).map e∧(m.map e).eraseIdx (j - i) = (delP t m).map e∧j - i < m.length
  | none=>m.map e++[e (t,b)] = (updP t b m).map e∧delP t m = m
 | [],_=>by simp [gc,updP,delP]
 | (k, c) :: r, i => by
   simp only [gc]
   by_cases h:t = k
   ·subst h
    simp [updP,delP]
   ·rw [if_neg h]
    have ih:=lk e t b r (i + 1)
    cases hf:gc t r (i + 1) with
    | none=>rw [hf] at ih; simp only at ih; simp [updP,delP,h,ih.1,ih.2]
    | some p =>
      obtain ⟨j,c'⟩:=p
      rw [hf] at ih
      simp only at ih ⊢
      obtain ⟨h1,h2,h3,h4⟩:=ih
      obtain ⟨q,rfl⟩:∃ q,j = i + 1 + q:=⟨j - (i + 1),by omega⟩
      rw [show i + 1 + q - (i + 1) = q by omega] at h2 h3 h4
      rw [show i + 1 + q - i = q + 1 by omega]
      refine ⟨by omega,?_,?_,by simp; omega⟩
      ·simp [updP,h,h2]
      ·simp [delP,h,h3]
theorem bt (t t':Int) (b:β):∀ m:List (Int×β),ak t' (updP t b m) = if t' = t then some b else ak t' m
 | []=>by simp only [updP,ak]
 | (k, c) :: r => by
   simp only [updP]
   by_cases h:t = k
   ·subst h
    rw [if_pos rfl]
    simp only [ak]
    split <;> rfl
   ·rw [if_neg h]
    simp only [ak]
    rw [bt t t' b r]
    by_cases h1:t' = k
    ·subst h1
     have:¬ t' = t:=fun e=>h e.symm
     simp [this]
    ·simp [h1]
theorem pm {t:Int}:∀ {m:List (Int×β)},t ∉ bk m→ak t m = none
 | [],_=>rfl
 | (k, c) :: r, h => by
   simp only [bk,List.map_cons,List.mem_cons,not_or] at h
   simp only [ak]
   rw [if_neg h.1]
   exact pm h.2
theorem look_key {t:Int}:∀ {m:List (Int×β)} {b:β},ak t m = some b→t ∈ bk m
 | (k, c) :: r, b, h => by
   simp only [ak] at h
   simp only [bk,List.map_cons,List.mem_cons]
   split at h
   ·rename_i e; exact .inl e
   ·exact .inr (look_key h)
theorem eu (t t':Int):∀ {m:List (Int×β)},(bk m).Nodup→ak t' (delP t m) = if t' = t then none else ak t' m
 | [],_=>by simp [delP,ak]
 | (k, c) :: r, hn => by
   simp only [bk,List.map_cons,List.nodup_cons] at hn
   simp only [delP]
   by_cases h:t = k
   ·subst h
    rw [if_pos rfl]
    simp only [ak]
    by_cases h1:t' = t
    ·subst h1; rw [if_pos rfl]; exact pm hn.1
    ·rw [if_neg h1,if_neg h1]
   ·rw [if_neg h]
    simp only [ak]
    by_cases h1:t' = k
    ·subst h1
     have:¬ t' = t:=fun e=>h e.symm
     simp [this]
    ·rw [if_neg h1,if_neg h1]; exact eu t t' hn.2
theorem ew (t:Int) (b:β):∀ m:List (Int×β),(updP t b m).length = if (ak t m).isSome then m.length else m.length + 1
 | []=>by simp [updP,ak]
 | (k, c) :: r => by
   simp only [updP,ak]
   by_cases h:t = k
   ·simp [h]
   ·simp only [if_neg h,List.length_cons,ew t b r]
    split <;> rfl
theorem mh (t:Int):∀ m:List (Int×β),(delP t m).length = if (ak t m).isSome then m.length - 1 else m.length
 | []=>by simp [delP,ak]
 | (k, c) :: r => by
   simp only [delP,ak]
   by_cases h:t = k
   ·simp [h]
   ·simp only [if_neg h,List.length_cons,mh t r]
    split
    ·rename_i q
     have:r≠[]:=by rintro rfl; simp [ak] at q
     have:=List.length_pos_iff.2 this
     omega
    ·rfl
theorem nI (t:Int) (b:β):∀ m:List (Int×β),bk (updP t b m) = if (ak t m).isSome then bk m else bk m++[t]
 | []=>by simp [updP,ak,bk]
 | (k, c) :: r => by
   simp only [updP,ak]
   by_cases h:t = k
   ·simp [h,bk]
   ·have:=nI t b r
    simp only [bk] at this
    simp only [if_neg h,bk,List.map_cons,this]
    split <;> rfl
theorem ku (t x:Int):∀ {m:List (Int×β)},x ∈ bk (delP t m)→x ∈ bk m
 | [],h=>h
 | (k, c) :: r, h => by
   simp only [delP] at h
   simp only [bk,List.map_cons,List.mem_cons]
   split at h
   ·exact .inr h
   ·simp only [bk,List.map_cons,List.mem_cons] at h
    rcases h with h | h
    ·exact .inl h
    ·exact .inr (ku t x h)
theorem lm {t:Int} {b:β} {m:List (Int×β)} (h:(bk m).Nodup):(bk (updP t b m)).Nodup:=by
 rw [nI]
 split
 ·exact h
 ·rename_i hs
  refine List.nodup_append.2 ⟨h,by simp,?_⟩
  intro x hx y hy
  simp only [List.mem_singleton] at hy
  subst hy
  rintro rfl
  have:∀ m:List (Int×β),x ∈ bk m→(ak x m).isSome = true:=by
   intro m
   induction m with
   | nil=>intro h; simp [bk] at h
   | cons p r ih =>
     obtain ⟨k,c⟩:=p
     intro h
     simp only [bk,List.map_cons,List.mem_cons] at h
     simp only [ak]
     split
     ·rfl
     ·rename_i hne
      rcases h with h | h
      ·exact absurd h hne
      ·exact ih h
  exact hs (this m hx)
theorem iU {t:Int}:∀ {m:List (Int×β)},(bk m).Nodup→(bk (delP t m)).Nodup
 | [],h=>h
 | (k, c) :: r, h => by
   simp only [bk,List.map_cons,List.nodup_cons] at h
   simp only [delP]
   split
   ·exact h.2
   ·simp only [bk,List.map_cons,List.nodup_cons]
    exact ⟨fun e=>h.1 (ku t k e),iU h.2⟩
def encE (k:IntKind) (ev:β→AV) (p:Int×β):AV×AV:=(.lit (.int k p.1),ev p.2)
def encM (k:IntKind) (ev:β→AV) (m:List (Int×β)):List (AV×AV):=m.map (encE k ev)
theorem iV (k:IntKind) (ev:β→AV) (t:Int):∀ (m:List (Int×β)) (i:Nat),cN (.lit (.int k t)) (encM k ev m) i = .ok ((gc t m i).map fun p=>(p.1,ev p.2))
 | [],_=>rfl
 | (q, b) :: r, i => by
   have ih:=iV k ev t r (i + 1)
   simp only [encM,List.map_cons,encE,cN,cM,if_true,gc] at ih ⊢
   by_cases h:t = q
   ·subst h; simp
   ·have:(t == q) = false:=by simpa using h
    simp only [this,if_neg h,Bool.false_eq_true,if_false]
    exact ih
end
section
variable {st st':St} {id q:Nat}
theorem getM_lt {es:List (AV×AV)} (h:st.getM id = some es):id < st.boxes.length:=by
 unfold St.getM at h
 split at h
 ·rename_i hb
  exact (List.getElem?_eq_some_iff.1 hb).1
 ·cases h
theorem cg (h:st'.boxes[id]? = st.boxes[id]?):st'.get id = st.get id:=by unfold St.get; rw [h]
theorem getM_at (h:st'.boxes[id]? = st.boxes[id]?):st'.getM id = st.getM id:=by unfold St.getM; rw [h]
theorem qr (h:st'.boxes[id]? = st.boxes[id]?):st'.getB id = st.getB id:=by unfold St.getB; rw [h]
theorem dD {cs:List AV} (h:id≠q):(st.set q cs).boxes[id]? = st.boxes[id]?:=by simp [St.set,List.getElem?_set_ne (fun e=>h e.symm)]
theorem qs {es:List (AV×AV)} {bs:List Nat} {c:Nat} (h:id≠q):(st.setM q es bs c).boxes[id]? = st.boxes[id]?:=by simp [St.setM,List.getElem?_set_ne (fun e=>h e.symm)]
theorem bI {b:Box} (h:id < st.boxes.length):(st.push b).boxes[id]? = st.boxes[id]?:=by simp [St.push,List.getElem?_append_left h]
theorem ln {es:List (AV×AV)} {bs:List Nat} {c:Nat} (h:id < st.boxes.length):(st.setM id es bs c).getM id = some es:=by simp [St.setM,St.getM,h]
theorem dM {es:List (AV×AV)} {bs:List Nat} {c:Nat} (h:id < st.boxes.length):(st.setM id es bs c).getB id = (bs,c):=by simp [St.setM,St.getB,h]
theorem get_mt {es:List (AV×AV)} (h:st.getM id = some es):st.get id = none:=by
 unfold St.getM at h; unfold St.get
 split at h
 ·rename_i hb; simp [hb]
 ·cases h
end
theorem St.sub_push (st:St) (b:Box):St.sub st (st.push b):=fun id x h=>by
 rw [bI (List.getElem?_eq_some_iff.1 h).1]; exact h
theorem St.sub_of {st st':St} (h:∀ id,id < st.boxes.length→st'.boxes[id]? = st.boxes[id]?):St.sub st st':=fun id x hx=>by
 rw [h id (List.getElem?_eq_some_iff.1 hx).1]; exact hx
def Oth (st st':St) (S:List Nat):Prop:=st'.boxes.length = st.boxes.length∧∀ id,id ∉ S→st'.boxes[id]? = st.boxes[id]?
theorem Oth.refl (st:St) (S:List Nat):Oth st st S:=⟨rfl,fun _ _=>rfl⟩
theorem Oth.trans {a b c:St} {S:List Nat} (h:Oth a b S) (k:Oth b c S):Oth a c S:=⟨k.1.trans h.1,fun id hid=>(k.2 id hid).trans (h.2 id hid)⟩
theorem Oth.mono {a b:St} {S S':List Nat} (h:Oth a b S) (hs:∀ x ∈ S,x ∈ S'):Oth a b S':=⟨h.1,fun id hid=>h.2 id fun e=>hid (hs id e)⟩
theorem Oth.set (st:St) (q:Nat) (cs:List AV) {S:List Nat} (h:q ∈ S):Oth st (st.set q cs) S:=⟨kr ..,fun id hid=>dD fun e=>hid (e ▸ h)⟩
theorem Oth.get {a b:St} {S:List Nat} (h:Oth a b S) {id:Nat} (hid:id ∉ S):b.get id = a.get id:=cg (h.2 id hid)
section
variable {β:Type}
structure MapIs (st:St) (id:Nat) (k:IntKind) (ev:β→AV) (m:List (Int×β)):Prop where
 get:st.getM id = some (encM k ev m)
 nd:(bk m).Nodup
 bl:(st.getB id).1.length = m.length
 bn:(st.getB id).1.Nodup
 bc:∀ b ∈ (st.getB id).1,b < (st.getB id).2
variable {st st':St} {id:Nat} {k:IntKind} {ev:β→AV} {m:List (Int×β)}
theorem MapIs.lt (h:MapIs st id k ev m):id < st.boxes.length:=getM_lt h.get
theorem MapIs.at (h:MapIs st id k ev m) (hb:st'.boxes[id]? = st.boxes[id]?):MapIs st' id k ev m:=by
 refine ⟨(getM_at hb).trans h.get,h.nd,?_,?_,?_⟩ <;> rw [qr hb]
 ·exact h.bl
 ·exact h.bn
 ·exact h.bc
theorem MapIs.set (h:MapIs st id k ev m) {q:Nat} {cs:List AV} (hq:id≠q):MapIs (st.set q cs) id k ev m:=h.at (dD hq)
theorem MapIs.push (h:MapIs st id k ev m) (b:Box):MapIs (st.push b) id k ev m:=h.at (bI h.lt)
theorem MapIs.ne (h:MapIs st id k ev m) {q:Nat} {cs:List AV} (hq:st.get q = some cs):id≠q:=by
 rintro rfl
 rw [get_mt h.get] at hq; cases hq
theorem cU (h:MapIs st id k ev m) {z:AV} {ok:Bool} {t:Int}:cr (.int k) z ok st (.map id) (.lit (.int k t)) = .ok (match ak t m with
  | some b=>if ok then .tup [(ev b).dis,.lit (.bool true)] else (ev b).dis
  | none=>if ok then .tup [z,.lit (.bool false)] else z):=by
 have hk:keyI (.int k) (.lit (.int k t)) = true:=by simp [keyI]
 unfold cr
 rw [if_pos hk]
 simp only [h.get,Res.ofOpt,Res.bind,iV]
 rw [← fL t m 0]
 cases gc t m 0 <;> rfl
theorem e9 (h:MapIs st id k ev m) {t:Int} {b:β} {x:AV} (hx:x.solid = true) (hd:x.dis = ev b) {K:Sf→St→Prop} {sf:Sf}
  (hK:∀ st',MapIs st' id k ev (updP t b m)→Oth st st' [id]→K sf st'):updX false (.int k) (.map id) (.lit (.int k t)) x K sf st:=by
 refine ⟨by simp [keyI],rfl,hx,?_⟩
 have hlt:=h.lt
 simp only [h.get,Res.ofOpt,Res.wp,iV,hd]
 have hu:=lk (encE k ev) t b m 0
 cases hf:gc t m 0 with
 | none =>
   rw [hf] at hu
   simp only [Option.map_none,St.updM,updA]
   have hno:ak t m = none:=by rw [← fL t m 0,hf]; rfl
   refine hK _ ⟨?_,lm h.nd,?_,?_,?_⟩ ⟨by simp [St.setM],fun q hq=>qs (by simpa using hq)⟩
   ·rw [ln hlt]; exact congrArg some hu.1
   ·rw [dM hlt,ew,hno]; simp [h.bl]
   ·rw [dM hlt]
    refine List.nodup_append.2 ⟨h.bn,by simp,fun x hx y hy e=>?_⟩
    simp only [List.mem_singleton] at hy
    subst hy; subst e
    exact Nat.lt_irrefl _ (h.bc _ hx)
   ·rw [dM hlt]
    intro b hb
    simp only [List.mem_append,List.mem_singleton] at hb
    rcases hb with hb | rfl
    ·have:=h.bc b hb; simp only; omega
    ·simp
 | some p =>
   obtain ⟨j,c⟩:=p
   rw [hf] at hu
   simp only [Nat.sub_zero] at hu
   simp only [Option.map_some,St.updM,updA]
   have hyes:(ak t m).isSome = true:=by rw [← fL t m 0,hf]; rfl
   refine hK _ ⟨?_,lm h.nd,?_,?_,?_⟩ ⟨by simp [St.setM],fun q hq=>qs (by simpa using hq)⟩
   ·rw [ln hlt]; exact congrArg some hu.2.1
   ·rw [dM hlt,ew,if_pos hyes]; exact h.bl
   ·rw [dM hlt]; exact h.bn
   ·rw [dM hlt]; exact h.bc
theorem iF (h:MapIs st id k ev m) {t:Int} {K:Sf→St→Prop} {sf:Sf}
  (hK:∀ st',MapIs st' id k ev (delP t m)→Oth st st' [id]→K sf st'):delX false (.int k) (.map id) (.lit (.int k t)) K sf st:=by
 refine ⟨by simp [keyI],rfl,?_⟩
 have hlt:=h.lt
 simp only [h.get,Res.ofOpt,Res.wp,iV]
 cases hf:gc t m 0 with
 | none =>
   have hu:delP t m = m:=by
    have:∀ (m:List (Int×β)) (i:Nat),gc t m i = none→delP t m = m:=by
     intro m
     induction m with
     | nil=>intro i _; rfl
     | cons p r ih =>
       obtain ⟨k,c⟩:=p
       intro i h
       simp only [gc] at h
       simp only [delP]
       split at h
       ·cases h
       ·rename_i hne; rw [if_neg hne,ih (i + 1) h]
    exact this m 0 hf
   simp only [Option.map_none]
   exact hK _ (by rw [hu]; exact h) (Oth.refl _ _)
 | some p =>
   obtain ⟨j,c⟩:=p
   have hu:=lk (encE k ev) t c m 0
   rw [hf] at hu
   simp only [Nat.sub_zero] at hu
   simp only [Option.map_some,St.delM]
   have hyes:(ak t m).isSome = true:=by rw [← fL t m 0,hf]; rfl
   refine hK _ ⟨?_,iU h.nd,?_,?_,?_⟩ ⟨by simp [St.setM],fun q hq=>qs (by simpa using hq)⟩
   ·rw [ln hlt]; exact congrArg some hu.2.2.1
   ·rw [dM hlt,mh,if_pos hyes]
    simp only [List.length_eraseIdx,h.bl,if_pos hu.2.2.2]
   ·rw [dM hlt]; exact h.bn.sublist (List.eraseIdx_sublist ..)
   ·rw [dM hlt]; exact fun b hb=>h.bc b (List.mem_of_mem_eraseIdx hb)
theorem kw (h:MapIs st id k ev m):lenI .mp st (.map id) = .ok (.lit (.int .i64 m.length)):=by
 simp only [lenI,h.get,Res.ofOpt,Res.bind,encM,List.length_map]
theorem MapIs.clone (h:MapIs st id k ev m):MapIs (st.push (.mp (encM k ev m) (st.getB id).1 (st.getB id).2)) st.boxes.length k ev m:=by
 refine ⟨ph ..,h.nd,?_,?_,?_⟩ <;> rw [pi]
 ·exact h.bl
 ·exact h.bn
 ·exact h.bc
theorem MapIs.new (st:St) (k:IntKind) (ev:β→AV):MapIs (st.push (.mp [] [] 0)) st.boxes.length k ev []:=by
 refine ⟨ph ..,by simp [bk],?_,?_,?_⟩ <;> rw [pi] <;> simp
end
theorem al {P:Program} {X:Cx} {f:FuncId} {fn:AFun} {vs:List AV} {st:St} (hmix:P.follows .mixedOrders = true) (hf:ix P X f = some fn) (hX:X.F = id) (hlen:Nat.ble vs.length fn.n = true) {v0:AV} (h:∀ Q:AV→St→Prop,(∀ st',Q v0 st')→aFun P id true fn vs st Q):aw P f vs st v0:=by
 refine pcalls_of hmix hf (Nat.le_of_ble_eq_true hlen) ?_
 rw [hX]; exact h _ fun _=>rfl
end Go.Fx
namespace Go.Fx
open Go
abbrev Nd:=Int×Nat×Nat
abbrev Qu:=List (Nat×Int)
def aP:Qu→Nat→Nat
 | [],h=>h
 | (x,_)::_,_=>x
def aO:Nat→Qu→Nat
 | p,[]=>p
 | _,(t,_)::r=>aO t r
def bu:Nat→Qu→Nat→Nat→Option Nd
 | _,[],_,_=>none
 | p,(u,v)::r,h,t=>if t = u then some (v,p,aP r h) else bu u r h t
def aS (L:Qu):List Nat:=L.map Prod.fst
theorem gC (B:Qu) (h t:Nat):∀ (A:Qu) (p:Nat),bu p (A++B) h t = match bu p A (aP B h) t with | some x=>some x | none=>bu (aO p A) B h t
 | [],p=>rfl
 | (u, v) :: A, p => by
   simp only [List.cons_append,bu,aO]
   split
   ·cases A <;> rfl
   ·exact gC B h t A u
theorem dh {h t:Nat}:∀ {L:Qu} {p:Nat},t ∉ aS L→bu p L h t = none
 | [],_,_=>rfl
 | (u, v) :: r, p, hn => by
   simp only [aS,List.map_cons,List.mem_cons,not_or] at hn
   simp only [bu]
   rw [if_neg hn.1]
   exact dh hn.2
theorem fa:∀ {L:Qu} {p:Nat},L≠[]→aO p L ∈ aS L
 | [(t,v)],p,_=>by simp [aO,aS]
 | (t, v) :: y :: r, p, _ => by
   have:=fa (L:=y::r) (p:=t) (by simp)
   simp only [aO,aS,List.map_cons,List.mem_cons] at this ⊢
   exact .inr this
theorem gD (B:Qu):∀ (A:Qu) (p:Nat),aO p (A++B) = aO (aO p A) B
 | [],_=>rfl
 | (t,v)::A,p=>gD B A t
theorem last_ne {L:Qu} {p p':Nat} (h:L≠[]):aO p L = aO p' L:=by
 cases L with
 | nil=>exact absurd rfl h
 | cons x r=>rfl
theorem qt {h h' t:Nat}:∀ {L:Qu} {p:Nat},(aS L).Nodup→L≠[]→bu p L h' t = if t = aO p L then (bu p L h t).map (fun x=>(x.1,x.2.1,h')) else bu p L h t
 | [(u, v)], p, _, _ => by
   simp only [bu,aO,aP]
   by_cases e:t = u
   ·simp [e]
   ·simp [e]
 | (u, v) :: (u2, v2) :: r, p, hn, _ => by
   have ih:=qt (h:=h) (h':=h') (t:=t) (L:=(u2,v2)::r) (p:=u) (List.nodup_cons.1 hn).2 (by simp)
   have hl:=fa (L:=(u2,v2)::r) (p:=u) (by simp)
   have hne:u≠aO u ((u2,v2)::r):=fun e=>(List.nodup_cons.1 hn).1 (by rw [e]; exact hl)
   have e0:∀ q,bu p ((u,v)::(u2,v2)::r) q t = if t = u then some (v,p,u2) else bu u ((u2,v2)::r) q t:=fun q=>rfl
   rw [e0,e0,show aO p ((u,v)::(u2,v2)::r) = aO u ((u2,v2)::r) from rfl]
   by_cases e:t = u
   ·subst e; rw [if_pos rfl,if_pos rfl,if_neg hne]
   ·rw [if_neg e,if_neg e]; exact ih
theorem nodeA_p {h t p p':Nat} {u:Nat} {v:Int} {r:Qu} (hn:(aS ((u,v)::r)).Nodup):bu p' ((u,v)::r) h t = if t = u then (bu p ((u,v)::r) h t).map (fun x=>(x.1,p',x.2.2)) else bu p ((u,v)::r) h t:=by
 simp only [bu]
 by_cases e:t = u
 ·simp [e]
 ·simp [e]
theorem nodeA_push {L:Qu} {u:Nat} {v:Int} {t:Nat} (hn:(aS L).Nodup) (hu:u ∉ aS L) (hL:L≠[]) :
  bu 0 (L++[(u,v)]) 0 t = if t = aO 0 L then (bu 0 L 0 t).map (fun x=>(x.1,x.2.1,u)) else if t = u then some (v,aO 0 L,0) else bu 0 L 0 t:=by
 rw [gC]
 simp only [aP,bu]
 have hl:=fa (p:=0) hL
 rw [qt (h:=0) hn hL]
 by_cases e:t = aO 0 L
 ·rw [if_pos e,if_pos e]
  cases hx:bu 0 L 0 t with
  | some x=>rfl
  | none =>
    exfalso
    have:∀ (L:Qu) (p:Nat),t ∈ aS L→bu p L 0 t≠none:=by
     intro L
     induction L with
     | nil=>intro p h; simp [aS] at h
     | cons y r ih =>
       obtain ⟨a,b⟩:=y
       intro p h
       simp only [bu]
       split
       ·simp
       ·rename_i hne
        simp only [aS,List.map_cons,List.mem_cons] at h
        exact ih a (h.resolve_left hne)
    exact this L 0 (e ▸ hl) hx
 ·rw [if_neg e,if_neg e]
  by_cases e2:t = u
  ·subst e2; rw [dh hu]
   try simp
  ·simp only [if_neg e2]
   cases bu 0 L 0 t <;> rfl
theorem nodeA_del {A B:Qu} {u:Nat} {v:Int} {t:Nat} (hn:(aS (A++(u,v)::B)).Nodup) :
  bu 0 (A++B) 0 t = if t = u then none else
   if A≠[]∧t = aO 0 A then (bu 0 (A++(u,v)::B) 0 t).map (fun x=>(x.1,x.2.1,aP B 0)) else
   if B≠[]∧t = aP B 0 then (bu 0 (A++(u,v)::B) 0 t).map (fun x=>(x.1,aO 0 A,x.2.2)) else bu 0 (A++(u,v)::B) 0 t:=by
 have h1:(aS A).Nodup∧(aS ((u,v)::B)).Nodup∧∀ x ∈ aS A,∀ y ∈ aS ((u,v)::B),x≠y:=by
  simp only [aS,List.map_append] at hn
  exact List.nodup_append.1 hn
 obtain ⟨hA,hB0,hAB⟩:=h1
 have hB:=List.nodup_cons.1 hB0
 have hu:u ∉ aS A:=fun e=>hAB u e u (by simp [aS]) rfl
 rw [gC,gC,show aP ((u,v)::B) 0 = u from rfl]
 by_cases e:t = u
 ·subst e
  rw [if_pos rfl,dh hu]
  exact dh hB.1
 ·rw [if_neg e]
  have e1:bu (aO 0 A) ((u,v)::B) 0 t = bu u B 0 t:=by simp only [bu]; rw [if_neg e]
  rw [e1]
  by_cases hAe:A = []
  ·subst hAe
   simp only [bu,aO,ne_eq,not_true_eq_false,false_and,if_false]
   cases B with
   | nil=>simp [bu]
   | cons y r =>
     obtain ⟨w,z⟩:=y
     rw [nodeA_p (p:=u) (p':=0) hB.2]
     simp [show aP ((w,z)::r) 0 = w from rfl]
  ·rw [qt (h:=u) (h':=aP B 0) hA hAe]
   by_cases e2:t = aO 0 A
   ·have hin:t ∈ aS A:=e2 ▸ fa hAe
    rw [if_pos e2,if_pos ⟨hAe,e2⟩]
    cases hx:bu 0 A u t with
    | some x=>rfl
    | none =>
      have hnb:t ∉ aS B:=fun hb=>hAB t hin t (by simp only [aS,List.map_cons,List.mem_cons]; exact .inr hb) rfl
      simp only [Option.map_none,dh hnb]
   ·rw [if_neg e2,if_neg (fun q=>e2 q.2)]
    cases B with
    | nil=>simp [bu]
    | cons y r =>
      obtain ⟨w,z⟩:=y
      rw [nodeA_p (p:=u) (p':=aO 0 A) hB.2]
      simp only [show aP ((w,z)::r) 0 = w from rfl,ne_eq,reduceCtorEq,not_false_eq_true,true_and]
      by_cases e3:t = w
      ·have hna:t ∉ aS A:=fun ha=>hAB t ha t (by simp [aS,e3]) rfl
       rw [if_pos e3,if_pos e3,dh hna]
      ·rw [if_neg e3,if_neg e3]
theorem nodeA_at {A B:Qu} {u:Nat} {v:Int} (hu:u ∉ aS A):bu 0 (A++(u,v)::B) 0 u = some (v,aO 0 A,aP B 0):=by
 rw [gC,dh hu]
 simp [bu]
def ndAV (x:Nd):AV:=.agg [.lit (.int .i64 x.1),.lit (.int .u64 (x.2.1:Nat)),.lit (.int .u64 (x.2.2:Nat))]
theorem ndAV_dis (x:Nd):(ndAV x).dis = ndAV x:=rfl
structure QIs (st:St) (q mid:Nat) (L:Qu) (g:Nat):Prop where
 get:st.get q = some [.lit (.int .u64 (aP L 0:Nat)),.lit (.int .u64 (aO 0 L:Nat)),.lit (.int .u64 (g:Nat)),.map mid]
 mp:∃ m,MapIs st mid .u64 ndAV m∧(∀ t:Nat,ak t m = bu 0 L 0 t)∧m.length = L.length
 srt:(aS L).Pairwise (· < ·)
 pos:∀ t ∈ aS L,0 < t∧t≤g
theorem QIs.nd {st:St} {q mid g:Nat} {L:Qu} (h:QIs st q mid L g):(aS L).Nodup:=h.srt.imp fun h=>Nat.ne_of_lt h
theorem QIs.ne {st:St} {q mid g:Nat} {L:Qu} (h:QIs st q mid L g):mid≠q:=by
 obtain ⟨m,hm,_⟩:=h.mp
 exact hm.ne h.get
theorem QIs.ltq {st:St} {q mid g:Nat} {L:Qu} (h:QIs st q mid L g):q < st.boxes.length:=bO h.get
theorem QIs.ltm {st:St} {q mid g:Nat} {L:Qu} (h:QIs st q mid L g):mid < st.boxes.length:=by
 obtain ⟨m,hm,_⟩:=h.mp
 exact hm.lt
theorem QIs.at {st st':St} {q mid g:Nat} {L:Qu} (h:QIs st q mid L g) (h1:st'.boxes[q]? = st.boxes[q]?) (h2:st'.boxes[mid]? = st.boxes[mid]?):QIs st' q mid L g:=by
 obtain ⟨m,hm,h3,h4⟩:=h.mp
 exact ⟨(cg h1).trans h.get,⟨m,hm.at h2,h3,h4⟩,h.srt,h.pos⟩
theorem QIs.nil_iff {st:St} {q mid g:Nat} {L:Qu} (h:QIs st q mid L g):(aP L 0 = 0↔L = [])∧(aO 0 L = 0↔L = []):=by
 cases L with
 | nil=>simp [aP,aO]
 | cons x r =>
   obtain ⟨t,v⟩:=x
   have h1:=h.pos t (by simp [aS])
   have h2:=h.pos _ (fa (L:=(t,v)::r) (p:=0) (by simp))
   simp only [aP,reduceCtorEq,iff_false]
   omega
theorem fM {t:Nat}:∀ {L:Qu} {p:Nat},t ∈ aS L→∃ x,bu p L 0 t = some x
 | (u, v) :: r, p, h => by
   simp only [bu]
   split
   ·exact ⟨_,rfl⟩
   ·rename_i hne
    simp only [aS,List.map_cons,List.mem_cons] at h
    exact fM (h.resolve_left hne)
theorem cV (A B:Qu):aS (A++B) = aS A++aS B:=by simp [aS]
theorem QIs.clone {st st':St} {q mid q' mid' g:Nat} {L:Qu} (h:QIs st q mid L g) (hg:st'.get q' = some [.lit (.int .u64 (aP L 0:Nat)),.lit (.int .u64 (aO 0 L:Nat)),.lit (.int .u64 (g:Nat)),.map mid'])
  (hm:∀ m,MapIs st mid .u64 ndAV m→MapIs st' mid' .u64 ndAV m):QIs st' q' mid' L g:=by
 obtain ⟨m,h1,h2,h3⟩:=h.mp
 exact ⟨hg,⟨m,hm m h1,h2,h3⟩,h.srt,h.pos⟩
theorem nodeA_get {L:Qu} (hn:(aS L).Nodup) {i:Nat} (hi:i < L.length):bu 0 L 0 L[i].1 = some (L[i].2,aO 0 (L.take i),aP (L.drop (i + 1)) 0):=by
 have e:L = L.take i++(L[i].1,L[i].2)::L.drop (i + 1):=by
  rw [← List.drop_eq_getElem_cons hi,List.take_append_drop]
 have hno:L[i].1 ∉ aS (L.take i):=by
  intro hm
  have hn':=hn
  rw [e,cV] at hn'
  exact (List.nodup_append.1 hn').2.2 _ hm _ (by simp [aS]) rfl
 have:=nodeA_at (v:=L[i].2) (B:=L.drop (i + 1)) hno
 rw [← e] at this
 exact this
theorem nxt_drop {L:Qu} {i:Nat} (hi:i < L.length):aP (L.drop i) 0 = L[i].1:=by
 rw [List.drop_eq_getElem_cons hi]
 rfl
theorem tick_get {L:Qu} {i:Nat} (hi:i < L.length):L[i].1 ∈ aS L:=List.mem_map.2 ⟨L[i],List.getElem_mem hi,rfl⟩
theorem QIs.push {st st':St} {q mid g:Nat} {L:Qu} {v:Int} (h:QIs st q mid L g) {m':List (Int×Nd)} (hg:st'.get q = some [.lit (.int .u64 (aP (L++[(g + 1,v)]) 0:Nat)),.lit (.int .u64 ((g + 1:Nat))),.lit (.int .u64 ((g + 1:Nat))),.map mid])
  (hm:MapIs st' mid .u64 ndAV m') (hl:∀ t:Nat,ak t m' = bu 0 (L++[(g + 1,v)]) 0 t) (hn:m'.length = L.length + 1):QIs st' q mid (L++[(g + 1,v)]) (g + 1):=by
 refine ⟨by rw [gD]; exact hg,⟨m',hm,hl,by simp [hn]⟩,?_,fun t ht=>?_⟩
 ·rw [cV]
  refine List.pairwise_append.2 ⟨h.srt,by simp [aS],fun x hx y hy=>?_⟩
  simp only [aS,List.map_cons,List.map_nil,List.mem_singleton] at hy
  have:=(h.pos x hx).2
  omega
 ·rw [cV] at ht
  rcases List.mem_append.1 ht with ht | ht
  ·have:=h.pos t ht; omega
  ·simp only [aS,List.map_cons,List.map_nil,List.mem_singleton] at ht
   omega
theorem QIs.fresh {st:St} {q mid g:Nat} {L:Qu} (h:QIs st q mid L g):g + 1 ∉ aS L:=fun e=>by have:=(h.pos _ e).2; omega
theorem QIs.del {st st':St} {q mid g:Nat} {A B:Qu} {t:Nat} {v:Int} (h:QIs st q mid (A++(t,v)::B) g) {m':List (Int×Nd)} (hg:st'.get q = some [.lit (.int .u64 (aP (A++B) 0:Nat)),.lit (.int .u64 (aO 0 (A++B):Nat)),.lit (.int .u64 (g:Nat)),.map mid])
  (hm:MapIs st' mid .u64 ndAV m') (hl:∀ t:Nat,ak t m' = bu 0 (A++B) 0 t) (hn:m'.length = (A++B).length):QIs st' q mid (A++B) g:=by
 have hsub:(aS (A++B)).Sublist (aS (A++(t,v)::B)):=by
  simp only [cV]
  exact List.Sublist.append (List.Sublist.refl _) (List.sublist_cons_self _ _)
 exact ⟨hg,⟨m',hm,hl,hn⟩,h.srt.sublist hsub,fun x hx=>h.pos x (hsub.subset hx)⟩
end Go.Fx
namespace Go.Fx
open Go
abbrev W3:=Nat×Int×Int
structure ChP where
 closed:Bool
 cap:Nat
 buf:List Int
 S:List W3
 V:List W3
 g0:Nat
 g1:Nat
def qOf (l:List W3):Qu:=l.map fun x=>(x.1,x.2.1)
def wEnt (d:Int) (l:List W3):List (Int×(Int×Int×Nat)):=l.map fun x=>(x.2.1,(d,x.2.2,x.1))
def entC (S V:List W3):List (Int×(Int×Int×Nat)):=wEnt 0 S++wEnt 1 V
def wtAV (x:Int×Int×Nat):AV:=.agg [.lit (.int .i64 x.1),.lit (.int .i64 x.2.1),.lit (.int .u64 (x.2.2:Nat))]
def ints (l:List Int):List AV:=l.map fun v=>.lit (.int .i64 v)
def ah:AV→List Nat
 | .bs id _ _ _ _=>[id]
 | _=>[]
structure ChIs (st:St) (c:Nat) (P:ChP) (q0 m0 q1 m1 wid:Nat) (bv:AV):Prop where
 get:st.get c = some [.lit (.bool true),.lit (.bool P.closed),.lit (.int .i64 (P.cap:Nat)),bv,.ptr q0 0,.ptr q1 0,.map wid]
 buf:MB bv st (ints P.buf)
 s:QIs st q0 m0 (qOf P.S) P.g0
 r:QIs st q1 m1 (qOf P.V) P.g1
 w:∃ W,MapIs st wid .i64 wtAV W∧∀ t,ak t W = ak t (entC P.S P.V)
 ids:[c,q0,q1,m0,m1,wid].Nodup
 bid:∀ x ∈ ah bv,x ∉ [c,q0,q1,m0,m1,wid]
 nd:(bk (entC P.S P.V)).Nodup
 rng:∀ t ∈ bk (entC P.S P.V),0≤t∧t < 64
 zv:∀ x ∈ P.V,x.2.2 = 0
def Kp (st st':St) (F:List Nat):Prop:=st.boxes.length≤st'.boxes.length∧∀ id,id < st.boxes.length→id ∉ F→st'.boxes[id]? = st.boxes[id]?
theorem Kp.refl (st:St) (F:List Nat):Kp st st F:=⟨Nat.le_refl _,fun _ _ _=>rfl⟩
theorem Kp.trans {a b c:St} {F F':List Nat} (h:Kp a b F) (k:Kp b c F') (hf:∀ x ∈ F',x ∈ F∨a.boxes.length≤x):Kp a c F :=
 ⟨Nat.le_trans h.1 k.1,fun id hid hn=>(k.2 id (Nat.lt_of_lt_of_le hid h.1) fun e=>(hf id e).elim hn (fun q=>by omega)).trans (h.2 id hid hn)⟩
theorem Oth.kp {st st':St} {S F:List Nat} (h:Oth st st' S) (hs:∀ x ∈ S,x ∈ F):Kp st st' F:=⟨Nat.le_of_eq h.1.symm,fun id _ hn=>h.2 id fun e=>hn (hs id e)⟩
theorem MB.at {v:AV} {st st':St} {l:List AV} (h:MB v st l) (hb:∀ x ∈ ah v,st'.boxes[x]? = st.boxes[x]?):MB v st' l:=by
 rcases h with ⟨rfl,rfl⟩ | ⟨id,cap,r,rfl,hg,h1,h2⟩
 ·exact .inl ⟨rfl,rfl⟩
 ·exact .inr ⟨id,cap,r,rfl,(cg (hb id (by simp [ah]))).trans hg,h1,h2⟩
theorem MB.lt {v:AV} {st:St} {l:List AV} (h:MB v st l):∀ x ∈ ah v,x < st.boxes.length:=by
 rcases h with ⟨rfl,rfl⟩ | ⟨id,cap,r,rfl,hg,h1,h2⟩
 ·simp [ah]
 ·intro x hx
  simp only [ah,List.mem_singleton] at hx
  subst hx
  exact bO hg
section
variable {st st':St} {c q0 m0 q1 m1 wid:Nat} {bv:AV} {P:ChP}
theorem ChIs.lts (h:ChIs st c P q0 m0 q1 m1 wid bv):∀ x ∈ [c,q0,q1,m0,m1,wid]++ah bv,x < st.boxes.length:=by
 obtain ⟨W,hW,_⟩:=h.w
 intro x hx
 simp only [List.mem_append,List.mem_cons,List.not_mem_nil,or_false] at hx
 rcases hx with (rfl | rfl | rfl | rfl | rfl | rfl) | hx
 ·exact bO h.get
 ·exact h.s.ltq
 ·exact h.r.ltq
 ·exact h.s.ltm
 ·exact h.r.ltm
 ·exact hW.lt
 ·exact h.buf.lt x hx
end
theorem MB.grow {v:AV} {st:St} {l new:List AV} {bytes:Nat} {C:AV→St→Prop} (h:MB v st l) (hl:Lits l) (hn:Lits new) (hr:eU (l.length + new.length) bytes = true)
  (hC:∀ v' st',MB v' st' (l++new)→Kp st st' (ah v)→(∀ x ∈ ah v',x ∈ ah v∨st.boxes.length≤x)→C v' st'):appX false 1 bytes v C st new:=by
 rcases h with ⟨rfl,rfl⟩ | ⟨id,cap,r,rfl,hg,h1,h2⟩
 ·refine ⟨rfl,by simpa using hr,?_⟩
  split
  ·rename_i h
   have:new = []:=by simpa using h
   subst this
   exact hC _ _ (.inl ⟨rfl,rfl⟩) (Kp.refl _ _) (by simp [ah])
  ·intro c hc
   refine hC _ _ (.inr ⟨st.boxes.length,c,List.replicate (c - new.length) .any,by simp,?_,by simpa using hc,by simp; omega⟩) ⟨by simp [St.push],fun id hid _=>bI hid⟩ (by simp [ah])
   rw [hn.cellsD]
   simp only [List.nil_append,Nat.mul_one]
   exact bU st _
 ·refine ⟨rfl,rfl,hr,?_⟩
  rw [hg]
  show (Res.ok _).wp _
  rw [o8,hn.cellsD]
  have hid:=bO hg
  split
  ·rename_i hc
   refine ⟨by omega,hC _ _ (.inr ⟨id,cap,r.drop new.length,by simp,?_,by simpa using hc,?_⟩) ⟨by simp [St.set],fun id' _ hne=>dD (by simpa [ah] using hne)⟩ (by simp [ah])⟩
   ·rw [aZ hid,Nat.zero_add,Nat.mul_one,gB rfl (by simp at h2; omega)]
    simp
   ·simp at h2 ⊢; omega
  ·rename_i hc
   have e:List.map AV.own1 (List.take (l.length * 1) (List.drop 0 (l++r))) = l:=by simp [hl.own]
   refine ⟨by simp,fun c hc=>hC _ _ (.inr ⟨st.boxes.length,c,List.replicate (c - (l.length + new.length)) .any,by simp,?_,by simpa using hc,by simp; omega⟩) ⟨by simp [St.push],fun id' hid' _=>bI hid'⟩ (by simp [ah])⟩
   rw [e]
   simp only [Nat.mul_one]
   exact bU st _
def foot (c q0 m0 q1 m1 wid:Nat) (bv:AV):List Nat:=[c,q0,q1,m0,m1,wid]++ah bv
def ChPost (st:St) (c:Nat) (P:ChP) (q0 m0 q1 m1 wid:Nat) (bv:AV) (st':St):Prop :=
 ∃ bv',ChIs st' c P q0 m0 q1 m1 wid bv'∧Kp st st' (foot c q0 m0 q1 m1 wid bv)∧∀ x ∈ ah bv',x ∈ ah bv∨st.boxes.length≤x
theorem ChIs.post {st st':St} {c q0 m0 q1 m1 wid:Nat} {bv:AV} {P:ChP} (h:ChIs st' c P q0 m0 q1 m1 wid bv) (hk:Kp st st' (foot c q0 m0 q1 m1 wid bv)):ChPost st c P q0 m0 q1 m1 wid bv st':=⟨bv,h,hk,fun _ h=>.inl h⟩
theorem ChIs.rebufC {st st1:St} {c q0 m0 q1 m1 wid:Nat} {bv bv1:AV} {P:ChP} {cl:Bool} {b':List Int} (h:ChIs st c P q0 m0 q1 m1 wid bv) (hm:MB bv1 st1 (ints b')) (hk:Kp st st1 (ah bv)) (hb:∀ x ∈ ah bv1,x ∈ ah bv∨st.boxes.length≤x) :
  ChIs (st1.set c [.lit (.bool true),.lit (.bool cl),.lit (.int .i64 (P.cap:Nat)),bv1,.ptr q0 0,.ptr q1 0,.map wid]) c { P with buf:=b',closed:=cl } q0 m0 q1 m1 wid bv1 ∧
  Kp st (st1.set c [.lit (.bool true),.lit (.bool cl),.lit (.int .i64 (P.cap:Nat)),bv1,.ptr q0 0,.ptr q1 0,.map wid]) (foot c q0 m0 q1 m1 wid bv):=by
 have hlt:=h.lts
 have hids:=h.ids
 have hbid:=h.bid
 have hcl:c < st1.boxes.length:=Nat.lt_of_lt_of_le (hlt c (by simp)) hk.1
 simp only [List.nodup_cons,List.mem_cons,List.not_mem_nil,or_false,not_or] at hids
 have hat:∀ x ∈ [q0,q1,m0,m1,wid],(st1.set c [.lit (.bool true),.lit (.bool cl),.lit (.int .i64 (P.cap:Nat)),bv1,.ptr q0 0,.ptr q1 0,.map wid]).boxes[x]? = st.boxes[x]?:=by
  intro x hx
  rw [dD (by simp at hx; omega)]
  refine hk.2 x (hlt x (by simp at hx ⊢; omega)) fun e=>?_
  exact hbid x e (by simp at hx ⊢; omega)
 have hbc:∀ x ∈ ah bv1,x ∉ [c,q0,q1,m0,m1,wid]:=by
  intro x hx hin
  rcases hb x hx with e | e
  ·exact hbid x e hin
  ·have:=hlt x (List.mem_append_left _ hin); omega
 obtain ⟨W,hW,hl⟩:=h.w
 refine ⟨⟨aZ hcl,hm.at fun x hx=>dD fun e=>hbc x hx (by simp [e]),h.s.at (hat _ (by simp)) (hat _ (by simp)),h.r.at (hat _ (by simp)) (hat _ (by simp)),⟨W,hW.at (hat _ (by simp)),hl⟩,h.ids,hbc,h.nd,h.rng,h.zv⟩,⟨by rw [kr]; exact hk.1,fun x hx hn=>?_⟩⟩
 simp only [foot,List.mem_append,List.mem_cons,List.not_mem_nil,or_false,not_or] at hn
 rw [dD hn.1.1]
 exact hk.2 x hx hn.2
end Go.Fx
