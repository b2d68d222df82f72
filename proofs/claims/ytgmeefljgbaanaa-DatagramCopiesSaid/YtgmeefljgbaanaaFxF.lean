/- An evaluator for resolved code, proved against the model: part 6. -/
import Derived.Test.YtgmeefljgbaanaaFxE
namespace Go.Fx
open Go
section
variable {P:Program} {F:Nat→FuncId} {m:Bool} {b:AC} {lv ll:List Nat} {Q:Exit→Sf→St→Prop}
def stepQ{A:Type}(S:A→Sf)(T:A→St)(R:A→Prop)(lv ll:List Nat)(Q:Exit→Sf→St→Prop):Exit→Sf→St→Prop
 | .normal,sf,st=>∃a,R a∧Sf.le (sf.mask lv ll) (S a)∧st=T a
 |e,sf,st=>Q e sf st
theorem loop_for{A:Type}(μ:A→Nat)(S:A→Sf)(T:A→St)(I:A→Prop)(a0:A){sf:Sf}{st:St}(h0:I a0)(hs:Sf.le (sf.mask lv ll) (S a0))(ht:st=T a0)
  (step:∀a,I a→aC P F m b (S a) (T a) (stepQ S T (fun a'=>I a'∧μ a'<μ a) lv ll Q)):aH (aC P F m b) lv ll sf st Q:=by
 refine⟨fun k sf st=>∃a,I a∧μ a=k∧sf=S a∧st=T a,⟨μ a0,_,hs,a0,h0,rfl,rfl,ht⟩,?_⟩
 rintro k sf st ⟨a,ha,rfl,rfl,rfl⟩
 refine aC_mono (fun e sf st=>?_) (step a ha)
 cases e with
 |normal=>exact fun⟨a',⟨h1,h2⟩,h3,h4⟩=>⟨μ a',h2,S a',h3,a',h1,rfl,rfl,h4⟩
 |_=>exact fun q=>q
variable {A:Type} (S:A→Sf) (T:A→St) (R:A→Prop) (sf:Sf) (st:St)
end
section
variable {CB:Sf→St→(Exit→Sf→St→Prop)→Prop} {id:Nat} {r:Loop} {rs:List (Nat×AV)} {Q:Bool→St→Prop} {sf:Sf} {st:St}
theorem keep_eq(v:AV):v.keep=if v.noL=true then v.dis else .any:=rfl
theorem pE(sf:Sf):gc [] sf= []:=rfl
theorem nO(t:Nat)(l:List Nat)(sf:Sf):gc (t::l) sf=(t,(getR sf.regs t).keep)::gc l sf:=rfl
theorem setRs_nil(rg:List (Nat×AV))(vs:List AV):g9 rg [] vs=rg:=by cases vs<;>rfl
theorem setRs_cons(rg:List (Nat×AV))(p:Nat)(ps:List Nat)(v:AV)(vs:List AV):g9 rg (p::ps) (v::vs)=g9 (setR rg p v.dis) ps vs:=rfl
theorem iL:qp CB id r rs Q .normal sf st=(st.isLp id r rs∧CB sf (st.setL id (dS r) rs) (endI id r rs Q)):=rfl
theorem mc:endI id r rs Q .normal sf st=(st.isLp id (dS r) rs∧Q true (st.setL id r rs)):=rfl
theorem round_a{P:Program}{CA CB:Sf→St→(Exit→Sf→St→Prop)→Prop}{ps:List Nat}(hy:∀vs st' Q',qq CA CB ps id r rs vs st' Q'→gP P id vs st' Q'){vs:List AV}(hl:st.isLp id r rs)(hn:vs.length=ps.length)
  (h:CA ⟨g9 rs ps vs,[]⟩ st (qp CB id r rs Q)):gP P id vs st Q:=hy _ _ _ ⟨hl,hn,h⟩
end
theorem iM{st:St}{id q:Nat}{r:Loop}{rs:List (Nat×AV)}(h:q≠id):(st.setL id r rs).boxes[q]?=st.boxes[q]?:=by
 simp only[St.setL];rw[List.getElem?_set_ne (fun e=>h e.symm)]
theorem pF{st:St}{id:Nat}{r r':Loop}{rs rs':List (Nat×AV)}(h:st.isLp id r' rs'):(st.setL id r rs).isLp id r rs:=by
 have hl:id<st.boxes.length:=(List.getElem?_eq_some_iff.1 h).1
 simp[St.isLp,St.setL,hl]
theorem me{st:St}{id q:Nat}(h:q≠id):(st.drop id).boxes[q]?=st.boxes[q]?:=by
 simp only[St.drop];rw[List.getElem?_set_ne (fun e=>h e.symm)]
theorem drop_len{st:St}{id:Nat}:(st.drop id).boxes.length=st.boxes.length:=by simp[St.drop]
theorem push_isLp(st:St)(r:Loop)(rs:List (Nat×AV)):(st.push (.lp r rs)).isLp st.boxes.length r rs:=by simp[St.isLp,St.push]
theorem my{st st':St}{id:Nat}{r:Loop}{rs:List (Nat×AV)}(h:st.isLp id r rs)(hb:st'.boxes[id]?=st.boxes[id]?):st'.isLp id r rs:=hb.trans h
def BB(l:List UInt8):List AV:=l.map d9
theorem bq(l:List UInt8):(BB l).length=l.length:=by simp[BB]
theorem fp(l:List UInt8)(n:Nat):(BB l).take n=BB (l.take n):=by simp[BB,List.map_take]
theorem jb(l:List UInt8)(n:Nat):(BB l).drop n=BB (l.drop n):=by simp[BB,List.map_drop]
theorem qD(l:List UInt8):Lits (BB l):=Lits.map (fun b:UInt8=>Value.int .u8 b.toNat) l
theorem nP(l:List UInt8):(BB l).map AV.dis=BB l:=(qD l).dis
theorem BB_nb(l:List UInt8):∀x∈BB l,x.NB:=(qD l).nb
theorem BB_slnb(l:List UInt8)(o:Bool):(AV.sl o 1 (BB l)).NB:=.sl _ _ _ (BB_nb l)
theorem BB_nil:BB []= []:=rfl
theorem mz(x:UInt8)(l:List UInt8):BB (x::l)= .lit (.int .u8 x.toNat)::BB l:=rfl
def str(l:List UInt8):ByteArray:=⟨l.toArray⟩
theorem strOf_BB(l:List UInt8):lN (BB l)=some (str l):=by
 have:(BB l).mapM byteA=some l:=by
  induction l with
  |nil=>rfl
  |cons x r ih=>simp only[mz,List.mapM_cons,ih,byteA];simp
 simp[lN,this,str]
theorem conv_sl(st:St)(o:Bool)(l:List UInt8):jr st .bs (.sl o 1 (BB l))= .ok (.lit (.string (str l))):=by
 simp[jr,strOf_BB,Res.ofOpt,Res.bind]
theorem str_list(a:List UInt8):(str a).toList=a:=by rw[ByteArray.toList_eq];simp[str]
theorem str_eql(a b:List UInt8):binI .num .eql (.lit (.string (str a))) (.lit (.string (str b)))= .ok (.lit (.bool (decide (a=b)))):=by
 have:((str a).toList ==(str b).toList)=decide (a=b):=by rw[str_list,str_list];exact Bool.eq_iff_iff.2 (by simp)
 rw[←this];rfl
theorem pure_eq{P:Program}{f:FuncId}{vs:List AV}{x:AV}(h:aF P f vs ⟨[]⟩ (fun v _=>AV.le v x))(hx:x.NB)(hvs:∀v∈vs,v.NB)(st:St):az P f vs st x :=
 mt (h.mono fun _ _ h=>.le _ _ h hx) hvs st
end Go.Fx
namespace Go.Fx
open Go
section
variable (P:Program) (F:Nat→FuncId) (m:Bool) (locs0:List (Nat×List AV)) (st:St) (C:PK→Sf→Prop) (sf:Sf) (d:Option Nat) (x y i:Opd) (K:List PK→Sf→Prop) (ks:List PK)
theorem h_nil:aG P F locs0 st [] K ks sf=K ks sf:=rfl
theorem h_none(i:AI)(r:List GI):aG P F locs0 st (⟨none,i⟩::r) K ks sf=bk P F locs0 st i (iy (aG P F locs0 st r K) ks) sf:=rfl
theorem h_some(t:Nat)(want:Bool)(i:AI)(r:List GI):aG P F locs0 st (⟨some (t,want),i⟩::r) K ks sf=cC t want (sf.reg t) (bk P F locs0 st i (iy (aG P F locs0 st r K) ks)) (l5 (aG P F locs0 st r K) ks i.dst) sf:=rfl
theorem hh_mv:bk P F locs0 st (.mv d x) C sf=valH C d sf (sf.ev F x).dis:=rfl
theorem dN(c a b:Opd):bk P F locs0 st (.pick d c a b) C sf=(pickV (sf.ev F c) (sf.ev F a) (sf.ev F b)).wp (valH C d sf):=rfl
theorem hh_bin(k:BinK)(op:BinOp):bk P F locs0 st (.bin d k op x y) C sf=(binI k op (sf.ev F x) (sf.ev F y)).wp (valH C d sf):=rfl
theorem hh_field(off:Nat)(k:Option Nat):bk P F locs0 st (.field d x off k) C sf=(eJ (sf.ev F x) off k).wp (valH C d sf):=rfl
theorem hh_addr(off:Nat):bk P F locs0 st (.addr d x off) C sf=(addA (sf.ev F x) off).wp (valH C d sf):=rfl
theorem eO(k:Nat):bk P F locs0 st (.ixS d x i k) C sf=(ixSV (sf.ev F x) (sf.ev F i) k).wp (valH C d sf):=rfl
theorem hh_load(k:Option Nat):bk P F locs0 st (.load d x k) C sf=(jv sf st (sf.ev F x) k).wp (valH C d sf):=rfl
theorem bH:bk P F locs0 st (.nilck d x) C sf=(au (sf.ev F x)).wp (valH C d sf):=rfl
theorem gf(lo hi:Option Opd)(k:Nat):bk P F locs0 st (.sliS d x lo hi k) C sf=(cu (sf.ev F x) (lo.map (sf.ev F)) (hi.map (sf.ev F)) k).wp (valH C d sf):=rfl
theorem hh_bsl(k len:Nat)(z:AV)(parts:List (Nat×Opd)):bk P F locs0 st (.bsl d k len z parts) C sf=(bslV k len z (parts.map fun p=>(p.1,sf.ev F p.2))).wp (valH C d sf):=rfl
theorem nQ(places:List (Nat×Nat))(z:AV)(parts:List (Nat×Opd)):bk P F locs0 st (.bst d places z parts) C sf=(bstV places z (parts.map fun p=>(p.1,sf.ev F p.2))).wp (valH C d sf):=rfl
theorem eP(k:KeyK)(z:AV)(ok:Bool)(mp key:Opd):bk P F locs0 st (.lookup d k z ok mp key) C sf=(cA k z ok st (sf.ev F mp) (sf.ev F key)).wp (valH C d sf):=rfl
theorem cM(k:LenK):bk P F locs0 st (.len d k x) C sf=(lenI k st (sf.ev F x)).wp (valH C d sf):=rfl
theorem gq(k bytes:Nat):bk P F locs0 st (.app d k bytes x y) C sf=(bd st k bytes (sf.ev F x) (sf.ev F y)).wp (valH C d sf):=rfl
theorem bX(p:Bool)(f:Opd)(args:List Opd):bk P F locs0 st (.call d p f args) C sf=iz P st d (sf.ev F f) (args.map (sf.ev F)) C sf:=rfl
theorem gg(s:Nat)(cs:List AV):bk P F locs0 st (.newL s cs) C sf=C (.new s cs) (sf.set s .any):=rfl
theorem eu(k:Nat):bk P F locs0 st (.store k x y) C sf=dU locs0 x (sf.ev F x) (sf.ev F y) k C sf:=rfl
theorem cJ(a:Opd)(s:Nat)(v:AV)(k:Nat):dU locs0 a (.lptr s 0) v k C sf=eI v k s C sf (look s locs0):=rfl
theorem headNst_eq(s:Nat)(v:AV)(k:Nat):dU locs0 (.r s) .any v k C sf=(v.dis.solid=true∧v.dis.cells.length=k∧C (.nst s v.dis.cells) sf):=rfl
theorem cm(s:Nat)(v:AV)(k:Nat)(cs:List AV):eI v k s C sf (some cs)=(cs.length=k∧v.dis.solid=true∧v.dis.cells.length=k∧C (.store s v.dis.cells) sf):=rfl
theorem c9(t:Nat)(want:Bool)(Y N:Sf→Prop):cC t want (.lit (.bool true)) Y N sf=if true=want then Y (sf.set t (.lit (.bool true)))else N (sf.set t (.lit (.bool true))):=by
 unfold cC
 exact propext ⟨fun h=>h true rfl,fun h c e=>by subst e;exact h⟩
theorem aW(t:Nat)(want:Bool)(Y N:Sf→Prop):cC t want (.lit (.bool false)) Y N sf=if false=want then Y (sf.set t (.lit (.bool false)))else N (sf.set t (.lit (.bool false))):=by
 unfold cC
 exact propext ⟨fun h=>h false rfl,fun h c e=>by subst e;exact h⟩
end
theorem cn{p:Prop}[Decidable p]{t:Nat}{want:Bool}{Y N:Sf→Prop}{sf:Sf}(h1:p→cC t want (.lit (.bool true)) Y N sf)(h2:¬p→cC t want (.lit (.bool false)) Y N sf):cC t want (.lit (.bool (decide p))) Y N sf:=by
 by_cases h:p
 ·rw[decide_eq_true h];exact h1 h
 ·rw[decide_eq_false h];exact h2 h
def PK.keep:PK→Bool
 | .val _=>false
 | .skip=>false
 |_=>true
theorem co:∀ks:List PK,aL (ks.filter PK.keep)=aL ks
 | []=>rfl
 | .val _::r=>co r
 | .skip::r=>co r
 | .mk _ _::r=>co r
 | .hole::r=>co r
 | .chole _ _::r=>co r
 | .nst _ _::r=>co r
 | .new _ _::r=>co r
 | .app _ _::r=>co r
 | .store s _::r=>congrArg (s::·) (co r)
theorem du:∀ks:List PK,bh (ks.filter PK.keep)=bh ks
 | []=>rfl
 | .val _::r=>du r
 | .skip::r=>du r
 | .mk _ _::r=>du r
 | .hole::r=>du r
 | .chole _ _::r=>du r
 | .nst _ _::r=>du r
 | .store _ _::r=>du r
 | .app _ _::r=>du r
 | .new s _::r=>congrArg (s::·) (du r)
theorem dw:∀ks:List PK,bz (ks.filter PK.keep)=bz ks
 | []=>rfl
 | .val _::r=>dw r
 | .skip::r=>dw r
 | .mk _ _::r=>dw r
 | .hole::r=>dw r
 | .chole _ _::r=>dw r
 | .nst _ _::r=>dw r
 | .store _ _::r=>dw r
 | .new _ _::r=>dw r
 | .app s _::r=>congrArg (s::·) (dw r)
theorem dx:∀(ks:List PK) (sf:Sf),bU (ks.filter PK.keep) sf=bU ks sf
 | [],_=>rfl
 | .val _::r,sf=>dx r sf
 | .skip::r,sf=>dx r sf
 | .mk _ _::r,sf=>dx r sf
 | .hole::r,sf=>dx r sf
 | .chole _ _::r,sf=>dx r sf
 | .nst _ _::r,sf=>dx r sf
 | .new _ _::r,sf=>dx r sf
 | .app _ _::r,sf=>dx r sf
 | .store _ _::r,_=>dx r _
theorem nst_beq(a b c d:Nat):((a,b) ==(c,d))=((a ==c) && (b ==d)):=rfl
theorem cN(t:Nat):∀ks:List PK,cb t (ks.filter PK.keep)=cb t ks
 | []=>rfl
 | .val _::r=>cN t r
 | .skip::r=>cN t r
 | .mk _ _::r=>cN t r
 | .hole::r=>cN t r
 | .chole _ _::r=>cN t r
 | .store _ _::r=>cN t r
 | .app _ _::r=>cN t r
 | .new _ _::r=>cN t r
 | .nst s cs :: r => by
   show(if s=t then some cs else cb t (r.filter PK.keep))=if s=t then some cs else cb t r
   rw[cN t r]
theorem dy:∀ks:List PK,bA (ks.filter PK.keep)=bA ks
 | []=>rfl
 | .val _::r=>dy r
 | .skip::r=>dy r
 | .mk _ _::r=>dy r
 | .hole::r=>dy r
 | .chole _ _::r=>dy r
 | .store _ _::r=>dy r
 | .new _ _::r=>dy r
 | .app _ _::r=>dy r
 | .nst s _::r=>congrArg (s::·) (dy r)
theorem dz:∀(ks:List PK) (seen:List (Nat×Nat)),nstB seen (ks.filter PK.keep)=nstB seen ks
 | [],_=>rfl
 | .val _::r,s=>dz r s
 | .skip::r,s=>dz r s
 | .mk _ _::r,s=>dz r s
 | .hole::r,s=>dz r s
 | .chole _ _::r,s=>dz r s
 | .store _ _::r,s=>dz r s
 | .app _ _::r,s=>dz r s
 | .new _ _::r,s=>dz r _
 | .nst _ _::r,s=>congrArg (_ && ·) (dz r s)
theorem dA(all:List PK):∀(ks:List PK) (sf:Sf),bK (all.filter PK.keep) (ks.filter PK.keep) sf=bK all ks sf
 | [],_=>rfl
 | .val _::r,sf=>dA all r sf
 | .skip::r,sf=>dA all r sf
 | .mk _ _::r,sf=>dA all r sf
 | .hole::r,sf=>dA all r sf
 | .chole _ _::r,sf=>dA all r sf
 | .store _ _::r,sf=>dA all r sf
 | .app _ _::r,sf=>dA all r sf
 | .nst _ _::r,sf=>dA all r sf
 | .new s cs :: r, sf => by
   show bK (all.filter PK.keep) (r.filter PK.keep) (sf.newLoc s ((cb s (all.filter PK.keep)).getD cs))=bK all r (sf.newLoc s ((cb s all).getD cs))
   rw[cN,dA all r]
section
variable {P:Program} {F:Nat→FuncId} {m:Bool} {locs0:List (Nat×List AV)} {st st2:St} {drop lv ll:List Nat} {tl:List GI} {Q:Exit→Sf→St→Prop}
theorem tail_keep(ks:List PK)(sf:Sf):dW P F m drop lv ll tl Q st (ks.filter PK.keep) sf=dW P F m drop lv ll tl Q st ks sf:=by
 unfold dW ksB
 rw[co,du,dw,dy,dz,dx,dA]
theorem fw:∀(r:List GI) (ks:List PK) (sf:Sf),aG P F locs0 st r (dW P F m drop lv ll tl Q st) (ks.filter PK.keep) sf=aG P F locs0 st r (dW P F m drop lv ll tl Q st) ks sf
 | [],ks,sf=>tail_keep ks sf
 | ⟨g, i⟩ :: r, ks, sf => by
   have h1:iy (aG P F locs0 st r (dW P F m drop lv ll tl Q st)) (ks.filter PK.keep)=iy (aG P F locs0 st r (dW P F m drop lv ll tl Q st)) ks:=by
    funext k sf
    simp only[iy]
    rw[←fw r (ks++[k]) sf,←fw r (ks.filter PK.keep++[k]) sf]
    simp
   have h2:∀d,l5 (aG P F locs0 st r (dW P F m drop lv ll tl Q st)) (ks.filter PK.keep) d=l5 (aG P F locs0 st r (dW P F m drop lv ll tl Q st)) ks d:=by
    intro d
    funext sf
    exact congrFun (congrFun h1 .skip) (sf.put d (.tup []))
   cases g with
   |none=>simp only[aG,h1]
   |some g=>obtain⟨t,w⟩:=g;simp only[aG,h1,h2]
variable (ks:List PK) (sf:Sf) (r:List GI) (v:AV) (d:Option Nat)
theorem bC:iy (aG P F locs0 st r (dW P F m drop lv ll tl Q st)) ks (.val v) sf=aG P F locs0 st r (dW P F m drop lv ll tl Q st) ks sf:=by
 show aG P F locs0 st r _ (ks++[.val v]) sf=_
 exact(fw r (ks++[PK.val v]) sf).symm.trans ((congrArg (fun q=>aG P F locs0 st r (dW P F m drop lv ll tl Q st) q sf) (by simp[PK.keep])).trans (fw r ks sf))
theorem dB:l5 (aG P F locs0 st r (dW P F m drop lv ll tl Q st)) ks d sf=aG P F locs0 st r (dW P F m drop lv ll tl Q st) ks (sf.put d (.tup [])):=by
 show aG P F locs0 st r _ (ks++[.skip]) (sf.put d (.tup []))=_
 exact(fw r (ks++[PK.skip]) _).symm.trans ((congrArg (fun q=>aG P F locs0 st r (dW P F m drop lv ll tl Q st) q (sf.put d (.tup []))) (by simp[PK.keep])).trans (fw r ks _))
theorem val_head:valH (iy (aG P F locs0 st r (dW P F m drop lv ll tl Q st)) ks) d sf v=aG P F locs0 st r (dW P F m drop lv ll tl Q st) ks (sf.put d v):=bC ks (sf.put d v) r v
theorem tail_nil:dW P F m drop lv ll tl Q st [] sf=runI P F m tl (opsK lv ll Q) sf st:=propext ⟨fun h=>h.2,fun h=>⟨rfl,h⟩⟩
theorem cK(k:PK):dW P F m drop lv ll tl Q st (k::ks) sf=(ksB drop (k::ks)=true∧runI P F m tl (opsK lv ll Q) (bK (k::ks) (k::ks) (bU (k::ks) sf)) st):=rfl
end
section
variable (H:List PK→Sf→Prop) (ks:List PK) (sf:Sf) (s:Nat) (cs:List AV) (v:AV)
theorem fd:iy H ks (.new s cs) sf=H (ks++[.new s cs]) sf:=rfl
theorem dm:iy H ks (.store s cs) sf=H (ks++[.store s cs]) sf:=rfl
end
theorem cD{P:Program}{d:Option Nat}{q:FuncId}{fs cs args vs:List AV}{sf:Sf}{st:St}{C:PK→Sf→Prop}{v:AV}(hvs:fs++args.map AV.dis++cs=vs)(hent:cr P q=true)(h:az P q vs st v)(hn:args.all AV.noL=true)(hK:C (.val v) (sf.put d v)):iz P st d (.fn (.func q) fs cs) args C sf:=by
 subst hvs
 exact⟨hn,hent,v,h,hK⟩
section
variable (P:Program) (F:Nat→FuncId) (L0:List (Nat×List AV)) (ρ:St) (C:PK→Sf→Prop) (sf:Sf) (d:Option Nat) (x y i:Opd) (K:List PK→Sf→Prop) (ks:List PK)
theorem pG:preM P F L0 ρ [] K ks sf=K ks sf:=rfl
theorem qE(i:AI)(r:List GI):preM P F L0 ρ (⟨none,i⟩::r) K ks sf=oneM P F L0 ρ i (g8 (preM P F L0 ρ r K) ks) sf:=rfl
theorem m_val(v:AV)(r:List GI):valM (g8 (preM P F L0 ρ r K) ks) d sf v=preM P F L0 ρ r K (ks++[.val v]) (sf.put d v):=rfl
theorem mm_mv:oneM P F L0 ρ (.mv d x) C sf=valM C d sf (sf.ev F x).dis:=rfl
theorem mm_ext(j:Nat):oneM P F L0 ρ (.ext d x j) C sf=(extV (sf.ev F x) j).wp (valM C d sf):=rfl
theorem qF(off:Nat):oneM P F L0 ρ (.addr d x off) C sf=(addA (sf.ev F x) off).wp (valM C d sf):=rfl
theorem mm_ixS(k:Nat):oneM P F L0 ρ (.ixS d x i k) C sf=(ixSV (sf.ev F x) (sf.ev F i) k).wp (valM C d sf):=rfl
theorem mA(k:Option Nat):oneM P F L0 ρ (.load d x k) C sf=(jv sf ρ (sf.ev F x) k).wp (valM C d sf):=rfl
theorem nR:oneM P F L0 ρ (.nilck d x) C sf=(au (sf.ev F x)).wp (valM C d sf):=rfl
theorem mm_bsl(k len:Nat)(z:AV)(parts:List (Nat×Opd)):oneM P F L0 ρ (.bsl d k len z parts) C sf=(bslV k len z (parts.map fun p=>(p.1,sf.ev F p.2))).wp (valM C d sf):=rfl
theorem mm_bst(places:List (Nat×Nat))(z:AV)(parts:List (Nat×Opd)):oneM P F L0 ρ (.bst d places z parts) C sf=(bstV places z (parts.map fun p=>(p.1,sf.ev F p.2))).wp (valM C d sf):=rfl
variable (KH:List PK→Prop) (st:St) (post:List (Bool×GI)) (T:St→Sf→Prop) (T1:Sf→Prop)
theorem hm_nil:dg P F L0 ρ [] KH ks sf=KH ks:=rfl
theorem hm_hole(g:GI)(r:List (Bool×GI)):dg P F L0 ρ ((true,g)::r) KH ks sf=dg P F L0 ρ r KH (ks++[.hole]) (sf.put g.i.dst .any):=by simp only[dg]
theorem hm_none(i:AI)(r:List (Bool×GI)):dg P F L0 ρ ((false,⟨none,i⟩)::r) KH ks sf=oneM P F L0 ρ i (g8 (dg P F L0 ρ r KH) ks) sf:=rfl
theorem m_new(s:Nat)(cs:List AV)(r:List GI):g8 (preM P F L0 ρ r K) ks (.new s cs) sf=preM P F L0 ρ r K (ks++[.new s cs]) sf:=rfl
theorem m_nst(s:Nat)(cs:List AV)(r:List GI):g8 (preM P F L0 ρ r K) ks (.nst s cs) sf=preM P F L0 ρ r K (ks++[.nst s cs]) sf:=rfl
theorem hm_new(s:Nat)(cs:List AV)(r:List (Bool×GI)):g8 (dg P F L0 ρ r KH) ks (.new s cs) sf=dg P F L0 ρ r KH (ks++[.new s cs]) sf:=rfl
theorem mm_newL(s:Nat)(cs:List AV):oneM P F L0 ρ (.newL s cs) C sf=C (.new s cs) (sf.set s .any):=rfl
theorem mm_store(k:Nat):oneM P F L0 ρ (.store k x y) C sf=dU L0 x (sf.ev F x) (sf.ev F y) k C sf:=rfl
variable (drop:List Nat) (ks1:List PK)
theorem atM_eq(f:Opd)(args:List Opd):atM P F L0 ρ st d f args post drop T ks1 sf=nf P F L0 ρ st d (sf.ev F f) (args.map (sf.ev F)) post drop T ks1 sf:=rfl
theorem nS(ksh:List PK):postM post drop ks1 ksh T1 ks sf=(fa post ksh ks∧finK drop T1 (ks1++ks) sf):=rfl
theorem qG:finK drop T1 ks sf=(ksB drop ks=true∧T1 (bK ks ks (bU ks sf))):=rfl
theorem nT(A:List PK→Prop):holeK drop ks1 A ks=(ksB drop (ks1++ks)=true∧A ks):=rfl
theorem lz:fa [] [] []=True:=rfl
theorem compM_t(g:GI)(r:List (Bool×GI))(a:PK)(v:AV)(h k:List PK):fa ((true,g)::r) (a::h) (.val v::k)=fa r h k:=rfl
theorem compM_tn(g:GI)(r:List (Bool×GI))(a:PK)(s:Nat)(cs:List AV)(h k:List PK):fa ((true,g)::r) (a::h) (.nst s cs::k)=fa r h k:=rfl
theorem compM_f(g:GI)(r:List (Bool×GI))(a b:PK)(h k:List PK):fa ((false,g)::r) (a::h) (b::k)=(b=a∧fa r h k):=rfl
theorem nU(m:Bool)(lv ll:List Nat)(tl:List GI)(Q:Exit→Sf→St→Prop):ni P F m lv ll tl Q st sf=runI P F m tl (opsK lv ll Q) sf st:=rfl
end
section
variable {P:Program} {F:Nat→FuncId} {L0:List (Nat×List AV)} {ρ st:St}
theorem atA_eq{d:Option Nat}{k bytes:Nat}{post:List (Bool×GI)}{drop:List Nat}{T:St→Sf→Prop}{ks1:List PK}{sf:Sf}(b y:Opd):atA P F L0 ρ st d b k bytes y post drop T ks1 sf=appM P F L0 ρ st d k bytes (sf.ev F b) (sf.ev F y) post drop T ks1 sf:=rfl
theorem draw_a{pre:List GI}{d:Option Nat}{b:Opd}{k bytes:Nat}{y:Opd}{post:List (Bool×GI)}{sf:Sf}{T:St→Sf→Prop}(ρ:St)(hs:St.sub ρ st)(h:preM P F sf.locs ρ pre (atA P F sf.locs ρ st d b k bytes y post (fL pre post) T) [] ⟨sf.regs,cH (fL pre post) sf.locs⟩):drawA P F pre d b k bytes y post sf st T:=⟨ρ,hs,h⟩
theorem app_m{d:Option Nat}{k bytes:Nat}{b y:AV}{post:List (Bool×GI)}{drop:List Nat}{T:St→Sf→Prop}{ks1:List PK}{sf:Sf}(Qc:AV→St→Prop)(hb:b.noL=true)(hy:y.noL=true)(hA:(srcA st k y.dis).wp (appX false k bytes b.dis Qc st))
  (hK:dg P F L0 ρ post (holeK drop ks1 (qn P F L0 ρ post Qc d sf drop T ks1)) [] (sf.put d .any)):appM P F L0 ρ st d k bytes b y post drop T ks1 sf:=⟨hb,hy,Qc,hA,hK⟩
theorem draw_m{pre:List GI}{d:Option Nat}{f:Opd}{args:List Opd}{post:List (Bool×GI)}{sf:Sf}{T:St→Sf→Prop}(ρ:St)(hs:St.sub ρ st)(h:preM P F sf.locs ρ pre (atM P F sf.locs ρ st d f args post (fL pre post) T) [] ⟨sf.regs,cH (fL pre post) sf.locs⟩):drawM P F pre d f args post sf st T:=⟨ρ,hs,h⟩
theorem draw_s{pre:List GI}{d:Option Nat}{f:Opd}{args:List Opd}{post:List (Bool×GI)}{sf:Sf}{T:St→Sf→Prop}(h:preM P F sf.locs st pre (atM P F sf.locs st st d f args post (fL pre post) T) [] ⟨sf.regs,cH (fL pre post) sf.locs⟩):drawM P F pre d f args post sf st T:=⟨st,St.sub_refl st,h⟩
theorem call_m{q:FuncId}{fs cs args vs:List AV}{d:Option Nat}{post:List (Bool×GI)}{drop:List Nat}{T:St→Sf→Prop}{ks1:List PK}{sf:Sf}{Qc:AV→St→Prop}(hvs:fs++args.map AV.dis++cs=vs)(hent:cr P q=true)(hA:aF P q vs st Qc)(hn:args.all AV.noL=true)
  (hK:dg P F L0 ρ post (holeK drop ks1 (qn P F L0 ρ post Qc d sf drop T ks1)) [] (sf.put d .any)):nf P F L0 ρ st d (.fn (.func q) fs cs) args post drop T ks1 sf:=by
 subst hvs
 exact⟨hn,hent,Qc,hA,hK⟩
end
section
variable (P:Program) (F:Nat→FuncId) (L0:List (Nat×List AV)) (st s:St) (d:Option Nat) (f:Opd) (args:List Opd) (pre post:List GI) (T:St→Sf→Prop) (ks:List PK) (sf:Sf) (v:AV)
end
section
variable (P:Program) (F:Nat→FuncId) (L0:List (Nat×List AV)) (ρ:St) (C:PK→Sf→Prop) (sf:Sf) (d:Option Nat) (H:List PK→Sf→Prop) (KX:Nat→List PK→Sf→Prop) (ks:List PK) (SS:Nat→St→Prop) (j:Nat)
theorem g_nil:preX P F L0 ρ SS j [] KX ks sf=KX j ks sf:=by simp only[preX]
theorem g_none_f(i:AI)(r:List (Bool×GI)):preX P F L0 ρ SS j ((false,⟨none,i⟩)::r) KX ks sf=oneM P F L0 ρ i (jt (preX P F L0 ρ SS j r KX) ks) sf:=by simp only[preX]
theorem g_none_t(i:AI)(r:List (Bool×GI)):preX P F L0 ρ SS j ((true,⟨none,i⟩)::r) KX ks sf=iC P F ρ SS j i (jt (preX P F L0 ρ SS (j+1) r KX) ks) sf:=by simp only[preX]
theorem g_val(v:AV):valM (jt H ks) d sf v=H ks (sf.put d v):=rfl
theorem g_mkv(v:AV):valG ρ (jt H ks) d sf v=H ks (sf.put d v):=rfl
theorem g_call(p:Bool)(f:Opd)(args:List Opd):iC P F ρ SS j (.call d p f args) C sf=nh P ρ SS j d (sf.ev F f) (args.map (sf.ev F)) C sf:=rfl
theorem g_box(b k:Nat)(x:Opd):iC P F ρ SS j (.boxB b k x) C sf=boxX1 ρ SS j b k (sf.ev F x) C sf:=rfl
theorem tailG_nil(m:Bool)(drop lv ll:List Nat)(tl:List GI)(Q:Exit→Sf→St→Prop):tailX P F m drop lv ll tl Q SS j [] sf= ∀s,SS j s→runI P F m tl (opsK lv ll Q) sf s:=propext ⟨fun h=>h.2,fun h=>⟨rfl,h⟩⟩
end
theorem draw_x{P:Program}{F:Nat→FuncId}{L0:List (Nat×List AV)}{st:St}{fl:List (Bool×GI)}{K:(Nat→St→Prop)→Nat→List PK→Sf→Prop}{sf:Sf}(SS:Nat→St→Prop)(h0:SS 0 st)(hs:∀j s,SS j s→St.sub st s)(h:preX P F L0 st SS 0 fl (K SS) [] sf):drawX P F L0 st fl K sf:=⟨SS,h0,hs,h⟩
theorem call_x{P:Program}{ρ:St}{SS:Nat→St→Prop}{j:Nat}{q:FuncId}{fs cs args vs:List AV}{d:Option Nat}{sf:Sf}{C:PK→Sf→Prop}{v:AV}(hvs:fs++args.map AV.dis++cs=vs)(hent:cr P q=true)(h:∀s,SS j s→aF P q vs s (fun v' s'=>v'=v∧SS (j+1) s'))(hn:args.all AV.noL=true)(hK:valG ρ C d sf v):nh P ρ SS j d (.fn (.func q) fs cs) args C sf:=by
 subst hvs
 exact⟨hn,hent,v,h,hK⟩
theorem box_x{ρ:St}{SS:Nat→St→Prop}{j b k:Nat}{x:AV}{sf:Sf}{C:PK→Sf→Prop}(n:Nat)(hs:x.dis.solid=true)(hk:x.dis.cells.length=k)(h:∀s,SS j s→s.boxes.length=n∧SS (j+1) (s.push (.cells x.dis.cells)))(hK:valG ρ C (some b) sf (.ptr n 0)):boxX1 ρ SS j b k x C sf :=
 ⟨hs,hk,.ptr n 0,fun s q=>⟨by rw[(h s q).1],(h s q).2⟩,hK⟩
end Go.Fx
namespace Go.Fx
open Go
theorem ew(st:St)(o:Bool)(k:Nat)(es:List AV):lenI .sl st (.sl o k es)= .ok (.lit (.int .i64 es.length)):=rfl
theorem bB{P:Program}{F:Nat→FuncId}{m:Bool}{b:AC}{lv ll:List Nat}{Q:Exit→Sf→St→Prop}{A:Type}(μ:A→Nat)(S:A→Sf)(T:A→St)(I:A→Prop)(a0:A){sf:Sf}{st:St}(h0:I a0)(hs:Sf.le (sf.mask lv ll) (S a0))(ht:st=T a0)
  (step:∀a,I a→∀K:Exit→Sf→St→Prop,(∀a' sf',I a'→μ a'<μ a→Sf.le (sf'.mask lv ll) (S a')→K .normal sf' (T a'))→(∀id sf st,Q (.exit id) sf st→K (.exit id) sf st)→(∀sf st,Q .ret sf st→K .ret sf st)→aC P F m b (S a) (T a) K):aH (aC P F m b) lv ll sf st Q :=
 loop_for μ S T I a0 h0 hs ht fun a ha=>step a ha _ (fun a' _ h1 h2 h3=>⟨a',⟨h1,h2⟩,h3,rfl⟩) (fun _ _ _ h=>h) (fun _ _ h=>h)
theorem ec{p:Prop}[Decidable p](h:p){t:Nat}{want:Bool}{Y N:Sf→Prop}{sf:Sf}:cC t want (.lit (.bool (decide p))) Y N sf=if true=want then Y (sf.set t (.lit (.bool true)))else N (sf.set t (.lit (.bool true))):=by
 rw[decide_eq_true h,c9]
theorem dC{p:Prop}[Decidable p](h:¬p){t:Nat}{want:Bool}{Y N:Sf→Prop}{sf:Sf}:cC t want (.lit (.bool (decide p))) Y N sf=if false=want then Y (sf.set t (.lit (.bool false)))else N (sf.set t (.lit (.bool false))):=by
 rw[decide_eq_false h,aW]
theorem aK{P:Program}{X:Cx}{f:FuncId}{fn:AFun}{vs:List AV}{st:St}(hmix:P.follows .mixedOrders=true)(hf:iG P X f=some fn)(hX:X.F=id)(hlen:Nat.ble vs.length fn.n=true){K:AV→St→Prop}(h:∀Q:AV→St→Prop,(∀v st',K v st'→Q v st')→aFun P id false fn vs st Q):aF P f vs st K :=
 acalls_id hmix hf hX hlen (h K fun _ _ h=>h)
theorem pure_lev{P:Program}{X:Cx}{f:FuncId}{fn:AFun}{vs:List AV}{x:AV}(hmix:P.follows .mixedOrders=true)(hf:iG P X f=some fn)(hX:X.F=id)(hlen:Nat.ble vs.length fn.n=true)(hx:x.NB)(hvs:∀v∈vs,v.NB)
  (h:∀Q:AV→St→Prop,(∀v st',v.le x→Q v st')→aFun P id false fn vs ⟨[]⟩ Q) (st:St):az P f vs st x :=
 pure_eq (aK hmix hf hX hlen fun Q hQ=>h Q fun v st' hv=>hQ v st' hv) hx hvs st
end Go.Fx
namespace Go.Fx
open Go
def MB(v:AV)(st:St)(l:List AV):Prop:=(v= .lit (.slice none 0 0)∧l= [])∨∃id cap r,v= .bs id 1 0 l.length cap∧st.get id=some (l++r)∧l.length≤cap∧cap≤(l++r).length
def Kept(st st':St)(v:AV):Prop:=st.boxes.length≤st'.boxes.length∧∀id cs,st.get id=some cs→(∀k o l c,v≠.bs id k o l c)→st'.get id=some cs
theorem Kept.refl(st:St)(v:AV):Kept st st v:=⟨Nat.le_refl _,fun _ _ h _=>h⟩
theorem MB.facts{v:AV}{st:St}{l:List AV}(h:MB v st l):v.dis=v∧v.own1=v∧v.own2=v∧v.solid1=true∧v.noL=true∧v.cells= [v]∧(∀s,kill s v=v)∧∀st',lenI .sl st' v= .ok (.lit (.int .i64 l.length)):=by
 rcases h with⟨rfl,rfl⟩|⟨id,cap,r,rfl,_⟩
 ·exact⟨rfl,rfl,rfl,rfl,rfl,rfl,fun _=>rfl,fun _=>rfl⟩
 ·exact⟨rfl,rfl,rfl,rfl,rfl,rfl,fun _=>rfl,fun _=>rfl⟩
def NBs(st:St):Prop:=∀id cs,st.get id=some cs→∀c∈cs,c.NB
theorem NBs.nil:NBs ⟨[]⟩:=fun id cs h=>by simp[St.get]at h
theorem NBs.push{st:St}{cs:List AV}(h:NBs st)(hc:∀c∈cs,c.NB):NBs (st.push (.cells cs)):=by
 intro id ds hg
 by_cases e:id<st.boxes.length
 ·rw[gV e]at hg
  exact h id ds hg
 ·by_cases e2:id=st.boxes.length
  ·subst e2
   rw[bG]at hg
   cases hg
   exact hc
  ·have:=bI hg
   rw[aJ]at this
   omega
theorem NBs.set{st:St}{id:Nat}{cs:List AV}(h:NBs st)(hid:id<st.boxes.length)(hc:∀c∈cs,c.NB):NBs (st.set id cs):=by
 intro id' ds hg
 by_cases e:id=id'
 ·subst e
  rw[aY hid]at hg
  cases hg
  exact hc
 ·rw[jO e]at hg
  exact h id' ds hg
theorem MB.app{v:AV}{st:St}{l new:List AV}{bytes:Nat}{C:AV→St→Prop}(h:MB v st l)(hl:Lits l)(hn:Lits new)(hr:eZ (l.length+new.length) bytes=true)
  (hC:∀v' st',MB v' st' (l++new)→Kept st st' v→(NBs st→NBs st')→C v' st'):appX false 1 bytes v C st new:=by
 rcases h with⟨rfl,rfl⟩|⟨id,cap,r,rfl,hg,h1,h2⟩
 ·refine⟨rfl,by simpa using hr,?_⟩
  split
  ·rename_i h
   have:new= []:=by simpa using h
   subst this
   exact hC _ _ (.inl ⟨rfl,rfl⟩) (Kept.refl _ _) id
  ·intro c hc
   refine hC _ _ (.inr ⟨st.boxes.length,c,List.replicate (c-new.length) .any,by simp,?_,by simpa using hc,by simp;omega⟩) ⟨by simp[St.push],fun id cs hg _=>by rw[gV (bI hg)];exact hg⟩ (fun h=>h.push fun x hx=>?_)
   ·rw[hn.cellsD]
    simp only[List.nil_append,Nat.mul_one]
    exact bG st _
   ·rw[hn.cellsD]at hx
    simp only[List.nil_append,Nat.mul_one,List.mem_append]at hx
    rcases hx with hx|hx
    ·exact hn.nb x hx
    ·rw[List.eq_of_mem_replicate hx];exact .any
 ·refine⟨rfl,rfl,hr,?_⟩
  rw[hg]
  show(Res.ok _).wp _
  rw[pu,hn.cellsD]
  have hid:=bI hg
  split
  ·rename_i hc
   refine⟨by omega,hC _ _ (.inr ⟨id,cap,r.drop new.length,by simp,?_,by simpa using hc,?_⟩) ⟨by simp[St.set],fun id' cs hg' hne=>?_⟩ (fun h=>h.set hid ?_)⟩
   ·rw[aY hid,Nat.zero_add,Nat.mul_one,gE rfl (by simp at h2;omega)]
    simp
   ·simp at h2 ⊢;omega
   ·rw[jO (fun e=>hne _ _ _ _ (by rw[e])),hg']
   ·rw[Nat.zero_add,Nat.mul_one,gE rfl (by simp at h2;omega)]
    have h3:=h id _ hg
    intro x hx
    simp only[List.mem_append]at hx
    rcases hx with hx|hx|hx
    ·exact hl.nb x hx
    ·exact hn.nb x hx
    ·exact h3 x (List.mem_append_right _ (List.mem_of_mem_drop hx))
  ·rename_i hc
   have e:List.map AV.own1 (List.take (l.length*1) (List.drop 0 (l++r)))=l:=by simp[hl.own]
   refine⟨by simp,fun c hc=>hC _ _ (.inr ⟨st.boxes.length,c,List.replicate (c-(l.length+new.length)) .any,by simp,?_,by simpa using hc,by simp;omega⟩) ⟨by simp[St.push],fun id' cs hg' _=>by rw[gV (bI hg')];exact hg'⟩ (fun h=>h.push fun x hx=>?_)⟩
   ·rw[e]
    simp only[Nat.mul_one]
    exact bG st _
   ·rw[e]at hx
    simp only[List.mem_append]at hx
    rcases hx with(hx|hx)|hx
    ·exact hl.nb x hx
    ·exact hn.nb x hx
    ·rw[List.eq_of_mem_replicate hx];exact .any
end Go.Fx
namespace Go.Fx
open Go
def litB1:AV→Bool
 | .lit _=>true
 |_=>false
end Go.Fx
namespace Go.Fx
open Go
section
variable {β:Type}
def gh(t:Int):List (Int×β)→Nat→Option (Nat×β)
 | [],_=>none
 |(k,b)::r,i=>if t=k then some (i,b)else gh t r (i+1)
def aj(t:Int):List (Int×β)→Option β
 | []=>none
 |(k,b)::r=>if t=k then some b else aj t r
def updP(t:Int)(b:β):List (Int×β)→List (Int×β)
 | []=>[(t,b)]
 |(k,c)::r=>if t=k then(t,b)::r else(k,c)::updP t b r
def delP(t:Int):List (Int×β)→List (Int×β)
 | []=>[]
 |(k,c)::r=>if t=k then r else(k,c)::delP t r
def aV(m:List (Int×β)):List Int:=m.map Prod.fst
theorem fQ(t:Int):∀(m:List (Int×β)) (i:Nat),(gh t m i).map Prod.snd=aj t m
 | [],_=>rfl
 | (k, b) :: r, i => by
   simp only[gh,aj];split; · rfl
   ·exact fQ t r (i+1)
theorem lA{γ:Type}(e:Int×β→γ)(t:Int)(b:β):∀(m:List (Int×β)) (i:Nat),match gh t m i with
  |some (j,_)=>i≤j∧(m.map e).set (j-i) (e (t,b))=(updP t b m).map e∧(m.map e).eraseIdx (j-i)=(delP t m).map e∧j-i<m.length
  |none=>m.map e++[e (t,b)]=(updP t b m).map e∧delP t m=m
 | [],_=>by simp[gh,updP,delP]
 | (k, c) :: r, i => by
   simp only[gh]
   by_cases h:t=k
   ·subst h
    simp[updP,delP]
   ·rw[if_neg h]
    have ih:=lA e t b r (i+1)
    cases hf:gh t r (i+1)with
    |none=>rw[hf]at ih;simp only at ih;simp[updP,delP,h,ih.1,ih.2]
    | some p =>
      obtain⟨j,c'⟩:=p
      rw[hf]at ih
      simp only at ih ⊢
      obtain⟨h1,h2,h3,h4⟩:=ih
      obtain⟨q,rfl⟩:∃q,j=i+1+q:=⟨j-(i+1),by omega⟩
      rw[show i+1+q-(i+1)=q by omega]at h2 h3 h4
      rw[show i+1+q-i=q+1 by omega]
      refine⟨by omega,?_,?_,by simp;omega⟩
      ·simp[updP,h,h2]
      ·simp[delP,h,h3]
theorem aZ(t t':Int)(b:β):∀m:List (Int×β),aj t' (updP t b m)=if t'=t then some b else aj t' m
 | []=>by simp only[updP,aj]
 | (k, c) :: r => by
   simp only[updP]
   by_cases h:t=k
   ·subst h
    rw[if_pos rfl]
    simp only[aj]
    split<;>rfl
   ·rw[if_neg h]
    simp only[aj]
    rw[aZ t t' b r]
    by_cases h1:t'=k
    ·subst h1
     have:¬t'=t:=fun e=>h e.symm
     simp[this]
    ·simp[h1]
theorem pH{t:Int}:∀{m:List (Int×β)},t ∉ aV m→aj t m=none
 | [],_=>rfl
 | (k, c) :: r, h => by
   simp only[aV,List.map_cons,List.mem_cons,not_or]at h
   simp only[aj]
   rw[if_neg h.1]
   exact pH h.2
theorem look_key{t:Int}:∀{m:List (Int×β)} {b:β},aj t m=some b→t∈aV m
 | (k, c) :: r, b, h => by
   simp only[aj]at h
   simp only[aV,List.map_cons,List.mem_cons]
   split at h
   ·rename_i e;exact .inl e
   ·exact .inr (look_key h)
theorem ey(t t':Int):∀{m:List (Int×β)},(aV m).Nodup→aj t' (delP t m)=if t'=t then none else aj t' m
 | [],_=>by simp[delP,aj]
 | (k, c) :: r, hn => by
   simp only[aV,List.map_cons,List.nodup_cons]at hn
   simp only[delP]
   by_cases h:t=k
   ·subst h
    rw[if_pos rfl]
    simp only[aj]
    by_cases h1:t'=t
    ·subst h1;rw[if_pos rfl];exact pH hn.1
    ·rw[if_neg h1,if_neg h1]
   ·rw[if_neg h]
    simp only[aj]
    by_cases h1:t'=k
    ·subst h1
     have:¬t'=t:=fun e=>h e.symm
     simp[this]
    ·rw[if_neg h1,if_neg h1];exact ey t t' hn.2
theorem ez(t:Int)(b:β):∀m:List (Int×β),(updP t b m).length=if(aj t m).isSome then m.length else m.length+1
 | []=>by simp[updP,aj]
 | (k, c) :: r => by
   simp only[updP,aj]
   by_cases h:t=k
   ·simp[h]
   ·simp only[if_neg h,List.length_cons,ez t b r]
    split<;>rfl
theorem mB(t:Int):∀m:List (Int×β),(delP t m).length=if(aj t m).isSome then m.length-1 else m.length
 | []=>by simp[delP,aj]
 | (k, c) :: r => by
   simp only[delP,aj]
   by_cases h:t=k
   ·simp[h]
   ·simp only[if_neg h,List.length_cons,mB t r]
    split
    ·rename_i q
     have:r≠[]:=by rintro rfl;simp[aj]at q
     have:=List.length_pos_iff.2 this
     omega
    ·rfl
theorem nV(t:Int)(b:β):∀m:List (Int×β),aV (updP t b m)=if(aj t m).isSome then aV m else aV m++[t]
 | []=>by simp[updP,aj,aV]
 | (k, c) :: r => by
   simp only[updP,aj]
   by_cases h:t=k
   ·simp[h,aV]
   ·have:=nV t b r
    simp only[aV]at this
    simp only[if_neg h,aV,List.map_cons,this]
    split<;>rfl
theorem kH(t x:Int):∀{m:List (Int×β)},x∈aV (delP t m)→x∈aV m
 | [],h=>h
 | (k, c) :: r, h => by
   simp only[delP]at h
   simp only[aV,List.map_cons,List.mem_cons]
   split at h
   ·exact .inr h
   ·simp only[aV,List.map_cons,List.mem_cons]at h
    rcases h with h|h
    ·exact .inl h
    ·exact .inr (kH t x h)
theorem lB{t:Int}{b:β}{m:List (Int×β)}(h:(aV m).Nodup):(aV (updP t b m)).Nodup:=by
 rw[nV]
 split
 ·exact h
 ·rename_i hs
  refine List.nodup_append.2 ⟨h,by simp,?_⟩
  intro x hx y hy
  simp only[List.mem_singleton]at hy
  subst hy
  rintro rfl
  have:∀m:List (Int×β),x∈aV m→(aj x m).isSome=true:=by
   intro m
   induction m with
   |nil=>intro h;simp[aV]at h
   | cons p r ih =>
     obtain⟨k,c⟩:=p
     intro h
     simp only[aV,List.map_cons,List.mem_cons]at h
     simp only[aj]
     split
     ·rfl
     ·rename_i hne
      rcases h with h|h
      ·exact absurd h hne
      ·exact ih h
  exact hs (this m hx)
theorem jc{t:Int}:∀{m:List (Int×β)},(aV m).Nodup→(aV (delP t m)).Nodup
 | [],h=>h
 | (k, c) :: r, h => by
   simp only[aV,List.map_cons,List.nodup_cons]at h
   simp only[delP]
   split
   ·exact h.2
   ·simp only[aV,List.map_cons,List.nodup_cons]
    exact⟨fun e=>h.1 (kH t k e),jc h.2⟩
def encE(k:IntKind)(ev:β→AV)(p:Int×β):AV×AV:=(.lit (.int k p.1),ev p.2)
def encM(k:IntKind)(ev:β→AV)(m:List (Int×β)):List (AV×AV):=m.map (encE k ev)
theorem jd(k:IntKind)(ev:β→AV)(t:Int):∀(m:List (Int×β)) (i:Nat),cU (.lit (.int k t)) (encM k ev m) i= .ok ((gh t m i).map fun p=>(p.1,ev p.2))
 | [],_=>rfl
 | (q, b) :: r, i => by
   have ih:=jd k ev t r (i+1)
   simp only[encM,List.map_cons,encE,cU,cT,if_true,gh]at ih ⊢
   by_cases h:t=q
   ·subst h;simp
   ·have:(t ==q)=false:=by simpa using h
    simp only[this,if_neg h,Bool.false_eq_true,if_false]
    exact ih
end
section
variable {st st':St} {id q:Nat}
theorem getM_lt{es:List (AV×AV)}(h:st.getM id=some es):id<st.boxes.length:=by
 unfold St.getM at h
 split at h
 ·rename_i hb
  exact(List.getElem?_eq_some_iff.1 hb).1
 ·cases h
theorem bJ(h:st'.boxes[id]?=st.boxes[id]?):st'.get id=st.get id:=by unfold St.get;rw[h]
theorem getM_at(h:st'.boxes[id]?=st.boxes[id]?):st'.getM id=st.getM id:=by unfold St.getM;rw[h]
theorem gW(h:st'.boxes[id]?=st.boxes[id]?):st'.getB id=st.getB id:=by unfold St.getB;rw[h]
theorem cO{cs:List AV}(h:id≠q):(st.set q cs).boxes[id]?=st.boxes[id]?:=by simp[St.set,List.getElem?_set_ne (fun e=>h e.symm)]
theorem qH{es:List (AV×AV)}{bs:List Nat}{c:Nat}(h:id≠q):(st.setM q es bs c).boxes[id]?=st.boxes[id]?:=by simp[St.setM,List.getElem?_set_ne (fun e=>h e.symm)]
theorem bp{b:Box}(h:id<st.boxes.length):(st.push b).boxes[id]?=st.boxes[id]?:=by simp[St.push,List.getElem?_append_left h]
theorem lC{es:List (AV×AV)}{bs:List Nat}{c:Nat}(h:id<st.boxes.length):(st.setM id es bs c).getM id=some es:=by simp[St.setM,St.getM,h]
theorem dO{es:List (AV×AV)}{bs:List Nat}{c:Nat}(h:id<st.boxes.length):(st.setM id es bs c).getB id=(bs,c):=by simp[St.setM,St.getB,h]
theorem get_mt{es:List (AV×AV)}(h:st.getM id=some es):st.get id=none:=by
 unfold St.getM at h;unfold St.get
 split at h
 ·rename_i hb;simp[hb]
 ·cases h
end
theorem St.sub_push(st:St)(b:Box):St.sub st (st.push b):=fun id x h=>by
 rw[bp (List.getElem?_eq_some_iff.1 h).1];exact h
theorem St.sub_of{st st':St}(h:∀id,id<st.boxes.length→st'.boxes[id]?=st.boxes[id]?):St.sub st st':=fun id x hx=>by
 rw[h id (List.getElem?_eq_some_iff.1 hx).1];exact hx
def Oth(st st':St)(S:List Nat):Prop:=st'.boxes.length=st.boxes.length∧∀id,id ∉ S→st'.boxes[id]?=st.boxes[id]?
theorem Oth.refl(st:St)(S:List Nat):Oth st st S:=⟨rfl,fun _ _=>rfl⟩
theorem Oth.trans{a b c:St}{S:List Nat}(h:Oth a b S)(k:Oth b c S):Oth a c S:=⟨k.1.trans h.1,fun id hid=>(k.2 id hid).trans (h.2 id hid)⟩
theorem Oth.mono{a b:St}{S S':List Nat}(h:Oth a b S)(hs:∀x∈S,x∈S'):Oth a b S':=⟨h.1,fun id hid=>h.2 id fun e=>hid (hs id e)⟩
theorem Oth.set(st:St)(q:Nat)(cs:List AV){S:List Nat}(h:q∈S):Oth st (st.set q cs) S:=⟨gU ..,fun id hid=>cO fun e=>hid (e▸ h)⟩
theorem Oth.get{a b:St}{S:List Nat}(h:Oth a b S){id:Nat}(hid:id ∉ S):b.get id=a.get id:=bJ (h.2 id hid)
section
variable {β:Type}
structure MapIs (st:St) (id:Nat) (k:IntKind) (ev:β→AV) (m:List (Int×β)):Prop where
 get:st.getM id=some (encM k ev m)
 nd:(aV m).Nodup
 bl:(st.getB id).1.length=m.length
 bn:(st.getB id).1.Nodup
 bc:∀b∈(st.getB id).1,b<(st.getB id).2
variable {st st':St} {id:Nat} {k:IntKind} {ev:β→AV} {m:List (Int×β)}
theorem MapIs.lt(h:MapIs st id k ev m):id<st.boxes.length:=getM_lt h.get
theorem MapIs.at(h:MapIs st id k ev m)(hb:st'.boxes[id]?=st.boxes[id]?):MapIs st' id k ev m:=by
 refine⟨(getM_at hb).trans h.get,h.nd,?_,?_,?_⟩<;>rw[gW hb]
 ·exact h.bl
 ·exact h.bn
 ·exact h.bc
theorem MapIs.set(h:MapIs st id k ev m){q:Nat}{cs:List AV}(hq:id≠q):MapIs (st.set q cs) id k ev m:=h.at (cO hq)
theorem MapIs.push(h:MapIs st id k ev m)(b:Box):MapIs (st.push b) id k ev m:=h.at (bp h.lt)
theorem MapIs.ne(h:MapIs st id k ev m){q:Nat}{cs:List AV}(hq:st.get q=some cs):id≠q:=by
 rintro rfl
 rw[get_mt h.get]at hq;cases hq
theorem da(h:MapIs st id k ev m){z:AV}{ok:Bool}{t:Int}:cA (.int k) z ok st (.map id) (.lit (.int k t))= .ok (match aj t m with
  |some b=>if ok then .tup [(ev b).dis,.lit (.bool true)]else(ev b).dis
  |none=>if ok then .tup [z,.lit (.bool false)]else z):=by
 have hk:keyI (.int k) (.lit (.int k t))=true:=by simp[keyI]
 unfold cA
 rw[if_pos hk]
 simp only[h.get,Res.ofOpt,Res.bind,jd]
 rw[←fQ t m 0]
 cases gh t m 0<;>rfl
theorem dY(h:MapIs st id k ev m){t:Int}{b:β}{x:AV}(hx:x.solid=true)(hd:x.dis=ev b){K:Sf→St→Prop}{sf:Sf}
  (hK:∀st',MapIs st' id k ev (updP t b m)→Oth st st' [id]→K sf st'):updX false (.int k) (.map id) (.lit (.int k t)) x K sf st:=by
 refine⟨by simp[keyI],rfl,hx,?_⟩
 have hlt:=h.lt
 simp only[h.get,Res.ofOpt,Res.wp,jd,hd]
 have hu:=lA (encE k ev) t b m 0
 cases hf:gh t m 0 with
 | none =>
   rw[hf]at hu
   simp only[Option.map_none,St.updM,updA]
   have hno:aj t m=none:=by rw[←fQ t m 0,hf];rfl
   refine hK _ ⟨?_,lB h.nd,?_,?_,?_⟩ ⟨by simp[St.setM],fun q hq=>qH (by simpa using hq)⟩
   ·rw[lC hlt];exact congrArg some hu.1
   ·rw[dO hlt,ez,hno];simp[h.bl]
   ·rw[dO hlt]
    refine List.nodup_append.2 ⟨h.bn,by simp,fun x hx y hy e=>?_⟩
    simp only[List.mem_singleton]at hy
    subst hy;subst e
    exact Nat.lt_irrefl _ (h.bc _ hx)
   ·rw[dO hlt]
    intro b hb
    simp only[List.mem_append,List.mem_singleton]at hb
    rcases hb with hb|rfl
    ·have:=h.bc b hb;simp only;omega
    ·simp
 | some p =>
   obtain⟨j,c⟩:=p
   rw[hf]at hu
   simp only[Nat.sub_zero]at hu
   simp only[Option.map_some,St.updM,updA]
   have hyes:(aj t m).isSome=true:=by rw[←fQ t m 0,hf];rfl
   refine hK _ ⟨?_,lB h.nd,?_,?_,?_⟩ ⟨by simp[St.setM],fun q hq=>qH (by simpa using hq)⟩
   ·rw[lC hlt];exact congrArg some hu.2.1
   ·rw[dO hlt,ez,if_pos hyes];exact h.bl
   ·rw[dO hlt];exact h.bn
   ·rw[dO hlt];exact h.bc
theorem iN(h:MapIs st id k ev m){t:Int}{K:Sf→St→Prop}{sf:Sf}
  (hK:∀st',MapIs st' id k ev (delP t m)→Oth st st' [id]→K sf st'):delX false (.int k) (.map id) (.lit (.int k t)) K sf st:=by
 refine⟨by simp[keyI],rfl,?_⟩
 have hlt:=h.lt
 simp only[h.get,Res.ofOpt,Res.wp,jd]
 cases hf:gh t m 0 with
 | none =>
   have hu:delP t m=m:=by
    have:∀(m:List (Int×β)) (i:Nat),gh t m i=none→delP t m=m:=by
     intro m
     induction m with
     |nil=>intro i _;rfl
     | cons p r ih =>
       obtain⟨k,c⟩:=p
       intro i h
       simp only[gh]at h
       simp only[delP]
       split at h
       ·cases h
       ·rename_i hne;rw[if_neg hne,ih (i+1) h]
    exact this m 0 hf
   simp only[Option.map_none]
   exact hK _ (by rw[hu];exact h) (Oth.refl _ _)
 | some p =>
   obtain⟨j,c⟩:=p
   have hu:=lA (encE k ev) t c m 0
   rw[hf]at hu
   simp only[Nat.sub_zero]at hu
   simp only[Option.map_some,St.delM]
   have hyes:(aj t m).isSome=true:=by rw[←fQ t m 0,hf];rfl
   refine hK _ ⟨?_,jc h.nd,?_,?_,?_⟩ ⟨by simp[St.setM],fun q hq=>qH (by simpa using hq)⟩
   ·rw[lC hlt];exact congrArg some hu.2.2.1
   ·rw[dO hlt,mB,if_pos hyes]
    simp only[List.length_eraseIdx,h.bl,if_pos hu.2.2.2]
   ·rw[dO hlt];exact h.bn.sublist (List.eraseIdx_sublist ..)
   ·rw[dO hlt];exact fun b hb=>h.bc b (List.mem_of_mem_eraseIdx hb)
theorem kI(h:MapIs st id k ev m):lenI .mp st (.map id)= .ok (.lit (.int .i64 m.length)):=by
 simp only[lenI,h.get,Res.ofOpt,Res.bind,encM,List.length_map]
theorem MapIs.clone(h:MapIs st id k ev m):MapIs (st.push (.mp (encM k ev m) (st.getB id).1 (st.getB id).2)) st.boxes.length k ev m:=by
 refine⟨pC ..,h.nd,?_,?_,?_⟩<;>rw[pD]
 ·exact h.bl
 ·exact h.bn
 ·exact h.bc
theorem MapIs.new(st:St)(k:IntKind)(ev:β→AV):MapIs (st.push (.mp [] [] 0)) st.boxes.length k ev []:=by
 refine⟨pC ..,by simp[aV],?_,?_,?_⟩<;>rw[pD]<;>simp
end
theorem al{P:Program}{X:Cx}{f:FuncId}{fn:AFun}{vs:List AV}{st:St}(hmix:P.follows .mixedOrders=true)(hf:iG P X f=some fn)(hX:X.F=id)(hlen:Nat.ble vs.length fn.n=true){v0:AV}(h:∀Q:AV→St→Prop,(∀st',Q v0 st')→aFun P id true fn vs st Q):az P f vs st v0:=by
 refine pcalls_of hmix hf (Nat.le_of_ble_eq_true hlen) ?_
 rw[hX];exact h _ fun _=>rfl
end Go.Fx
namespace Go.Fx
open Go
abbrev Nd:=Int×Nat×Nat
abbrev Qu:=List (Nat×Int)
def aQ:Qu→Nat→Nat
 | [],h=>h
 |(x,_)::_,_=>x
def aP:Nat→Qu→Nat
 |p,[]=>p
 |_,(t,_)::r=>aP t r
def bw:Nat→Qu→Nat→Nat→Option Nd
 |_,[],_,_=>none
 |p,(u,v)::r,h,t=>if t=u then some (v,p,aQ r h)else bw u r h t
def aT(L:Qu):List Nat:=L.map Prod.fst
theorem gF(B:Qu)(h t:Nat):∀(A:Qu) (p:Nat),bw p (A++B) h t=match bw p A (aQ B h) t with|some x=>some x|none=>bw (aP p A) B h t
 | [],p=>rfl
 | (u, v) :: A, p => by
   simp only[List.cons_append,bw,aP]
   split
   ·cases A<;>rfl
   ·exact gF B h t A u
theorem dn{h t:Nat}:∀{L:Qu} {p:Nat},t ∉ aT L→bw p L h t=none
 | [],_,_=>rfl
 | (u, v) :: r, p, hn => by
   simp only[aT,List.map_cons,List.mem_cons,not_or]at hn
   simp only[bw]
   rw[if_neg hn.1]
   exact dn hn.2
theorem ff:∀{L:Qu} {p:Nat},L≠[]→aP p L∈aT L
 | [(t,v)],p,_=>by simp[aP,aT]
 | (t, v) :: y :: r, p, _ => by
   have:=ff (L:=y::r) (p:=t) (by simp)
   simp only[aP,aT,List.map_cons,List.mem_cons]at this ⊢
   exact .inr this
theorem gG(B:Qu):∀(A:Qu) (p:Nat),aP p (A++B)=aP (aP p A) B
 | [],_=>rfl
 |(t,v)::A,p=>gG B A t
theorem last_ne{L:Qu}{p p':Nat}(h:L≠[]):aP p L=aP p' L:=by
 cases L with
 |nil=>exact absurd rfl h
 |cons x r=>rfl
theorem qI{h h' t:Nat}:∀{L:Qu} {p:Nat},(aT L).Nodup→L≠[]→bw p L h' t=if t=aP p L then(bw p L h t).map (fun x=>(x.1,x.2.1,h'))else bw p L h t
 | [(u, v)], p, _, _ => by
   simp only[bw,aP,aQ]
   by_cases e:t=u
   ·simp[e]
   ·simp[e]
 | (u, v) :: (u2, v2) :: r, p, hn, _ => by
   have ih:=qI (h:=h) (h':=h') (t:=t) (L:=(u2,v2)::r) (p:=u) (List.nodup_cons.1 hn).2 (by simp)
   have hl:=ff (L:=(u2,v2)::r) (p:=u) (by simp)
   have hne:u≠aP u ((u2,v2)::r):=fun e=>(List.nodup_cons.1 hn).1 (by rw[e];exact hl)
   have e0:∀q,bw p ((u,v)::(u2,v2)::r) q t=if t=u then some (v,p,u2)else bw u ((u2,v2)::r) q t:=fun q=>rfl
   rw[e0,e0,show aP p ((u,v)::(u2,v2)::r)=aP u ((u2,v2)::r)from rfl]
   by_cases e:t=u
   ·subst e;rw[if_pos rfl,if_pos rfl,if_neg hne]
   ·rw[if_neg e,if_neg e];exact ih
theorem nodeA_p{h t p p':Nat}{u:Nat}{v:Int}{r:Qu}(hn:(aT ((u,v)::r)).Nodup):bw p' ((u,v)::r) h t=if t=u then(bw p ((u,v)::r) h t).map (fun x=>(x.1,p',x.2.2))else bw p ((u,v)::r) h t:=by
 simp only[bw]
 by_cases e:t=u
 ·simp[e]
 ·simp[e]
theorem nodeA_push{L:Qu}{u:Nat}{v:Int}{t:Nat}(hn:(aT L).Nodup)(hu:u ∉ aT L)(hL:L≠[]) :
  bw 0 (L++[(u,v)]) 0 t=if t=aP 0 L then(bw 0 L 0 t).map (fun x=>(x.1,x.2.1,u))else if t=u then some (v,aP 0 L,0)else bw 0 L 0 t:=by
 rw[gF]
 simp only[aQ,bw]
 have hl:=ff (p:=0) hL
 rw[qI (h:=0) hn hL]
 by_cases e:t=aP 0 L
 ·rw[if_pos e,if_pos e]
  cases hx:bw 0 L 0 t with
  |some x=>rfl
  | none =>
    exfalso
    have:∀(L:Qu) (p:Nat),t∈aT L→bw p L 0 t≠none:=by
     intro L
     induction L with
     |nil=>intro p h;simp[aT]at h
     | cons y r ih =>
       obtain⟨a,b⟩:=y
       intro p h
       simp only[bw]
       split
       ·simp
       ·rename_i hne
        simp only[aT,List.map_cons,List.mem_cons]at h
        exact ih a (h.resolve_left hne)
    exact this L 0 (e▸ hl) hx
 ·rw[if_neg e,if_neg e]
  by_cases e2:t=u
  ·subst e2;rw[dn hu]
   try simp
  ·simp only[if_neg e2]
   cases bw 0 L 0 t<;>rfl
theorem nodeA_del{A B:Qu}{u:Nat}{v:Int}{t:Nat}(hn:(aT (A++(u,v)::B)).Nodup) :
  bw 0 (A++B) 0 t=if t=u then none else
   if A≠[]∧t=aP 0 A then(bw 0 (A++(u,v)::B) 0 t).map (fun x=>(x.1,x.2.1,aQ B 0))else
   if B≠[]∧t=aQ B 0 then(bw 0 (A++(u,v)::B) 0 t).map (fun x=>(x.1,aP 0 A,x.2.2))else bw 0 (A++(u,v)::B) 0 t:=by
 have h1:(aT A).Nodup∧(aT ((u,v)::B)).Nodup∧∀x∈aT A,∀y∈aT ((u,v)::B),x≠y:=by
  simp only[aT,List.map_append]at hn
  exact List.nodup_append.1 hn
 obtain⟨hA,hB0,hAB⟩:=h1
 have hB:=List.nodup_cons.1 hB0
 have hu:u ∉ aT A:=fun e=>hAB u e u (by simp[aT]) rfl
 rw[gF,gF,show aQ ((u,v)::B) 0=u from rfl]
 by_cases e:t=u
 ·subst e
  rw[if_pos rfl,dn hu]
  exact dn hB.1
 ·rw[if_neg e]
  have e1:bw (aP 0 A) ((u,v)::B) 0 t=bw u B 0 t:=by simp only[bw];rw[if_neg e]
  rw[e1]
  by_cases hAe:A= []
  ·subst hAe
   simp only[bw,aP,ne_eq,not_true_eq_false,false_and,if_false]
   cases B with
   |nil=>simp[bw]
   | cons y r =>
     obtain⟨w,z⟩:=y
     rw[nodeA_p (p:=u) (p':=0) hB.2]
     simp[show aQ ((w,z)::r) 0=w from rfl]
  ·rw[qI (h:=u) (h':=aQ B 0) hA hAe]
   by_cases e2:t=aP 0 A
   ·have hin:t∈aT A:=e2▸ ff hAe
    rw[if_pos e2,if_pos ⟨hAe,e2⟩]
    cases hx:bw 0 A u t with
    |some x=>rfl
    | none =>
      have hnb:t ∉ aT B:=fun hb=>hAB t hin t (by simp only[aT,List.map_cons,List.mem_cons];exact .inr hb) rfl
      simp only[Option.map_none,dn hnb]
   ·rw[if_neg e2,if_neg (fun q=>e2 q.2)]
    cases B with
    |nil=>simp[bw]
    | cons y r =>
      obtain⟨w,z⟩:=y
      rw[nodeA_p (p:=u) (p':=aP 0 A) hB.2]
      simp only[show aQ ((w,z)::r) 0=w from rfl,ne_eq,reduceCtorEq,not_false_eq_true,true_and]
      by_cases e3:t=w
      ·have hna:t ∉ aT A:=fun ha=>hAB t ha t (by simp[aT,e3]) rfl
       rw[if_pos e3,if_pos e3,dn hna]
      ·rw[if_neg e3,if_neg e3]
theorem nodeA_at{A B:Qu}{u:Nat}{v:Int}(hu:u ∉ aT A):bw 0 (A++(u,v)::B) 0 u=some (v,aP 0 A,aQ B 0):=by
 rw[gF,dn hu]
 simp[bw]
def ndAV(x:Nd):AV:=.agg [.lit (.int .i64 x.1),.lit (.int .u64 (x.2.1:Nat)),.lit (.int .u64 (x.2.2:Nat))]
theorem ndAV_dis(x:Nd):(ndAV x).dis=ndAV x:=rfl
structure QIs (st:St) (q mid:Nat) (L:Qu) (g:Nat):Prop where
 get:st.get q=some [.lit (.int .u64 (aQ L 0:Nat)),.lit (.int .u64 (aP 0 L:Nat)),.lit (.int .u64 (g:Nat)),.map mid]
 mp:∃m,MapIs st mid .u64 ndAV m∧(∀t:Nat,aj t m=bw 0 L 0 t)∧m.length=L.length
 srt:(aT L).Pairwise (· < ·)
 pos:∀t∈aT L,0<t∧t≤g
theorem QIs.nd{st:St}{q mid g:Nat}{L:Qu}(h:QIs st q mid L g):(aT L).Nodup:=h.srt.imp fun h=>Nat.ne_of_lt h
theorem QIs.ne{st:St}{q mid g:Nat}{L:Qu}(h:QIs st q mid L g):mid≠q:=by
 obtain⟨m,hm,_⟩:=h.mp
 exact hm.ne h.get
theorem QIs.ltq{st:St}{q mid g:Nat}{L:Qu}(h:QIs st q mid L g):q<st.boxes.length:=bI h.get
theorem QIs.ltm{st:St}{q mid g:Nat}{L:Qu}(h:QIs st q mid L g):mid<st.boxes.length:=by
 obtain⟨m,hm,_⟩:=h.mp
 exact hm.lt
theorem QIs.at{st st':St}{q mid g:Nat}{L:Qu}(h:QIs st q mid L g)(h1:st'.boxes[q]?=st.boxes[q]?)(h2:st'.boxes[mid]?=st.boxes[mid]?):QIs st' q mid L g:=by
 obtain⟨m,hm,h3,h4⟩:=h.mp
 exact⟨(bJ h1).trans h.get,⟨m,hm.at h2,h3,h4⟩,h.srt,h.pos⟩
theorem QIs.nil_iff{st:St}{q mid g:Nat}{L:Qu}(h:QIs st q mid L g):(aQ L 0=0↔L= [])∧(aP 0 L=0↔L= []):=by
 cases L with
 |nil=>simp[aQ,aP]
 | cons x r =>
   obtain⟨t,v⟩:=x
   have h1:=h.pos t (by simp[aT])
   have h2:=h.pos _ (ff (L:=(t,v)::r) (p:=0) (by simp))
   simp only[aQ,reduceCtorEq,iff_false]
   omega
theorem fR{t:Nat}:∀{L:Qu} {p:Nat},t∈aT L→∃x,bw p L 0 t=some x
 | (u, v) :: r, p, h => by
   simp only[bw]
   split
   ·exact⟨_,rfl⟩
   ·rename_i hne
    simp only[aT,List.map_cons,List.mem_cons]at h
    exact fR (h.resolve_left hne)
theorem db(A B:Qu):aT (A++B)=aT A++aT B:=by simp[aT]
theorem QIs.clone{st st':St}{q mid q' mid' g:Nat}{L:Qu}(h:QIs st q mid L g)(hg:st'.get q'=some [.lit (.int .u64 (aQ L 0:Nat)),.lit (.int .u64 (aP 0 L:Nat)),.lit (.int .u64 (g:Nat)),.map mid'])
  (hm:∀m,MapIs st mid .u64 ndAV m→MapIs st' mid' .u64 ndAV m):QIs st' q' mid' L g:=by
 obtain⟨m,h1,h2,h3⟩:=h.mp
 exact⟨hg,⟨m,hm m h1,h2,h3⟩,h.srt,h.pos⟩
theorem nodeA_get{L:Qu}(hn:(aT L).Nodup){i:Nat}(hi:i<L.length):bw 0 L 0 L[i].1=some (L[i].2,aP 0 (L.take i),aQ (L.drop (i+1)) 0):=by
 have e:L=L.take i++(L[i].1,L[i].2)::L.drop (i+1):=by
  rw[←List.drop_eq_getElem_cons hi,List.take_append_drop]
 have hno:L[i].1 ∉ aT (L.take i):=by
  intro hm
  have hn':=hn
  rw[e,db]at hn'
  exact(List.nodup_append.1 hn').2.2 _ hm _ (by simp[aT]) rfl
 have:=nodeA_at (v:=L[i].2) (B:=L.drop (i+1)) hno
 rw[←e]at this
 exact this
theorem nxt_drop{L:Qu}{i:Nat}(hi:i<L.length):aQ (L.drop i) 0=L[i].1:=by
 rw[List.drop_eq_getElem_cons hi]
 rfl
theorem tick_get{L:Qu}{i:Nat}(hi:i<L.length):L[i].1∈aT L:=List.mem_map.2 ⟨L[i],List.getElem_mem hi,rfl⟩
theorem QIs.push{st st':St}{q mid g:Nat}{L:Qu}{v:Int}(h:QIs st q mid L g){m':List (Int×Nd)}(hg:st'.get q=some [.lit (.int .u64 (aQ (L++[(g+1,v)]) 0:Nat)),.lit (.int .u64 ((g+1:Nat))),.lit (.int .u64 ((g+1:Nat))),.map mid])
  (hm:MapIs st' mid .u64 ndAV m') (hl:∀t:Nat,aj t m'=bw 0 (L++[(g+1,v)]) 0 t) (hn:m'.length=L.length+1):QIs st' q mid (L++[(g+1,v)]) (g+1):=by
 refine⟨by rw[gG];exact hg,⟨m',hm,hl,by simp[hn]⟩,?_,fun t ht=>?_⟩
 ·rw[db]
  refine List.pairwise_append.2 ⟨h.srt,by simp[aT],fun x hx y hy=>?_⟩
  simp only[aT,List.map_cons,List.map_nil,List.mem_singleton]at hy
  have:=(h.pos x hx).2
  omega
 ·rw[db]at ht
  rcases List.mem_append.1 ht with ht|ht
  ·have:=h.pos t ht;omega
  ·simp only[aT,List.map_cons,List.map_nil,List.mem_singleton]at ht
   omega
theorem QIs.fresh{st:St}{q mid g:Nat}{L:Qu}(h:QIs st q mid L g):g+1 ∉ aT L:=fun e=>by have:=(h.pos _ e).2;omega
theorem QIs.del{st st':St}{q mid g:Nat}{A B:Qu}{t:Nat}{v:Int}(h:QIs st q mid (A++(t,v)::B) g){m':List (Int×Nd)}(hg:st'.get q=some [.lit (.int .u64 (aQ (A++B) 0:Nat)),.lit (.int .u64 (aP 0 (A++B):Nat)),.lit (.int .u64 (g:Nat)),.map mid])
  (hm:MapIs st' mid .u64 ndAV m') (hl:∀t:Nat,aj t m'=bw 0 (A++B) 0 t) (hn:m'.length=(A++B).length):QIs st' q mid (A++B) g:=by
 have hsub:(aT (A++B)).Sublist (aT (A++(t,v)::B)):=by
  simp only[db]
  exact List.Sublist.append (List.Sublist.refl _) (List.sublist_cons_self _ _)
 exact⟨hg,⟨m',hm,hl,hn⟩,h.srt.sublist hsub,fun x hx=>h.pos x (hsub.subset hx)⟩
end Go.Fx
namespace Go.Fx
open Go
abbrev W3:=Nat×Int×Int
structure ChP where
 closed:Bool
 cap:Nat
 buf:List Int
 S:List W3
 V:List W3
 g0:Nat
 g1:Nat
def qOf(l:List W3):Qu:=l.map fun x=>(x.1,x.2.1)
def wEnt(d:Int)(l:List W3):List (Int×(Int×Int×Nat)):=l.map fun x=>(x.2.1,(d,x.2.2,x.1))
def entC(S V:List W3):List (Int×(Int×Int×Nat)):=wEnt 0 S++wEnt 1 V
def wtAV(x:Int×Int×Nat):AV:=.agg [.lit (.int .i64 x.1),.lit (.int .i64 x.2.1),.lit (.int .u64 (x.2.2:Nat))]
def ints(l:List Int):List AV:=l.map fun v=>.lit (.int .i64 v)
def ah:AV→List Nat
 | .bs id _ _ _ _=>[id]
 |_=>[]
structure ChIs (st:St) (c:Nat) (P:ChP) (q0 m0 q1 m1 wid:Nat) (bv:AV):Prop where
 get:st.get c=some [.lit (.bool true),.lit (.bool P.closed),.lit (.int .i64 (P.cap:Nat)),bv,.ptr q0 0,.ptr q1 0,.map wid]
 buf:MB bv st (ints P.buf)
 s:QIs st q0 m0 (qOf P.S) P.g0
 r:QIs st q1 m1 (qOf P.V) P.g1
 w:∃W,MapIs st wid .i64 wtAV W∧∀t,aj t W=aj t (entC P.S P.V)
 ids:[c,q0,q1,m0,m1,wid].Nodup
 bid:∀x∈ah bv,x ∉ [c,q0,q1,m0,m1,wid]
 nd:(aV (entC P.S P.V)).Nodup
 rng:∀t∈aV (entC P.S P.V),0≤t∧t<64
 zv:∀x∈P.V,x.2.2=0
def Kp(st st':St)(F:List Nat):Prop:=st.boxes.length≤st'.boxes.length∧∀id,id<st.boxes.length→id ∉ F→st'.boxes[id]?=st.boxes[id]?
theorem Kp.refl(st:St)(F:List Nat):Kp st st F:=⟨Nat.le_refl _,fun _ _ _=>rfl⟩
theorem Kp.trans{a b c:St}{F F':List Nat}(h:Kp a b F)(k:Kp b c F')(hf:∀x∈F',x∈F∨a.boxes.length≤x):Kp a c F :=
 ⟨Nat.le_trans h.1 k.1,fun id hid hn=>(k.2 id (Nat.lt_of_lt_of_le hid h.1) fun e=>(hf id e).elim hn (fun q=>by omega)).trans (h.2 id hid hn)⟩
theorem Oth.kp{st st':St}{S F:List Nat}(h:Oth st st' S)(hs:∀x∈S,x∈F):Kp st st' F:=⟨Nat.le_of_eq h.1.symm,fun id _ hn=>h.2 id fun e=>hn (hs id e)⟩
theorem MB.at{v:AV}{st st':St}{l:List AV}(h:MB v st l)(hb:∀x∈ah v,st'.boxes[x]?=st.boxes[x]?):MB v st' l:=by
 rcases h with⟨rfl,rfl⟩|⟨id,cap,r,rfl,hg,h1,h2⟩
 ·exact .inl ⟨rfl,rfl⟩
 ·exact .inr ⟨id,cap,r,rfl,(bJ (hb id (by simp[ah]))).trans hg,h1,h2⟩
theorem MB.lt{v:AV}{st:St}{l:List AV}(h:MB v st l):∀x∈ah v,x<st.boxes.length:=by
 rcases h with⟨rfl,rfl⟩|⟨id,cap,r,rfl,hg,h1,h2⟩
 ·simp[ah]
 ·intro x hx
  simp only[ah,List.mem_singleton]at hx
  subst hx
  exact bI hg
section
variable {st st':St} {c q0 m0 q1 m1 wid:Nat} {bv:AV} {P:ChP}
theorem ChIs.lts(h:ChIs st c P q0 m0 q1 m1 wid bv):∀x∈ [c,q0,q1,m0,m1,wid]++ah bv,x<st.boxes.length:=by
 obtain⟨W,hW,_⟩:=h.w
 intro x hx
 simp only[List.mem_append,List.mem_cons,List.not_mem_nil,or_false]at hx
 rcases hx with(rfl|rfl|rfl|rfl|rfl|rfl)|hx
 ·exact bI h.get
 ·exact h.s.ltq
 ·exact h.r.ltq
 ·exact h.s.ltm
 ·exact h.r.ltm
 ·exact hW.lt
 ·exact h.buf.lt x hx
end
theorem MB.grow{v:AV}{st:St}{l new:List AV}{bytes:Nat}{C:AV→St→Prop}(h:MB v st l)(hl:Lits l)(hn:Lits new)(hr:eZ (l.length+new.length) bytes=true)
  (hC:∀v' st',MB v' st' (l++new)→Kp st st' (ah v)→(∀x∈ah v',x∈ah v∨st.boxes.length≤x)→C v' st'):appX false 1 bytes v C st new:=by
 rcases h with⟨rfl,rfl⟩|⟨id,cap,r,rfl,hg,h1,h2⟩
 ·refine⟨rfl,by simpa using hr,?_⟩
  split
  ·rename_i h
   have:new= []:=by simpa using h
   subst this
   exact hC _ _ (.inl ⟨rfl,rfl⟩) (Kp.refl _ _) (by simp[ah])
  ·intro c hc
   refine hC _ _ (.inr ⟨st.boxes.length,c,List.replicate (c-new.length) .any,by simp,?_,by simpa using hc,by simp;omega⟩) ⟨by simp[St.push],fun id hid _=>bp hid⟩ (by simp[ah])
   rw[hn.cellsD]
   simp only[List.nil_append,Nat.mul_one]
   exact bG st _
 ·refine⟨rfl,rfl,hr,?_⟩
  rw[hg]
  show(Res.ok _).wp _
  rw[pu,hn.cellsD]
  have hid:=bI hg
  split
  ·rename_i hc
   refine⟨by omega,hC _ _ (.inr ⟨id,cap,r.drop new.length,by simp,?_,by simpa using hc,?_⟩) ⟨by simp[St.set],fun id' _ hne=>cO (by simpa [ah]using hne)⟩ (by simp[ah])⟩
   ·rw[aY hid,Nat.zero_add,Nat.mul_one,gE rfl (by simp at h2;omega)]
    simp
   ·simp at h2 ⊢;omega
  ·rename_i hc
   have e:List.map AV.own1 (List.take (l.length*1) (List.drop 0 (l++r)))=l:=by simp[hl.own]
   refine⟨by simp,fun c hc=>hC _ _ (.inr ⟨st.boxes.length,c,List.replicate (c-(l.length+new.length)) .any,by simp,?_,by simpa using hc,by simp;omega⟩) ⟨by simp[St.push],fun id' hid' _=>bp hid'⟩ (by simp[ah])⟩
   rw[e]
   simp only[Nat.mul_one]
   exact bG st _
def foot(c q0 m0 q1 m1 wid:Nat)(bv:AV):List Nat:=[c,q0,q1,m0,m1,wid]++ah bv
def ChPost(st:St)(c:Nat)(P:ChP)(q0 m0 q1 m1 wid:Nat)(bv:AV)(st':St):Prop :=
 ∃bv',ChIs st' c P q0 m0 q1 m1 wid bv'∧Kp st st' (foot c q0 m0 q1 m1 wid bv)∧∀x∈ah bv',x∈ah bv∨st.boxes.length≤x
theorem ChIs.post{st st':St}{c q0 m0 q1 m1 wid:Nat}{bv:AV}{P:ChP}(h:ChIs st' c P q0 m0 q1 m1 wid bv)(hk:Kp st st' (foot c q0 m0 q1 m1 wid bv)):ChPost st c P q0 m0 q1 m1 wid bv st':=⟨bv,h,hk,fun _ h=>.inl h⟩
theorem ChIs.rebufC{st st1:St}{c q0 m0 q1 m1 wid:Nat}{bv bv1:AV}{P:ChP}{cl:Bool}{b':List Int}(h:ChIs st c P q0 m0 q1 m1 wid bv)(hm:MB bv1 st1 (ints b'))(hk:Kp st st1 (ah bv))(hb:∀x∈ah bv1,x∈ah bv∨st.boxes.length≤x) :
  ChIs (st1.set c [.lit (.bool true),.lit (.bool cl),.lit (.int .i64 (P.cap:Nat)),bv1,.ptr q0 0,.ptr q1 0,.map wid]) c {P with buf:=b',closed:=cl} q0 m0 q1 m1 wid bv1 ∧
  Kp st (st1.set c [.lit (.bool true),.lit (.bool cl),.lit (.int .i64 (P.cap:Nat)),bv1,.ptr q0 0,.ptr q1 0,.map wid]) (foot c q0 m0 q1 m1 wid bv):=by
 have hlt:=h.lts
 have hids:=h.ids
 have hbid:=h.bid
 have hcl:c<st1.boxes.length:=Nat.lt_of_lt_of_le (hlt c (by simp)) hk.1
 simp only[List.nodup_cons,List.mem_cons,List.not_mem_nil,or_false,not_or]at hids
 have hat:∀x∈ [q0,q1,m0,m1,wid],(st1.set c [.lit (.bool true),.lit (.bool cl),.lit (.int .i64 (P.cap:Nat)),bv1,.ptr q0 0,.ptr q1 0,.map wid]).boxes[x]?=st.boxes[x]?:=by
  intro x hx
  rw[cO (by simp at hx;omega)]
  refine hk.2 x (hlt x (by simp at hx ⊢;omega)) fun e=>?_
  exact hbid x e (by simp at hx ⊢;omega)
 have hbc:∀x∈ah bv1,x ∉ [c,q0,q1,m0,m1,wid]:=by
  intro x hx hin
  rcases hb x hx with e|e
  ·exact hbid x e hin
  ·have:=hlt x (List.mem_append_left _ hin);omega
 obtain⟨W,hW,hl⟩:=h.w
 refine⟨⟨aY hcl,hm.at fun x hx=>cO fun e=>hbc x hx (by simp[e]),h.s.at (hat _ (by simp)) (hat _ (by simp)),h.r.at (hat _ (by simp)) (hat _ (by simp)),⟨W,hW.at (hat _ (by simp)),hl⟩,h.ids,hbc,h.nd,h.rng,h.zv⟩,⟨by rw[gU];exact hk.1,fun x hx hn=>?_⟩⟩
 simp only[foot,List.mem_append,List.mem_cons,List.not_mem_nil,or_false,not_or]at hn
 rw[cO hn.1.1]
 exact hk.2 x hx hn.2
end Go.Fx
