/- An evaluator for resolved code, proved against the model: part 5. -/
import Derived.Test.YtoiokbmgdcaaoaaFxD
import Derived.RangeFuncRecord
import Derived.RangeFuncIn
import Derived.Deep.LoopGhost
import Derived.Scope
namespace Go.Fx
open Go Go.RowKit Go.Lib
def mQ:AI→List Nat
 | .newL s _=>[s]
 | .store _ (.r t) _=>[t]
 | _=>[]
def qQ:List GI→List Nat
 | []=>[]
 | ⟨_,i⟩::r=>mQ i++qQ r
def qR:List (Bool×GI)→List Nat
 | []=>[]
 | (_,⟨_,i⟩)::r=>mQ i++qR r
def gV (pre:List GI) (post:List (Bool×GI)):List Nat:=qQ pre++qR post
section
variable (P:Program) (F:Nat→FuncId) (locs0:List (Nat×List AV)) (ρ:St)
def valM (C:PK→Sf→Prop) (d:Option Nat) (sf:Sf) (v:AV):Prop:=C (.val v) (sf.put d v)
def rM (d:Option Nat) (f:AV) (args:List AV) (C:PK→Sf→Prop) (sf:Sf):Prop :=
 match f with
 | .fn (.func q) fs cs=>args.all AV.noL = true∧bt P q = true∧∃ v,(∀ s,St.sub ρ s→aF P q (fs++args.map AV.dis++cs) s v)∧valM C d sf v
 | _=>False
def oneM (i:AI) (C:PK→Sf→Prop) (sf:Sf):Prop :=
 match i with
 | .call d _ f args=>rM P ρ d (sf.ev F f) (args.map (sf.ev F)) C sf
 | .newL s cs=>C (.new s cs) (sf.set s .any)
 | .store k a x=>bK locs0 a (sf.ev F a) (sf.ev F x) k C sf
 | i=>(popI F i sf ρ).wp (valM C i.dst sf)
def cH (H:List PK→Sf→Prop) (ks:List PK) (k:PK) (sf:Sf):Prop:=H (ks++[k]) sf
def preM:List GI→(List PK→Sf→Prop)→List PK→Sf→Prop
 | [],K,ks,sf=>K ks sf
 | ⟨none,i⟩::r,K,ks,sf=>oneM P F locs0 ρ i (cH (preM r K) ks) sf
 | ⟨some (t,want),i⟩::r,K,ks,sf=>bu t want (sf.reg t) (oneM P F locs0 ρ i (cH (preM r K) ks)) (gU (preM r K) ks i.dst) sf
def aH:List (Bool×GI)→(List PK→Prop)→List PK→Sf→Prop
 | [],K,ks,_=>K ks
 | (true,g)::r,K,ks,sf=>aH r K (ks++[.hole]) (sf.put g.i.dst .any)
 | (false,⟨none,i⟩)::r,K,ks,sf=>oneM P F locs0 ρ i (cH (aH r K) ks) sf
 | (false,⟨some (t,want),i⟩)::r,K,ks,sf=>bu t want (sf.reg t) (oneM P F locs0 ρ i (cH (aH r K) ks)) (gU (aH r K) ks i.dst) sf
def dc:List (Bool×GI)→List PK→List PK→Prop
 | [],[],[]=>True
 | (true,_)::_,_::_,.new _ _::_=>False
 | (true,_)::r,_::h,_::k=>dc r h k
 | (false,_)::r,a::h,b::k=>b = a∧dc r h k
 | _,_,_=>False
def finK (drop:List Nat) (T:Sf→Prop) (ks:List PK) (sf:Sf):Prop:=ksB drop ks = true∧T (bk ks ks (bP ks sf))
def postM (post:List (Bool×GI)) (drop:List Nat) (ks1 ksh:List PK) (T:Sf→Prop) (ks:List PK) (sf:Sf):Prop:=dc post ksh ks∧finK drop T (ks1++ks) sf
def afterM (post:List (Bool×GI)) (Qc:AV→St→Prop) (d:Option Nat) (sf:Sf) (drop:List Nat) (T:St→Sf→Prop) (ks1 ksh:List PK):Prop :=
 ∀ v s,Qc v s→St.sub ρ s∧preM P F locs0 ρ (post.map (·.2)) (postM post drop ks1 ksh (T s)) [] (sf.put d v)
def holeK (drop:List Nat) (ks1:List PK) (A:List PK→Prop) (ksh:List PK):Prop:=ksB drop (ks1++ksh) = true∧A ksh
def pJ (st:St) (d:Option Nat) (f:AV) (args:List AV) (post:List (Bool×GI)) (drop:List Nat) (T:St→Sf→Prop) (ks1:List PK) (sf:Sf):Prop :=
 match f with
 | .fn (.func q) fs cs=>args.all AV.noL = true∧bt P q = true∧∃ Qc,aX P q (fs++args.map AV.dis++cs) st Qc∧aH P F locs0 ρ post (holeK drop ks1 (afterM P F locs0 ρ post Qc d sf drop T ks1)) [] (sf.put d .any)
 | _=>False
def atM (st:St) (d:Option Nat) (f:Opd) (args:List Opd) (post:List (Bool×GI)) (drop:List Nat) (T:St→Sf→Prop) (ks1:List PK) (sf:Sf):Prop:=pJ P F locs0 ρ st d (sf.ev F f) (args.map (sf.ev F)) post drop T ks1 sf
end
def drawM (P:Program) (F:Nat→FuncId) (pre:List GI) (d:Option Nat) (f:Opd) (args:List Opd) (post:List (Bool×GI)) (sf:Sf) (st:St) (T:St→Sf→Prop):Prop :=
 ∃ ρ,St.sub ρ st∧preM P F sf.locs ρ pre (atM P F sf.locs ρ st d f args post (gV pre post) T) [] ⟨sf.regs,aM (gV pre post) sf.locs⟩
def PK.loc:PK→Bool
 | .new _ _ | .store _ _ | .nst _ _ | .app _ _=>true
 | _=>false
theorem pK:∀ ks:List PK,aD (ks.filter PK.loc) = aD ks
 | []=>rfl
 | k::r=>by cases k <;> simp [PK.loc,aD,List.filter_cons,pK r]
theorem news_loc:∀ ks:List PK,bz (ks.filter PK.loc) = bz ks
 | []=>rfl
 | k::r=>by cases k <;> simp [PK.loc,bz,List.filter_cons,news_loc r]
theorem apps_loc:∀ ks:List PK,bX (ks.filter PK.loc) = bX ks
 | []=>rfl
 | k::r=>by cases k <;> simp [PK.loc,bX,List.filter_cons,apps_loc r]
theorem nsts_loc:∀ ks:List PK,bY (ks.filter PK.loc) = bY ks
 | []=>rfl
 | k::r=>by cases k <;> simp [PK.loc,bY,List.filter_cons,nsts_loc r]
theorem nstB_loc:∀ (ks:List PK) (seen:List (Nat×Nat)),nstB seen (ks.filter PK.loc) = nstB seen ks
 | [],_=>rfl
 | k::r,seen=>by cases k <;> simp [PK.loc,nstB,List.filter_cons,nstB_loc r]
theorem qS (t:Nat):∀ ks:List PK,bD t (ks.filter PK.loc) = bD t ks
 | []=>rfl
 | k::r=>by cases k <;> simp [PK.loc,bD,List.filter_cons,qS t r]
theorem qT:∀ (ks:List PK) (sf:Sf),bP (ks.filter PK.loc) sf = bP ks sf
 | [],_=>rfl
 | k::r,sf=>by cases k <;> simp [PK.loc,bP,List.filter_cons,qT r]
theorem qU (all:List PK):∀ (ks:List PK) (sf:Sf),bk all (ks.filter PK.loc) sf = bk all ks sf
 | [],_=>rfl
 | k::r,sf=>by cases k <;> simp [PK.loc,bk,List.filter_cons,qU all r]
theorem ksB_loc (drop:List Nat) (ks:List PK):ksB drop (ks.filter PK.loc) = ksB drop ks:=by
 unfold ksB
 rw [pK,news_loc,apps_loc,nsts_loc,nstB_loc]
section
variable (P:Program) (F:Nat→FuncId) (locs0:List (Nat×List AV)) (ρ:St)
def valG (C:PK→Sf→Prop) (d:Option Nat) (sf:Sf) (v:AV):Prop:=C (.mk v ρ) (sf.put d v)
def fw (H:List PK→Sf→Prop) (ks:List PK) (k:PK) (sf:Sf):Prop:=H (if k.loc = true then ks++[k] else ks) sf
def skipG (H:List PK→Sf→Prop) (ks:List PK) (d:Option Nat) (sf:Sf):Prop:=H ks (sf.put d (.tup []))
def rN (SS:Nat→St→Prop) (j:Nat) (d:Option Nat) (f:AV) (args:List AV) (C:PK→Sf→Prop) (sf:Sf):Prop :=
 match f with
 | .fn (.func q) fs cs=>args.all AV.noL = true∧bt P q = true∧∃ v,(∀ s,SS j s→aX P q (fs++args.map AV.dis++cs) s (fun v' s'=>v' = v∧SS (j + 1) s'))∧valG ρ C d sf v
 | _=>False
def boxX1 (SS:Nat→St→Prop) (j d k:Nat) (x:AV) (C:PK→Sf→Prop) (sf:Sf):Prop :=
 x.dis.solid = true∧x.dis.cells.length = k∧∃ v,(∀ s,SS j s→v = .ptr s.boxes.length 0∧SS (j + 1) (s.push (.cells x.dis.cells)))∧valG ρ C (some d) sf v
def newX1 (SS:Nat→St→Prop) (j d:Nat) (cs:List AV) (C:PK→Sf→Prop) (sf:Sf):Prop :=
 ∃ v,(∀ s,SS j s→v = .ptr s.boxes.length 0∧SS (j + 1) (s.push (.cells cs)))∧valG ρ C (some d) sf v
def gW (SS:Nat→St→Prop) (j:Nat) (i:AI) (C:PK→Sf→Prop) (sf:Sf):Prop :=
 match i with
 | .newB d cs=>newX1 ρ SS j d cs C sf
 | .boxB d k x=>boxX1 ρ SS j d k (sf.ev F x) C sf
 | .call d _ f args=>rN P ρ SS j d (sf.ev F f) (args.map (sf.ev F)) C sf
 | _=>False
def preX (SS:Nat→St→Prop):Nat→List (Bool×GI)→(Nat→List PK→Sf→Prop)→List PK→Sf→Prop
 | j,[],K,ks,sf=>K j ks sf
 | j,(true,⟨none,i⟩)::r,K,ks,sf=>gW P F ρ SS j i (fw (preX SS (j + 1) r K) ks) sf
 | _,(true,⟨some _,_⟩)::_,_,_,_=>False
 | j,(false,⟨none,i⟩)::r,K,ks,sf=>oneM P F locs0 ρ i (fw (preX SS j r K) ks) sf
 | j,(false,⟨some (t,want),i⟩)::r,K,ks,sf=>bu t want (sf.reg t) (oneM P F locs0 ρ i (fw (preX SS j r K) ks)) (skipG (preX SS j r K) ks i.dst) sf
end
section
variable (P:Program) (gOf:FuncId→Option Nat) (F:Nat→FuncId) (n:Nat) (heap:Nat→Bool)
def fJ (ops:List Oper) (k κ:Nat) (gl:List GI):List (Bool×GI):=gl.zipIdx.map fun p=>(aI ops.toArray k (κ + 1 + p.2) κ,p.1)
end
section
variable {P:Program} {gOf:FuncId→Option Nat} {F:Nat→FuncId} {n:Nat} {heap:Nat→Bool} {ρ:St} {SS:St→Prop} {locs0:List (Nat×List AV)} {all:List Oper} {ops:Array Oper}
theorem pop_dstM {d:Option Nat} {op:Op} {i:AI} (h:popC P gOf F n d op = some i):i.dst = d∧(∀ (sf:Sf) (C:PK→Sf→Prop),oneM P F locs0 ρ i C sf→(popI F i sf ρ).wp fun v=>C (.val v) (sf.put i.dst v)):=by
 unfold popC at h
 repeat' (split at h)
 all_goals first
  | (cases h; done)
  | (cases h; exact ⟨rfl,fun _ _ h=>h⟩)
  | (obtain ⟨_,_,rfl⟩:=map_some h; exact ⟨rfl,fun _ _ h=>h⟩)
theorem one_m0 (hsub:∀ s,SS s→St.sub ρ s) {o:Oper} {i:AI} (hc:jQ P gOf F n heap o = some i) {sf:Sf} (hg:ao ops (sp n sf) o = some (.lit (.bool true))) {C:PK→Sf→Prop} (h:oneM P F locs0 ρ i C sf) :
  ∃ k sf',C k sf'∧k.real = true∧PStep P ops ρ SS locs0 o (sp n sf) k (sp n sf'):=by
 have hpop:popC P gOf F n o.dst o.op = some i→∃ k sf',C k sf'∧k.real = true∧PStep P ops ρ SS locs0 o (sp n sf) k (sp n sf'):=by
  intro hp
  obtain ⟨hd,hh⟩:=pop_dstM (locs0:=locs0) (ρ:=ρ) hp
  obtain ⟨v,hv,hC⟩:=pI (ej hp sf ρ _ (hh sf C h))
  refine ⟨_,_,hC,rfl,?_⟩
  rw [aJ,hd]
  exact .val v hg fun s hs=>popR_sub (hsub s hs) _ _ _ hv
 obtain ⟨dst,op,ty,pos,after,gd⟩:=o
 unfold jQ at hc
 simp only at hc hpop
 split at hc
 ·rename_i f args ts
  split at hc
  ·rename_i f' args' hf hargs
   cases hc
   simp only [oneM,rM] at h
   split at h
   ·rename_i q fs cs hfv
    obtain ⟨hnl,hent,v,hP,hC⟩:=h
    have hmap:=d7 hargs sf
    refine ⟨_,_,hC,rfl,?_⟩
    rw [aJ]
    refine .call v ⟨.value f,args,ts⟩ q (fs++(args'.map (sf.ev F)).map AV.dis++cs) hg rfl ?_ hent (fun s hs=>hP s (hsub s hs))
    unfold dQ
    simp only [af hf sf,hfv,hmap,hnl,if_true]
    congr 3
    rw [← hmap,List.map_map]
    rfl
   ·exact h.elim
  ·cases hc
 ·rename_i t s
  split at hc
  ·obtain ⟨z,hz,rfl⟩:=map_some hc
   exact False.elim h
  ·obtain ⟨z,hz,rfl⟩:=map_some hc
   simp only [oneM] at h
   refine ⟨_,_,h,rfl,?_⟩
   rw [cO]
   exact .new t s z hg rfl rfl hz
 ·split at hc
  ·split at hc
   ·cases hc; exact False.elim h
   ·cases hc
  ·cases hc
 ·rename_i t a x
  split at hc
  ·rename_i a' x' k ha hx hk
   cases hc
   simp only [oneM,bK] at h
   split at h
   ·rename_i s hav
    unfold dx at h
    split at h
    ·rename_i cs0 hl
     obtain ⟨h1,h2,h3,hC⟩:=h
     refine ⟨_,_,hC,rfl,?_⟩
     rw [← af hx sf] at h2 h3 ⊢
     exact .store t a x s cs0 hg rfl rfl (by rw [af ha sf]; exact hav) hl (by rw [h1,h3]) h2 (by rw [hk,h3])
    ·exact h.elim
   ·rename_i hav
    unfold iJ at h
    split at h
    ·rename_i a' s
     obtain ⟨h2,h3,hC⟩:=h
     have ha2:a = .tmp s:=by
      cases a with
      | tmp t=>simp only [opd] at ha; split at ha <;> cases ha; rfl
      | _ =>
        simp only [opd] at ha; repeat' (split at ha)
        all_goals cases ha
     refine ⟨_,_,hC,rfl,?_⟩
     rw [← af hx sf] at h2 h3 ⊢
     subst ha2
     exact .nst t x s hg rfl rfl h2 (by rw [hk,h3])
    ·exact h.elim
   ·rename_i s off hav
    unfold cP at h
    split at h
    ·rename_i cs0 hl
     obtain ⟨h1,h2,h3,hC⟩:=h
     refine ⟨_,_,hC,rfl,?_⟩
     rw [← af hx sf] at h2 h3 ⊢
     exact .storeA t a x s (off + 1) cs0 hg rfl rfl (by rw [af ha sf]; exact hav) hl (by rw [h3]; exact h1) h2 (by rw [hk,h3])
    ·exact h.elim
   ·exact h.elim
  ·cases hc
 ·rename_i args ts sd
  split at hc
  ·split at hc
   ·split at hc
    ·cases hc; exact h.elim
    ·cases hc
   ·cases hc
  ·exact hpop hc
 ·exact hpop hc
theorem one_m (hsub:∀ s,SS s→St.sub ρ s) {o:Oper} {i:AI} (hc:kH P gOf F n heap o = some i) {sf:Sf} (hg:ao ops (sp n sf) o = some (.lit (.bool true))) {C:PK→Sf→Prop} (h:oneM P F locs0 ρ i C sf) :
  ∃ k sf',C k sf'∧k.real = true∧PStep P ops ρ SS locs0 o (sp n sf) k (sp n sf'):=by
 unfold kH at hc
 split at hc
 ·rename_i i' hi
  cases hc
  exact one_m0 hsub hi hg h
 ·cases hc
  exact h.elim
def PK.vs:PK→Bool
 | .val _ | .skip=>true
 | _=>false
section
variable (P:Program) (F:Nat→FuncId) (locs0:List (Nat×List AV))
def endC (T:St→Sf→Prop) (s:St) (ks:List PK) (sf:Sf):Prop:=ks.all PK.vs = true∧T s sf
def qV (st:St) (d:Option Nat) (f:AV) (args:List AV) (post:List GI) (T:St→Sf→Prop) (ks1:List PK) (sf:Sf):Prop :=
 match f with
 | .fn (.func q) fs cs=>args.all AV.noL = true∧bt P q = true∧ks1.all PK.vs = true∧∃ Qc,aX P q (fs++args.map AV.dis++cs) st Qc∧∀ v s,Qc v s→preM P F locs0 s post (endC T s) [] (sf.put d v)
 | _=>False
def atC (st:St) (d:Option Nat) (f:Opd) (args:List Opd) (post:List GI) (T:St→Sf→Prop) (ks1:List PK) (sf:Sf):Prop:=qV P F locs0 st d (sf.ev F f) (args.map (sf.ev F)) post T ks1 sf
end
def drawC (P:Program) (F:Nat→FuncId) (pre:List GI) (d:Option Nat) (f:Opd) (args:List Opd) (post:List GI) (sf:Sf) (st:St) (T:St→Sf→Prop):Prop :=
 preM P F sf.locs st pre (atC P F sf.locs st d f args post T) [] sf
theorem guard_m (hsub:∀ s,SS s→St.sub ρ s) {o:Oper} {gi:GI} (hc:mP P gOf F n heap all o = some gi) {sf:Sf} {H:List PK→Sf→Prop} {acc:List PK}
  (h:match gi with
   | ⟨none,i⟩=>oneM P F locs0 ρ i (cH H acc) sf
   | ⟨some (t,want),i⟩=>bu t want (sf.reg t) (oneM P F locs0 ρ i (cH H acc)) (gU H acc i.dst) sf) :
  ∃ k sf',k.real = true∧H (acc++[k]) sf'∧PStep P all.toArray ρ SS locs0 o (sp n sf) k (sp n sf'):=by
 unfold mP at hc
 split at hc
 case h_2=>cases hc
 rename_i i hi
 split at hc
 case isFalse=>cases hc
 rename_i hd
 split at hc
 ·rename_i hg
  cases hc
  obtain ⟨k,sf',hC,hre,hps⟩:=one_m (ops:=all.toArray) (SS:=SS) (locs0:=locs0) hsub hi (by simp [ao,hg]) h
  exact ⟨k,sf',hre,hC,hps⟩
 ·rename_i j want hg
  split at hc
  case h_2=>cases hc
  rename_i t ht
  split at hc
  case isFalse=>cases hc
  rename_i htn
  cases hc
  simp only [bu] at h
  split at h
  case h_3=>exact h.elim
  case h_2 =>
   rename_i cs hb
   have hga:ao all.toArray (sp n sf) o = some (.lit (.bool false)):=by
    unfold ao
    rw [hg]
    simp only [ht,ci,if_pos htn,hb]
   refine ⟨.skip,sf.put i.dst (.tup []),rfl,h,?_⟩
   rw [aJ,hd]
   exact .skip hga
  rename_i b hb
  have hga:ao all.toArray (sp n sf) o = some (.lit (.bool (b == want))):=by
   unfold ao
   rw [hg]
   simp only [ht,ci,if_pos htn,hb]
  have hsame:sp n (sf.set t (.lit (.bool b))) = sp n sf:=by rw [← hb]; exact kG n sf t
  have h:=h b rfl
  by_cases hbw:b = want
  ·rw [if_pos hbw] at h
   obtain ⟨k,sf',hC,hre,hps⟩:=one_m (ops:=all.toArray) (SS:=SS) (locs0:=locs0) hsub hi (by rw [hsame,hga]; simp [hbw]) h
   rw [hsame] at hps
   exact ⟨k,sf',hre,hC,hps⟩
  ·rw [if_neg hbw] at h
   refine ⟨.skip,(sf.set t (.lit (.bool b))).put i.dst (.tup []),rfl,h,?_⟩
   rw [aJ,hsame,hd]
   exact .skip (by rw [hga]; simp [hbw])
theorem gv (hsub:∀ s,SS s→St.sub ρ s):∀ {l:List Oper} {gl:List GI} {sf:Sf} {acc:List PK} {K:List PK→Sf→Prop},bM P gOf F n heap all l = some gl→preM P F locs0 ρ gl K acc sf →
  ∃ ks sf',PRun P all.toArray ρ (fun _=>SS) locs0 l (sp n sf) ks (sp n sf')∧(∀ k ∈ ks,k.real = true)∧K (acc++ks) sf'
 | [], gl, sf, acc, K, hc, h => by
   simp only [bM] at hc
   cases hc
   exact ⟨[],sf,.nil _,by simp,by simpa [preM] using h⟩
 | o :: r, gl, sf, acc, K, hc, h => by
   simp only [bM] at hc
   split at hc
   case h_2=>cases hc
   rename_i gi gr hgi hgr
   cases hc
   obtain ⟨k,sf',hk,hC,hps⟩:=guard_m (SS:=SS) (locs0:=locs0) (H:=preM P F locs0 ρ gr K) (acc:=acc) hsub hgi (by
    obtain ⟨g,i⟩:=gi
    cases g with
    | none=>exact h
    | some g=>obtain ⟨t,w⟩:=g; exact h)
   obtain ⟨ks,sf2,hr,hre,hK⟩:=gv hsub hgr hC
   exact ⟨k::ks,sf2,.cons hps hr,by simp only [List.mem_cons,forall_eq_or_imp]; exact ⟨hk,hre⟩,by simpa using hK⟩
def rO:List (Bool×GI)→List PK→Prop
 | [],[]=>True
 | (true,_)::r,k::h=>k = .hole∧rO r h
 | (false,_)::r,k::h=>k.real = true∧rO r h
 | _,_=>False
theorem kJ (hsub:∀ s,SS s→St.sub ρ s):∀ {l:List Oper} {gl:List GI} {fl:List (Bool×GI)} {sf:Sf} {acc:List PK} {K:List PK→Prop},bM P gOf F n heap all l = some gl→fl.map (·.2) = gl→aH P F locs0 ρ fl K acc sf →
  ∃ ks sf',PRun P all.toArray ρ (fun _=>SS) locs0 l (sp n sf) ks (sp n sf')∧rO fl ks∧K (acc++ks)
 | [], gl, fl, sf, acc, K, hc, hf, h => by
   simp only [bM] at hc
   cases hc
   have:fl = []:=by simpa using hf
   subst this
   exact ⟨[],sf,.nil _,trivial,by simpa [aH] using h⟩
 | o :: r, gl, fl, sf, acc, K, hc, hf, h => by
   simp only [bM] at hc
   split at hc
   case h_2=>cases hc
   rename_i gi gr hgi hgr
   cases hc
   match fl,hf with
   | (true, g) :: fr, hf =>
     simp only [List.map_cons,List.cons.injEq] at hf
     obtain ⟨rfl,hfr⟩:=hf
     have hd:g.i.dst = o.dst:=by
      unfold mP at hgi
      split at hgi
      case h_2=>cases hgi
      split at hgi
      case isFalse=>cases hgi
      rename_i hd
      split at hgi
      ·cases hgi; exact hd
      ·split at hgi
       ·split at hgi
        ·cases hgi; exact hd
        ·cases hgi
       ·cases hgi
     have h:aH P F locs0 ρ fr K (acc++[.hole]) (sf.put g.i.dst .any):=by simpa only [aH] using h
     obtain ⟨ks,sf2,hr,hre,hK⟩:=kJ hsub (acc:=acc++[.hole]) (K:=K) hgr hfr h
     refine ⟨.hole::ks,sf2,.cons .hole ?_,⟨rfl,hre⟩,by simpa using hK⟩
     rw [aJ,hd] at hr
     exact hr
   | (false, g) :: fr, hf =>
     simp only [List.map_cons,List.cons.injEq] at hf
     obtain ⟨rfl,hfr⟩:=hf
     obtain ⟨k,sf',hk,hC,hps⟩:=guard_m (SS:=SS) (locs0:=locs0) (H:=aH P F locs0 ρ fr K) (acc:=acc) hsub hgi (by
      obtain ⟨g,i⟩:=g
      cases g with
      | none=>exact h
      | some g=>obtain ⟨t,w⟩:=g; exact h)
     obtain ⟨ks,sf2,hr,hre,hK⟩:=kJ hsub hgr hfr hC
     exact ⟨k::ks,sf2,.cons hps hr,⟨hk,hre⟩,by simpa using hK⟩
theorem dW {SS:Option Nat→St→Prop} {l1 l2:List Oper} {fra frb frc:Fr} {k1 k2:List PK} (h1:PRun P ops ρ SS locs0 l1 fra k1 frb) (h2:PRun P ops ρ SS locs0 l2 frb k2 frc):PRun P ops ρ SS locs0 (l1++l2) fra (k1++k2) frc:=by
 induction h1 with
 | nil fr=>exact h2
 | cons h r ih=>exact .cons h (ih h2)
theorem PRun.weakSS {ρ':St} {SS SS':Option Nat→St→Prop} {l:List Oper} {fra frb:Fr} {ks:List PK} (h:PRun P ops ρ SS locs0 l fra ks frb) (hs:∀ d s,SS' d s→SS d s):PRun P ops ρ' SS' locs0 l fra ks frb:=by
 induction h with
 | nil fr=>exact .nil fr
 | cons h r ih =>
   refine .cons ?_ ih
   cases h with
   | skip hg=>exact .skip hg
   | val v hg hp=>exact .val v hg fun s h=>hp s (hs _ s h)
   | ld v t s hg ho hb hp=>exact .ld v t s hg ho hb fun s h=>hp s (hs _ s h)
   | call v c f vs hg ho hc he hp=>exact .call v c f vs hg ho hc he fun s h=>hp s (hs _ s h)
   | mk v s hg=>exact .mk v s hg
   | hole=>exact .hole
   | nst t x s hg ho hd hs hsz=>exact .nst t x s hg ho hd hs hsz
   | chole c f vs hg ho hc=>exact .chole c f vs hg ho hc
   | ahole f x y t t2 hg ho=>exact .ahole f x y t t2 hg ho
   | new t s z hg ho hd hz=>exact .new t s z hg ho hd hz
   | store t addr x s cs0 hg ho hd ha hl hlen hs' hsz=>exact .store t addr x s cs0 hg ho hd ha hl hlen hs' hsz
   | storeA t addr x s off cs0 hg ho hd ha hl hlen hs' hsz=>exact .storeA t addr x s off cs0 hg ho hd ha hl hlen hs' hsz
   | app t t2 sx sd k y es v hg ho hd hne hsl hp=>exact .app t t2 sx sd k y es v hg ho hd hne hsl fun s h=>hp s (hs _ s h)
theorem dI:∀ {ks:List PK} {st:St},(∀ k ∈ ks,k.real = true)→stK ks st = st
 | [],_,_=>rfl
 | .mk v s::r,_,h=>by have:=h (.mk v s) (by simp); simp [PK.real] at this
 | .val _::r,_,h=>dI (ks:=r) fun k hk=>h k (by simp [hk])
 | .skip::r,_,h=>dI (ks:=r) fun k hk=>h k (by simp [hk])
 | .new _ _::r,_,h=>dI (ks:=r) fun k hk=>h k (by simp [hk])
 | .store _ _::r,_,h=>dI (ks:=r) fun k hk=>h k (by simp [hk])
 | .app _ _::r,_,h=>dI (ks:=r) fun k hk=>h k (by simp [hk])
 | .hole::r,_,h=>dI (ks:=r) fun k hk=>h k (by simp [hk])
 | .nst _ _::r,_,h=>dI (ks:=r) fun k hk=>h k (by simp [hk])
 | .chole _ _::r,_,h=>dI (ks:=r) fun k hk=>h k (by simp [hk])
theorem rP {SS:Option Nat→St→Prop} {l:List Oper} {fra frb:Fr} {ks:List PK} (h:PRun P ops ρ SS locs0 l fra ks frb):ks.length = l.length:=by
 induction h with
 | nil fr=>rfl
 | cons h r ih=>simp [ih]
theorem bH:∀ {fl:List (Bool×GI)} {h:List PK},rO fl h→∀ (i:Nat) (k:PK),h[i]? = some k→∃ b g,fl[i]? = some (b,g)∧((b = true∧k = .hole)∨(b = false∧k.real = true))
 | [],[],_,i,k,hk=>by simp at hk
 | [],_::_,h,_,_,_=>h.elim
 | (true,_)::_,[],h,_,_,_=>h.elim
 | (false,_)::_,[],h,_,_,_=>h.elim
 | (true, g) :: r, k0 :: h, ⟨h1, h2⟩, i, k, hk => by
   cases i with
   | zero=>simp at hk; subst hk; exact ⟨true,g,rfl,.inl ⟨rfl,h1⟩⟩
   | succ i=>exact bH h2 i k (by simpa using hk)
 | (false, g) :: r, k0 :: h, ⟨h1, h2⟩, i, k, hk => by
   cases i with
   | zero=>simp at hk; subst hk; exact ⟨false,g,rfl,.inr ⟨rfl,h1⟩⟩
   | succ i=>exact bH h2 i k (by simpa using hk)
theorem iK:∀ {fl:List (Bool×GI)} {h ks:List PK},dc fl h ks→h.length = ks.length
 | [],[],[],_=>rfl
 | [],_::_,_,h=>h.elim
 | [],[],_::_,h=>h.elim
 | (true,_)::_,[],_,h=>h.elim
 | (false,_)::_,[],_,h=>h.elim
 | (true,_)::_,_::_,[],h=>h.elim
 | (false,_)::_,_::_,[],h=>h.elim
 | (true, g) :: r, a :: h, b :: k, hc => by
   have hc':dc r h k:=by cases b <;> first | exact hc.elim | exact hc
   simp [iK hc']
 | (false,g)::r,a::h,b::k,hc=>by simp [iK hc.2]
theorem fT:∀ {fl:List (Bool×GI)} {h ks:List PK},dc fl h ks→∀ (i:Nat) (b:Bool) (g:GI) (k:PK),fl[i]? = some (b,g)→(h[i]? = some k→b = false→ks[i]? = some k)∧(ks[i]? = some k→(∃ s cs,k = .new s cs)→h[i]? = some k)
 | [],_,_,_,i,b,g,k,hf=>by simp at hf
 | (true,_)::_,[],_,h,_,_,_,_,_=>h.elim
 | (true,_)::_,_::_,[],h,_,_,_,_,_=>h.elim
 | (false,_)::_,[],_,h,_,_,_,_,_=>h.elim
 | (false,_)::_,_::_,[],h,_,_,_,_,_=>h.elim
 | (true, _) :: r, a :: h, b :: k, hc, i, b', g, kk, hf => by
   have hc':dc r h k∧∀ s cs,b≠.new s cs:=by cases b <;> first | exact hc.elim | exact ⟨hc,fun _ _ e=>by cases e⟩
   cases i with
   | zero =>
     simp at hf
     refine ⟨fun _ e=>(by rw [hf.1] at e; cases e),fun e1 ⟨s,cs,e2⟩=>?_⟩
     simp at e1
     exact absurd (e1.trans e2) (hc'.2 s cs)
   | succ i=>simpa using fT hc'.1 i b' g kk (by simpa using hf)
 | (false, _) :: r, a :: h, b :: k, ⟨h1, h2⟩, i, b', g, kk, hf => by
   subst h1
   cases i with
   | zero=>exact ⟨fun e _=>e,fun e _=>e⟩
   | succ i=>simpa using fT h2 i b' g kk (by simpa using hf)
theorem flags_at (opl:List Oper) (k κ:Nat) (gl:List GI) (i:Nat) (b:Bool) (g:GI) (h:(fJ opl k κ gl)[i]? = some (b,g)):b = aI opl.toArray k (κ + 1 + i) κ:=by
 simp only [fJ,List.getElem?_map,Option.map_eq_some_iff,List.getElem?_zipIdx] at h
 obtain ⟨p,⟨q,hq,rfl⟩,h2⟩:=h
 simp at h2
 exact h2.1.symm
theorem iL (opl:List Oper) (k κ:Nat) (gl:List GI):(fJ opl k κ gl).map (·.2) = gl:=by
 simp only [fJ,List.map_map]
 have:((fun x:Bool×GI=>x.2) ∘ fun p:GI×Nat=>(aI opl.toArray k (κ + 1 + p.2) κ,p.1)) = Prod.fst:=by funext p; rfl
 rw [this,List.zipIdx_map_fst]
theorem popC_ncall {d:Option Nat} {op:Op} {i:AI} (h:popC P gOf F n d op = some i):∀ d p f args,i≠.call d p f args:=by
 intro d' p f args e
 subst e
 unfold popC at h
 repeat' (split at h)
 all_goals first
  | (cases h; done)
  | (obtain ⟨_,_,h⟩:=map_some h; cases h)
theorem popC_nbox {d:Option Nat} {op:Op} {i:AI} (h:popC P gOf F n d op = some i):∀ b k x,i≠.boxB b k x:=by
 intro b k x e
 subst e
 unfold popC at h
 repeat' (split at h)
 all_goals first
  | (cases h; done)
  | (obtain ⟨_,_,h⟩:=map_some h; cases h)
theorem popC_nnew {d:Option Nat} {op:Op} {i:AI} (h:popC P gOf F n d op = some i):∀ b x,i≠.newB b x:=by
 intro b x e
 subst e
 unfold popC at h
 repeat' (split at h)
 all_goals first
  | (cases h; done)
  | (obtain ⟨_,_,h⟩:=map_some h; cases h)
theorem mkN_real {k:PK} (h:k.real = true):mkN k = 0:=by cases k <;> first | rfl | cases h
theorem one_x {SX:Nat→St→Prop} (hsub:∀ j s,SX j s→St.sub ρ s) {j:Nat} {o:Oper} {i:AI} (hc:kH P gOf F n heap o = some i) {sf:Sf} (hg:ao ops (sp n sf) o = some (.lit (.bool true))) {C:PK→Sf→Prop} (h:gW P F ρ SX j i C sf) :
  ∃ v sf',C (.mk v ρ) sf'∧PStep P ops ρ (fun s=>∃ j,SX j s) locs0 o (sp n sf) (.mk v ρ) (sp n sf')∧GkJ P SX j o (sp n sf) (.mk v ρ):=by
 unfold kH at hc
 split at hc
 case h_2=>cases hc; exact h.elim
 rename_i i' hi
 cases hc
 have hno:popC P gOf F n o.dst o.op = some i→False:=fun hp=>by
  have:=popC_ncall hp
  cases i <;> first | exact h.elim | exact this _ _ _ _ rfl | exact popC_nbox hp _ _ _ rfl | exact popC_nnew hp _ _ rfl
 obtain ⟨dst,op,ty,pos,after,gd⟩:=o
 unfold jQ at hi
 simp only at hi hno
 split at hi
 ·rename_i f args ts
  split at hi
  ·rename_i f' args' hf hargs
   cases hi
   simp only [gW,rN] at h
   split at h
   ·rename_i q fs cs hfv
    obtain ⟨hnl,hent,v,hP,hC⟩:=h
    have hmap:=d7 hargs sf
    have hca:dQ (sp n sf) ⟨.value f,args,ts⟩ = some (q,fs++(args'.map (sf.ev F)).map AV.dis++cs):=by
     unfold dQ
     simp only [af hf sf,hfv,hmap,hnl,if_true]
     congr 3
     rw [← hmap,List.map_map]
     rfl
    refine ⟨v,_,hC,?_,fun v' s' e=>?_⟩
    ·rw [aJ]
     exact .mk v ρ hg
    ·cases e
     exact .inl ⟨_,_,_,rfl,hca,hent,fun s hs=>hP s hs⟩
   ·exact h.elim
  ·cases hi
 ·rename_i t s
  split at hi
  ·obtain ⟨z,hz,rfl⟩:=map_some hi
   simp only [gW,newX1] at h
   obtain ⟨v,hP,hC⟩:=h
   refine ⟨v,_,hC,?_,fun v' s' e=>?_⟩
   ·rw [aJ]
    exact .mk v ρ hg
   ·cases e
    exact .inr (.inr ⟨t,z,rfl,hz,fun s hs=>hP s hs⟩)
  ·obtain ⟨z,hz,rfl⟩:=map_some hi
   exact h.elim
 ·rename_i t x s
  split at hi
  ·split at hi
   ·rename_i x' k hx hk
    cases hi
    simp only [gW,boxX1] at h
    obtain ⟨h1,h2,v,hP,hC⟩:=h
    rw [← af hx sf] at h1 hP
    refine ⟨v,_,hC,?_,fun v' s' e=>?_⟩
    ·rw [aJ]
     exact .mk v ρ hg
    ·cases e
     exact .inr (.inl ⟨t,x,rfl,h1,fun s hs=>hP s hs⟩)
   ·cases hi
  ·cases hi
 ·split at hi
  ·cases hi; exact h.elim
  ·cases hi
 ·split at hi
  ·split at hi
   ·split at hi
    ·cases hi; exact h.elim
    ·cases hi
   ·cases hi
  ·exact (hno hi).elim
 ·exact (hno hi).elim
theorem pre_runX {SX:Nat→St→Prop} (hsub:∀ j s,SX j s→St.sub ρ s):∀ {l:List Oper} {gl:List GI} {fl:List (Bool×GI)} {j:Nat} {sf:Sf} {acc:List PK} {K:Nat→List PK→Sf→Prop},bM P gOf F n heap all l = some gl→fl.map (·.2) = gl→preX P F locs0 ρ SX j fl K acc sf →
  ∃ ks sf',PRunB P all.toArray ρ (fun s=>∃ j,SX j s) locs0 (GkJ P SX) j l (sp n sf) ks (sp n sf')∧(∀ k ∈ ks,k.real = true∨∃ v,k = .mk v ρ)∧(∀ (i:Nat) (v:AV) (σ:St),ks[i]? = some (PK.mk v σ)→∃ gi,fl[i]? = some (true,gi))∧ks.length = l.length∧K (j + (ks.map mkN).sum) (acc++ks.filter PK.loc) sf'
 | [], gl, fl, j, sf, acc, K, hc, hf, h => by
   simp only [bM] at hc
   cases hc
   have:fl = []:=by simpa using hf
   subst this
   exact ⟨[],sf,.nil _ _,by simp,by simp,rfl,by simpa [preX] using h⟩
 | o :: r, gl, fl, j, sf, acc, K, hc, hf, h => by
   simp only [bM] at hc
   split at hc
   case h_2=>cases hc
   rename_i gi gr hgi hgr
   cases hc
   match fl,hf with
   | (b, g) :: fr, hf =>
     simp only [List.map_cons,List.cons.injEq] at hf
     obtain ⟨rfl,hfr⟩:=hf
     have fin:∀ {k:PK} {sf':Sf} {j':Nat},j' = j + mkN k→(k.real = true∨∃ v,k = .mk v ρ)→(∀ v σ,k = .mk v σ→b = true)→preX P F locs0 ρ SX j' fr K (acc++[k].filter PK.loc) sf'→PStep P all.toArray ρ (fun s=>∃ j,SX j s) locs0 o (sp n sf) k (sp n sf')→GkJ P SX j o (sp n sf) k →
       ∃ ks sf',PRunB P all.toArray ρ (fun s=>∃ j,SX j s) locs0 (GkJ P SX) j (o::r) (sp n sf) ks (sp n sf')∧(∀ k ∈ ks,k.real = true∨∃ v,k = .mk v ρ)∧(∀ (i:Nat) (v:AV) (σ:St),ks[i]? = some (PK.mk v σ)→∃ gi,((b,g)::fr)[i]? = some (true,gi))∧ks.length = (o::r).length∧K (j + (ks.map mkN).sum) (acc++ks.filter PK.loc) sf':=by
      intro k sf' j' hj hk hb hC hps hx
      obtain ⟨ks,sf2,hr,hre,hfl,hln,hK⟩:=pre_runX hsub hgr hfr hC
      subst hj
      refine ⟨k::ks,sf2,.cons hps hx hr,by simp only [List.mem_cons,forall_eq_or_imp]; exact ⟨hk,hre⟩,fun i v σ hi=>?_,by simp [hln],?_⟩
      ·cases i with
       | zero =>
         simp at hi
         have:=hb v σ hi
         subst this
         exact ⟨g,by simp⟩
       | succ i=>simp at hi ⊢; exact hfl i v σ hi
      ·rw [show k::ks = [k]++ks from rfl,List.filter_append,← List.append_assoc,List.map_append,List.sum_append]
       simpa [Nat.add_assoc] using hK
     have hcons:∀ k sf',fw (preX P F locs0 ρ SX (j + mkN k) fr K) acc k sf'→preX P F locs0 ρ SX (j + mkN k) fr K (acc++[k].filter PK.loc) sf':=by
      intro k sf' h
      unfold fw at h
      cases hk:k.loc <;> simp [hk] at h ⊢ <;> exact h
     have hcons0:∀ k sf',k.real = true→fw (preX P F locs0 ρ SX j fr K) acc k sf'→preX P F locs0 ρ SX (j + mkN k) fr K (acc++[k].filter PK.loc) sf':=by
      intro k sf' hr h
      have e:=mkN_real hr
      have:=hcons k sf'
      rw [e] at this ⊢
      exact this h
     have hnr:∀ {k:PK} {v:AV} {σ:St},k.real = true→k = .mk v σ→b = true:=fun hr e=>by subst e; cases hr
     obtain ⟨g,i⟩:=g
     unfold mP at hgi
     split at hgi
     case h_2=>cases hgi
     rename_i i' hi
     split at hgi
     case isFalse=>cases hgi
     rename_i hd
     split at hgi
     ·rename_i hg
      cases hgi
      cases b with
      | true =>
        obtain ⟨v,sf',hC,hps,hx⟩:=one_x (ops:=all.toArray) (locs0:=locs0) hsub hi (by simp [ao,hg]) h
        exact fin (k:=PK.mk v ρ) rfl (.inr ⟨v,rfl⟩) (fun _ _ _=>rfl) (hcons (PK.mk v ρ) sf' hC) hps hx
      | false =>
        obtain ⟨k,sf',h1,h2,h3⟩:=one_m (ops:=all.toArray) (SS:=fun s=>∃ j,SX j s) (locs0:=locs0) (fun s ⟨j,hs⟩=>hsub j s hs) hi (by simp [ao,hg]) h
        exact fin rfl (.inl h2) (fun v σ=>hnr h2) (hcons0 k sf' h2 h1) h3 (fun v s e=>by subst e; cases h2)
     ·rename_i jj want hg
      split at hgi
      case h_2=>cases hgi
      rename_i t ht
      split at hgi
      case isFalse=>cases hgi
      rename_i htn
      cases hgi
      cases b with
      | true=>exact h.elim
      | false =>
        simp only [preX,bu] at h
        split at h
        case h_3=>exact h.elim
        case h_2 =>
         rename_i cs hb
         have hga:ao all.toArray (sp n sf) o = some (.lit (.bool false)):=by
          unfold ao
          rw [hg]
          simp only [ht,ci,if_pos htn,hb]
         refine fin (k:=.skip) (sf':=sf.put i.dst (.tup [])) rfl (.inl rfl) (fun v σ e=>by cases e) (by simpa [PK.loc,skipG,mkN] using h) ?_ (fun v s e=>by cases e)
         rw [aJ,hd]
         exact .skip hga
        rename_i bb hb
        have hga:ao all.toArray (sp n sf) o = some (.lit (.bool (bb == want))):=by
         unfold ao
         rw [hg]
         simp only [ht,ci,if_pos htn,hb]
        have hsame:sp n (sf.set t (.lit (.bool bb))) = sp n sf:=by rw [← hb]; exact kG n sf t
        have h:=h bb rfl
        by_cases hbw:bb = want
        ·rw [if_pos hbw] at h
         obtain ⟨k,sf',hC,hre,hps⟩:=one_m (ops:=all.toArray) (SS:=fun s=>∃ j,SX j s) (locs0:=locs0) (fun s ⟨j,hs⟩=>hsub j s hs) hi (by rw [hsame,hga]; simp [hbw]) h
         rw [hsame] at hps
         exact fin rfl (.inl hre) (fun v σ=>hnr hre) (hcons0 k sf' hre hC) hps (fun v s e=>by subst e; cases hre)
        ·rw [if_neg hbw] at h
         refine fin (k:=.skip) (sf':=(sf.set t (.lit (.bool bb))).put i.dst (.tup [])) rfl (.inl rfl) (fun v σ e=>by cases e) (by simpa [PK.loc,skipG,mkN] using h) ?_ (fun v s e=>by cases e)
         rw [aJ,hsame,hd]
         exact .skip (by rw [hga]; simp [hbw])
def PK.inert:PK→Bool
 | .mk _ _ | .hole | .chole _ _=>true
 | _=>false
theorem qW {x:PK} (hx:x.inert = true):∀ (a b:List PK),aD (a++x::b) = aD (a++b)
 | [],b=>by cases x <;> first | rfl | cases hx
 | k::a,b=>by cases k <;> simp [aD,qW hx a b]
theorem news_in {x:PK} (hx:x.inert = true):∀ (a b:List PK),bz (a++x::b) = bz (a++b)
 | [],b=>by cases x <;> first | rfl | cases hx
 | k::a,b=>by cases k <;> simp [bz,news_in hx a b]
theorem apps_in {x:PK} (hx:x.inert = true):∀ (a b:List PK),bX (a++x::b) = bX (a++b)
 | [],b=>by cases x <;> first | rfl | cases hx
 | k::a,b=>by cases k <;> simp [bX,apps_in hx a b]
theorem nsts_in {x:PK} (hx:x.inert = true):∀ (a b:List PK),bY (a++x::b) = bY (a++b)
 | [],b=>by cases x <;> first | rfl | cases hx
 | k::a,b=>by cases k <;> simp [bY,nsts_in hx a b]
theorem PRun.weakSSin {ρ':St} {SS SS':Option Nat→St→Prop} {l:List Oper} {fra frb:Fr} {ks:List PK} (h:PRun P ops ρ SS locs0 l fra ks frb) (hs:∀ o ∈ l,∀ s,SS' o.dst s→SS o.dst s):PRun P ops ρ' SS' locs0 l fra ks frb:=by
 induction h with
 | nil fr=>exact .nil fr
 | cons h r ih =>
   refine .cons ?_ (ih fun o ho=>hs o (List.mem_cons_of_mem _ ho))
   have hs:=hs _ List.mem_cons_self
   cases h with
   | skip hg=>exact .skip hg
   | val v hg hp=>exact .val v hg fun s h=>hp s (hs s h)
   | ld v t s hg ho hb hp=>exact .ld v t s hg ho hb fun s h=>hp s (hs s h)
   | call v c f vs hg ho hc he hp=>exact .call v c f vs hg ho hc he fun s h=>hp s (hs s h)
   | mk v s hg=>exact .mk v s hg
   | hole=>exact .hole
   | nst t x s hg ho hd hs hsz=>exact .nst t x s hg ho hd hs hsz
   | chole c f vs hg ho hc=>exact .chole c f vs hg ho hc
   | ahole f x y t t2 hg ho=>exact .ahole f x y t t2 hg ho
   | new t s z hg ho hd hz=>exact .new t s z hg ho hd hz
   | store t addr x s cs0 hg ho hd ha hl hlen hs' hsz=>exact .store t addr x s cs0 hg ho hd ha hl hlen hs' hsz
   | storeA t addr x s off cs0 hg ho hd ha hl hlen hs' hsz=>exact .storeA t addr x s off cs0 hg ho hd ha hl hlen hs' hsz
   | app t t2 sx sd k y es v hg ho hd hne hsl hp=>exact .app t t2 sx sd k y es v hg ho hd hne hsl fun s h=>hp s (hs s h)
theorem nstB_in {x:PK} (hx:x.inert = true):∀ (a b:List PK) (seen:List (Nat×Nat)),nstB seen (a++x::b) = nstB seen (a++b)
 | [],b,_=>by cases x <;> first | rfl | cases hx
 | k::a,b,seen=>by cases k <;> simp [nstB,nstB_in hx a b]
theorem nstOf_in {x:PK} (hx:x.inert = true) (s:Nat):∀ (a b:List PK),bD s (a++x::b) = bD s (a++b)
 | [],b=>by cases x <;> first | rfl | cases hx
 | k::a,b=>by cases k <;> simp [bD,nstOf_in hx s a b]
theorem finSS_in {x:PK} (hx:x.inert = true):∀ (a b:List PK) (sf:Sf),bP (a++x::b) sf = bP (a++b) sf
 | [],b,_=>by cases x <;> first | rfl | cases hx
 | k::a,b,sf=>by cases k <;> simp [bP,finSS_in hx a b]
theorem finNN_in {x:PK} (hx:x.inert = true) (all:List PK):∀ (a b:List PK) (sf:Sf),bk all (a++x::b) sf = bk all (a++b) sf
 | [],b,_=>by cases x <;> first | rfl | cases hx
 | k::a,b,sf=>by cases k <;> simp [bk,finNN_in hx all a b]
theorem mR {all all':List PK} (h:∀ s,bD s all = bD s all'):∀ (a:List PK) (sf:Sf),bk all a sf = bk all' a sf
 | [],_=>rfl
 | k::a,sf=>by cases k <;> simp [bk,mR h a,h]
theorem ksB_in {x:PK} (hx:x.inert = true) (drop:List Nat) (a b:List PK):ksB drop (a++x::b) = ksB drop (a++b):=by
 unfold ksB
 rw [qW hx,news_in hx,apps_in hx,nsts_in hx,nstB_in hx]
theorem fin_in {x:PK} (hx:x.inert = true) (a b:List PK) (sf:Sf):bk (a++x::b) (a++x::b) (bP (a++x::b) sf) = bk (a++b) (a++b) (bP (a++b) sf):=by
 rw [finSS_in hx,finNN_in hx,mR (fun s=>nstOf_in hx s a b)]
theorem qX {ops:Array Oper} {ρ:St} {SS:Option Nat→St→Prop} {locs0:List (Nat×List AV)}:∀ (l:List Oper) (fr:Fr),∃ fr',PRun P ops ρ SS locs0 l fr (l.map fun _=>.hole) fr'
 | [],fr=>⟨fr,.nil _⟩
 | o :: r, fr => by
   obtain ⟨fr',h⟩:=qX (ops:=ops) (ρ:=ρ) (SS:=SS) (locs0:=locs0) r (fr.put o.dst .any)
   exact ⟨fr',.cons .hole h⟩
theorem rQ {drop:List Nat} {ks:List PK} (h:∀ k ∈ ks,k.vs = true∨k = .hole):ksB drop ks = true∧∀ sf,bk ks ks (bP ks sf) = sf:=by
 have h1:aD ks = []∧bz ks = []∧bX ks = []∧bY ks = []∧(∀ seen,nstB seen ks = true)∧(∀ sf,bP ks sf = sf)∧(∀ all sf,bk all ks sf = sf):=by
  induction ks with
  | nil=>exact ⟨rfl,rfl,rfl,rfl,fun _=>rfl,fun _=>rfl,fun _ _=>rfl⟩
  | cons k r ih =>
    obtain ⟨h1,h2,h3,h4,h5,h6,h7⟩:=ih fun x hx=>h x (by simp [hx])
    have:=h k (by simp)
    cases k <;> first | exact ⟨h1,h2,h3,h4,h5,h6,h7⟩ | (simp [PK.vs] at this)
 obtain ⟨h1,h2,h3,h4,h5,h6,h7⟩:=h1
 refine ⟨?_,fun sf=>by rw [h6,h7]⟩
 simp [ksB,h1,h2,h3,h4,h5,bj]
end
end Go.Fx
namespace Go.Fx
open Go Go.RowKit Go.Lib
section
variable (P:Program) (F:Nat→FuncId) (locs0:List (Nat×List AV)) (ρ:St)
def appM (st:St) (d:Option Nat) (k bytes:Nat) (b y:AV) (post:List (Bool×GI)) (drop:List Nat) (T:St→Sf→Prop) (ks1:List PK) (sf:Sf):Prop :=
 b.noL = true∧y.noL = true∧∃ Qc,(srcA st k y.dis).wp (appX false k bytes b.dis Qc st)∧aH P F locs0 ρ post (holeK drop ks1 (afterM P F locs0 ρ post Qc d sf drop T ks1)) [] (sf.put d .any)
def atA (st:St) (d:Option Nat) (b:Opd) (k bytes:Nat) (y:Opd) (post:List (Bool×GI)) (drop:List Nat) (T:St→Sf→Prop) (ks1:List PK) (sf:Sf):Prop:=appM P F locs0 ρ st d k bytes (sf.ev F b) (sf.ev F y) post drop T ks1 sf
end
def drawA (P:Program) (F:Nat→FuncId) (pre:List GI) (d:Option Nat) (b:Opd) (k bytes:Nat) (y:Opd) (post:List (Bool×GI)) (sf:Sf) (st:St) (T:St→Sf→Prop):Prop :=
 ∃ ρ,St.sub ρ st∧preM P F sf.locs ρ pre (atA P F sf.locs ρ st d b k bytes y post (gV pre post) T) [] ⟨sf.regs,aM (gV pre post) sf.locs⟩
def isT:Operand→Nat→Bool
 | .tmp s,t=>s == t
 | _,_=>false
theorem isT_eq {x:Operand} {t:Nat} (h:isT x t = true):x = .tmp t:=by
 cases x <;> simp [isT] at h
 rw [h]
theorem isT_self (t:Nat):isT (.tmp t) t = true:=by simp [isT]
def twoV (x y:Operand) (xv yv:AV) (t:Nat):AV:=if isT x t = true then xv.dis else if isT y t = true then yv.dis else .any
theorem twoV_reg (x y:Operand) (xv yv:AV) (n t:Nat) (h:t < n):getR ((List.range n).map fun t=>(t,twoV x y xv yv t)) t = twoV x y xv yv t:=by
 have key:∀ (f:Nat→AV) (k:Nat) (l:List Nat),(t ∈ l)→getR (l.map fun t=>(t,f t)) t = f t:=by
  intro f k l
  induction l with
  | nil=>intro h; cases h
  | cons a r ih =>
    intro h
    simp only [List.map_cons,getR]
    by_cases e:a = t
    ·rw [if_pos e,e]
    ·rw [if_neg e]
     rcases List.mem_cons.1 h with h | h
     ·exact absurd h.symm e
     ·exact ih h
 exact key _ 0 _ (List.mem_range.2 h)
theorem ev_plain {x:Operand} {v:AV} (h:∀ s,x≠.tmp s) (hv:∀ fr:Fr,fr.ev x = v):v.dis = v:=by
 have:=hv ⟨[],[]⟩
 cases x with
 | tmp t=>exact absurd rfl (h t)
 | const u =>
   simp only [Fr.ev] at this
   split at this <;> (subst this; rfl)
 | global q=>simp only [Fr.ev] at this; subst this; rfl
 | func f=>simp only [Fr.ev] at this; subst this; rfl
theorem apr_sound {P:Program} {st:St} {Qc:AV→St→Prop} {o:Oper} {x y:Operand} {t t2:TypeId} {k bytes d n:Nat} {xv yv:AV} (ho:o.op = .call ⟨.builtin .append,#[x,y],#[t,t2]⟩) (hak:appK P t t2 = some (k,bytes)) (hz:apzB P t = true) (hxl:xv.noL = true) (hyl:yv.noL = true)
  (hxn:∀ s,x = .tmp s→s < n) (hyn:∀ s,y = .tmp s→s < n) (hK:(srcA st k yv.dis).wp (appX false k bytes xv.dis Qc st)):ApR P d n st Qc [xv,yv] o:=by
 intro x' y' t' t2' ho' xv' yv' hv hxy hx0 hy0 g1 w1 a1 hn hg hb hrx hry
 rw [ho] at ho'
 obtain ⟨rfl,rfl,rfl,rfl⟩:x = x'∧y = y'∧t = t'∧t2 = t2':=by
  simp only [Op.call.injEq,Call.mk.injEq] at ho'
  obtain ⟨_,h1,h2⟩:=ho'
  have h1:=congrArg Array.toList h1
  have h2:=congrArg Array.toList h2
  simp only [List.cons.injEq,and_true] at h1 h2
  exact ⟨h1.1,h1.2,h2.1,h2.2⟩
 simp only [List.cons.injEq,and_true] at hv
 obtain ⟨rfl,rfl⟩:=hv
 have rx:=(ju hxl hrx).dis
 have ry:=(ju hyl hry).dis
 obtain ⟨sf,hsf⟩:∃ sf:Sf,sf = ⟨(List.range n).map fun t=>(t,twoV x y xv yv t),[]⟩:=⟨_,rfl⟩
 have hreg:∀ s,s < n→sf.reg s = twoV x y xv yv s:=fun s hs=>by rw [hsf]; exact twoV_reg x y xv yv _ s hs
 have hok:Ok false ⟨d + 2,0,g1,w1,st,0⟩ g1 w1 (sp n sf) st { a1 with defers:=[] }:=by
  refine ⟨by rw [cq]; exact hn,fun s v u hv hu=>?_,⟨hg,fun s cs h=>by rw [hsf] at h; simp [sp,look] at h,hb⟩,DefsR.nil _,Mv.refl hg,(fun e=>by cases e),Nat.zero_le _,fun _=>rfl⟩
  have hu:a1.tmps[s]? = some u:=hu
  rw [ci] at hv
  split at hv
  ·rename_i hs
   simp only [Option.some.injEq] at hv
   subst hv
   rw [hreg s hs]
   unfold twoV
   split
   ·rename_i e
    have e2:a1.eval x = u:=by rw [isT_eq e]; simp only [Act.eval]; rw [Array.getD_eq_getD_getElem?,hu]; rfl
    rw [← e2]
    exact ⟨RS.of rx,OwnV.dis⟩
   ·split
    ·rename_i e
     have e2:a1.eval y = u:=by rw [isT_eq e]; simp only [Act.eval]; rw [Array.getD_eq_getD_getElem?,hu]; rfl
     rw [← e2]
     exact ⟨RS.of ry,OwnV.dis⟩
    ·exact ⟨RS.of (R.any _),cX (v:=.any) (by simp) trivial⟩
  ·cases hv
 have hevx:(sp n sf).ev x = xv.dis:=by
  by_cases h:∃ s,x = .tmp s
  ·obtain ⟨s,rfl⟩:=h
   have hs:=hxn s rfl
   show (sp n sf).slots.getD s .any = _
   rw [co hs,hreg s hs]
   unfold twoV
   rw [if_pos (isT_self s)]
  ·have h':∀ s,x≠.tmp s:=fun s e=>h ⟨s,e⟩
   rw [hx0 h',ev_plain h' (hx0 h')]
 have hevy:(sp n sf).ev y = yv.dis:=by
  by_cases h:∃ s,y = .tmp s
  ·obtain ⟨s,rfl⟩:=h
   have hs:=hyn s rfl
   show (sp n sf).slots.getD s .any = _
   rw [co hs,hreg s hs]
   unfold twoV
   by_cases e:isT x s = true
   ·rw [if_pos e,hxy (isT_eq e)]
   ·rw [if_neg e,if_pos (isT_self s)]
  ·have h':∀ s,y≠.tmp s:=fun s e=>h ⟨s,e⟩
   rw [hy0 h',ev_plain h' (hy0 h')]
 obtain ⟨v,st',hC,u,g',w',hrun,hok',hr,h1,h2⟩:=app_x ho hak (fun e hu=>by unfold apzB at hz; rw [hu] at hz; exact hz) hok hevx hevy hK
 exact ⟨u,v,st',g',w',hrun,hC,hok'.mv,hok'.ctx.box,hr,fun mk=>cX h1 h2⟩
end Go.Fx
namespace Go.Fx
open Go Go.RowKit Go.Lib
section
variable {P:Program} {m:Bool} {E:Ent} {g g':Gh} {w w':World} {fr fr':Fr} {st st':St} {a a':Act}
def Gh.newC (g:Gh) (b:Nat) (c:Cls):Gh:={ g with cls:=fun k=>if k = b then some c else g.cls k }
theorem wr_put (w:World) (b:Nat) (o:Obj):Wr w b (w.putObj b o):=⟨rfl,rfl,rfl,by simp,fun _ hk=>World.putObj_heap_other hk⟩
theorem Ok.newC (h:Ok false E g w fr st a) {o:Obj} (hw:Nw w o w') (c:Cls):Ok false E (g.newC w.heap.size c) w' fr st a:=by
 have hg:=h.ctx.good
 have hmv:Mv false E.N E.d g w (g.newC w.heap.size c) w':=by
  refine ⟨hw.os,hw.tape,hw.output,by rw [hw.size]; omega,rfl,fun k hk=>hw.old k (Nat.lt_of_lt_of_le hk hg.base),fun _ _ _ h=>h,fun _ _ h=>h,fun d' hd=>rfl,fun k c hk _=>⟨?_,hw.old k (hg.cls k c hk).2,rfl⟩,
   (fun e=>by cases e),hw.good hg (c:=c) rfl rfl (fun _=>rfl)⟩
  simp [Gh.newC,mH hg hk,hk]
 have hch:Ch (fun _=>False) none none none E.d g w (g.newC w.heap.size c) w' :=
  ⟨⟨fun _ _ _ h=>h,fun i b h=>h⟩,fun k c hk _ _ _=>⟨by simp [Gh.newC,mH hg hk,hk],hw.old k (hg.cls k c hk).2,rfl⟩,fun s' hs=>rfl⟩
 exact h.ch hmv hch h.size h.defers (fun t v u hv hu=>.inr ⟨hv,hu,fun i c _=>.inl (fun e=>e),fun _ _ _=>by simp⟩) (fun t cs' hc=>.inr ⟨hc,by simp,by simp,fun _ _ _=>.inl (fun e=>e)⟩)
  (fun id hid=>h.ctx.box.1 id hid) (fun id cs' hc=>.inr ⟨hc,by simp,fun _ _ _=>.inl (fun e=>e)⟩) (fun id bx he _=>.inr ⟨he,by simp⟩) (fun e=>by cases e)
def RegsR (g:Gh) (r:Loop) (rs:List (Nat×AV)):Prop:=∀ p ∈ rs,R g p.2 (r.tmps.getD p.1 undef)∧∀ c ∈ p.2.cells,c.noOwn
theorem Ok.newLp (h:Ok false E g w fr st a) {r:Loop} {rs:List (Nat×AV)} (hw:Nw w (.loop r) w') (hr:RegsR g r rs):Ok false E (g.newB w.heap.size st.boxes.length) w' fr (st.push (.lp r rs)) a:=by
 have hg:=h.ctx.good
 have hid:=h.ctx.box.1 st.boxes.length (Nat.le_refl _)
 have hch:=Nw.chB (d:=E.d) hw hg _ hid
 refine h.ch (hw.mvB hg _ hid) hch h.size h.defers (fun t v u hv hu=>.inr ⟨hv,hu,fun i c _=>.inl (fun e=>e),fun _ _ _=>by simp⟩) (fun t cs' hc=>.inr ⟨hc,by simp,by simp,fun _ _ _=>.inl (fun e=>e)⟩) (fun id hid=>?_) (fun id cs' hc=>?_) (fun id bx he hob=>?_) (fun e=>by cases e)
 ·simp [St.push] at hid
  have:¬ id = st.boxes.length:=by omega
  simp only [Gh.newB,this,if_false]
  exact h.ctx.box.1 id (by omega)
 ·rcases aP hc with h1 | ⟨rfl,h1⟩
  ·exact .inr ⟨h1,by simp,fun _ _ _=>.inl (fun e=>e)⟩
  ·cases h1
 ·rcases aP he with h1 | ⟨rfl,h1⟩
  ·exact .inr ⟨h1,by simp⟩
  ·cases h1
   exact .inl ⟨w.heap.size,.loop r,by simp [Gh.newB],by simp [Gh.newB],hw.new,rfl,fun p hp=>⟨(hr p hp).1.mono hch.ghle,(hr p hp).2⟩⟩
theorem Ok.setLp (h:Ok false E g w fr st a) {id b:Nat} {r r':Loop} {rs:List (Nat×AV)} (hl:st.boxes[id]? = some (some (.lp r rs))) (hb:g.bx id = some b) (ht:r'.tmps = r.tmps) :
  Ok false E g (w.putObj b (.loop r')) fr (st.setL id r' rs) a:=by
 obtain ⟨b',a1,a2,a3,a4⟩:=h.ctx.box.lp hl
 have:b' = b:=Option.some.inj (a1.symm.trans hb)
 subst this
 have hg:=h.ctx.good
 have hlt:b' < w.heap.size:=(Array.getElem?_eq_some_iff.1 a3).1
 have hw:=wr_put w b' (.loop r')
 have hch:Ch (fun _=>False) none none (some id) E.d g w g (w.putObj b' (.loop r')):=hw.ch a2 (.inr ⟨id,rfl,rfl⟩)
 refine h.ch (hw.mv hg a2 (fun e=>e) (fun L e=>by cases e) (fun e=>by cases e)) hch h.size h.defers (fun t v u hv hu=>.inr ⟨hv,hu,fun i c _=>.inl (fun e=>e),fun _ _ _=>by simp⟩) (fun t cs' hc=>.inr ⟨hc,by simp,by simp,fun _ _ _=>.inl (fun e=>e)⟩)
  (fun id' hid=>h.ctx.box.1 id' (by simpa [St.setL] using hid)) (fun id' cs' hc=>?_) (fun id' bx he0 hob=>?_) (fun e=>by cases e)
 ·rcases eC hc with ⟨rfl,e⟩ | ⟨hne,hc⟩
  ·cases e
  ·exact .inr ⟨hc,fun e=>hne (by cases e; rfl),fun _ _ _=>.inl (fun e=>e)⟩
 ·rcases eC he0 with ⟨rfl,e⟩ | ⟨hne,hc⟩
  ·cases e
   exact .inl ⟨b',.loop r',a1,a2,World.putObj_heap_same hlt,rfl,fun p hp=>by rw [ht]; exact a4 p hp⟩
  ·exact .inr ⟨hc,fun e=>hne (by cases e; rfl)⟩
def St.drop (st:St) (id:Nat):St:=⟨st.boxes.set id none⟩
theorem drop_box {id id':Nat} {b:Box} (h:(st.drop id).boxes[id']? = some (some b)):id'≠id∧st.boxes[id']? = some (some b):=by
 simp only [St.drop] at h
 by_cases e:id' = id
 ·subst e
  rw [List.getElem?_set] at h
  simp at h
 ·rw [List.getElem?_set_ne (fun q=>e q.symm)] at h
  exact ⟨e,h⟩
theorem Ok.dropLp (h:Ok false E g w fr st a) {id b:Nat} {r:Loop} {rs:List (Nat×AV)} (hl:st.boxes[id]? = some (some (.lp r rs))) (hb:g.bx id = some b) (o:Obj):Ok false E g (w.putObj b o) fr (st.drop id) a:=by
 obtain ⟨b',a1,a2,a3,a4⟩:=h.ctx.box.lp hl
 have:b' = b:=Option.some.inj (a1.symm.trans hb)
 subst this
 have hg:=h.ctx.good
 have hw:=wr_put w b' o
 have hch:Ch (fun _=>False) none none (some id) E.d g w g (w.putObj b' o):=hw.ch a2 (.inr ⟨id,rfl,rfl⟩)
 refine h.ch (hw.mv hg a2 (fun e=>e) (fun L e=>by cases e) (fun e=>by cases e)) hch h.size h.defers (fun t v u hv hu=>.inr ⟨hv,hu,fun i c _=>.inl (fun e=>e),fun _ _ _=>by simp⟩) (fun t cs' hc=>.inr ⟨hc,by simp,by simp,fun _ _ _=>.inl (fun e=>e)⟩)
  (fun id' hid=>h.ctx.box.1 id' (by simpa [St.drop] using hid)) (fun id' cs' hc=>?_) (fun id' bx he0 hob=>?_) (fun e=>by cases e)
 ·obtain ⟨hne,hc⟩:=drop_box hc
  exact .inr ⟨hc,fun e=>hne (by cases e; rfl),fun _ _ _=>.inl (fun e=>e)⟩
 ·obtain ⟨hne,hc⟩:=drop_box he0
  exact .inr ⟨hc,fun e=>hne (by cases e; rfl)⟩
def Ext (m:Bool) (E E':Ent):Prop :=
 E' = E∨(m = false∧E'.d = E.d∧E'.N = E.N∧E'.lo = E.lo∧E.w.heap.size≤E'.w.heap.size∧∀ g w,Mv false E.N E.d E'.g E'.w g w→Mv false E.N E.d E.g E.w g w)
theorem Ext.refl (m:Bool) (E:Ent):Ext m E E:=.inl rfl
theorem Ext.trans {E1 E2 E3:Ent} (h:Ext m E1 E2) (k:Ext m E2 E3):Ext m E1 E3:=by
 rcases h with rfl | ⟨h1,h2,h3,h4,h6,h5⟩
 ·exact k
 rcases k with rfl | ⟨k1,k2,k3,k4,k6,k5⟩
 ·exact .inr ⟨h1,h2,h3,h4,h6,h5⟩
 ·rw [h2,h3] at k5
  exact .inr ⟨h1,k2.trans h2,k3.trans h3,k4.trans h4,Nat.le_trans h6 k6,fun g w q=>h5 g w (k5 g w q)⟩
theorem Ext.dd {E E':Ent} (h:Ext m E E'):E'.d = E.d:=by rcases h with rfl | h; rfl; exact h.2.1
theorem Ext.NN {E E':Ent} (h:Ext m E E'):E'.N = E.N:=by rcases h with rfl | h; rfl; exact h.2.2.1
theorem Ext.szw {E E':Ent} (h:Ext m E E'):E.w.heap.size≤E'.w.heap.size:=by rcases h with rfl | h; exact Nat.le_refl _; exact h.2.2.2.2.1
theorem Ext.lolo {E E':Ent} (h:Ext m E E'):E'.lo = E.lo:=by rcases h with rfl | h; rfl; exact h.2.2.2.1
theorem Ok.anew (h:Ok false E g w fr st a) {ds:List Deferred} (hd:DefsR ⟨E.d,E.N,g,w,st,E.lo⟩ ds):Ok false ⟨E.d,E.N,g,w,st,E.lo⟩ g w fr st { a with defers:=ds } :=
 ⟨h.size,h.slots,h.ctx,hd,Mv.refl h.ctx.good,fun e=>(by cases e),h.hN,h.hm⟩
theorem Ok.ext (h:Ok false E g w fr st a):Ext false E ⟨E.d,E.N,g,w,st,E.lo⟩:=.inr ⟨rfl,rfl,rfl,rfl,h.mv.size,fun _ _ k=>h.mv.trans k⟩
theorem Ok.defs (h:Ok false E g w fr st a) {D:Nat} {s:Nat} {dd:Nat} (hD:g.cls D = some (.loc dd s)) (hdd:dd < E.d) (hh:w.heap[D]? = some (.deferred (some []))) (hlo:E.lo≤D) (hnew:E.w.heap.size≤D) :
  DefsR ⟨E.d,E.N,g,w,st,E.lo⟩ ({ target:=.collected D,args:=#[] }::a.defers):=by
 refine ⟨fun x hx=>?_,?_⟩
 ·rcases List.mem_cons.1 hx with rfl | hx
  ·exact ⟨D,dd,s,rfl,hlo,hD,hdd,hh⟩
  ·obtain ⟨D0,d0,s0,h1,h2,h3,h4,h5⟩:=h.defers.all x hx
   obtain ⟨q1,q2,_⟩:=h.mv.outer D0 _ h3 h4
   exact ⟨D0,d0,s0,h1,h2,q1,h4,by rw [q2]; exact h5⟩
 ·simp only [List.map_cons,List.nodup_cons]
  refine ⟨fun hx=>?_,h.defers.nd⟩
  obtain ⟨x,hx,e⟩:=List.mem_map.1 hx
  obtain ⟨D0,d0,s0,rfl,h2,h3,h4,h5⟩:=h.defers.all x hx
  cases e
  have:=(Array.getElem?_eq_some_iff.1 h5).1
  omega
theorem Ok.putD (h:Ok false E g w fr st a) {D dd s:Nat} (hD:g.cls D = some (.loc dd s)) (hdd:dd≠E.d) (hE:E.g.cls D = none) (hb:E.g.base≤D) (o:Obj):Ok false E g (w.putObj D o) fr st a:=by
 have hg:=h.ctx.good
 have hw:=wr_put w D o
 have hi:∀ q,g.imm D q = none:=fun q=>by
  cases hh:g.imm D q with
  | none=>rfl
  | some u=>rcases hg.immc D q u hh with h1 | ⟨L,h1⟩ <;> rw [hD] at h1 <;> cases h1
 have hgood:Good g (w.putObj D o):=by
  refine ⟨fun k o' u hh=>?_,hg.immc,fun k c' hk=>?_,by rw [hw.size]; exact hg.base⟩
  ·have hne:k≠D:=fun e=>by subst e; rw [hi o'] at hh; cases hh
   have:=hg.imm k o' u hh
   unfold World.cell? at this ⊢
   rw [hw.other k hne]; exact this
  ·rw [hw.size]; exact hg.cls k c' hk
 have hown:∀ {N:Nat} {L:Loc} {x:AV} {u:Value},Own g w N L x u→Own g (w.putObj D o) N L x u:=by
  intro N L x u ho
  refine ⟨fun k es e=>?_,fun id s l stp e=>?_⟩
  ·rcases ho.1 k es e with h0 | ⟨b,q,c,cur,T,h1,hN,h2,h3,h4⟩
   ·exact .inl h0
   ·have hne:b≠D:=fun e=>by subst e; rw [hD] at h2; cases h2
    exact .inr ⟨b,q,c,cur,T,h1,hN,h2,by rw [hw.other b hne]; exact h3,h4⟩
  ·obtain ⟨b,mb,sp,h1,hN,h2,h3,h4⟩:=ho.2 id s l stp e
   have hne:b≠D:=fun e=>by subst e; rw [hD] at h2; cases h2
   exact ⟨b,mb,sp,h1,hN,h2,by rw [hw.other b hne]; exact h3,h4⟩
 refine ⟨h.size,fun t v u hv hu=>⟨(h.slots t v u hv hu).1,fun i c x hc hx=>hown ((h.slots t v u hv hu).2 i c x hc hx)⟩,⟨hgood,fun t cs hc=>?_,⟨h.ctx.box.1,fun id cs hc=>?_,fun id bx hc hob=>?_⟩⟩,h.defers,?_,fun e=>(by cases e),by rw [hw.size]; exact h.hN,h.hm⟩
 ·obtain ⟨b,us,T,h1,hN,h2,h3,h4,h5⟩:=h.ctx.loc t cs hc
  have hne:b≠D:=fun e=>by subst e; rw [hD] at h2; cases h2; exact hdd rfl
  exact ⟨b,us,T,h1,hN,h2,by rw [hw.other b hne]; exact h3,h4,fun i c x hc hx=>⟨(h5 i c x hc hx).1,hown (h5 i c x hc hx).2⟩⟩
 ·obtain ⟨b,us,T,h1,h2,h3,h4,h5,h6⟩:=h.ctx.box.2.1 id cs hc
  have hne:b≠D:=fun e=>by subst e; rw [hD] at h2; cases h2
  exact ⟨b,us,T,h1,h2,by rw [hw.other b hne]; exact h3,h4,fun i c x hc hx=>⟨(h5 i c x hc hx).1,hown (h5 i c x hc hx).2⟩,h6⟩
 ·obtain ⟨b,o',h1,h2,h3,h4⟩:=h.ctx.box.2.2 id bx hc hob
  have hne:b≠D:=fun e=>by subst e; rw [hD] at h2; cases h2
  exact ⟨b,o',h1,h2,by rw [hw.other b hne]; exact h3,h4⟩
 ·have hm:=h.mv
  refine ⟨hm.os,hm.tape,hm.output,by rw [hw.size]; exact hm.size,hm.base,fun b hb'=>?_,hm.imm,hm.bx,hm.lb,fun b c hc ho=>?_,(fun e=>by cases e),hgood⟩
  ·rw [hw.other b (by omega)]; exact hm.low b hb'
  ·have hne:b≠D:=fun e=>by subst e; rw [hE] at hc; cases hc
   rw [hw.other b hne]; exact hm.outer b c hc ho
end
end Go.Fx
namespace Go.Fx
open Go Go.RowKit Go.Lib
inductive AC where
 | skip
 | ops (lv ll:List Nat) (l:List GI)
 | draw (lv ll drop:List Nat) (hl tl:List GI)
 | drawM (lv ll:List Nat) (pre:List GI) (d:Option Nat) (f:Opd) (args:List Opd) (post:List (Bool×GI)) (tl:List GI)
 | drawA (lv ll:List Nat) (pre:List GI) (d:Option Nat) (b:Opd) (k bytes:Nat) (y:Opd) (post:List (Bool×GI)) (tl:List GI)
 | drawG (lv ll drop:List Nat) (fl:List (Bool×GI)) (tl:List GI)
 | drawC (lv ll:List Nat) (pre:List GI) (d:Option Nat) (f:Opd) (args:List Opd) (post tl:List GI)
 | seq (a b:AC)
 | cond (x:Opd) (a b:AC)
 | block (id:Nat) (b:AC)
 | loop (lv ll:List Nat) (b:AC)
 | exit (lv ll:List Nat) (id:Nat)
 | scope (b:AC)
 | rangeF (lv ll:List Nat) (x:Opd) (ps lb:List Nat) (a b:AC)
 | ret
 | bad
def io:List Nat→List (Nat×List AV)→List (Nat×List AV)
 | [],_=>[]
 | s :: r, locs => match look s locs with
   | some cs=>(s,cs)::io r locs
   | none=>io r locs
def Sf.mask (lv ll:List Nat) (sf:Sf):Sf:=⟨lv.map fun t=>(t,sf.reg t),io ll sf.locs⟩
def seqQ (C:Sf→St→(Exit→Sf→St→Prop)→Prop) (Q:Exit→Sf→St→Prop):Exit→Sf→St→Prop
 | .normal,sf,st=>C sf st Q
 | e,sf,st=>Q e sf st
def fK (id:Nat) (Q:Exit→Sf→St→Prop):Exit→Sf→St→Prop
 | .exit id',sf,st=>if id' = id then Q .normal sf st else Q (.exit id') sf st
 | e,sf,st=>Q e sf st
def mS (Q:Exit→Sf→St→Prop):Exit→Sf→St→Prop
 | .goto _,_,_=>False
 | e,sf,st=>Q e sf st
def loopQ (I:Nat→Sf→St→Prop) (k:Nat) (lv ll:List Nat) (Q:Exit→Sf→St→Prop):Exit→Sf→St→Prop
 | .normal,sf,st=>∃ k',k' < k∧∃ sf',Sf.le (sf.mask lv ll) sf'∧I k' sf' st
 | e,sf,st=>Q e sf st
def Opd.setB (x:Opd) (sf:Sf) (b:Bool):Sf:=match x with | .r t=>sf.set t (.lit (.bool b)) | _=>sf
def opsK (lv ll:List Nat) (Q:Exit→Sf→St→Prop) (sf:Sf) (st:St):Prop:=Q .normal (sf.mask lv ll) st
def ip (x:Opd) (v:AV) (A B:Sf→St→(Exit→Sf→St→Prop)→Prop) (sf:Sf) (st:St) (Q:Exit→Sf→St→Prop):Prop :=
 match v with
 | .lit (.bool b)=>(b = true→A (x.setB sf true) st Q)∧(b = false→B (x.setB sf false) st Q)
 | _=>False
def am (C:Sf→St→(Exit→Sf→St→Prop)→Prop) (lv ll:List Nat) (sf:Sf) (st:St) (Q:Exit→Sf→St→Prop):Prop :=
 ∃ I:Nat→Sf→St→Prop,(∃ k sf',Sf.le (sf.mask lv ll) sf'∧I k sf' st)∧∀ k sf st,I k sf st→C sf st (loopQ I k lv ll Q)
def AV.keep (v:AV):AV:=if v.noL then v.dis else .any
def iq:List Nat→Sf→List (Nat×AV)
 | [],_=>[]
 | t::r,sf=>(t,(sf.reg t).keep)::iq r sf
def jD:List (Nat×AV)→List Nat→List AV→List (Nat×AV)
 | regs,p::ps,v::vs=>jD (setR regs p v.dis) ps vs
 | regs,_,_=>regs
def er (r:Loop):Loop:={ r with state:=.busy }
def ir (r:Loop) (c:Code):Loop:={ r with state:=.done,pending:=some c }
def St.isLp (st:St) (id:Nat) (r:Loop) (rs:List (Nat×AV)):Prop:=st.boxes[id]? = some (some (.lp r rs))
def endI (id:Nat) (r:Loop) (rs:List (Nat×AV)) (Q:Bool→St→Prop):Exit→Sf→St→Prop
 | .normal,_,st=>st.isLp id (er r) rs∧Q true (st.setL id r rs)
 | .ret,_,st=>st.isLp id (er r) rs∧Q false (st.setL id (ir r .ret) rs)
 | .exit k,_,st=>st.isLp id (er r) rs∧Q false (st.setL id (ir r (.exit k)) rs)
 | _,_,_=>False
def assignQ (CB:Sf→St→(Exit→Sf→St→Prop)→Prop) (id:Nat) (r:Loop) (rs:List (Nat×AV)) (Q:Bool→St→Prop):Exit→Sf→St→Prop
 | .normal,sf,st=>st.isLp id r rs∧CB sf (st.setL id (er r) rs) (endI id r rs Q)
 | _,_,_=>False
def roundI (CA CB:Sf→St→(Exit→Sf→St→Prop)→Prop) (ps:List Nat) (id:Nat) (r:Loop) (rs:List (Nat×AV)) (vs:List AV) (st:St) (Q:Bool→St→Prop):Prop :=
 st.isLp id r rs∧vs.length = ps.length∧CA ⟨jD rs ps vs,[]⟩ st (assignQ CB id r rs Q)
def behindI (lv ll:List Nat) (id:Nat) (r:Loop) (rs:List (Nat×AV)) (sf:Sf) (st:St) (Q:Exit→Sf→St→Prop):Prop :=
 (st.isLp id r rs∧Q .normal (sf.mask lv ll) (st.drop id))∨(st.isLp id (ir r .ret) rs∧Q .ret sf (st.drop id))∨∃ k,st.isLp id (ir r (.exit k)) rs∧Q (.exit k) (sf.mask lv ll) (st.drop id)
def pL (P:Program) (CA CB:Sf→St→(Exit→Sf→St→Prop)→Prop) (ps lb lv ll:List Nat) (v:AV) (sf:Sf) (st:St) (Q:Exit→Sf→St→Prop):Prop :=
 match v with
 | .fn (.func q) fs cs=>bt P q = true∧∀ r:Loop,(∀ vs st' Q',roundI CA CB ps st.boxes.length r (iq lb sf) vs st' Q'→rG P st.boxes.length vs st' Q') →
   ∃ Qc,aX P q (fs++[.yld st.boxes.length]++cs) (st.push (.lp r (iq lb sf))) Qc∧∀ v st',Qc v st'→behindI lv ll st.boxes.length r (iq lb sf) sf st' Q
 | _=>False
section
variable (P:Program) (F:Nat→FuncId) (m:Bool)
def cQ (drop lv ll:List Nat) (tl:List GI) (Q:Exit→Sf→St→Prop) (st:St) (ks:List PK) (sf:Sf):Prop :=
 ksB drop ks = true∧runI P F m tl (opsK lv ll Q) (bk ks ks (bP ks sf)) st
def kK (lv ll:List Nat) (tl:List GI) (Q:Exit→Sf→St→Prop) (st:St) (sf:Sf):Prop:=runI P F m tl (opsK lv ll Q) sf st
def tailX (drop lv ll:List Nat) (tl:List GI) (Q:Exit→Sf→St→Prop) (SS:Nat→St→Prop) (j:Nat) (ks:List PK) (sf:Sf):Prop :=
 ksB drop ks = true∧∀ s,SS j s→runI P F m tl (opsK lv ll Q) (bk ks ks (bP ks sf)) s
def drawX (locs0:List (Nat×List AV)) (st:St) (fl:List (Bool×GI)) (K:(Nat→St→Prop)→Nat→List PK→Sf→Prop) (sf:Sf):Prop :=
 ∃ SS:Nat→St→Prop,SS 0 st∧(∀ j s,SS j s→St.sub st s)∧preX P F locs0 st SS 0 fl (K SS) [] sf
def aC:AC→Sf→St→(Exit→Sf→St→Prop)→Prop
 | .skip,sf,st,Q=>Q .normal sf st
 | .ops lv ll l,sf,st,Q=>runI P F m l (opsK lv ll Q) sf st
 | .draw lv ll drop hl tl,sf,st,Q=>ap P F sf.locs st hl (cQ P F m drop lv ll tl Q st) [] ⟨sf.regs,aM drop sf.locs⟩
 | .drawM lv ll pre d f args post tl,sf,st,Q=>m = false∧drawM P F pre d f args post sf st (kK P F m lv ll tl Q)
 | .drawA lv ll pre d b k bytes y post tl,sf,st,Q=>m = false∧drawA P F pre d b k bytes y post sf st (kK P F m lv ll tl Q)
 | .drawG lv ll drop fl tl,sf,st,Q=>m = false∧drawX P F sf.locs st fl (tailX P F m drop lv ll tl Q) ⟨sf.regs,aM drop sf.locs⟩
 | .drawC lv ll pre d f args post tl,sf,st,Q=>m = false∧drawC P F pre d f args post sf st (kK P F m lv ll tl Q)
 | .seq a b,sf,st,Q=>aC a sf st (seqQ (aC b) Q)
 | .cond x a b,sf,st,Q=>ip x (sf.ev F x) (aC a) (aC b) sf st Q
 | .block id b,sf,st,Q=>aC b sf st (fK id Q)
 | .loop lv ll b,sf,st,Q=>am (aC b) lv ll sf st Q
 | .exit lv ll id,sf,st,Q=>Q (.exit id) (sf.mask lv ll) st
 | .scope b,sf,st,Q=>aC b sf st (mS Q)
 | .rangeF lv ll x ps lb a b,sf,st,Q=>m = false∧pL P (aC a) (aC b) ps lb lv ll (sf.ev F x) sf st Q
 | .ret,sf,st,Q=>Q .ret sf st
 | .bad,_,_,_=>False
end
structure Cx where
 gOf:FuncId→Option Nat
 F:Nat→FuncId
 n:Nat
 heap:Nat→Bool
 mu:Nat→Bool
 ms:Nat→List Nat×List Nat
def dropsOf (sl:Nat→Option Nat):List Oper→List Nat
 | []=>[]
 | o :: r => (match o.op, o.dst with
   | .alloc _,some s=>[s]
   | .store _ (.tmp t) _,none=>(sl t).toList
   | _,_=>[])++dropsOf sl r
def slotOf (l:List Oper):Nat→Nat→Nat
 | 0,t=>t
 | f + 1, t => match l.find? fun o => o.dst == some t with
   | some o => match o.op with
     | .fieldAddr _ (.tmp s) _=>slotOf l f s
     | _=>t
   | none=>t
def drops (l:List Oper):List Nat:=dropsOf (fun t=>some (slotOf l 4 t)) l
section
variable (P:Program) (X:Cx)
def headOf (l:List Oper):Option Nat:=(List.range (l.length + 1)).find? fun k=>dirB l.toArray k
def dstB (n:Nat) (l:List Oper):Bool:=l.all fun o=>match o.dst with | some d=>decide (d < n) | none=>true
def isMk (o:Oper):Bool :=
 match o.op,o.dst,o.guard with
 | .call { callee:=.value _,.. },some s,none=>X.mu s
 | _,_,_=>false
def isBx (o:Oper):Bool :=
 match o.op,o.dst with
 | .box _ _,some s | .alloc _,some s=>X.heap s
 | _,_=>false
def isGk (o:Oper):Bool :=
 match o.op,o.dst with
 | .box _ _,some s | .alloc _,some s=>X.heap s
 | .call { callee:=.value _,.. },some s=>X.mu s
 | _,_=>false
def growB (l:List Oper):Bool:=(l.filter (isGk X)).any (fun o=>o.guard.isSome) || decide (2≤(l.filter (isGk X)).length) || l.any (isBx X)
def rR (l:List Oper) (gl:List GI):List (Bool×GI):=gl.zipIdx.map fun p=>(match l[p.2]? with | some o=>isGk X o | none=>false,p.1)
def ordG (ops:List Oper) (k:Nat):Bool :=
 (List.range k).all fun i'=>(List.range i').all fun i=>match ops[i]?,ops[i']? with
  | some o,some o'=>!(isGk X o && isGk X o') || aI ops.toArray k i' i
  | _,_=>true
def rS (p:Nat) (ops:List Oper) (k:Nat):Option AC :=
 if ordG X ops k = false then none else match bM P X.gOf X.F X.n X.heap ops (ops.take k),jC P X.gOf X.F X.n X.heap X.mu false ops (ops.drop k) with
 | some hl,some tl=>some (.drawG (X.ms p).1 (X.ms p).2 (drops (ops.take k)) (rR X (ops.take k) hl) tl)
 | _,_=>none
def rT (p:Nat) (ops:List Oper) (k κ:Nat):Option AC :=
 match ops[κ]? with
 | some o => match o.op with
   | .call { callee := .value f, args, .. } =>
     if o.guard = none∧κ < k then
      match opd X.gOf X.F X.n f,opds X.gOf X.F X.n args.toList,bM P X.gOf X.F X.n X.heap ops (ops.take κ),bM P X.gOf X.F X.n X.heap ops ((ops.take k).drop (κ + 1)),jC P X.gOf X.F X.n X.heap X.mu false ops (ops.drop k) with
      | some f,some args,some pre,some post,some tl=>some (.drawM (X.ms p).1 (X.ms p).2 pre o.dst f args (fJ ops k κ post) tl)
      | _,_,_,_,_=>none
     else none
   | _=>none
 | none=>none
def isMa (o:Oper):Bool :=
 match o.op,o.dst,o.guard with
 | .call { callee:=.builtin .append,.. },some s,none=>X.mu s
 | _,_,_=>false
def rU (p:Nat) (ops:List Oper) (k κ:Nat):Option AC :=
 match ops[κ]? with
 | some o => match o.op with
   | .call { callee := .builtin .append, args, argTypes } =>
     if o.guard = none∧κ < k then
      match args.toList,argTypes.toList with
      | [x,y],[t,t2]=>if apzB P t = true then
        match appK P t t2,opd X.gOf X.F X.n x,opd X.gOf X.F X.n y,bM P X.gOf X.F X.n X.heap ops (ops.take κ),bM P X.gOf X.F X.n X.heap ops ((ops.take k).drop (κ + 1)),jC P X.gOf X.F X.n X.heap X.mu false ops (ops.drop k) with
        | some kb,some b,some y,some pre,some post,some tl=>some (.drawA (X.ms p).1 (X.ms p).2 pre o.dst b kb.1 kb.2 y (fJ ops k κ post) tl)
        | _,_,_,_,_,_=>none
       else none
      | _,_=>none
     else none
   | _=>none
 | none=>none
def chainB (ops:List Oper) (k κ:Nat):Bool :=
 (List.range κ).all (fun i=>aI ops.toArray k κ i && (match ops[i]? with | some o=>o.guard.isNone | none=>false)) &&
 (List.range k).all (fun i=>decide (i≤κ) || aI ops.toArray k i κ) &&
 (ops.take κ).all (fun o=>((ops.take k).drop (κ + 1)).all fun o'=>decide (o.dst≠o'.dst)) &&
 (ops.take κ).any (fun o=>match o.dst with | some d=>X.mu d | none=>false)
def rV (p:Nat) (ops:List Oper) (k κ:Nat):Option AC :=
 match ops[κ]? with
 | some o => match o.op with
   | .call { callee := .value f, args, .. } =>
     if o.guard = none∧κ < k then
      match opd X.gOf X.F X.n f,opds X.gOf X.F X.n args.toList,bM P X.gOf X.F X.n X.heap ops (ops.take κ),bM P X.gOf X.F X.n X.heap ops ((ops.take k).drop (κ + 1)),jC P X.gOf X.F X.n X.heap X.mu false ops (ops.drop k) with
      | some f,some args,some pre,some post,some tl=>some (.drawC (X.ms p).1 (X.ms p).2 pre o.dst f args post tl)
      | _,_,_,_,_=>none
     else none
   | _=>none
 | none=>none
def bQ:Code→Bool
 | .seq a b=>bQ a && bQ b
 | .cond _ a b=>bQ a && bQ b
 | .block _ b=>bQ b
 | .loop b=>bQ b
 | .scope b=>bQ b
 | .rangeFunc _ _ _ _=>false
 | _=>true
def headOfL (l:List Oper):Option Nat:=(List.range (l.length + 1)).find? fun k=>dirL true l.toArray k
def mT (p:Nat) (ops:List Oper) (k:Nat):Option AC :=
 match bM P X.gOf X.F X.n X.heap ops (ops.take k),jC P X.gOf X.F X.n X.heap X.mu false ops (ops.drop k) with
 | some hl,some tl=>some (.draw (X.ms p).1 (X.ms p).2 (drops (ops.take k)) (ldL (drops (ops.take k)) ops.toArray (ops.take k) hl) tl)
 | _,_=>some .bad
def compDL (p:Nat) (ops:List Oper):Option AC :=
 match headOfL ops with
 | none=>some .bad
 | some k=>if dirL true ops.toArray k && nt ops.toArray k && dstB X.n (ops.take k) then mT P X p ops k else some .bad
def pM (p:Nat) (ops:List Oper):Option AC :=
 if (X.ms 3000000021).1.isEmpty = false then compDL P X p ops else
 match headOf ops with
 | none=>some .bad
 | some k =>
   if dirB ops.toArray k && nt ops.toArray k && dstB X.n (ops.take k) then
    if growB X (ops.take k) then (match rS P X p ops k with
     | some c=>some c
     | none=>some .bad) else
    match (ops.take k).findIdx? (isMk X) with
    | some κ => if chainB X ops k κ then (match rV P X p ops k κ with
      | some c=>some c
      | none=>some .bad) else (match rT P X p ops k κ with
      | some c=>some c
      | none=>some .bad)
    | none => match (ops.take k).findIdx? (isMa X) with
      | some κ => (match rU P X p ops k κ with
        | some c=>some c
        | none=>some .bad)
      | none=>mT P X p ops k
   else some .bad
def cb:Nat→Code→Option AC
 | _,.skip=>some .skip
 | _,.label _=>some .skip
 | p,.region _ ops false=>(jC P X.gOf X.F X.n X.heap X.mu false ops.toList ops.toList).map (.ops (X.ms p).1 (X.ms p).2)
 | p,.region _ ops true=>pM P X p (eagL (X.ms 3000000019).1 ops.toList)
 | p, .seq a b => match cb (2 * p) a, cb (2 * p + 1) b with
   | some a,some b=>some (.seq a b)
   | _,_=>none
 | p, .cond c a b => match opd X.gOf X.F X.n c, cb (2 * p) a, cb (2 * p + 1) b with
   | some c,some a,some b=>some (.cond c a b)
   | _,_,_=>none
 | p,.block id b=>(cb (2 * p) b).map (.block id)
 | p,.loop b=>(cb (2 * p) b).map (.loop (X.ms p).1 (X.ms p).2)
 | p,.exit id=>some (.exit (X.ms p).1 (X.ms p).2 id)
 | p,.scope b=>(cb (2 * p) b).map .scope
 | _,.ret=>some .ret
 | _,.goto _=>some .bad
 | p, .rangeFunc x ps a b => match opd X.gOf X.F X.n x, cb (2 * p) a, cb (2 * p + 1) b with
   | some x,some a',some b'=>if bQ a && bQ b && ps.toList.all (fun t=>decide (t < X.n)) && (X.ms (1000000007 + p)).1.all (fun t=>decide (t < X.n)) then some (.rangeF (X.ms p).1 (X.ms p).2 x ps.toList (X.ms (1000000007 + p)).1 a' b') else some .bad
   | _,_,_=>some .bad
 | _,.refuse _=>some .bad
end
section
variable {P:Program} {X:Cx} {m:Bool} {E:Ent} {g:Gh} {w:World} {sf:Sf} {st:St} {a:Act}
theorem mU:∀ (ll:List Nat) (locs:List (Nat×List AV)) (s:Nat) (cs:List AV),look s (io ll locs) = some cs→look s locs = some cs
 | [],_,_,_,h=>by simp [io,look] at h
 | t :: r, locs, s, cs, h => by
   simp only [io] at h
   split at h
   ·rename_i cs' hl
    simp only [look] at h
    split at h
    ·rename_i e; subst e; cases h; exact hl
    ·exact mU r locs s cs h
   ·exact mU r locs s cs h
theorem eL:∀ (drop:List Nat) (locs:List (Nat×List AV)) (s:Nat) (cs:List AV),look s (aM drop locs) = some cs→look s locs = some cs∧drop.contains s = false
 | _,[],_,_,h=>by simp [aM,look] at h
 | drop, (t, ct) :: r, s, cs, h => by
   simp only [aM] at h
   split at h
   ·rename_i hd
    obtain ⟨h1,h2⟩:=eL drop r s cs h
    refine ⟨?_,h2⟩
    simp only [look]
    split
    ·rename_i e; subst e; rw [hd] at h2; cases h2
    ·exact h1
   ·rename_i hd
    simp only [look] at h ⊢
    split
    ·rename_i e
     subst e
     simp only [if_true] at h
     exact ⟨h,by simpa using hd⟩
    ·rename_i e
     simp only [e,if_false] at h
     exact eL drop r s cs h
theorem qY (f:Nat→AV):∀ (lv:List Nat) (t:Nat),getR (lv.map fun t=>(t,f t)) t = f t∨getR (lv.map fun t=>(t,f t)) t = .any
 | [],t=>.inr rfl
 | q :: r, t => by
   simp only [List.map_cons,getR]
   split
   ·rename_i e; subst e; exact .inl rfl
   ·exact qY f r t
theorem Ok.forget {fr fr':Fr} (h:Ok m E g w fr st a) (hl:fr'.slots.length = fr.slots.length) (hs:∀ (s:Nat) (v:AV),fr'.slots[s]? = some v→fr.slots[s]? = some v∨v = AV.any) (hlo:∀ s cs,look s fr'.locs = some cs→look s fr.locs = some cs):Ok m E g w fr' st a:=by
 refine ⟨by rw [h.size,hl],fun s v u hv hu=>?_,⟨h.ctx.good,fun s cs hc=>h.ctx.loc s cs (hlo s cs hc),h.ctx.box⟩,h.defers,h.mv,h.pst,h.hN,h.hm⟩
 rcases hs s v hv with h1 | rfl
 ·exact h.slots s v u h1 hu
 ·exact ⟨R.any _,fun i c x hc _=>Own.of_no (ae (v:=.any) (fun _ e=>by cases e) trivial i c hc)⟩
theorem Ok.mask {n:Nat} (h:Ok m E g w (sp n sf) st a) (lv ll:List Nat):Ok m E g w (sp n (sf.mask lv ll)) st a:=by
 refine h.forget (by simp [cq]) (fun s v hv=>?_) (fun s cs hc=>mU ll sf.locs s cs hc)
 rw [ci] at hv ⊢
 split at hv
 ·rename_i hl
  rw [if_pos hl]
  cases hv
  rcases qY sf.reg lv s with e | e
  ·left; exact congrArg some e.symm
  ·right; exact e
 ·cases hv
theorem cY {f:PK→Option Nat}:∀ {ks:List PK} {l:List Nat},l = ks.filterMap f→bj l = true→∀ (i j s:Nat) (x y:PK),ks[i]? = some x→ks[j]? = some y→f x = some s→f y = some s→i = j
 | [],_,_,_,i,j,s,x,y,hx,_,_,_=>by simp at hx
 | k :: ks, l, hl, hd, i, j, s, x, y, hx, hy, fx, fy => by
   have hmem:∀ (q:Nat) (z:PK),ks[q]? = some z→f z = some s→s ∈ ks.filterMap f:=fun q z hz fz=>List.mem_filterMap.2 ⟨z,List.mem_of_getElem? hz,fz⟩
   cases hk:f k with
   | none =>
     have hl':l = ks.filterMap f:=by rw [hl]; simp [hk]
     cases i with
     | zero=>simp at hx; subst hx; rw [hk] at fx; cases fx
     | succ i => cases j with
       | zero=>simp at hy; subst hy; rw [hk] at fy; cases fy
       | succ j=>exact congrArg Nat.succ (cY hl' hd i j s x y (by simpa using hx) (by simpa using hy) fx fy)
   | some t =>
     have hl':l = t::ks.filterMap f:=by rw [hl]; simp [hk]
     rw [hl'] at hd
     simp only [bj,Bool.and_eq_true,Bool.not_eq_true'] at hd
     cases i with
     | zero => cases j with
       | zero=>rfl
       | succ j =>
         simp at hx hy; subst hx
         rw [hk] at fx; cases fx
         have:=hmem j y hy fy
         rw [List.contains_eq_mem] at hd
         simp [this] at hd
     | succ i => cases j with
       | zero =>
         simp at hx hy; subst hy
         rw [hk] at fy; cases fy
         have:=hmem i x hx fx
         rw [List.contains_eq_mem] at hd
         simp [this] at hd
       | succ j=>exact congrArg Nat.succ (cY rfl hd.2 i j s x y (by simpa using hx) (by simpa using hy) fx fy)
theorem jR:∀ ks:List PK,aD ks = ks.filterMap fun | .store s _=>some s | _=>none
 | []=>rfl
 | k::r=>by cases k <;> simp [aD,jR r]
theorem apps_map:∀ ks:List PK,bX ks = ks.filterMap fun | .app s _=>some s | _=>none
 | []=>rfl
 | k::r=>by cases k <;> simp [bX,apps_map r]
theorem pN:∀ ks:List PK,bz ks = ks.filterMap fun | .new s _=>some s | _=>none
 | []=>rfl
 | k::r=>by cases k <;> simp [bz,pN r]
theorem nsts_map:∀ ks:List PK,bY ks = ks.filterMap fun | .nst s _=>some s | _=>none
 | []=>rfl
 | k::r=>by cases k <;> simp [bY,nsts_map r]
theorem nstB_ok:∀ {ks:List PK} {seen:List (Nat×Nat)},nstB seen ks = true→∀ (i s:Nat) cs,ks[i]? = some (.nst s cs)→(s,cs.length) ∈ seen∨∃ k cs0,k < i∧ks[k]? = some (.new s cs0)∧cs0.length = cs.length
 | [],_,_,i,s,cs,hi=>by simp at hi
 | k :: r, seen, h, i, s, cs, hi => by
   have hstep:∀ seen',nstB seen' r = true→(∀ p,p ∈ seen'→p ∈ seen∨∃ cs0,k = .new p.1 cs0∧cs0.length = p.2)→∀ i',i = i' + 1→r[i']? = some (.nst s cs)→(s,cs.length) ∈ seen∨∃ k' cs0,k' < i∧(k::r)[k']? = some (.new s cs0)∧cs0.length = cs.length:=by
    intro seen' h' hsub i' e hi'
    rcases nstB_ok h' i' s cs hi' with hm | ⟨k',cs0,h1,h2,h3⟩
    ·rcases hsub _ hm with hm | ⟨cs0,hk,hl⟩
     ·exact .inl hm
     ·exact .inr ⟨0,cs0,by omega,by simp [hk],hl⟩
    ·exact .inr ⟨k' + 1,cs0,by omega,by simpa using h2,h3⟩
   cases i with
   | zero =>
     simp at hi
     subst hi
     simp only [nstB,Bool.and_eq_true] at h
     exact .inl (by simpa [List.contains_eq_mem] using h.1)
   | succ i =>
     simp at hi
     cases k with
     | new t ds =>
       simp only [nstB] at h
       refine hstep _ h (fun p hp=>?_) i rfl hi
       rcases List.mem_cons.1 hp with rfl | hp
       ·exact .inr ⟨ds,rfl,rfl⟩
       ·exact .inl hp
     | nst t ds =>
       simp only [nstB,Bool.and_eq_true] at h
       exact hstep _ h.2 (fun p hp=>.inl hp) i rfl hi
     | _=>exact hstep seen h (fun p hp=>.inl hp) i rfl hi
theorem fa {drop:List Nat} {ks:List PK} (h:ksB drop ks = true):KsOk ks∧∀ s,drop.contains s = false→∀ (i:Nat) cs,ks[i]?≠some (.store s cs)∧ks[i]?≠some (.new s cs):=by
 unfold ksB at h
 simp only [Bool.and_eq_true] at h
 obtain ⟨⟨⟨⟨⟨⟨h5,h6⟩,h7⟩,h1⟩,h2⟩,h3⟩,h4⟩:=h
 have hs:∀ (i s:Nat) cs,ks[i]? = some (.store s cs)→s ∈ aD ks:=fun i s cs hi=>by rw [jR]; exact List.mem_filterMap.2 ⟨_,List.mem_of_getElem? hi,rfl⟩
 have hn:∀ (i s:Nat) cs,ks[i]? = some (.new s cs)→s ∈ bz ks:=fun i s cs hi=>by rw [pN]; exact List.mem_filterMap.2 ⟨_,List.mem_of_getElem? hi,rfl⟩
 refine ⟨⟨fun i j s cs cs' hi hj=>cY (jR ks) h1 i j s _ _ hi hj rfl rfl,fun i j t v v' hi hj=>cY (apps_map ks) h2 i j t _ _ hi hj rfl rfl,fun i j s cs cs' hi hj=>?_,
  fun i j s cs cs' hi hj=>cY (pN ks) h5 i j s _ _ hi hj rfl rfl,fun i j s cs cs' hi hj=>cY (nsts_map ks) h6 i j s _ _ hi hj rfl rfl,fun i s cs hi=>?_⟩,fun s hd i cs=>⟨fun hi=>?_,fun hi=>?_⟩⟩
 ·have:=List.all_eq_true.1 h3 s (hs j s cs' hj)
  have hm:=hn i s cs hi
  rw [List.contains_eq_mem (as:=bz ks)] at this
  simp [hm] at this
 ·rcases nstB_ok h7 i s cs hi with hm | hm
  ·cases hm
  ·exact hm
 ·have:=List.all_eq_true.1 h3 s (hs i s cs hi)
  rw [hd] at this; simp at this
 ·have:=List.all_eq_true.1 h4 s (hn i s cs hi)
  rw [hd] at this; cases this
theorem cI (n:Nat):∀ (ks:List PK) (sf:Sf),sp n (bP ks sf) = finS ks (sp n sf)
 | [],_=>rfl
 | .store s cs::r,sf=>cI n r _
 | .val _::r,sf=>cI n r _
 | .skip::r,sf=>cI n r _
 | .new _ _::r,sf=>cI n r _
 | .nst _ _::r,sf=>cI n r _
 | .app _ _::r,sf=>cI n r _
 | .mk _ _::r,sf=>cI n r _
 | .hole::r,sf=>cI n r _
 | .chole _ _::r,sf=>cI n r _
theorem cJ (n:Nat) (all:List PK):∀ (ks:List PK) (sf:Sf),sp n (bk all ks sf) = finN all ks (sp n sf)
 | [],_=>rfl
 | .new s cs::r,sf=>by simp only [bk,finN]; rw [cJ n all r,mL]
 | .val _::r,sf=>cJ n all r _
 | .skip::r,sf=>cJ n all r _
 | .store _ _::r,sf=>cJ n all r _
 | .nst _ _::r,sf=>cJ n all r _
 | .app _ _::r,sf=>cJ n all r _
 | .mk _ _::r,sf=>cJ n all r _
 | .hole::r,sf=>cJ n all r _
 | .chole _ _::r,sf=>cJ n all r _
theorem apr_none {P:Program} {d n:Nat} {st:St} {Qc:AV→St→Prop} {vs:List AV} {o:Oper} {f:Operand} {args:Array Operand} {ts:Array TypeId} (ho:o.op = .call ⟨.value f,args,ts⟩):ApR P d n st Qc vs o:=fun x y t t2 h=>by rw [ho] at h; cases h
theorem drawM_sound {rd:Option Nat} {p k κ:Nat} {ops:List Oper} {c:AC} (hc:rT P X p ops k κ = some c) (hdir:dirB ops.toArray k = true) (hcons:nt ops.toArray k = true) (hdst:dstB X.n (ops.take k) = true)
  {Q:Exit→Sf→St→Prop} {QQ:Exit→Act→World→Prop} (h:Ok m E g w (sp X.n sf) st a) (hK:aC P X.F m c sf st Q) (hq:∀ e sf st g w a,Ok m E g w (sp X.n sf) st a→Q e sf st→QQ e a w):cF rd P QQ ops.toArray a w:=by
 classical
 unfold rT at hc
 split at hc
 case h_2=>cases hc
 rename_i o ho
 split at hc
 case h_2=>cases hc
 rename_i f args ts hop
 split at hc
 case isFalse=>cases hc
 rename_i hgk
 obtain ⟨hgd,hκ⟩:=hgk
 split at hc
 case h_2=>cases hc
 rename_i f' args' pre post tl hf hargs hpre hpost htl
 cases hc
 obtain ⟨hmf,ρ,hsub,hK⟩:=hK
 generalize gV pre (fJ ops k κ post) = drop at hK
 have hkl:k≤ops.length:=by
  have hB:=hdir
  unfold dirB at hB
  simp only [Bool.and_eq_true,decide_eq_true_eq] at hB
  have:=hB.1.1.1.1
  simpa using this
 have hsplit:ops.take k = ops.take κ++o::(ops.take k).drop (κ + 1):=by
  have h1:(ops.take k).take κ = ops.take κ:=by rw [List.take_take,Nat.min_eq_left (by omega)]
  have h2:(ops.take k)[κ]? = some o:=by rw [List.getElem?_take,if_pos hκ]; exact ho
  obtain ⟨hlt,h3⟩:=List.getElem?_eq_some_iff.1 h2
  have h4:=List.drop_eq_getElem_cons hlt
  rw [h3] at h4
  rw [← h4,← h1,List.take_append_drop]
 have hpl:(ops.take κ).length = κ:=by simp; omega
 -- ahead of the call
 obtain ⟨ks1,sf1,hr1,hv1,hK⟩:=gv (SS:=St.sub ρ) (locs0:=sf.locs) (fun _ h=>h) hpre hK
 have hl1:ks1.length = κ:=by rw [rP hr1,hpl]
 simp only [atM,pJ,List.nil_append] at hK
 split at hK
 case h_2=>exact hK.elim
 rename_i q fs cs hfv
 obtain ⟨hnl,hent,Qc,hA,hK⟩:=hK
 have hmap:=d7 hargs sf1
 have hca:dQ (sp X.n sf1) ⟨.value f,args,ts⟩ = some (q,fs++(args'.map (sf1.ev X.F)).map AV.dis++cs):=by
  unfold dQ
  simp only [af hf sf1,hfv,hmap,hnl,if_true]
  congr 3
  rw [← hmap,List.map_map]
  rfl
 have hga:ao ops.toArray (sp X.n sf1) o = some (.lit (.bool true)):=by simp [ao,hgd]
 -- before the call has ended
 obtain ⟨ksh,sfh,hrh,hoh,hK⟩:=kJ (SS:=St.sub ρ) (locs0:=sf.locs) (fun _ h=>h) hpost (iL ops k κ post) hK
 simp only [List.nil_append] at hK
 obtain ⟨hkb0,hK⟩:=hK
 have hk0:∀ (kκ:PK) (ks2:List PK),kκ.inert = true→ksB drop (ks1++ks2) = true→ksB drop (ks1++kκ::ks2) = true:=fun kκ ks2 hi hb=>by rw [ksB_in hi]; exact hb
 have hlocs:∀ ks:List PK,ksB drop ks = true→∀ s cs,look s (sp X.n ⟨sf.regs,aM drop sf.locs⟩).locs = some cs→look s (sp X.n sf).locs = some cs∧∀ (i:Nat) cs',ks[i]?≠some (.store s cs')∧ks[i]?≠some (.new s cs'):=by
  intro ks hb s cs hc
  obtain ⟨h1,h2⟩:=eL _ _ _ _ hc
  exact ⟨h1,fun i cs'=>(fa hb).2 s h2 i cs'⟩
 have hdst':∀ o ∈ ops.take k,∀ d,o.dst = some d→d < (sp X.n sf).slots.length:=fun o ho d hd=>by
  have:=List.all_eq_true.1 hdst o ho
  rw [hd] at this
  rw [cq]
  simpa using this
 have hcst:PStep P ops.toArray ρ ((fun _ s=>s = st:Option Nat→St→Prop) o.dst) sf.locs o (sp X.n sf1) (.chole q (fs++(args'.map (sf1.ev X.F)).map AV.dis++cs)) (sp X.n (sf1.put o.dst .any)):=by
  rw [aJ]
  exact .chole _ q _ hga hop hca
 have hr1':PRun P ops.toArray ρ (fun _ s=>s = st) sf.locs (ops.take κ) (sp X.n ⟨sf.regs,aM drop sf.locs⟩) ks1 (sp X.n sf1):=hr1.weakSS fun _ _ e=>by rw [e]; assumption
 have hat1:∀ (i:Nat) (x:PK),i < κ→∀ kκ ks2,(ks1++kκ::ks2)[i]? = some x→x.real = true:=by
  intro i x hi kκ ks2 hx
  rw [List.getElem?_append_left (by omega)] at hx
  exact hv1 x (List.mem_of_getElem? hx)
 have hat2:∀ (i:Nat) (x:PK),κ < i→∀ kκ ks2,(ks1++kκ::ks2)[i]? = some x→ks2[i - κ - 1]? = some x:=by
  intro i x hi kκ ks2 hx
  rw [List.getElem?_append_right (by omega),show i - ks1.length = (i - κ - 1) + 1 by omega] at hx
  simpa using hx
 have hatκ:∀ kκ ks2,(ks1++kκ::ks2)[κ]? = some kκ:=fun kκ ks2=>by rw [List.getElem?_append_right (by omega)]; simp [hl1]
 have hnm0:∀ (i:Nat) (x:PK),(ks1++.chole q (fs++(args'.map (sf1.ev X.F)).map AV.dis++cs)::ksh)[i]? = some x→∀ v s,x≠.mk v s:=by
  intro i x hx v s e
  subst e
  rcases Nat.lt_trichotomy i κ with hi | hi | hi
  ·have:=hat1 i _ hi _ _ hx; cases this
  ·subst hi; rw [hatκ] at hx; cases hx
  ·obtain ⟨b,gi,_,hb⟩:=bH hoh _ _ (hat2 i _ hi _ _ hx)
   rcases hb with ⟨_,e⟩ | ⟨_,hb⟩
   ·cases e
   ·cases hb
 have H0:Head P m E g w (sp X.n sf) st ρ (fun _ s=>s = st) a ops k k (ks1++.chole q (fs++(args'.map (sf1.ev X.F)).map AV.dis++cs)::ksh) (sp X.n ⟨sf.regs,aM drop sf.locs⟩) (sp X.n sfh):=by
  have hb0:=hk0 (.chole q (fs++(args'.map (sf1.ev X.F)).map AV.dis++cs)) ksh rfl hkb0
  refine ⟨h,rfl,hlocs _ hb0,d6 hdir true,hcons,hdst',Nat.le_refl k,?_,fun hm=>(by rw [hmf] at hm; cases hm),(fa hb0).1⟩
  rw [hsplit]
  exact dW hr1' (.cons hcst (hrh.weakSS fun _ _ e=>by rw [e]; assumption))
 -- behind it
 have hω:∀ v s,Qc v s→∃ ks2 sf2,PRun P ops.toArray ρ (fun _ s'=>s' = st∨s' = s) sf.locs ((ops.take k).drop (κ + 1)) (sp X.n (sf1.put o.dst v)) ks2 (sp X.n sf2)∧(∀ x ∈ ks2,x.real = true)∧dc (fJ ops k κ post) ksh ks2∧St.sub ρ s∧finK drop (kK P X.F m (X.ms p).1 (X.ms p).2 tl Q s) (ks1++ks2) sf2:=by
  intro v s hQ
  obtain ⟨hs,hp⟩:=hK v s hQ
  rw [iL] at hp
  obtain ⟨ks2,sf2,hr2,hv2,hc2,hT⟩:=gv (SS:=fun s'=>s' = st∨s' = s) (locs0:=sf.locs) (fun s' e=>by rcases e with rfl | rfl <;> assumption) hpost hp
  exact ⟨ks2,sf2,hr2,hv2,by simpa using hc2,hs,hT⟩
 let ksω:AV→St→List PK:=fun v s=>if hQ:Qc v s then ks1++.mk v s::(hω v s hQ).choose else []
 let frn:AV→St→Fr:=fun v s=>if hQ:Qc v s then sp X.n (hω v s hQ).choose_spec.choose else sp X.n sf
 have hksω:∀ v s (hQ:Qc v s),ksω v s = ks1++.mk v s::(hω v s hQ).choose:=fun v s hQ=>dif_pos hQ
 have hfrn:∀ v s (hQ:Qc v s),frn v s = sp X.n (hω v s hQ).choose_spec.choose:=fun v s hQ=>dif_pos hQ
 have hoi':∀ oi,ops.toArray[κ]? = some oi→oi = o:=fun oi h=>by
  have h1:ops[κ]? = some oi:=by simpa using h
  rw [ho] at h1; cases h1; rfl
 refine ij (κ:=κ) (n:=k) ksω frn hmf hdir hκ H0 (hatκ _ _) (fun i x hx=>?_) (fun i x hx hne hnh=>?_) (fun i hx=>?_) (fun _ _ _ _ _=>⟨hent,hA⟩) (fun oi hoi=>by rw [hoi' oi hoi]; exact apr_none hop) (fun _=>false) (fun _=>rfl) (fun i e=>by cases e) (fun v s hQ=>?_) (fun v s hQ=>?_) (fun v s hQ i x hne hx=>?_) (fun v s hQ i x hne hx hnh=>?_) (fun v s hQ j s' cs hj=>?_) (fun v s hQ g' w' a' hok=>?_)
 ·have hnm:=hnm0 i x hx
  cases x <;> first | rfl | exact absurd rfl (hnm _ _)
 ·rcases Nat.lt_trichotomy i κ with hi | hi | hi
  ·exact hat1 i x hi _ _ hx
  ·exact absurd hi hne
  ·obtain ⟨b,gi,_,hb⟩:=bH hoh _ x (hat2 i x hi _ _ hx)
   rcases hb with ⟨_,e⟩ | ⟨_,hb⟩
   ·exact absurd e hnh
   ·exact hb
 ·rcases Nat.lt_trichotomy i κ with hi | hi | hi
  ·have:=hat1 i _ hi _ _ hx; cases this
  ·subst hi; rw [hatκ] at hx; cases hx
  ·obtain ⟨b,gi,hfl,hb⟩:=bH hoh _ _ (hat2 i _ hi _ _ hx)
   rcases hb with ⟨rfl,_⟩ | ⟨_,hb⟩
   ·have:=flags_at ops k κ post _ _ _ hfl
    rw [show κ + 1 + (i - κ - 1) = i by omega] at this
    exact this.symm
   ·cases hb
 ·obtain ⟨hr2,hv2,hc2,hs,hT⟩:=(hω v s hQ).choose_spec.choose_spec
  have hbω:=hk0 (.mk v s) _ rfl hT.1
  refine ⟨fun _ s'=>s' = st∨s' = s,?_,fun _ _ _ _ _ _=>.inr rfl⟩
  rw [hksω v s hQ,hfrn v s hQ]
  refine ⟨h,rfl,hlocs _ hbω,d6 hdir true,hcons,hdst',Nat.le_refl k,?_,fun hm=>(by rw [hmf] at hm; cases hm),(fa hbω).1⟩
  ·have hrr:=dW (hr1.weakSS (SS':=fun _ s'=>s' = st∨s' = s) fun _ s' e=>by rcases e with rfl | rfl <;> assumption) (.cons (k:=.mk v s) (by rw [aJ]; exact .mk v s hga) hr2)
   exact (congrArg (fun z=>PRun P ops.toArray ρ (fun _ s'=>s' = st∨s' = s) sf.locs z (sp X.n ⟨sf.regs,aM drop sf.locs⟩) (ks1++.mk v s::(hω v s hQ).choose) (sp X.n (hω v s hQ).choose_spec.choose)) hsplit).mpr hrr
 ·rw [hksω v s hQ]; exact hatκ _ _
 ·rw [hksω v s hQ] at hx
  obtain ⟨hr2,hv2,hc2,hs,hT⟩:=(hω v s hQ).choose_spec.choose_spec
  rcases Nat.lt_trichotomy i κ with hi | hi | hi
  ·exact hat1 i x hi _ _ hx
  ·exact absurd hi hne
  ·exact hv2 x (List.mem_of_getElem? (hat2 i x hi _ _ hx))
 ·rw [hksω v s hQ]
  obtain ⟨hr2,hv2,hc2,hs,hT⟩:=(hω v s hQ).choose_spec.choose_spec
  rcases Nat.lt_trichotomy i κ with hi | hi | hi
  ·rw [List.getElem?_append_left (by omega)] at hx ⊢; exact hx
  ·exact absurd hi hne
  ·have hx2:=hat2 i x hi _ _ hx
   obtain ⟨b,gi,hfl,hb⟩:=bH hoh _ x hx2
   rcases hb with ⟨_,e⟩ | ⟨hbf,_⟩
   ·exact absurd e hnh
   ·have:=(fT hc2 _ b gi x hfl).1 hx2 hbf
    rw [List.getElem?_append_right (by omega),show i - ks1.length = (i - κ - 1) + 1 by omega]
    simpa using this
 ·rw [hksω v s hQ] at hj
  obtain ⟨hr2,hv2,hc2,hs,hT⟩:=(hω v s hQ).choose_spec.choose_spec
  rcases Nat.lt_trichotomy j κ with hi | hi | hi
  ·rw [List.getElem?_append_left (by omega)] at hj ⊢; exact hj
  ·subst hi; rw [hatκ] at hj; cases hj
  ·have hx2:=hat2 j _ hi _ _ hj
   have hlen:=iK hc2
   have hlt:j - κ - 1 < ksh.length:=by rw [hlen]; exact (List.getElem?_eq_some_iff.1 hx2).1
   obtain ⟨b,gi,hfl,_⟩:=bH hoh _ _ (List.getElem?_eq_getElem hlt)
   have:=(fT hc2 _ b gi _ hfl).2 hx2 ⟨_,_,rfl⟩
   rw [List.getElem?_append_right (by omega),show j - ks1.length = (j - κ - 1) + 1 by omega]
   simpa using this
 ·rw [hksω v s hQ,hfrn v s hQ,← cI,← cJ,fin_in rfl] at hok
  obtain ⟨hr2,hv2,hc2,hs,hT⟩:=(hω v s hQ).choose_spec.choose_spec
  exact bG (Q:=QQ) htl hok hT.2 fun sf st g w a hok hk=>hq _ _ _ _ _ _ (hok.mask _ _) hk
theorem drawA_sound {rd:Option Nat} {p k κ:Nat} {ops:List Oper} {c:AC} (hc:rU P X p ops k κ = some c) (hdir:dirB ops.toArray k = true) (hcons:nt ops.toArray k = true) (hdst:dstB X.n (ops.take k) = true)
  {Q:Exit→Sf→St→Prop} {QQ:Exit→Act→World→Prop} (h:Ok m E g w (sp X.n sf) st a) (hK:aC P X.F m c sf st Q) (hq:∀ e sf st g w a,Ok m E g w (sp X.n sf) st a→Q e sf st→QQ e a w):cF rd P QQ ops.toArray a w:=by
 classical
 unfold rU at hc
 split at hc
 case h_2=>cases hc
 rename_i o ho
 split at hc
 case h_2=>cases hc
 rename_i args ts hop
 split at hc
 case isFalse=>cases hc
 rename_i hgk
 obtain ⟨hgd,hκ⟩:=hgk
 split at hc
 case h_2=>cases hc
 rename_i ox oy t t2 hargs hts
 split at hc
 case isFalse=>cases hc
 rename_i haz
 split at hc
 case h_2=>cases hc
 rename_i kb b' y' pre post tl hak hx hy hpre hpost htl
 cases hc
 have e1:=args2 hargs
 have e2:=ts2 hts
 subst e1; subst e2
 obtain ⟨hmf,ρ,hsub,hK⟩:=hK
 generalize gV pre (fJ ops k κ post) = drop at hK
 have hkl:k≤ops.length:=by
  have hB:=hdir
  unfold dirB at hB
  simp only [Bool.and_eq_true,decide_eq_true_eq] at hB
  have:=hB.1.1.1.1
  simpa using this
 have hsplit:ops.take k = ops.take κ++o::(ops.take k).drop (κ + 1):=by
  have h1:(ops.take k).take κ = ops.take κ:=by rw [List.take_take,Nat.min_eq_left (by omega)]
  have h2:(ops.take k)[κ]? = some o:=by rw [List.getElem?_take,if_pos hκ]; exact ho
  obtain ⟨hlt,h3⟩:=List.getElem?_eq_some_iff.1 h2
  have h4:=List.drop_eq_getElem_cons hlt
  rw [h3] at h4
  rw [← h4,← h1,List.take_append_drop]
 have hpl:(ops.take κ).length = κ:=by simp; omega
 -- ahead of the call
 obtain ⟨ks1,sf1,hr1,hv1,hK⟩:=gv (SS:=St.sub ρ) (locs0:=sf.locs) (fun _ h=>h) hpre hK
 have hl1:ks1.length = κ:=by rw [rP hr1,hpl]
 simp only [atA,appM,List.nil_append] at hK
 obtain ⟨hbl,hyl,Qc,hsrc,hK⟩:=hK
 have hbx:=af hx sf1
 have hyx:=af hy sf1
 have hga:ao ops.toArray (sp X.n sf1) o = some (.lit (.bool true)):=by simp [ao,hgd]
 -- before the call has ended
 obtain ⟨ksh,sfh,hrh,hoh,hK⟩:=kJ (SS:=St.sub ρ) (locs0:=sf.locs) (fun _ h=>h) hpost (iL ops k κ post) hK
 simp only [List.nil_append] at hK
 obtain ⟨hkb0,hK⟩:=hK
 have hk0:∀ (kκ:PK) (ks2:List PK),kκ.inert = true→ksB drop (ks1++ks2) = true→ksB drop (ks1++kκ::ks2) = true:=fun kκ ks2 hi hb=>by rw [ksB_in hi]; exact hb
 have hlocs:∀ ks:List PK,ksB drop ks = true→∀ s cs,look s (sp X.n ⟨sf.regs,aM drop sf.locs⟩).locs = some cs→look s (sp X.n sf).locs = some cs∧∀ (i:Nat) cs',ks[i]?≠some (.store s cs')∧ks[i]?≠some (.new s cs'):=by
  intro ks hb s cs hc
  obtain ⟨h1,h2⟩:=eL _ _ _ _ hc
  exact ⟨h1,fun i cs'=>(fa hb).2 s h2 i cs'⟩
 have hdst':∀ o ∈ ops.take k,∀ d,o.dst = some d→d < (sp X.n sf).slots.length:=fun o ho d hd=>by
  have:=List.all_eq_true.1 hdst o ho
  rw [hd] at this
  rw [cq]
  simpa using this
 have hcst:PStep P ops.toArray ρ ((fun _ s=>s = st:Option Nat→St→Prop) o.dst) sf.locs o (sp X.n sf1) (.chole 0 [(sp X.n sf1).ev ox,(sp X.n sf1).ev oy]) (sp X.n (sf1.put o.dst .any)):=by
  rw [aJ]
  exact .ahole 0 ox oy t t2 hga hop
 have hr1':PRun P ops.toArray ρ (fun _ s=>s = st) sf.locs (ops.take κ) (sp X.n ⟨sf.regs,aM drop sf.locs⟩) ks1 (sp X.n sf1):=hr1.weakSS fun _ _ e=>by rw [e]; assumption
 have hat1:∀ (i:Nat) (x:PK),i < κ→∀ kκ ks2,(ks1++kκ::ks2)[i]? = some x→x.real = true:=by
  intro i x hi kκ ks2 hx
  rw [List.getElem?_append_left (by omega)] at hx
  exact hv1 x (List.mem_of_getElem? hx)
 have hat2:∀ (i:Nat) (x:PK),κ < i→∀ kκ ks2,(ks1++kκ::ks2)[i]? = some x→ks2[i - κ - 1]? = some x:=by
  intro i x hi kκ ks2 hx
  rw [List.getElem?_append_right (by omega),show i - ks1.length = (i - κ - 1) + 1 by omega] at hx
  simpa using hx
 have hatκ:∀ kκ ks2,(ks1++kκ::ks2)[κ]? = some kκ:=fun kκ ks2=>by rw [List.getElem?_append_right (by omega)]; simp [hl1]
 have hnm0:∀ (i:Nat) (x:PK),(ks1++.chole 0 [(sp X.n sf1).ev ox,(sp X.n sf1).ev oy]::ksh)[i]? = some x→∀ v s,x≠.mk v s:=by
  intro i x hx v s e
  subst e
  rcases Nat.lt_trichotomy i κ with hi | hi | hi
  ·have:=hat1 i _ hi _ _ hx; cases this
  ·subst hi; rw [hatκ] at hx; cases hx
  ·obtain ⟨b,gi,_,hb⟩:=bH hoh _ _ (hat2 i _ hi _ _ hx)
   rcases hb with ⟨_,e⟩ | ⟨_,hb⟩
   ·cases e
   ·cases hb
 have H0:Head P m E g w (sp X.n sf) st ρ (fun _ s=>s = st) a ops k k (ks1++.chole 0 [(sp X.n sf1).ev ox,(sp X.n sf1).ev oy]::ksh) (sp X.n ⟨sf.regs,aM drop sf.locs⟩) (sp X.n sfh):=by
  have hb0:=hk0 (.chole 0 [(sp X.n sf1).ev ox,(sp X.n sf1).ev oy]) ksh rfl hkb0
  refine ⟨h,rfl,hlocs _ hb0,d6 hdir true,hcons,hdst',Nat.le_refl k,?_,fun hm=>(by rw [hmf] at hm; cases hm),(fa hb0).1⟩
  rw [hsplit]
  exact dW hr1' (.cons hcst (hrh.weakSS fun _ _ e=>by rw [e]; assumption))
 -- behind it
 have hω:∀ v s,Qc v s→∃ ks2 sf2,PRun P ops.toArray ρ (fun _ s'=>s' = st∨s' = s) sf.locs ((ops.take k).drop (κ + 1)) (sp X.n (sf1.put o.dst v)) ks2 (sp X.n sf2)∧(∀ x ∈ ks2,x.real = true)∧dc (fJ ops k κ post) ksh ks2∧St.sub ρ s∧finK drop (kK P X.F m (X.ms p).1 (X.ms p).2 tl Q s) (ks1++ks2) sf2:=by
  intro v s hQ
  obtain ⟨hs,hp⟩:=hK v s hQ
  rw [iL] at hp
  obtain ⟨ks2,sf2,hr2,hv2,hc2,hT⟩:=gv (SS:=fun s'=>s' = st∨s' = s) (locs0:=sf.locs) (fun s' e=>by rcases e with rfl | rfl <;> assumption) hpost hp
  exact ⟨ks2,sf2,hr2,hv2,by simpa using hc2,hs,hT⟩
 let ksω:AV→St→List PK:=fun v s=>if hQ:Qc v s then ks1++.mk v s::(hω v s hQ).choose else []
 let frn:AV→St→Fr:=fun v s=>if hQ:Qc v s then sp X.n (hω v s hQ).choose_spec.choose else sp X.n sf
 have hksω:∀ v s (hQ:Qc v s),ksω v s = ks1++.mk v s::(hω v s hQ).choose:=fun v s hQ=>dif_pos hQ
 have hfrn:∀ v s (hQ:Qc v s),frn v s = sp X.n (hω v s hQ).choose_spec.choose:=fun v s hQ=>dif_pos hQ
 have hoi':∀ oi,ops.toArray[κ]? = some oi→oi = o:=fun oi h=>by
  have h1:ops[κ]? = some oi:=by simpa using h
  rw [ho] at h1; cases h1; rfl
 refine ij (κ:=κ) (n:=k) ksω frn hmf hdir hκ H0 (hatκ _ _) (fun i x hx=>?_) (fun i x hx hne hnh=>?_) (fun i hx=>?_) (fun oi c hoi hoc hnb=>by rw [hoi' oi hoi,hop] at hoc; cases hoc; exact absurd rfl (hnb .append)) (fun oi hoi=>by rw [hoi' oi hoi,cq]; exact apr_sound hop hak haz (by rw [hbx]; exact hbl) (by rw [hyx]; exact hyl) (fun s e=>by subst e; simp only [opd] at hx; split at hx <;> first | assumption | cases hx) (fun s e=>by subst e; simp only [opd] at hy; split at hy <;> first | assumption | cases hy) (by rw [hbx,hyx]; exact hsrc)) (fun _=>false) (fun _=>rfl) (fun i e=>by cases e) (fun v s hQ=>?_) (fun v s hQ=>?_) (fun v s hQ i x hne hx=>?_) (fun v s hQ i x hne hx hnh=>?_) (fun v s hQ j s' cs hj=>?_) (fun v s hQ g' w' a' hok=>?_)
 ·have hnm:=hnm0 i x hx
  cases x <;> first | rfl | exact absurd rfl (hnm _ _)
 ·rcases Nat.lt_trichotomy i κ with hi | hi | hi
  ·exact hat1 i x hi _ _ hx
  ·exact absurd hi hne
  ·obtain ⟨b,gi,_,hb⟩:=bH hoh _ x (hat2 i x hi _ _ hx)
   rcases hb with ⟨_,e⟩ | ⟨_,hb⟩
   ·exact absurd e hnh
   ·exact hb
 ·rcases Nat.lt_trichotomy i κ with hi | hi | hi
  ·have:=hat1 i _ hi _ _ hx; cases this
  ·subst hi; rw [hatκ] at hx; cases hx
  ·obtain ⟨b,gi,hfl,hb⟩:=bH hoh _ _ (hat2 i _ hi _ _ hx)
   rcases hb with ⟨rfl,_⟩ | ⟨_,hb⟩
   ·have:=flags_at ops k κ post _ _ _ hfl
    rw [show κ + 1 + (i - κ - 1) = i by omega] at this
    exact this.symm
   ·cases hb
 ·obtain ⟨hr2,hv2,hc2,hs,hT⟩:=(hω v s hQ).choose_spec.choose_spec
  have hbω:=hk0 (.mk v s) _ rfl hT.1
  refine ⟨fun _ s'=>s' = st∨s' = s,?_,fun _ _ _ _ _ _=>.inr rfl⟩
  rw [hksω v s hQ,hfrn v s hQ]
  refine ⟨h,rfl,hlocs _ hbω,d6 hdir true,hcons,hdst',Nat.le_refl k,?_,fun hm=>(by rw [hmf] at hm; cases hm),(fa hbω).1⟩
  ·have hrr:=dW (hr1.weakSS (SS':=fun _ s'=>s' = st∨s' = s) fun _ s' e=>by rcases e with rfl | rfl <;> assumption) (.cons (k:=.mk v s) (by rw [aJ]; exact .mk v s hga) hr2)
   exact (congrArg (fun z=>PRun P ops.toArray ρ (fun _ s'=>s' = st∨s' = s) sf.locs z (sp X.n ⟨sf.regs,aM drop sf.locs⟩) (ks1++.mk v s::(hω v s hQ).choose) (sp X.n (hω v s hQ).choose_spec.choose)) hsplit).mpr hrr
 ·rw [hksω v s hQ]; exact hatκ _ _
 ·rw [hksω v s hQ] at hx
  obtain ⟨hr2,hv2,hc2,hs,hT⟩:=(hω v s hQ).choose_spec.choose_spec
  rcases Nat.lt_trichotomy i κ with hi | hi | hi
  ·exact hat1 i x hi _ _ hx
  ·exact absurd hi hne
  ·exact hv2 x (List.mem_of_getElem? (hat2 i x hi _ _ hx))
 ·rw [hksω v s hQ]
  obtain ⟨hr2,hv2,hc2,hs,hT⟩:=(hω v s hQ).choose_spec.choose_spec
  rcases Nat.lt_trichotomy i κ with hi | hi | hi
  ·rw [List.getElem?_append_left (by omega)] at hx ⊢; exact hx
  ·exact absurd hi hne
  ·have hx2:=hat2 i x hi _ _ hx
   obtain ⟨b,gi,hfl,hb⟩:=bH hoh _ x hx2
   rcases hb with ⟨_,e⟩ | ⟨hbf,_⟩
   ·exact absurd e hnh
   ·have:=(fT hc2 _ b gi x hfl).1 hx2 hbf
    rw [List.getElem?_append_right (by omega),show i - ks1.length = (i - κ - 1) + 1 by omega]
    simpa using this
 ·rw [hksω v s hQ] at hj
  obtain ⟨hr2,hv2,hc2,hs,hT⟩:=(hω v s hQ).choose_spec.choose_spec
  rcases Nat.lt_trichotomy j κ with hi | hi | hi
  ·rw [List.getElem?_append_left (by omega)] at hj ⊢; exact hj
  ·subst hi; rw [hatκ] at hj; cases hj
  ·have hx2:=hat2 j _ hi _ _ hj
   have hlen:=iK hc2
   have hlt:j - κ - 1 < ksh.length:=by rw [hlen]; exact (List.getElem?_eq_some_iff.1 hx2).1
   obtain ⟨b,gi,hfl,_⟩:=bH hoh _ _ (List.getElem?_eq_getElem hlt)
   have:=(fT hc2 _ b gi _ hfl).2 hx2 ⟨_,_,rfl⟩
   rw [List.getElem?_append_right (by omega),show j - ks1.length = (j - κ - 1) + 1 by omega]
   simpa using this
 ·rw [hksω v s hQ,hfrn v s hQ,← cI,← cJ,fin_in rfl] at hok
  obtain ⟨hr2,hv2,hc2,hs,hT⟩:=(hω v s hQ).choose_spec.choose_spec
  exact bG (Q:=QQ) htl hok hT.2 fun sf st g w a hok hk=>hq _ _ _ _ _ _ (hok.mask _ _) hk
theorem drawC_sound {rd:Option Nat} {p k κ:Nat} {ops:List Oper} {c:AC} (hc:rV P X p ops k κ = some c) (hch:chainB X ops k κ = true) (hdir:dirB ops.toArray k = true) (hcons:nt ops.toArray k = true) (hdst:dstB X.n (ops.take k) = true)
  {Q:Exit→Sf→St→Prop} {QQ:Exit→Act→World→Prop} (h:Ok m E g w (sp X.n sf) st a) (hK:aC P X.F m c sf st Q) (hq:∀ e sf st g w a,Ok m E g w (sp X.n sf) st a→Q e sf st→QQ e a w):cF rd P QQ ops.toArray a w:=by
 classical
 unfold rV at hc
 split at hc
 case h_2=>cases hc
 rename_i o ho
 split at hc
 case h_2=>cases hc
 rename_i f args ts hop
 split at hc
 case isFalse=>cases hc
 rename_i hgk
 obtain ⟨hgd,hκ⟩:=hgk
 split at hc
 case h_2=>cases hc
 rename_i f' args' pre post tl hf hargs hpre hpost htl
 cases hc
 obtain ⟨hmf,hK⟩:=hK
 unfold chainB at hch
 simp only [Bool.and_eq_true] at hch
 obtain ⟨⟨⟨hc1,hc2⟩,hc3⟩,_⟩:=hch
 have hc1:∀ i,i < κ→aI ops.toArray k κ i = true∧∃ oi,ops.toArray[i]? = some oi∧oi.guard = none:=by
  intro i hi
  have h1:=List.all_eq_true.1 hc1 i (List.mem_range.2 hi)
  simp only [Bool.and_eq_true] at h1
  refine ⟨h1.1,?_⟩
  have h2:=h1.2
  split at h2
  ·rename_i oi hoi
   exact ⟨oi,by simpa using hoi,by simpa using h2⟩
  ·cases h2
 have hc2:∀ i,i < k→κ < i→aI ops.toArray k i κ = true:=by
  intro i hi hik
  have h1:=List.all_eq_true.1 hc2 i (List.mem_range.2 hi)
  simp only [Bool.or_eq_true,decide_eq_true_eq] at h1
  exact h1.resolve_left (by omega)
 have hc3:∀ o1 ∈ ops.take κ,∀ o2 ∈ (ops.take k).drop (κ + 1),o1.dst≠o2.dst:=by
  intro o1 h1 o2 h2
  have:=List.all_eq_true.1 (List.all_eq_true.1 hc3 o1 h1) o2 h2
  simpa using this
 have hkl:k≤ops.length:=by
  have hB:=hdir
  unfold dirB at hB
  simp only [Bool.and_eq_true,decide_eq_true_eq] at hB
  have:=hB.1.1.1.1
  simpa using this
 have hsplit:ops.take k = ops.take κ++o::(ops.take k).drop (κ + 1):=by
  have h1:(ops.take k).take κ = ops.take κ:=by rw [List.take_take,Nat.min_eq_left (by omega)]
  have h2:(ops.take k)[κ]? = some o:=by rw [List.getElem?_take,if_pos hκ]; exact ho
  obtain ⟨hlt,h3⟩:=List.getElem?_eq_some_iff.1 h2
  have h4:=List.drop_eq_getElem_cons hlt
  rw [h3] at h4
  rw [← h4,← h1,List.take_append_drop]
 have hpl:(ops.take κ).length = κ:=by simp; omega
 obtain ⟨ks1,sf1,hr1,hv1,hK⟩:=gv (SS:=fun s=>s = st) (locs0:=sf.locs) (fun s e=>by rw [e]; exact St.sub_refl st) hpre hK
 have hl1:ks1.length = κ:=by rw [rP hr1,hpl]
 simp only [atC,qV,List.nil_append] at hK
 split at hK
 case h_2=>exact hK.elim
 rename_i q fs cs hfv
 obtain ⟨hnl,hent,hks1,Qc,hA,hK⟩:=hK
 have hks1:∀ x ∈ ks1,x.vs = true:=fun x hx=>List.all_eq_true.1 hks1 x hx
 have hmap:=d7 hargs sf1
 have hca:dQ (sp X.n sf1) ⟨.value f,args,ts⟩ = some (q,fs++(args'.map (sf1.ev X.F)).map AV.dis++cs):=by
  unfold dQ
  simp only [af hf sf1,hfv,hmap,hnl,if_true]
  congr 3
  rw [← hmap,List.map_map]
  rfl
 have hga:ao ops.toArray (sp X.n sf1) o = some (.lit (.bool true)):=by simp [ao,hgd]
 let ksh:List PK:=((ops.take k).drop (κ + 1)).map fun _=>.hole
 obtain ⟨sfh,hrh⟩:=qX (ops:=ops.toArray) (ρ:=st) (SS:=fun _ s=>s = st) (locs0:=sf.locs) ((ops.take k).drop (κ + 1)) (sp X.n (sf1.put o.dst .any))
 have hvsA:∀ (ks2:List PK),(∀ x ∈ ks2,x.vs = true∨x = .hole)→∀ x ∈ ks1++ks2,x.vs = true∨x = .hole:=by
  intro ks2 h2 x hx
  rcases List.mem_append.1 hx with h | h
  ·exact .inl (hks1 x h)
  ·exact h2 x h
 have hkb:∀ (kκ:PK) (ks2:List PK),kκ.inert = true→(∀ x ∈ ks2,x.vs = true∨x = .hole)→ksB [] (ks1++kκ::ks2) = true:=fun kκ ks2 hi h2=>by
  rw [ksB_in hi]; exact (rQ (hvsA ks2 h2)).1
 have hlocs:∀ ks:List PK,ksB [] ks = true→∀ s cs,look s (sp X.n sf).locs = some cs→look s (sp X.n sf).locs = some cs∧∀ (i:Nat) cs',ks[i]?≠some (.store s cs')∧ks[i]?≠some (.new s cs') :=
  fun ks hb s cs hc=>⟨hc,fun i cs'=>(fa hb).2 s rfl i cs'⟩
 have hdst':∀ o ∈ ops.take k,∀ d,o.dst = some d→d < (sp X.n sf).slots.length:=fun o ho d hd=>by
  have:=List.all_eq_true.1 hdst o ho
  rw [hd] at this
  rw [cq]
  simpa using this
 have hcst:PStep P ops.toArray st ((fun _ s=>s = st:Option Nat→St→Prop) o.dst) sf.locs o (sp X.n sf1) (.chole q (fs++(args'.map (sf1.ev X.F)).map AV.dis++cs)) (sp X.n (sf1.put o.dst .any)):=by
  rw [aJ]
  exact .chole _ q _ hga hop hca
 have hat1:∀ (i:Nat) (x:PK),i < κ→∀ kκ ks2,(ks1++kκ::ks2)[i]? = some x→x.vs = true:=by
  intro i x hi kκ ks2 hx
  rw [List.getElem?_append_left (by omega)] at hx
  exact hks1 x (List.mem_of_getElem? hx)
 have hat2:∀ (i:Nat) (x:PK),κ < i→∀ kκ ks2,(ks1++kκ::ks2)[i]? = some x→ks2[i - κ - 1]? = some x:=by
  intro i x hi kκ ks2 hx
  rw [List.getElem?_append_right (by omega),show i - ks1.length = (i - κ - 1) + 1 by omega] at hx
  simpa using hx
 have hatκ:∀ kκ ks2,(ks1++kκ::ks2)[κ]? = some kκ:=fun kκ ks2=>by rw [List.getElem?_append_right (by omega)]; simp [hl1]
 have hvr:∀ x:PK,x.vs = true→x.real = true:=fun x hx=>by cases x <;> first | rfl | cases hx
 have hhol:∀ x ∈ ksh,x = PK.hole:=fun x hx=>by
  obtain ⟨_,_,e⟩:=List.mem_map.1 hx
  exact e.symm
 have hb0:=hkb (.chole q (fs++(args'.map (sf1.ev X.F)).map AV.dis++cs)) ksh rfl fun x hx=>.inr (hhol x hx)
 have H0:Head P m E g w (sp X.n sf) st st (fun _ s=>s = st) a ops k k (ks1++.chole q (fs++(args'.map (sf1.ev X.F)).map AV.dis++cs)::ksh) (sp X.n sf) sfh:=by
  refine ⟨h,rfl,hlocs _ hb0,d6 hdir true,hcons,hdst',Nat.le_refl k,?_,fun hm=>(by rw [hmf] at hm; cases hm),(fa hb0).1⟩
  rw [hsplit]
  exact dW hr1 (.cons hcst hrh)
 -- behind it
 let SSω:St→Option Nat→St→Prop:=fun s d s'=>(∀ o1 ∈ ops.take κ,o1.dst≠d)∧s' = s
 have hω:∀ v s,Qc v s→∃ ks2 sf2,PRun P ops.toArray st (SSω s) sf.locs ((ops.take k).drop (κ + 1)) (sp X.n (sf1.put o.dst v)) ks2 (sp X.n sf2)∧ks2.all PK.vs = true∧kK P X.F m (X.ms p).1 (X.ms p).2 tl Q s sf2:=by
  intro v s hQ
  obtain ⟨ks2,sf2,hr2,hv2,hc2,hT⟩:=gv (SS:=fun s'=>s' = s) (locs0:=sf.locs) (fun s' e=>by rw [e]; exact St.sub_refl s) hpost (hK v s hQ)
  exact ⟨ks2,sf2,hr2.weakSS fun _ _ e=>e.2,by simpa using hc2,hT⟩
 let ksω:AV→St→List PK:=fun v s=>if hQ:Qc v s then ks1++.mk v s::(hω v s hQ).choose else []
 let frn:AV→St→Fr:=fun v s=>if hQ:Qc v s then sp X.n (hω v s hQ).choose_spec.choose else sp X.n sf
 have hksω:∀ v s (hQ:Qc v s),ksω v s = ks1++.mk v s::(hω v s hQ).choose:=fun v s hQ=>dif_pos hQ
 have hfrn:∀ v s (hQ:Qc v s),frn v s = sp X.n (hω v s hQ).choose_spec.choose:=fun v s hQ=>dif_pos hQ
 have hvs2:∀ v s (hQ:Qc v s),∀ x ∈ (hω v s hQ).choose,x.vs = true:=fun v s hQ x hx=>List.all_eq_true.1 (hω v s hQ).choose_spec.choose_spec.2.1 x hx
 have hoi':∀ oi,ops.toArray[κ]? = some oi→oi = o:=fun oi h=>by
  have h1:ops[κ]? = some oi:=by simpa using h
  rw [ho] at h1; cases h1; rfl
 refine ij (κ:=κ) (n:=k) ksω frn hmf hdir hκ H0 (hatκ _ _) (fun i x hx=>?_) (fun i x hx hne hnh=>?_) (fun i hx=>?_) (fun _ _ _ _ _=>⟨hent,hA⟩) (fun oi hoi=>by rw [hoi' oi hoi]; exact apr_none hop) (fun i=>decide (i < κ)) (fun _=>rfl) (fun i e=>?_) (fun v s hQ=>?_) (fun v s hQ=>?_) (fun v s hQ i x hne hx=>?_) (fun v s hQ i x hne hx hnh=>?_) (fun v s hQ j s' cs hj=>?_) (fun v s hQ g' w' a' hok=>?_)
 ·rcases Nat.lt_trichotomy i κ with hi | hi | hi
  ·have:=hat1 i x hi _ _ hx
   cases x <;> first | rfl | cases this
  ·subst hi; rw [hatκ] at hx; cases hx; rfl
  ·rw [hhol x (List.mem_of_getElem? (hat2 i x hi _ _ hx))]; rfl
 ·rcases Nat.lt_trichotomy i κ with hi | hi | hi
  ·exact hvr _ (hat1 i x hi _ _ hx)
  ·exact absurd hi hne
  ·exact absurd (hhol x (List.mem_of_getElem? (hat2 i x hi _ _ hx))) hnh
 ·rcases Nat.lt_trichotomy i κ with hi | hi | hi
  ·have:=hat1 i _ hi _ _ hx; cases this
  ·subst hi; rw [hatκ] at hx; cases hx
  ·have h2:=hat2 i _ hi _ _ hx
   have hlt:=(List.getElem?_eq_some_iff.1 h2).1
   refine hc2 i ?_ hi
   simp only [ksh,List.length_map,List.length_drop,List.length_take] at hlt
   omega
 ·have hi:i < κ:=by simpa using e
  exact ⟨by omega,hc1 i hi⟩
 ·obtain ⟨hr2,hv2,hT⟩:=(hω v s hQ).choose_spec.choose_spec
  have hbω:=hkb (.mk v s) _ rfl fun x hx=>.inl (hvs2 v s hQ x hx)
  refine ⟨SSω s,?_,fun i oi hi hoi hne hp=>⟨fun o1 h1=>hc3 o1 h1 oi ?_,rfl⟩⟩
  ·rw [hksω v s hQ,hfrn v s hQ]
   refine ⟨h,rfl,hlocs _ hbω,d6 hdir true,hcons,hdst',Nat.le_refl k,?_,fun hm=>(by rw [hmf] at hm; cases hm),(fa hbω).1⟩
   have hrr:=dW (hr1.weakSSin (ρ':=st) (SS':=SSω s) fun o1 h1 s' e=>absurd rfl (e.1 o1 h1)) (.cons (k:=.mk v s) (by rw [aJ]; exact .mk v s hga) hr2)
   exact (congrArg (fun z=>PRun P ops.toArray st (SSω s) sf.locs z (sp X.n sf) (ks1++.mk v s::(hω v s hQ).choose) (sp X.n (hω v s hQ).choose_spec.choose)) hsplit).mpr hrr
  ·have hik:κ < i:=by
    have:¬ i < κ:=by simpa using hp
    omega
   have hoi':(ops.take k)[i]? = some oi:=by rw [List.getElem?_take,if_pos hi]; simpa using hoi
   rw [show i = κ + 1 + (i - κ - 1) by omega] at hoi'
   rw [← List.getElem?_drop] at hoi'
   exact List.mem_of_getElem? hoi'
 ·rw [hksω v s hQ]; exact hatκ _ _
 ·rw [hksω v s hQ] at hx
  rcases Nat.lt_trichotomy i κ with hi | hi | hi
  ·exact hvr _ (hat1 i x hi _ _ hx)
  ·exact absurd hi hne
  ·exact hvr _ (hvs2 v s hQ x (List.mem_of_getElem? (hat2 i x hi _ _ hx)))
 ·rw [hksω v s hQ]
  rcases Nat.lt_trichotomy i κ with hi | hi | hi
  ·rw [List.getElem?_append_left (by omega)] at hx ⊢; exact hx
  ·exact absurd hi hne
  ·exact absurd (hhol x (List.mem_of_getElem? (hat2 i x hi _ _ hx))) hnh
 ·rw [hksω v s hQ] at hj
  rcases Nat.lt_trichotomy j κ with hi | hi | hi
  ·have:=hat1 j _ hi _ _ hj; cases this
  ·subst hi; rw [hatκ] at hj; cases hj
  ·have:=hvs2 v s hQ _ (List.mem_of_getElem? (hat2 j _ hi _ _ hj)); cases this
 ·rw [hksω v s hQ,hfrn v s hQ,← cI,← cJ,fin_in rfl,(rQ (drop:=[]) (hvsA _ fun x hx=>.inl (hvs2 v s hQ x hx))).2] at hok
  exact bG (Q:=QQ) htl hok (hω v s hQ).choose_spec.choose_spec.2.2 fun sf st g w a hok hk=>hq _ _ _ _ _ _ (hok.mask _ _) hk
theorem flagsG_snd (l:List Oper) (gl:List GI):(rR X l gl).map (·.2) = gl:=by
 simp only [rR,List.map_map]
 have:((fun x:Bool×GI=>x.2) ∘ fun p:GI×Nat=>((match l[p.2]? with | some o=>isGk X o | none=>false),p.1)) = Prod.fst:=by funext p; rfl
 rw [this,List.zipIdx_map_fst]
theorem drawG_sound {rd:Option Nat} {p k:Nat} {ops:List Oper} {c:AC} (hc:rS P X p ops k = some c) (hdir:dirB ops.toArray k = true) (hcons:nt ops.toArray k = true) (hdst:dstB X.n (ops.take k) = true)
  {Q:Exit→Sf→St→Prop} {QQ:Exit→Act→World→Prop} (h:Ok m E g w (sp X.n sf) st a) (hK:aC P X.F m c sf st Q) (hq:∀ e sf st g w a,Ok m E g w (sp X.n sf) st a→Q e sf st→QQ e a w):cF rd P QQ ops.toArray a w:=by
 unfold rS at hc
 split at hc
 ·cases hc
 rename_i hob
 simp only [Bool.not_eq_false] at hob
 split at hc
 case h_2=>cases hc
 rename_i hl tl hhl htl
 cases hc
 obtain ⟨hmf,SX,hS0,hsub,hK⟩:=hK
 generalize drops (ops.take k) = drop at hK
 obtain ⟨ks,sf1,hrun,hre,hfl,hln,hK⟩:=pre_runX (locs0:=sf.locs) hsub hhl (flagsG_snd _ _) hK
 simp only [List.nil_append,Nat.zero_add] at hK
 obtain ⟨hkb,hK⟩:=hK
 rw [ksB_loc] at hkb
 obtain ⟨hko,hdrop⟩:=fa hkb
 have hkl:k≤ops.length:=by
  have hd:=hdir
  unfold dirB at hd
  simp only [Bool.and_eq_true,decide_eq_true_eq] at hd
  have:=hd.1.1.1.1
  simpa using this
 have hlk:ks.length = k:=by rw [hln,List.length_take]; omega
 have H:Head P m E g w (sp X.n sf) st st (fun _ s=>∃ j,SX j s) a ops k k ks (sp X.n ⟨sf.regs,aM drop sf.locs⟩) (sp X.n sf1):=by
  refine ⟨h,rfl,fun s cs hc=>?_,d6 hdir true,hcons,fun o ho d hd=>?_,Nat.le_refl k,hrun.run,fun hm=>(by rw [hmf] at hm; cases hm),hko⟩
  ·obtain ⟨h1,h2⟩:=eL _ _ _ _ hc
   exact ⟨h1,fun i cs'=>hdrop s h2 i cs'⟩
  ·have:=List.all_eq_true.1 hdst o ho
   rw [hd] at this
   rw [cq]
   simpa using this
 have hat:=hrun.at (l:=ops.take k) (ks:=ks) (fr0:=sp X.n ⟨sf.regs,aM drop sf.locs⟩) [] [] rfl rfl rfl (by simp [phK]) (Tr.start _ _ _) H.ks.app H.cons
 have hgk:∀ (i:Nat) (v:AV) (σ:St),ks[i]? = some (PK.mk v σ)→∃ o,ops[i]? = some o∧isGk X o = true:=fun i v σ hi=>by
  obtain ⟨gi,hg⟩:=hfl i v σ hi
  simp only [rR,List.getElem?_map,Option.map_eq_some_iff,List.getElem?_zipIdx] at hg
  obtain ⟨q,⟨q',hq',rfl⟩,h2⟩:=hg
  simp only [Prod.mk.injEq,Nat.zero_add] at h2
  have hik:i < k:=by
   obtain ⟨hlt,_⟩:=List.getElem?_eq_some_iff.1 hi
   omega
  have h3:=h2.1
  split at h3
  ·rename_i o ho
   rw [List.getElem?_take_of_lt hik] at ho
   exact ⟨o,ho,h3⟩
  ·cases h3
 refine head_soundK hmf hdir H (fun i o ho=>by
  have:=hat i o ho
  simp only [List.length_nil,Nat.zero_add] at this
  exact this) hS0 hlk (fun i i' v σ v' σ' h1 h2 hlt=>?_) (fun i k hk=>hre k (List.mem_of_getElem? hk)) fun s g' w' a' h1 hok=>?_
 ·obtain ⟨o,ho,hg⟩:=hgk i v σ h1
  obtain ⟨o',ho',hg'⟩:=hgk i' v' σ' h2
  have hik:i' < k:=by
   obtain ⟨hlt,_⟩:=List.getElem?_eq_some_iff.1 h2
   omega
  have:=List.all_eq_true.1 (List.all_eq_true.1 hob i' (List.mem_range.2 hik)) i (List.mem_range.2 hlt)
  simp only [ho,ho',hg,hg',Bool.and_self,Bool.not_true,Bool.false_or] at this
  exact this
 rw [← cI,← cJ] at hok
 have hph:phK ks k = (ks.map mkN).sum:=by unfold phK; rw [List.take_of_length_le (by omega)]
 have hT:=hK s (hph ▸ h1)
 rw [mR (fun t=>qS t ks),qU,qT] at hT
 exact bG (Q:=QQ) htl hok hT fun sf st g w a hok hk=>hq _ _ _ _ _ _ (hok.mask _ _) hk
def RegT (g:Gh) (regs:List (Nat×AV)) (tmps:Array Value):Prop:=∀ t,R g (getR regs t) (tmps.getD t undef)∧∀ c ∈ (getR regs t).cells,c.noOwn
theorem getR_mem:∀ (l:List (Nat×AV)) (t:Nat),getR l t = .any∨(t,getR l t) ∈ l
 | [],_=>.inl rfl
 | (q, v) :: r, t => by
   simp only [getR]
   split
   ·rename_i e; subst e; exact .inr (List.mem_cons_self ..)
   ·exact (getR_mem r t).imp id (List.mem_cons_of_mem _)
theorem RegT.of {g:Gh} {r:Loop} {rs:List (Nat×AV)} (h:RegsR g r rs):RegT g rs r.tmps:=fun t=>by
 rcases getR_mem rs t with e | e
 ·rw [e]; exact ⟨R.any _,fun c hc=>by simp [AV.cells] at hc; subst hc; trivial⟩
 ·exact h _ e
theorem qZ {v:AV} {c:AV} (h:c ∈ v.dis.cells):c.noOwn:=by
 obtain ⟨i,hi⟩:=List.mem_iff_getElem?.1 h
 exact aq v i c hi
theorem RegT.set {g:Gh} {regs:List (Nat×AV)} {tmps:Array Value} (h:RegT g regs tmps) {p:Nat} (hp:p < tmps.size) {v:AV} {u:Value} (hr:R g v u):RegT g (setR regs p v.dis) (tmps.setIfInBounds p u):=fun t=>by
 rw [ku]
 by_cases e:p = t
 ·subst e
  rw [if_pos rfl]
  refine ⟨?_,fun c hc=>qZ hc⟩
  have:(tmps.setIfInBounds p u).getD p undef = u:=by simp [hp]
  rw [this]; exact hr.dis
 ·rw [if_neg e]
  have:(tmps.setIfInBounds p u).getD t undef = tmps.getD t undef:=by simp [Array.getElem?_setIfInBounds_ne e]
  rw [this]; exact h t
theorem RegT.sets {g:Gh}:∀ {ps:List Nat} {vs:List AV} {us:List Value} {regs:List (Nat×AV)} {tmps:Array Value},vs.length = us.length→(∀ (i:Nat) (x:AV) (u:Value),vs[i]? = some x→us[i]? = some u→R g x u)→RegT g regs tmps→(∀ p ∈ ps,p < tmps.size) →
  RegT g (jD regs ps vs) ((ps.zip us).foldl (fun (q:Array Value) p=>q.setIfInBounds p.1 p.2) tmps)∧((ps.zip us).foldl (fun (q:Array Value) p=>q.setIfInBounds p.1 p.2) tmps).size = tmps.size
 | [],vs,us,regs,tmps,hl,hr,h,hp=>by simp only [jD,List.zip_nil_left,List.foldl_nil]; exact ⟨h,trivial⟩
 | p::ps,[],[],regs,tmps,hl,hr,h,hp=>by simp only [jD,List.zip_nil_right,List.foldl_nil]; exact ⟨h,trivial⟩
 | p::ps,v::vs,[],regs,tmps,hl,hr,h,hp=>by cases hl
 | p::ps,[],u::us,regs,tmps,hl,hr,h,hp=>by cases hl
 | p :: ps, v :: vs, u :: us, regs, tmps, hl, hr, h, hp => by
   simp only [jD,List.zip_cons_cons,List.foldl_cons]
   have h1:=h.set (hp p (by simp)) (hr 0 v u rfl rfl)
   obtain ⟨q1,q2⟩:=RegT.sets (ps:=ps) (vs:=vs) (us:=us) (by simpa using hl) (fun i x u hx hu=>hr (i + 1) x u (by simpa using hx) (by simpa using hu)) h1 (fun p hm=>by rw [Array.size_setIfInBounds]; exact hp p (by simp [hm]))
   exact ⟨q1,by rw [q2,Array.size_setIfInBounds]⟩
theorem round_start {D n:Nat} {vs:List AV} {us:Array Value} {r:Loop} {rs:List (Nat×AV)} {ps:List Nat} (hg:Good g w) (hb:BoxR g w st) (ha:jv g vs us) (hr:RegsR g r rs) (hn:r.tmps.size = n) (hps:r.params.toList = ps) (hp:∀ p ∈ ps,p < n) :
  Ok false ⟨D,0,g,w,st,w.heap.size⟩ g w (sp n ⟨jD rs ps vs,[]⟩) st { tmps:=(r.params.zip us).foldl (fun tmps (t,a)=>tmps.setIfInBounds t a) r.tmps,defers:=[] }:=by
 obtain ⟨q1,q2⟩:=RegT.sets (ps:=ps) (vs:=vs) (us:=us.toList) (regs:=rs) (tmps:=r.tmps) (by rw [← ha.1]; simp) (fun i x u hx hu=>ha.2 i x u hx (by simpa using hu)) (RegT.of hr) (fun p hm=>by rw [hn]; exact hp p hm)
 have e:(r.params.zip us).foldl (fun tmps (t,a)=>tmps.setIfInBounds t a) r.tmps = (ps.zip us.toList).foldl (fun (q:Array Value) p=>q.setIfInBounds p.1 p.2) r.tmps:=by
  rw [← Array.foldl_toList,Array.toList_zip,hps]
 rw [e]
 refine ⟨by rw [q2,hn,cq],fun s v u hv hu=>?_,⟨hg,fun s cs hc=>by simp [sp,look] at hc,hb⟩,DefsR.nil _,Mv.refl hg,fun e=>(by cases e),Nat.zero_le _,fun _=>rfl⟩
 rw [ci] at hv
 split at hv
 case isFalse=>cases hv
 cases hv
 obtain ⟨r1,r2⟩:=q1 s
 have hu':((ps.zip us.toList).foldl (fun (q:Array Value) p=>q.setIfInBounds p.1 p.2) r.tmps).getD s undef = u:=by simp [hu]
 rw [hu'] at r1
 exact ⟨RS.of r1,fun i c x hc _=>Own.of_no (r2 c (List.mem_of_getElem? hc))⟩
theorem regsB_R {n:Nat} (h:Ok false E g w (sp n sf) st a) {r:Loop} (hr:r.tmps = a.tmps):∀ {lb:List Nat},(∀ t ∈ lb,t < n)→RegsR g r (iq lb sf)
 | [],_=>fun p hp=>by cases hp
 | t :: lb, hl => fun p hp => by
   rcases List.mem_cons.1 hp with rfl | hp
   ·have hs:=(dm h t).1
    rw [co (hl t (by simp))] at hs
    simp only [AV.keep,hr]
    split
    ·rename_i hn
     exact ⟨by have:=(ju hn hs).dis; simpa [Act.eval] using this,fun c hc=>qZ hc⟩
    ·exact ⟨R.any _,fun c hc=>by simp [AV.cells] at hc; subst hc; trivial⟩
   ·exact regsB_R h hr (fun t ht=>hl t (by simp [ht])) p hp
theorem Ext.mvE {E E':Ent} (h:Ext false E E') {g:Gh} {w:World} (hm:Mv false E'.N E'.d E'.g E'.w g w):Mv false E.N E.d E.g E.w g w:=by
 rcases h with rfl | ⟨_,h2,h3,_,_,h5⟩
 ·exact hm
 ·rw [h2,h3] at hm; exact h5 _ _ hm
def WalkS (P:Program) (X:Cx) (m:Bool) (c:Code) (ac:AC):Prop :=
 ∀ {rd:Option Nat} {E:Ent} {sf:Sf} {st:St} {g:Gh} {w:World} {a:Act} {Q:Exit→Sf→St→Prop} {QQ:Exit→Act→World→Prop},((rd = none∧1≤E.d∧E.lo≤E.w.heap.size)∨bQ c = true) →
  Ok m E g w (sp X.n sf) st a→aC P X.F m ac sf st Q→(∀ E' e sf st g w a,Ext m E E'→Ok m E' g w (sp X.n sf) st a→Q e sf st→QQ e a w)→c.wpIn (FW rd) 0 P QQ a w
theorem ycalls_of {r:Loop} {A B:AC} {ps:List Nat} {id:Nat} {rs:List (Nat×AV)} (hA:WalkS P X false r.assign A) (hB:WalkS P X false r.body B) (hna:bQ r.assign = true) (hnb:bQ r.body = true) (hst:r.state = .ready) (hpe:r.pending = none)
  (hn:r.tmps.size = X.n) (hps:r.params.toList = ps) (hp:∀ p ∈ ps,p < X.n) {vs:List AV} {st:St} {Q:Bool→St→Prop} (h:roundI (aC P X.F false A) (aC P X.F false B) ps id r rs vs st Q):rG P id vs st Q:=by
 obtain ⟨hlp,hlen,hCA⟩:=h
 intro D g w us b hg hb ha hid
 obtain ⟨b',h1,h2,h3,h4⟩:=hb.lp hlp
 have:b' = b:=Option.some.inj (h1.symm.trans hid)
 subst this
 have hsz:us.size = r.params.size:=by
  rw [ha.1,hlen,← hps]; simp
 refine ⟨_,_,_,_,run_yield h3 hsz,roundIn_of_wpIn trivial ?_⟩
 have h0:=round_start (D:=D) hg hb ha h4 hn hps hp
 show r.assign.wpIn (FW (some b')) 0 P _ _ _
 refine hA (.inr hna) h0 hCA fun E1 e sf1 st1 g1 w1 a1 hx1 hok1 hq=>?_
 cases e with
 | normal =>
   obtain ⟨hlp1,hCB⟩:=hq
   have hb1:g1.bx id = some b':=(hx1.mvE hok1.mv).bx _ _ hid
   obtain ⟨b2,e1,_,e3,_⟩:=hok1.ctx.box.lp hlp1
   have:b2 = b':=Option.some.inj (e1.symm.trans hb1)
   subst this
   refine ⟨_,run_beginRound e3 hst,?_⟩
   have hok2:=hok1.setLp hlp1 hb1 (r':=er r) rfl
   show r.body.wpIn (FW (some b2)) 0 P _ _ _
   refine hB (.inr hnb) hok2 hCB fun E2 e sf2 st2 g2 w2 a2 hx2 hok3 hq=>?_
   have hx:=hx1.trans hx2
   have hb2:g2.bx id = some b2:=(hx.mvE hok3.mv).bx _ _ hid
   have fin:∀ (jump:Option Code) (r':Loop),st2.isLp id (er r) rs→r' = { er r with state:=if jump.isNone then .ready else .done,pending:=jump }→Q jump.isNone (st2.setL id r' rs) →
     ∃ v w',(Instr.endRound b2 jump).run P w2 = .ok v w'∧∃ t st' g',Ending.returned v = .returned (.bool t)∧Q t st'∧Mv false 0 D g w g' w'∧BoxR g' w' st':=by
    intro jump r' hl hr hQ
    obtain ⟨b3,f1,_,f3,_⟩:=hok3.ctx.box.lp hl
    have:b3 = b2:=Option.some.inj (f1.symm.trans hb2)
    subst this
    have hok4:=hok3.setLp hl hb2 (r':=r') (by rw [hr])
    rw [hr] at hok4 hQ
    refine ⟨_,_,run_endRound jump f3,jump.isNone,_,g2,rfl,hQ,hx.mvE hok4.mv,hok4.ctx.box⟩
   cases e with
   | normal=>exact fin none r hq.1 (by cases r; simp only [er] at *; subst hst; subst hpe; rfl) hq.2
   | ret=>exact fin (some .ret) _ hq.1 rfl hq.2
   | exit k=>exact fin (some (.exit k)) _ hq.1 rfl hq.2
   | goto l=>exact hq.elim
   | panic ch=>exact hq.elim
   | outgrown=>exact hq.elim
 | exit k=>exact hq.elim
 | goto l=>exact hq.elim
 | ret=>exact hq.elim
 | panic ch=>exact hq.elim
 | outgrown=>exact hq.elim
theorem range_sound {x:Operand} {x':Opd} {pp:Array Tmp} {ass body:Code} {A B:AC} {lv ll lb:List Nat} {Q:Exit→Sf→St→Prop} {QQ:Exit→Act→World→Prop} (hA:WalkS P X false ass A) (hB:WalkS P X false body B) (hna:bQ ass = true) (hnb:bQ body = true)
  (hx:opd X.gOf X.F X.n x = some x') (hp:∀ p ∈ pp.toList,p < X.n) (hlb:∀ p ∈ lb,p < X.n) (hd:1≤E.d) (hl0:E.lo≤E.w.heap.size) (h:Ok false E g w (sp X.n sf) st a) (hK:pL P (aC P X.F false A) (aC P X.F false B) pp.toList lb lv ll (sf.ev X.F x') sf st Q)
  (hq:∀ E' e sf st g w a,Ext false E E'→Ok false E' g w (sp X.n sf) st a→Q e sf st→QQ e a w):(Code.rangeFunc x pp ass body).wpIn (FW none) 0 P QQ a w:=by
 unfold pL at hK
 split at hK
 case h_2=>exact hK.elim
 rename_i q fs cs hfv
 obtain ⟨hent,hK⟩:=hK
 have hev:=h.ev x
 rw [af hx sf,hfv] at hev
 have hfn:∃ us ws,a.eval x = .func (.func q) us ws∧us.size = fs.length∧ws.size = cs.length∧(∀ (i:Nat) (y:AV) (u:Value),fs[i]? = some y→us[i]? = some u→R g y u)∧(∀ (i:Nat) (y:AV) (u:Value),cs[i]? = some y→ws[i]? = some u→R g y u):=by
  generalize a.eval x = u at hev
  cases hev with
  | fn _ _ _ us ws hu hv h1 h2=>exact ⟨us,ws,rfl,hu,hv,h1,h2⟩
 obtain ⟨us,ws,hax,hus,hws,hu2,hw2⟩:=hfn
 refine wpIn_rangeFunc fun fn _=>?_
 have hg:=h.ctx.good
 let r0:Loop:={ state:=.ready,pending:=none,fn,tmps:=a.tmps,params:=pp,assign:=ass,body,defers:=w.heap.size }
 have hsz:r0.tmps.size = X.n:=by show a.tmps.size = X.n; rw [h.size,cq]
 obtain ⟨Qc,hC,hbehind⟩:=hK r0 (fun vs st' Q' hr=>ycalls_of (r:=r0) hA hB hna hnb rfl rfl hsz rfl hp hr)
 -- the two blocks
 have n1:=bW w (.deferred (some []))
 have hok1:=h.newC n1 (.loc (E.d - 1) 0)
 have n2:=bW (w.alloc (.deferred (some []))) (.loop r0)
 have hok2:=hok1.newLp (r:=r0) (rs:=iq lb sf) n2 (regsB_R hok1 rfl hlb)
 have hs1:(w.alloc (.deferred (some []))).heap.size = w.heap.size + 1:=n1.size
 rw [hs1] at hok2
 have hcls:((g.newC w.heap.size (.loc (E.d - 1) 0)).newB (w.heap.size + 1) st.boxes.length).cls w.heap.size = some (.loc (E.d - 1) 0):=by simp [Gh.newB,Gh.newC]
 have hbx:((g.newC w.heap.size (.loc (E.d - 1) 0)).newB (w.heap.size + 1) st.boxes.length).bx st.boxes.length = some (w.heap.size + 1):=by simp [Gh.newB]
 have hheap:((w.alloc (.deferred (some []))).alloc (.loop r0)).heap[w.heap.size]? = some (.deferred (some [])):=by
  rw [n2.old _ (by rw [hs1]; exact Nat.lt_succ_self _)]; exact n1.new
 have hdef:=hok2.defs hcls (by omega) hheap (Nat.le_trans hl0 h.mv.size) h.mv.size
 have hext:=hok2.ext
 have hok3:=hok2.anew hdef
 generalize hW:(w.alloc (.deferred (some []))).alloc (.loop r0) = W at hok3 hext hheap hdef hok2 n2
 generalize hG:(g.newC w.heap.size (.loc (E.d - 1) 0)).newB (w.heap.size + 1) st.boxes.length = G at hok3 hext hcls hbx hdef hok2
 have hgle:GhLe g G:=by rw [← hG]; exact ⟨fun _ _ _ e=>e,fun i b e=>by
  have hid:=h.ctx.box.1 st.boxes.length (Nat.le_refl _)
  have:¬ i = st.boxes.length:=fun q=>by subst q; rw [hid] at e; cases e
  simp [Gh.newB,Gh.newC,this,e]⟩
 have hargs:jv G (fs++[.yld st.boxes.length]++cs) (us++#[.func (.yield (w.heap.size + 1)) #[] #[]]++ws):=by
  refine ⟨by simp [hus,hws]; omega,fun i y u hy hu=>?_⟩
  by_cases c1:i < fs.length
  ·rw [List.append_assoc,List.getElem?_append_left c1] at hy
   rw [Array.append_assoc,Array.getElem?_append_left (by omega)] at hu
   exact (hu2 i y u hy hu).mono hgle
  ·by_cases c2:i < fs.length + 1
   ·have:i = fs.length:=by omega
    subst this
    rw [List.append_assoc,List.getElem?_append_right (Nat.le_refl _)] at hy
    rw [Array.getElem?_append_left (by simp [hus]),Array.getElem?_append_right (by omega)] at hu
    simp [hus] at hy hu
    subst hy; subst hu
    exact .yld _ _ hbx
   ·rw [List.getElem?_append_right (by simp; omega)] at hy
    rw [Array.getElem?_append_right (by simp; omega)] at hu
    simp only [List.length_append,List.length_cons,List.length_nil] at hy
    simp only [Array.size_append,List.size_toArray,List.length_cons,List.length_nil,hus] at hu
    exact (hw2 _ y u hy hu).mono hgle
 refine ⟨w.heap.size + 1,[{ target:=.collected w.heap.size,args:=#[] }],W,{ target:=.fn (.func q) ws,args:=us++#[.func (.yield (w.heap.size + 1)) #[] #[]] },W,q,us++#[.func (.yield (w.heap.size + 1)) #[] #[]]++ws,W,?_,?_,fun _ _=>trivial,?_,fun e=>(by cases e),jN.2 ?_⟩
 ·rw [← hW]; exact run_enterLoop_outer _ _ _ _ _
 ·have e:a.eval (.const (.func (.yield (w.heap.size + 1)) #[] #[])) = .func (.yield (w.heap.size + 1)) #[] #[]:=rfl
  simp [resolve,rangeCall,hax,Deferred.ofValue,e]
 ·unfold bt at hent
  split at hent
  ·rename_i fn' hfn'
   simp only [Bool.and_eq_true,bne_iff_ne,ne_eq] at hent
   have hb:fn'.body≠none:=by intro e; simp [e] at hent
   simp [invoke,callFunc,hfn',hent.2,hb]
  ·cases hent
 ·refine (hC (E.d + 1) G W _ (fun k=>Loc.slot E.d 0 k) hok3.ctx.good hok3.ctx.box hargs).mono fun e w2 ⟨u,v,st',g2,he,hQ,hmv,hb2,_,_⟩=>?_
  subst he
  have hok4:=hok3.call hmv hb2
  have hbx2:g2.bx st.boxes.length = some (w.heap.size + 1):=hmv.bx _ _ hbx
  have fin:∀ r':Loop,st'.isLp st.boxes.length r' (iq lb sf)→r'.state≠.busy→∃ W4,(Instr.endLoop (w.heap.size + 1)).run P w2 = .ok r'.pending W4∧Ok false ⟨E.d,E.N,G,W,st.push (.lp r0 (iq lb sf)),E.lo⟩ g2 W4 (sp X.n sf) (st'.drop st.boxes.length) { a with defers:={ target:=.collected w.heap.size,args:=#[] }::a.defers }:=by
   intro r' hl hbz
   obtain ⟨b3,f1,_,f3,_⟩:=hok4.ctx.box.lp hl
   have:b3 = w.heap.size + 1:=Option.some.inj (f1.symm.trans hbx2)
   subst this
   exact ⟨_,run_endLoop f3 hbz,hok4.dropLp hl hbx2 _⟩
  show ∃ jump w4,_
  rcases hbehind v st' hQ with ⟨hl,hQn⟩ | ⟨hl,hQn⟩ | ⟨k,hl,hQn⟩
  ·obtain ⟨W4,h1,h2⟩:=fin r0 hl (by simp [r0])
   exact ⟨none,W4,h1,hq _ _ _ _ _ _ _ hext (h2.mask _ _) hQn⟩
  ·obtain ⟨W4,h1,h2⟩:=fin _ hl (by simp [ir])
   exact ⟨some .ret,W4,h1,wpIn_ret (hq _ _ _ _ _ _ _ hext h2 hQn)⟩
  ·obtain ⟨W4,h1,h2⟩:=fin _ hl (by simp [ir])
   exact ⟨some (.exit k),W4,h1,wpIn_exit (hq _ _ _ _ _ _ _ hext (h2.mask _ _) hQn)⟩
def noPan (Q:Exit→Sf→St→Prop):Exit→Sf→St→Prop
 | .panic _,_,_=>False
 | e,sf,st=>Q e sf st
def noPanic (Q:Exit→Act→World→Prop):Exit→Act→World→Prop
 | .panic _,_,_=>False
 | e,a,w=>Q e a w
theorem compDr_np {p:Nat} {ops:List Oper} {c:AC} (hc:pM P X p ops = some c) {Q:Exit→Sf→St→Prop} (hK:aC P X.F m c sf st Q):aC P X.F m c sf st (noPan Q):=by
 have plain:∀ k,mT P X p ops k = some c→aC P X.F m c sf st (noPan Q):=fun k hc=>by
  unfold mT at hc
  split at hc
  ·cases hc; exact hK
  ·cases hc; exact hK
 unfold pM at hc
 split at hc
 ·unfold compDL at hc
  split at hc
  ·cases hc; exact hK
  split at hc
  ·exact plain _ hc
  ·cases hc; exact hK
 split at hc
 ·cases hc; exact hK
 split at hc
 case isFalse=>cases hc; exact hK
 split at hc
 ·split at hc
  ·rename_i c hcd
   cases hc
   unfold rS at hcd
   repeat' (split at hcd)
   all_goals first | cases hcd | skip
   all_goals exact hK
  ·cases hc; exact hK
 split at hc
 ·split at hc
  ·split at hc
   ·rename_i c hcd
    cases hc
    unfold rV at hcd
    repeat' (split at hcd)
    all_goals first | cases hcd | skip
    all_goals exact hK
   ·cases hc; exact hK
  split at hc
  ·rename_i c hcd
   cases hc
   unfold rT at hcd
   repeat' (split at hcd)
   all_goals first | cases hcd | skip
   all_goals exact hK
  ·cases hc; exact hK
 split at hc
 ·split at hc
  ·rename_i c hcd
   cases hc
   unfold rU at hcd
   repeat' (split at hcd)
   all_goals first | cases hcd | skip
   all_goals exact hK
  ·cases hc; exact hK
 exact plain _ hc
theorem nw {rd:Option Nat} {p k:Nat} {ops:List Oper} {c:AC} (hc:mT P X p ops k = some c) (hdir:dirL true ops.toArray k = true) (hcons:nt ops.toArray k = true) (hdst:dstB X.n (ops.take k) = true)
  {Q:Exit→Sf→St→Prop} {QQ:Exit→Act→World→Prop} (hQp:∀ c a w,¬ QQ (.panic c) a w) (h:Ok m E g w (sp X.n sf) st a) (hK:aC P X.F m c sf st Q)
  (hq:∀ e sf st g w a,Ok m E g w (sp X.n sf) st a→Q e sf st→QQ e a w):cF rd P QQ ops.toArray a w:=by
 unfold mT at hc
 split at hc
 case h_2=>cases hc; exact hK.elim
 rename_i hl tl hhl htl
 cases hc
 simp only [aC] at hK
 obtain ⟨ks,sf1,hrun,hre,hks,hK⟩:=il hhl hK
 simp only [List.nil_append] at hks hK
 obtain ⟨hko,hdrop⟩:=fa hks
 have H:Head P m E g w (sp X.n sf) st st (fun _ s=>s = st) a ops k k ks (sp X.n ⟨sf.regs,aM (drops (ops.take k)) sf.locs⟩) (sp X.n sf1):=by
  refine ⟨h,rfl,fun s cs hc=>?_,hdir,hcons,fun o ho d hd=>?_,Nat.le_refl k,hrun,fun _ j v s hj=>absurd (hre _ (List.mem_of_getElem? hj)) (by simp [PK.real]),hko⟩
  ·obtain ⟨h1,h2⟩:=eL _ _ _ _ hc
   exact ⟨h1,fun i cs'=>hdrop s h2 i cs'⟩
  ·have:=List.all_eq_true.1 hdst o ho
   rw [hd] at this
   rw [cq]
   simpa using this
 refine head_sound H (fun _=>rfl) (fun j k hj=>hre k (List.mem_of_getElem? hj)) hQp fun g' w' a' hok=>?_
 rw [← cI,← cJ,dI hre] at hok
 exact bG (Q:=QQ) htl hok hK fun sf st g w a hok hk=>hq _ _ _ _ _ _ (hok.mask _ _) hk
theorem regR_sound {rd:Option Nat} {p:Nat} {ops:List Oper} {c:AC} (hc:pM P X p ops = some c) {Q:Exit→Sf→St→Prop} {QQ:Exit→Act→World→Prop} (hQp:∀ c a w,¬ QQ (.panic c) a w) (h:Ok m E g w (sp X.n sf) st a) (hK:aC P X.F m c sf st Q)
  (hq:∀ e sf st g w a,Ok m E g w (sp X.n sf) st a→Q e sf st→QQ e a w):cF rd P QQ ops.toArray a w:=by
 unfold pM at hc
 split at hc
 ·unfold compDL at hc
  split at hc
  ·cases hc; exact hK.elim
  split at hc
  ·rename_i hB
   simp only [Bool.and_eq_true] at hB
   exact nw hc hB.1.1 hB.1.2 hB.2 hQp h hK hq
  ·cases hc; exact hK.elim
 split at hc
 ·cases hc; exact hK.elim
 rename_i k hk
 split at hc
 case isFalse=>cases hc; exact hK.elim
 rename_i hB
 simp only [Bool.and_eq_true] at hB
 split at hc
 ·split at hc
  ·rename_i c hcd
   cases hc
   exact drawG_sound hcd hB.1.1 hB.1.2 hB.2 h hK hq
  ·cases hc; exact hK.elim
 split at hc
 ·rename_i κ hκ
  split at hc
  ·rename_i hch
   split at hc
   ·rename_i c hcd
    cases hc
    exact drawC_sound hcd hch hB.1.1 hB.1.2 hB.2 h hK hq
   ·cases hc; exact hK.elim
  split at hc
  ·rename_i c hcd
   cases hc
   exact drawM_sound hcd hB.1.1 hB.1.2 hB.2 h hK hq
  ·cases hc; exact hK.elim
 split at hc
 ·split at hc
  ·rename_i c hcd
   cases hc
   exact drawA_sound hcd hB.1.1 hB.1.2 hB.2 h hK hq
  ·cases hc; exact hK.elim
 exact nw hc (d6 hB.1.1 true) hB.1.2 hB.2 hQp h hK hq
theorem aC_sound (hmix:P.follows .mixedOrders = true) (c:Code):∀ (p:Nat) (ac:AC),cb P X p c = some ac→WalkS P X m c ac:=by
 induction c with
 | skip =>
   intro p ac hc rd E sf st g w a Q QQ hrd h hK hq
   simp only [cb] at hc; cases hc
   exact wpIn_skip (hq _ _ _ _ _ _ _ (.refl _ _) h hK)
 | label l =>
   intro p ac hc rd E sf st g w a Q QQ hrd h hK hq
   simp only [cb] at hc; cases hc
   exact wpIn_label (hq _ _ _ _ _ _ _ (.refl _ _) h hK)
 | region id ops draw =>
   intro p ac hc rd E sf st g w a Q QQ hrd h hK hq
   have hq:=fun e sf st g w a=>hq E e sf st g w a (.refl _ _)
   cases draw with
   | false =>
     simp only [cb] at hc
     obtain ⟨gl,hgl,rfl⟩:=map_some hc
     refine wpIn_region_list ?_
     have:=bG (rd:=rd) (Q:=QQ) hgl h hK fun sf st g w a hok hk=>hq _ _ _ _ _ _ (hok.mask _ _) hk
     simpa using this
   | true =>
     simp only [cb] at hc
     have hr:=regR_sound (rd:=rd) (QQ:=noPanic QQ) hc (fun c a w hp=>hp) h (compDr_np hc hK) fun e sf st g w a hok hk=>(by cases e <;> first | exact hk.elim | exact hq _ _ _ _ _ _ hok hk)
     have h2:=eagL_any (fun c a w hp=>hp) _ _ hr
     have hto:ops.toList.toArray = ops:=by simp
     rw [hto] at h2
     exact wpIn_mono (h2.wp hmix) fun e a w hp=>(by cases e <;> first | exact hp.elim | exact hp)
 | seq x y ihx ihy =>
   intro p ac hc rd E sf st g w a Q QQ hrd h hK hq
   simp only [cb] at hc
   split at hc
   case h_2=>cases hc
   rename_i ax ay hx hy
   cases hc
   simp only [bQ,Bool.and_eq_true] at hrd
   refine wpIn_seq (ihx _ ax hx (hrd.imp id (·.1)) h hK fun E' e sf st g w a hE hok hk=>?_)
   cases e with
   | normal=>exact ihy _ ay hy (hrd.imp (fun q=>⟨q.1,by rw [hE.dd]; exact q.2.1,by rw [hE.lolo]; exact Nat.le_trans q.2.2 hE.szw⟩) (·.2)) hok hk fun E'' e sf st g w a hE'=>hq _ _ _ _ _ _ _ (hE.trans hE')
   | _=>exact hq _ _ _ _ _ _ _ hE hok hk
 | cond c x y ihx ihy =>
   intro p ac hc rd E sf st g w a Q QQ hrd h hK hq
   simp only [cb] at hc
   split at hc
   case h_2=>cases hc
   rename_i c' ax ay hcc hx hy
   cases hc
   simp only [bQ,Bool.and_eq_true] at hrd
   simp only [aC,ip] at hK
   split at hK
   case h_2=>exact hK.elim
   rename_i b hb
   have hev:=h.ev c
   rw [af hcc sf,hb] at hev
   have hval:=hev.lit_inv.1
   have hset:Ok m E g w (sp X.n (c'.setB sf b)) st a:=by
    cases c' with
    | r t =>
      simp only [Opd.setB]
      have hbt:sf.reg t = .lit (.bool b):=hb
      rw [← hbt,kG]; exact h
    | c v=>exact h
    | f q=>exact h
   refine wpIn_cond hval ?_
   cases b with
   | true=>exact ihx _ ax hx (hrd.imp id (·.1)) hset (hK.1 rfl) hq
   | false=>exact ihy _ ay hy (hrd.imp id (·.2)) hset (hK.2 rfl) hq
 | block id b ih =>
   intro p ac hc rd E sf st g w a Q QQ hrd h hK hq
   simp only [cb] at hc
   obtain ⟨ab,hb,rfl⟩:=map_some hc
   refine wpIn_block (ih _ ab hb hrd h hK fun E' e sf st g w a hE hok hk=>?_)
   cases e with
   | exit id' =>
     simp only [fK] at hk
     simp only [Exit.inBlock]
     split
     ·rename_i e; rw [if_pos e] at hk; exact hq _ _ _ _ _ _ _ hE hok hk
     ·rename_i e; rw [if_neg e] at hk; exact hq _ _ _ _ _ _ _ hE hok hk
   | _=>exact hq _ _ _ _ _ _ _ hE hok hk
 | loop b ih =>
   intro p ac hc rd E sf st g w a Q QQ hrd h hK hq
   simp only [cb] at hc
   obtain ⟨ab,hb,rfl⟩:=map_some hc
   obtain ⟨I,⟨k0,sf0,hle0,hI0⟩,hround⟩:=hK
   refine wpIn_loop_ghost (fun k a w=>∃ E' sf st g,Ext m E E'∧Ok m E' g w (sp X.n sf) st a∧I k sf st) k0 ⟨E,_,_,_,.refl _ _,(h.mask _ _).weakS hle0,hI0⟩ fun k a w ⟨E',sf,st,g,hE,hok,hI⟩=>?_
   refine ih _ ab hb (hrd.imp (fun q=>⟨q.1,by rw [hE.dd]; exact q.2.1,by rw [hE.lolo]; exact Nat.le_trans q.2.2 hE.szw⟩) id) hok (hround k sf st hI) fun E'' e sf st g w a hE' hok hk=>?_
   cases e with
   | normal=>obtain ⟨k',hlt,sf',hle',hI'⟩:=hk; exact ⟨k',hlt,_,_,_,_,hE.trans hE',(hok.mask _ _).weakS hle',hI'⟩
   | _=>exact hq _ _ _ _ _ _ _ (hE.trans hE') hok hk
 | exit id =>
   intro p ac hc rd E sf st g w a Q QQ hrd h hK hq
   simp only [cb] at hc; cases hc
   exact wpIn_exit (hq _ _ _ _ _ _ _ (.refl _ _) (h.mask _ _) hK)
 | scope b ih =>
   intro p ac hc rd E sf st g w a Q QQ hrd h hK hq
   simp only [cb] at hc
   obtain ⟨ab,hb,rfl⟩:=map_some hc
   refine js (ih _ ab hb hrd h hK fun E' e sf st g w a hE hok hk=>?_)
   cases e with
   | goto l=>exact hk.elim
   | _=>exact hq _ _ _ _ _ _ _ hE hok hk
 | ret =>
   intro p ac hc rd E sf st g w a Q QQ hrd h hK hq
   simp only [cb] at hc; cases hc
   exact wpIn_ret (hq _ _ _ _ _ _ _ (.refl _ _) h hK)
 | goto l=>intro p ac hc rd E sf st g w a Q QQ hrd h hK hq; simp only [cb] at hc; cases hc; exact hK.elim
 | rangeFunc f ps x y ihx ihy =>
   intro p ac hc rd E sf st g w a Q QQ hrd h hK hq
   simp only [cb] at hc
   split at hc
   case h_2=>cases hc; exact hK.elim
   rename_i f' ax ay hf hx hy
   split at hc
   case isFalse=>cases hc; exact hK.elim
   rename_i hB
   cases hc
   simp only [Bool.and_eq_true] at hB
   obtain ⟨⟨⟨hB1,hB2⟩,hB3⟩,hB4⟩:=hB
   obtain ⟨hm,hK⟩:=hK
   subst hm
   rcases hrd with ⟨rfl,hd,hl⟩ | hrd
   ·exact range_sound (ihx _ _ hx) (ihy _ _ hy) hB1 hB2 hf (fun t ht=>by simpa using List.all_eq_true.1 hB3 t ht) (fun t ht=>by simpa using List.all_eq_true.1 hB4 t ht) hd hl h hK hq
   ·cases hrd
 | refuse s=>intro p ac hc rd E sf st g w a Q QQ hrd h hK hq; simp only [cb] at hc; cases hc; exact hK.elim
end
end Go.Fx
namespace Go.Fx
open Go Go.RowKit Go.Lib
inductive RI where
 | tmp (t:Nat)
 | cell (t:Nat) (k:Option Nat)
structure AFun where
 n:Nat
 rs:List RI
 body:AC
def resI (sf:Sf) (st:St):RI→Res AV
 | .tmp t=>.ok (sf.reg t).dis
 | .cell t k=>(ag sf st (sf.reg t)).bind fun cs=>(jy k cs).bind fun v=>.ok v.dis
def resL (sf:Sf) (st:St):List RI→Res (List AV)
 | []=>.ok []
 | r::rs=>(resI sf st r).bind fun v=>(resL sf st rs).bind fun vs=>.ok (v::vs)
def retI (rs:List RI) (sf:Sf) (st:St):Res AV :=
 match rs with
 | [.tmp t]=>.ok (sf.reg t)
 | [r]=>resI sf st r
 | rs=>(resL sf st rs).bind fun vs=>if vs.all AV.noL = true then .ok (.tup vs) else .fail
def retQ (rs:List RI) (K:AV→St→Prop):Exit→Sf→St→Prop
 | .normal,sf,st=>(retI rs sf st).wp fun v=>v.noL = true∧K v st
 | .ret,sf,st=>(retI rs sf st).wp fun v=>v.noL = true∧K v st
 | _,_,_=>False
def jE:Nat→List AV→List (Nat×AV)
 | _,[]=>[]
 | i,v::r=>(i,v.dis)::jE (i + 1) r
def aFun (P:Program) (F:Nat→FuncId) (m:Bool) (fn:AFun) (vs:List AV) (st:St) (K:AV→St→Prop):Prop :=
 aC P F m fn.body ⟨jE 0 vs,[]⟩ st (retQ fn.rs K)
section
variable (P:Program) (X:Cx)
def fU (n:Nat):List ResultVar→Option (List RI)
 | []=>some []
 | .tmp t::r=>if t < n then (fU n r).map (.tmp t::·) else none
 | .cell t T::r=>if t < n then (match nv P T,fU n r with
   | some k,some rs=>some (.cell t k::rs)
   | _,_=>none) else none
def jF (f:FuncId):Option AFun :=
 match P.funcs[f]? with
 | some fn => match fn.body with
   | some c=>if X.n = fn.ntmps∧fn.params.size + fn.nfree≤fn.ntmps then
     match cb P X 1 c,fU P X.n fn.results.toList with
     | some b,some rs=>some ⟨X.n,rs,b⟩
     | _,_=>none
    else none
   | none=>none
 | none=>none
end
section
variable {P:Program} {X:Cx} {m:Bool} {E:Ent} {g:Gh} {w:World} {sf:Sf} {st:St} {a:Act}
theorem pO:∀ (vs:List AV) (i t:Nat),getR (jE i vs) t = if i≤t∧t < i + vs.length then (vs.getD (t - i) .any).dis else .any
 | [], i, t => by
   have:¬ (i≤t∧t < i + ([]:List AV).length):=by simp
   rw [if_neg this]; rfl
 | v :: r, i, t => by
   simp only [jE,getR,pO r (i + 1) t,List.length_cons]
   by_cases h:i = t
   ·subst h
    simp
   ·rw [if_neg h]
    by_cases h2:i + 1≤t∧t < i + 1 + r.length
    ·have h3:i≤t∧t < i + (r.length + 1):=by omega
     rw [if_pos h2,if_pos h3]
     obtain ⟨q,rfl⟩:∃ q,t = i + 1 + q:=⟨t - (i + 1),by omega⟩
     rw [show i + 1 + q - (i + 1) = q by omega,show i + 1 + q - i = q + 1 by omega]
     simp
    ·have h3:¬ (i≤t∧t < i + (r.length + 1)):=by omega
     rw [if_neg h2,if_neg h3]
theorem ok_start {d N n:Nat} {vs:List AV} {us:Array Value} (hg:Good g w) (hb:BoxR g w st) (ha:jv g vs us) (hN:N≤w.heap.size) (hm:m = false→N = 0) (hn:us.size≤n) :
  Ok m ⟨d,N,g,w,st,w.heap.size⟩ g w (sp n ⟨jE 0 vs,[]⟩) st { tmps:=us++Array.replicate (n - us.size) undef,defers:=[] }:=by
 refine ⟨by simp [cq]; omega,fun s v u hv hu=>?_,⟨hg,fun s cs hc=>by simp [sp,look] at hc,hb⟩,DefsR.nil _,Mv.refl hg,fun _=>rfl,hN,hm⟩
 rw [ci] at hv
 split at hv
 case isFalse=>cases hv
 cases hv
 simp only [Sf.reg,pO,Nat.zero_le,true_and,Nat.zero_add,Nat.sub_zero]
 split
 ·rename_i hs
  have h1:vs[s]? = some (vs.getD s .any):=by simp [List.getD,hs]
  have hs2:s < us.size:=by rw [ha.1]; exact hs
  have h2:us[s]? = some u:=by rw [Array.getElem?_append_left hs2] at hu; exact hu
  exact ⟨RS.of (ha.2 s _ u h1 h2).dis,OwnV.dis⟩
 ·exact ⟨R.any _,fun i c x hc _=>Own.of_no (ae (v:=.any) (fun _ e=>by cases e) trivial i c hc)⟩
def iu (tmps:Array Value):ResultVar→Sem Value
 | .tmp t=>pure (tmps.getD t undef)
 | .cell b t=>do loadVar t (← asAddr (tmps.getD b undef))
theorem mV {n:Nat} (h:Ok m E g w (sp n sf) st a):∀ {rv:List ResultVar} {rs:List RI} {K:List AV→Prop},fU P n rv = some rs→(resL sf st rs).wp K →
  ∃ vs us,K vs∧us.length = vs.length∧(∀ (i:Nat) (x:AV) (u:Value),vs[i]? = some x→us[i]? = some u→RS g E.d x u∧∀ (j:Nat) (c:AV),x.cells[j]? = some c→c.noOwn) ∧
   ((rv.mapM (iu a.tmps):Sem (List Value)).run P w = .ok us w)
 | [], rs, K, hc, hK => by
   simp only [fU] at hc; cases hc
   exact ⟨[],[],hK,rfl,fun i x u hx=>by simp at hx,by simp⟩
 | .tmp t :: rv, rs, K, hc, hK => by
   simp only [fU] at hc
   split at hc
   case isFalse=>cases hc
   rename_i ht
   obtain ⟨rs',hrs,rfl⟩:=map_some hc
   simp only [resL,resI,Res.bind] at hK
   rw [Res.wp_bind] at hK
   obtain ⟨vs,us,hK,hl,hr,hrun⟩:=mV h hrs hK
   have hs:=(dm h t).1
   rw [co ht] at hs
   refine ⟨_,a.tmps.getD t undef::us,hK,by simp [hl],fun i x u hx hu=>?_,by
    simp only [List.mapM_cons,Sem.run_bind,iu,Sem.run_pure,Result.andThen_ok,hrun]⟩
   cases i with
   | zero=>simp at hx hu; subst hx; subst hu; exact ⟨by simpa [Act.eval] using hs.dis,aq _⟩
   | succ i=>exact hr i x u (by simpa using hx) (by simpa using hu)
 | .cell t T :: rv, rs, K, hc, hK => by
   simp only [fU] at hc
   split at hc
   case isFalse=>cases hc
   rename_i ht
   split at hc
   case h_2=>cases hc
   rename_i k rs' hk hrs
   cases hc
   simp only [resL,resI,aZ] at hK
   rw [Res.wp_bind] at hK
   have hs:=(dm h t).1
   rw [co ht] at hs
   rw [← deref_sp (n:=n)] at hK
   obtain ⟨cs,hK,b,o,hu,xs,hxs⟩:=qv h.ctx hs hK
   rw [Res.wp_bind] at hK
   obtain ⟨v,hK,u',hrun',hR⟩:=take_run (P:=P) hxs (iI hk cs _ hK)
   simp only [Res.bind] at hK
   rw [Res.wp_bind] at hK
   obtain ⟨vs,us,hK,hl,hr,hrun⟩:=mV h hrs hK
   have hu':a.tmps.getD t undef = .pointer (some ⟨b,o,none⟩):=hu
   refine ⟨_,u'::us,hK,by simp [hl],fun i x u hx hu2=>?_,by
    simp only [List.mapM_cons,Sem.run_bind,iu,hu',asAddr,Sem.run_pure,Result.andThen_ok,hrun',hrun]⟩
   cases i with
   | zero=>simp at hx hu2; subst hx; subst hu2; exact ⟨RS.of hR.dis,aq _⟩
   | succ i=>exact hr i x u (by simpa using hx) (by simpa using hu2)
theorem nx {fn:Func} {tmps:Array Value} {w:World} {us:List Value} (h:(fn.results.toList.mapM (iu tmps):Sem (List Value)).run P w = .ok us w):(results fn tmps).run P w = .ok (if h:us.toArray.size = 1 then us.toArray[0] else .tuple us.toArray) w:=by
 have h0:results fn tmps = (do
   let vs ← fn.results.mapM (iu tmps)
   pure (if h:vs.size = 1 then vs[0] else .tuple vs)):=by
  unfold results
  congr 1
 rw [h0,Array.mapM_eq_mapM_toList,Sem.run_bind]
 have h2:(Functor.map List.toArray (fn.results.toList.mapM (iu tmps):Sem (List Value))).run P w = .ok us.toArray w:=by
  rw [map_eq_pure_bind,Sem.run_bind,h]
  simp
 rw [h2]
 simp only [Result.andThen_ok,Sem.run_pure]
theorem ra {n:Nat} {fn:Func} {rs:List RI} {K:AV→Prop} (h:Ok m E g w (sp n sf) st a) (hc:fU P n fn.results.toList = some rs) (hK:(retI rs sf st).wp fun v=>v.noL = true∧K v) :
  ∃ v u,K v∧v.noL = true∧(results fn a.tmps).run P w = .ok u w∧RS g E.d v u∧((∀ (j:Nat) (c:AV),v.cells[j]? = some c→c.noOwn)∨∃ t,t < n∧v = sf.reg t∧u = a.tmps.getD t undef):=by
 have hlist:∀ K',(resL sf st rs).wp K'→∃ (vs:List AV) (us:List Value),K' vs∧us.length = vs.length∧(∀ (i:Nat) (x:AV) (u:Value),vs[i]? = some x→us[i]? = some u→RS g E.d x u∧∀ (j:Nat) (c:AV),x.cells[j]? = some c→c.noOwn)∧(results fn a.tmps).run P w = .ok (if h:us.toArray.size = 1 then us.toArray[0] else .tuple us.toArray) w:=by
  intro K' hK'
  obtain ⟨vs,us,h1,h2,h3,h4⟩:=mV h hc hK'
  exact ⟨vs,us,h1,h2,h3,nx h4⟩
 unfold retI at hK
 split at hK
 ·rename_i t
  obtain ⟨hnl,hK⟩:=hK
  obtain ⟨vs,us,h1,h2,h3,h4⟩:=hlist (fun vs=>vs = [(sf.reg t).dis]) (by simp [resL,resI,Res.bind,Res.wp])
  -- one slot: its value as it stands
  have htn:t < n∧fn.results.toList = [.tmp t]:=by
   cases hr:fn.results.toList with
   | nil=>rw [hr] at hc; simp [fU] at hc
   | cons x r =>
     rw [hr] at hc
     cases x with
     | tmp t' =>
       simp only [fU] at hc
       split at hc
       ·rename_i hlt
        obtain ⟨q,hq,e⟩:=map_some hc
        cases e
        cases r with
        | nil=>exact ⟨hlt,rfl⟩
        | cons y r =>
          exfalso
          cases y <;> simp only [fU] at hq <;> split at hq <;> first | (cases hq; done) | skip
          ·obtain ⟨_,_,e⟩:=map_some hq; cases e
          ·split at hq <;> cases hq
       ·cases hc
     | cell t' T =>
       simp only [fU] at hc
       split at hc
       ·split at hc <;> cases hc
       ·cases hc
  have hrun:(fn.results.toList.mapM (iu a.tmps):Sem (List Value)).run P w = .ok [a.tmps.getD t undef] w:=by
   rw [htn.2]
   simp only [List.mapM_cons,List.mapM_nil,Sem.run_bind,iu,Sem.run_pure,Result.andThen_ok]
  have hs:=(dm h t).1
  rw [co htn.1] at hs
  exact ⟨sf.reg t,a.tmps.getD t undef,hK,hnl,by have:=nx hrun; simpa using this,hs,.inr ⟨t,htn.1,rfl,rfl⟩⟩
 ·rename_i r hne
  obtain ⟨vs,us,⟨v,rfl,hnl,hK⟩,h2,h3,h4⟩:=hlist (fun vs=>∃ v,vs = [v]∧v.noL = true∧K v) (by
   simp only [resL,Res.bind]
   rw [Res.wp_bind]
   exact Res.wp_mono hK fun v hv=>⟨v,rfl,hv.1,hv.2⟩)
  match us,h2 with
  | [u], _ =>
    obtain ⟨h5,h6⟩:=h3 0 v u rfl rfl
    exact ⟨v,u,hK,hnl,by simpa using h4,h5,.inl h6⟩
 ·rename_i hne1 hne2
  rw [Res.wp_bind] at hK
  have hrl:∀ {rs:List RI} {K':List AV→Prop},(resL sf st rs).wp K'→(resL sf st rs).wp fun vs=>K' vs∧vs.length = rs.length:=by
   intro rs
   induction rs with
   | nil=>intro K' h; exact ⟨h,rfl⟩
   | cons r rs ih =>
     intro K' h
     simp only [resL] at h ⊢
     rw [Res.wp_bind] at h ⊢
     refine Res.wp_mono h fun v hv=>?_
     rw [Res.wp_bind] at hv ⊢
     exact Res.wp_mono (ih hv) fun vs hvs=>⟨hvs.1,by simp [hvs.2]⟩
  obtain ⟨vs,us,⟨hK,hvl⟩,h2,h3,h4⟩:=hlist _ (hrl hK)
  split at hK
  case isFalse=>exact hK.elim
  rename_i hall
  obtain ⟨_,hK⟩:=hK
  have hlen:us.length≠1:=by
   intro e
   rw [h2,hvl] at e
   obtain ⟨r,hr⟩:=List.length_eq_one_iff.1 e
   exact hne2 r hr
  refine ⟨.tup vs,.tuple us.toArray,hK,rfl,by rw [h4]; simp [hlen],RS.of (.tup vs us.toArray (by simpa using h2) fun i x u hx hu=>?_),.inl (ae (by simp) trivial)⟩
  have hx':=List.all_eq_true.1 hall x (List.mem_of_getElem? hx)
  exact ju hx' (h3 i x u hx (by simpa using hu)).1
end
end Go.Fx
namespace Go.Fx
def msOf:List (Nat×List Nat×List Nat)→Nat→List Nat×List Nat
 | [],_=>([],[])
 | (q,r)::l,p=>if q = p then r else msOf l p
open Go Go.RowKit Go.Lib
section
variable {P:Program} {X:Cx} {f:FuncId} {fn':AFun} {vs:List AV} {st:St}
theorem rb (h:jF P X f = some fn'):∃ fn c b rs,P.funcs[f]? = some fn∧fn.body = some c∧X.n = fn.ntmps∧cb P X 1 c = some b∧fU P X.n fn.results.toList = some rs∧fn' = ⟨X.n,rs,b⟩:=by
 unfold jF at h
 split at h
 case h_2=>cases h
 rename_i fn hf
 split at h
 case h_2=>cases h
 rename_i c hc
 split at h
 case isFalse=>cases h
 rename_i hn
 split at h
 case h_2=>cases h
 rename_i b rs hb hr
 cases h
 exact ⟨fn,c,b,rs,hf,hc,hn.1,hb,hr,rfl⟩
theorem Ok.toE {m:Bool} {E E':Ent} {g:Gh} {w:World} {fr:Fr} {st:St} {a:Act} (h:Ok false E' g w fr st a) (hE:Ext false E E'):Ok false E g w fr st { a with defers:=[] }:=by
 have hmv:=hE.mvE h.mv
 have h1:=hE.dd
 have h2:=hE.NN
 obtain ⟨d,N,g0,w0,st0,lo⟩:=E
 obtain ⟨d',N',g0',w0',st0',lo'⟩:=E'
 simp only at h1 h2
 subst h1; subst h2
 exact ⟨h.size,h.slots,h.ctx,DefsR.nil _,hmv,fun e=>(by cases e),h.hN,h.hm⟩
theorem rc {P:Program} {fn:Func} {R:Ending→World→Prop} {E:Ent} {g:Gh} {fr:Fr} {st:St} {a:Act} (hE:∀ D c,E.g.cls D = some c→D < E.lo) (hlo:E.g.base≤E.lo)
  (hfin:∀ w,Ok false E g w fr st a→∃ v,(results fn a.tmps).run P w = .ok v w∧R (.returned v) w):∀ (ds:List Deferred) (w:World),(∀ x ∈ ds,∃ D dd s,x = { target:=.collected D,args:=#[] }∧E.lo≤D∧g.cls D = some (.loc dd s)∧dd < E.d∧w.heap[D]? = some (.deferred (some []))) →
   (ds.map fun x=>x.target).Nodup→Ok false E g w fr st a→LeavesInM (FW none) 0 P fn a.tmps R ds .returning w
 | [],w,_,_,h=>hfin w h
 | x :: ds, w, ha, hn, h => by
   obtain ⟨D,dd,s,rfl,h1,h2,h3,h4⟩:=ha x (by simp)
   simp only [List.map_cons,List.nodup_cons] at hn
   refine ⟨by simp,.inl ⟨D,_,rfl,run_takeDeferred h4,?_⟩⟩
   have hnone:E.g.cls D = none:=by
    cases hc:E.g.cls D with
    | none=>rfl
    | some c=>have:=hE D c hc; omega
   refine rc hE hlo hfin ds _ (fun y hy=>?_) hn.2 (h.putD h2 (by omega) hnone (Nat.le_trans hlo h1) _)
   obtain ⟨D',dd',s',rfl,k1,k2,k3,k4⟩:=ha y (by simp [hy])
   have hne:D'≠D:=by
    rintro rfl
    exact hn.1 (List.mem_map.2 ⟨_,hy,rfl⟩)
   exact ⟨D',dd',s',rfl,k1,k2,k3,by rw [World.putObj_heap_other hne]; exact k4⟩
theorem re (hmix:P.follows .mixedOrders = true) (hf:jF P X f = some fn') (hlen:vs.length≤fn'.n) {K:AV→St→Prop} (h:aFun P X.F false fn' vs st K):aX P f vs st K:=by
 obtain ⟨fn,c,b,rs,hfn,hc,hn,hb,hr,rfl⟩:=rb hf
 intro D g w us L hg hbx ha
 have hus:us.size≤X.n:=by rw [ha.1]; exact hlen
 refine jN.1 (callsIn_of_wp_marks (F:=FW none) (n:=0) hfn hc trivial ?_)
 have h0:=ok_start (m:=false) (d:=D + 1) (N:=0) (n:=X.n) (st:=st) hg hbx ha (Nat.zero_le _) (fun _=>rfl) hus
 rw [← hn]
 have key:∀ (sf:Sf) (st':St) (g':Gh) (w':World) (a':Act),Ok false ⟨D + 1,0,g,w,st,w.heap.size⟩ g' w' (sp X.n sf) st' a'→((retI rs sf st').wp fun v=>v.noL = true∧K v st') →
   ∃ v,(results fn a'.tmps).run P w' = .ok v w'∧∃ u v' st' g',Ending.returned v = .returned u∧K v' st'∧Mv false 0 D g w g' w'∧BoxR g' w' st'∧R g' v' u∧OwnV g' w' 0 L v' u:=by
  intro sf st' g' w' a' hok hret
  obtain ⟨v,u,hK,hnl,hrun,hR,hown⟩:=ra (K:=fun v=>K v st') hok hr hret
  refine ⟨u,hrun,u,v,st',?_⟩
  rcases hown with hno | ⟨t,ht,rfl,rfl⟩
  ·exact ⟨g',rfl,hK,hok.mv.inner (Nat.le_succ _),hok.ctx.box,ju hnl hR,fun i c x hc _=>Own.of_no (hno i c hc)⟩
  ·obtain ⟨h1,h2,h3⟩:=hok.steal t L
   rw [co ht] at h2 h3
   exact ⟨_,rfl,hK,h1.mv.inner (Nat.le_succ _),h1.ctx.box,ju hnl h2,h3⟩
 have key2:∀ (E':Ent) (sf:Sf) (st':St) (g':Gh) (w':World) (a':Act),Ext false ⟨D + 1,0,g,w,st,w.heap.size⟩ E'→Ok false E' g' w' (sp X.n sf) st' a'→((retI rs sf st').wp fun v=>v.noL = true∧K v st') →
   LeavesInM (FW none) 0 P fn a'.tmps (fun e w'=>∃ u v st' g',e = .returned u∧K v st'∧Mv false 0 D g w g' w'∧BoxR g' w' st'∧R g' v u∧OwnV g' w' 0 L v u) a'.defers .returning w':=by
  intro E' sf st' g' w' a' hE hok hret
  have hok0:=hok.toE (m:=false) hE
  refine rc (E:=⟨D + 1,0,g,w,st,w.heap.size⟩) (a:={ a' with defers:=[] }) (fun b c hc=>(hg.cls b c hc).2) hg.base (fun w2 hok2=>key sf st' g' w2 _ hok2 hret) a'.defers w' (fun x hx=>?_) hok.defers.nd hok0
  obtain ⟨b,dd,s,h1,h2,h3,h4,h5⟩:=hok.defers.all x hx
  obtain ⟨q1,q2,_⟩:=hok.mv.outer b _ h3 h4
  have hd:=hE.dd
  have hl:=hE.lolo
  simp only at hd hl
  exact ⟨b,dd,s,h1,by rw [← hl]; exact h2,q1,by rw [← hd]; exact h4,by rw [q2]; exact h5⟩
 refine aC_sound hmix c 1 b hb (.inl ⟨rfl,by simp,Nat.le_refl _⟩) h0 h fun E' e sf st' g' w' a' hE hok hq=>?_
 cases e with
 | normal=>exact key2 E' sf st' g' w' a' hE hok hq
 | ret=>exact key2 E' sf st' g' w' a' hE hok hq
 | exit id=>exact hq.elim
 | goto l=>exact hq.elim
 | panic ch=>exact hq.elim
 | outgrown=>exact hq.elim
theorem pcalls_of (hmix:P.follows .mixedOrders = true) (hf:jF P X f = some fn') (hlen:vs.length≤fn'.n) {v0:AV} (h:aFun P X.F true fn' vs st fun v st'=>v = v0):aF P f vs st v0:=by
 obtain ⟨fn,c,b,rs,hfn,hc,hn,hb,hr,rfl⟩:=rb hf
 intro g w us L hg hbx ha
 have hus:us.size≤X.n:=by rw [ha.1]; exact hlen
 refine calls_of_wp hfn hc ?_
 have h0:=ok_start (m:=true) (d:=1) (N:=w.heap.size) (n:=X.n) (st:=st) hg hbx ha (Nat.le_refl _) (fun e=>by cases e) hus
 rw [← hn]
 have fin:∀ (g':Gh) (w':World),Mv true w.heap.size 1 g w g' w'→LeP g w { g' with lb:=g.lb } w':=by
  intro g' w' hm
  obtain ⟨h1,h2⟩:=hm.pure rfl
  exact ⟨⟨hm.os,hm.tape,hm.output,hm.size,fun k hk=>(h1 k hk).1⟩,fun b hb=>(h1 b hb).2.1,fun b hb=>(h1 b hb).2.2,h2,rfl,hm.base,fun _=>⟨hm.good.imm,hm.good.immc,hm.good.cls,hm.good.base⟩⟩
 have hle:∀ g':Gh,GhLe g' { g' with lb:=g.lb }:=fun g'=>⟨fun _ _ _ h=>h,fun _ _ h=>h⟩
 have key:∀ (sf:Sf) (st':St) (g':Gh) (w':World) (a':Act),Ok true ⟨1,w.heap.size,g,w,st,w.heap.size⟩ g' w' (sp X.n sf) st' a'→((retI rs sf st').wp fun v=>v.noL = true∧v = v0) →
   a'.defers = []∧∃ v,(results fn a'.tmps).run P w' = .ok v w'∧∃ u g',Ending.returned v = .returned u∧LeP g w g' w'∧R g' v0 u∧OwnV g' w' w.heap.size L v0 u:=by
  intro sf st' g' w' a' hok hret
  obtain ⟨v,u,hK,hnl,hrun,hR,hown⟩:=ra (K:=fun v=>v = v0) hok hr hret
  subst hK
  have hdf:a'.defers = []:=by
   cases hds:a'.defers with
   | nil=>rfl
   | cons x r =>
     obtain ⟨b,dd,s,h1,h2,h3,h4,h5⟩:=hok.defers.all x (by rw [hds]; simp)
     have:=(hg.cls b _ h3).2
     simp only at h2
     omega
  refine ⟨hdf,u,hrun,u,?_⟩
  rcases hown with hno | ⟨t,ht,rfl,rfl⟩
  ·exact ⟨_,rfl,fin g' w' hok.mv,(ju hnl hR).mono (hle g'),fun i c x hc _=>Own.of_no (hno i c hc)⟩
  ·obtain ⟨h1,h2,h3⟩:=hok.steal t L
   rw [co ht] at h2 h3
   exact ⟨_,rfl,fin _ w' h1.mv,(ju hnl h2).mono (hle _),fun i c x hc hx=>h3 i c x hc hx⟩
 refine (wpIn_wide (n:=0)).1 (aC_sound hmix c 1 b hb (.inl ⟨rfl,by simp,Nat.le_refl _⟩) h0 h fun E' e sf st' g' w' a' hE hok hq=>?_)
 rcases hE with rfl | ⟨hE,_⟩
 case inr=>cases hE
 cases e with
 | normal=>exact key sf st' g' w' a' hok hq
 | ret=>exact key sf st' g' w' a' hok hq
 | exit id=>exact hq.elim
 | goto l=>exact hq.elim
 | panic ch=>exact hq.elim
 | outgrown=>exact hq.elim
end
end Go.Fx
namespace Go.Fx
open Go Go.RowKit Go.Lib
inductive AV.NB:AV→Prop where
 | any:AV.NB .any
 | lit (v:Value):AV.NB (.lit v)
 | cptr (cs:List AV) (h:∀ c ∈ cs,AV.NB c):AV.NB (.cptr cs)
 | sl (o:Bool) (k:Nat) (es:List AV) (h:∀ c ∈ es,AV.NB c):AV.NB (.sl o k es)
 | fn (f:Fn) (fs cs:List AV) (h1:∀ c ∈ fs,AV.NB c) (h2:∀ c ∈ cs,AV.NB c):AV.NB (.fn f fs cs)
 | agg (cs:List AV) (h:∀ c ∈ cs,AV.NB c):AV.NB (.agg cs)
 | tup (cs:List AV) (h:∀ c ∈ cs,AV.NB c):AV.NB (.tup cs)
 | ifc (t:Nat) (v:AV) (h:AV.NB v):AV.NB (.ifc t v)
section
variable {g g':Gh} {w w':World} {N:Nat}
theorem nb_cells {e:AV} (h:e.NB):∀ c ∈ e.cells,c.NB:=by
 cases h with
 | agg cs h=>exact h
 | any=>intro c hc; simp [AV.cells] at hc; subst hc; exact .any
 | lit v=>intro c hc; simp [AV.cells] at hc; subst hc; exact .lit v
 | cptr cs h=>intro c hc; simp [AV.cells] at hc; subst hc; exact .cptr cs h
 | sl o k es h=>intro c hc; simp [AV.cells] at hc; subst hc; exact .sl o k es h
 | fn f fs cs h1 h2=>intro c hc; simp [AV.cells] at hc; subst hc; exact .fn f fs cs h1 h2
 | tup cs h=>intro c hc; simp [AV.cells] at hc; subst hc; exact .tup cs h
 | ifc t v h=>intro c hc; simp [AV.cells] at hc; subst hc; exact .ifc t v h
theorem R.nb (hi:∀ b o u,g.imm b o = some u→g'.imm b o = some u) {v:AV} {u:Value} (h:R g v u):v.NB→R g' v u:=by
 induction h with
 | any u=>exact fun _=>.any u
 | lit v h=>exact fun _=>.lit v h
 | ptr id off b h=>exact fun h=>by cases h
 | cptr cs us b o h1 _ ih =>
   intro hn
   cases hn with
   | cptr _ hn=>exact .cptr cs us b o (fun i c hc=>hi _ _ _ (h1 i c hc)) (fun i c hc=>ih i c hc (hn c (List.mem_of_getElem? hc)))
 | sl own k es us b o c hc hk h1 _ h3 ih =>
   intro hn
   cases hn with
   | sl _ _ _ hn =>
     refine .sl own k es us b o c hc hk (fun i x hx=>hi _ _ _ (h1 i x hx)) (fun i x hx=>ih i x hx ?_) h3
     have:=List.mem_of_getElem? hx
     simp only [List.mem_flatMap] at this
     obtain ⟨e,he,hxe⟩:=this
     exact nb_cells (hn e he) x hxe
 | slE own k a c=>exact fun _=>.slE own k a c
 | slN own k=>exact fun _=>.slN own k
 | bs id k off len cap b h=>exact fun h=>by cases h
 | mit id s l p b=>exact fun h=>by cases h
 | yld id b h=>exact fun h=>by cases h
 | xs k es a _ _=>exact fun h=>by cases h
 | ifc t v u _ ih =>
   intro hn
   cases hn with | ifc _ _ hn=>exact .ifc t v u (ih hn)
 | map id b h=>exact fun h=>by cases h
 | fn f fs cs us vs hu hv _ _ ih1 ih2 =>
   intro hn
   cases hn with
   | fn _ _ _ n1 n2=>exact .fn f fs cs us vs hu hv (fun i x u hx hu=>ih1 i x u hx hu (n1 x (List.mem_of_getElem? hx))) (fun i x u hx hu=>ih2 i x u hx hu (n2 x (List.mem_of_getElem? hx)))
 | agg cs us hu _ ih =>
   intro hn
   cases hn with | agg _ hn=>exact .agg cs us hu (fun i x u hx hu=>ih i x u hx hu (hn x (List.mem_of_getElem? hx)))
 | tup cs us hu _ ih =>
   intro hn
   cases hn with | tup _ hn=>exact .tup cs us hu (fun i x u hx hu=>ih i x u hx hu (hn x (List.mem_of_getElem? hx)))
inductive Frz (st:St):AV→AV→Prop where
 | le (v v0:AV) (h:AV.le v v0) (hn:v0.NB):Frz st v v0
 | bs (id k off len cap:Nat) (cs:List AV) (hg:st.get id = some cs) (hl:off + len * k≤cs.length) (hcap:len≤cap) (hk:∀ c ∈ cs.drop off,c.NB):Frz st (.bs id k off len cap) (.sl false k (grp k len (cs.drop off)))
 | agg (cs ds:List AV) (hl:ds.length = cs.length) (h:∀ (i:Nat) (c d:AV),cs[i]? = some c→ds[i]? = some d→Frz st c d) (hn:∀ d ∈ ds,d.noOwn):Frz st (.agg cs) (.agg ds)
 | tup (cs ds:List AV) (hl:ds.length = cs.length) (h:∀ (i:Nat) (c d:AV),cs[i]? = some c→ds[i]? = some d→Frz st c d):Frz st (.tup cs) (.tup ds)
def frzL (st:St):List AV→List AV→Prop
 | [],[]=>True
 | c::r,d::q=>Frz st c d∧frzL st r q
 | _,_=>False
theorem frzL_facts {st:St}:∀ {l k:List AV},frzL st l k→k.length = l.length∧∀ (i:Nat) (c d:AV),l[i]? = some c→k[i]? = some d→Frz st c d
 | [],[],_=>⟨rfl,fun i c d h=>by simp at h⟩
 | [],_::_,h=>h.elim
 | _::_,[],h=>h.elim
 | v :: r, u :: s, ⟨h1, h2⟩ => by
   obtain ⟨q1,q2⟩:=frzL_facts h2
   refine ⟨by simp [q1],fun i c d hc hd=>?_⟩
   cases i with
   | zero=>simp at hc hd; subst hc; subst hd; exact h1
   | succ i=>exact q2 i c d (by simpa using hc) (by simpa using hd)
def Gh.hide (g:Gh) (n:Nat):Gh:={ base:=0,imm:=g.imm,bx:=fun _=>none,lb:=g.lb,cls:=fun b=>if b < n then some (.arr (.slot 0 0 0)) else none }
theorem hide_good (h:Good g w):Good (g.hide w.heap.size) w:=by
 refine ⟨h.imm,fun b o u hi=>.inr ⟨_,by simp [Gh.hide,h.lt hi]; rfl⟩,fun b c hc=>?_,Nat.zero_le _⟩
 simp only [Gh.hide] at hc
 split at hc
 ·rename_i hl; exact ⟨Nat.zero_le _,hl⟩
 ·cases hc
def Gh.show (g g1:Gh) (n:Nat) (L:Nat→Loc) (fb:Nat→Option (Array Value)):Gh :=
 { base:=g.base,bx:=g.bx,lb:=g.lb
   imm:=fun b o=>if b < n then g.imm b o else match fb b with
    | some us=>us[o]?
    | none=>g1.imm b o
   cls:=fun b=>if b < n then g.cls b else match g1.cls b with
    | some (.arr (.slot 5 0 k))=>some (.arr (L k))
    | _=>none }
def frzB (g1:Gh) (w:World) (n:Nat) (b:Nat):Option (Array Value) :=
 if n≤b then (match g1.cls b,w.heap[b]? with
  | some (.box _),some (.cells us _ (0,0))=>some us
  | _,_=>none) else none
def Fzn (g1 gs:Gh) (st:St):Prop:=∀ id cs,st.get id = some cs→∃ (b:Nat) (us:Array Value),g1.bx id = some b∧(∀ o:Nat,gs.imm b o = us[o]?)∧us.size = cs.length ∧
 (∀ (i:Nat) (c:AV) (x:Value),cs[i]? = some c→us[i]? = some x→R g1 c x)∧∀ x ∈ us,x.oneCell' = true
theorem fzn_of {g1 gs:Gh} {w:World} {st:St} {n:Nat} (hb1:BoxR g1 w st) (hbn:∀ id b,g1.bx id = some b→g1.cls b = some (.box id)→n≤b) (kf:∀ b us,frzB g1 w n b = some us→∀ o:Nat,gs.imm b o = us[o]?):Fzn g1 gs st:=by
 intro id cs hgt
 obtain ⟨b,us',T,a1,a2,a3,a4,a5,a6⟩:=hb1.2.1 id cs (by unfold St.get at hgt; split at hgt <;> first | (cases hgt; assumption) | cases hgt)
 have hge:=hbn id b a1 a2
 have hfz:frzB g1 w n b = some us':=by simp [frzB,hge,a2,a3]
 exact ⟨b,us',a1,kf b us' hfz,a4,fun i c x hc hx=>(a5 i c x hc hx).1,a6⟩
theorem frz_R {g1 gs:Gh} {st:St} (hf:Fzn g1 gs st) (k2:∀ b o u,g1.imm b o = some u→gs.imm b o = some u) {v v0:AV} (h:Frz st v v0):∀ {u:Value},R g1 v u→R gs v0 u:=by
 induction h with
 | le v v0 hle hn=>exact fun hR=>(hle.r hR).nb k2 hn
 | agg cs ds hl h hn ih =>
   intro u hR
   obtain ⟨us,rfl,hr⟩:=hR.agg_inv
   refine .agg ds us (by have:=hr.1; simp at this; omega) fun i x u hx hu=>?_
   have hlt:i < cs.length:=by rw [← hl]; exact (List.getElem?_eq_some_iff.1 hx).1
   exact ih i cs[i] x (by simp [hlt]) hx (hr.2 i cs[i] u (by simp [hlt]) (by simpa using hu))
 | tup cs ds hl h ih =>
   intro u hR
   cases hR with
   | tup _ us hu hR =>
     refine .tup ds us (by omega) fun i x u hx hu'=>?_
     have hlt:i < cs.length:=by rw [← hl]; exact (List.getElem?_eq_some_iff.1 hx).1
     exact ih i cs[i] x (by simp [hlt]) hx (hR i cs[i] u (by simp [hlt]) hu')
 | bs id k off len cap cs hgt hl hcap hk =>
   intro u hR
   obtain ⟨b,us',a1,kf,a4,a5,a6⟩:=hf id cs hgt
   cases hR with
   | bs _ _ _ _ _ b' hb' =>
     have:b' = b:=Option.some.inj (hb'.symm.trans a1)
     subst this
     have hone:∀ c ∈ cs.drop off,c.cells = [c]:=by
      intro c hc
      obtain ⟨i,hi⟩:=List.mem_iff_getElem?.1 (List.mem_of_mem_drop hc)
      have hlt:i < us'.size:=by rw [a4]; exact (List.getElem?_eq_some_iff.1 hi).1
      have hx:us'[i]? = some us'[i]:=Array.getElem?_eq_getElem hlt
      exact qw (a5 i c _ hi hx) (a6 _ (Array.getElem_mem hlt))
     obtain ⟨q1,q2,q3⟩:=mz (k:=k) len (cs.drop off) hone (by simp; omega)
     have hcell:∀ (i:Nat) (x:AV),((grp k len (cs.drop off)).flatMap AV.cells)[i]? = some x→i < len * k∧cs[off + i]? = some x:=by
      intro i x hx
      rw [q3,List.getElem?_take] at hx
      split at hx
      ·rename_i hil; exact ⟨hil,by simpa using hx⟩
      ·cases hx
     have:=R.sl (g:=gs) false k (grp k len (cs.drop off)) (fun i=>us'.getD (off + i) undef) b' off cap (by rw [q1]; exact hcap) q2 (fun i x hx=>?_) (fun i x hx=>?_) (fun i x hx=>?_)
     ·rw [q1] at this; exact this
     ·obtain ⟨hi,hc⟩:=hcell i x hx
      have hlt:off + i < us'.size:=by omega
      rw [kf]
      simp [hlt]
     ·obtain ⟨hi,hc⟩:=hcell i x hx
      have hlt:off + i < us'.size:=by omega
      have e1:us'.getD (off + i) undef = us'[off + i]:=by simp [hlt]
      rw [e1]
      exact (a5 (off + i) x _ hc (Array.getElem?_eq_getElem hlt)).nb k2 (hk x (by rw [List.mem_iff_getElem?]; exact ⟨i,by simpa using hc⟩))
     ·obtain ⟨hi,hc⟩:=hcell i x hx
      have hlt:off + i < us'.size:=by omega
      have e1:us'.getD (off + i) undef = us'[off + i]:=by simp [hlt]
      rw [e1]
      exact a6 _ (Array.getElem_mem hlt)
theorem nH {P:Program} {f:FuncId} {vs:List AV} {v0:AV} (h:aX P f vs ⟨[]⟩ fun v st'=>Frz st' v v0) (hvs:∀ v ∈ vs,v.NB) (st:St):aF P f vs st v0:=by
 intro g w us L hg hbx ha
 have ha0:jv (g.hide w.heap.size) vs us:=⟨ha.1,fun i x u hx hu=>R.nb (g:=g) (g':=g.hide w.heap.size) (fun _ _ _ h=>h) (ha.2 i x u hx hu) (hvs x (List.mem_of_getElem? hx))⟩
 have hb0:BoxR (g.hide w.heap.size) w ⟨[]⟩:=⟨fun _ _=>rfl,fun id cs hc=>by simp at hc,fun id bx hc=>by simp at hc⟩
 refine (h 1 _ w us (fun k=>.slot 5 0 k) (hide_good hg) hb0 ha0).mono fun e w' ⟨u,v,st',g1,he,hF,hmv,hb1,hR,hO⟩=>?_
 have hout:∀ b,b < w.heap.size→g1.cls b = some (.arr (.slot 0 0 0))∧w'.heap[b]? = w.heap[b]?∧g1.imm b = g.imm b:=fun b hb =>
  hmv.outer b (.arr (.slot 0 0 0)) (by simp [Gh.hide,hb]) (Nat.zero_lt_one)
 have hbel:Below w.heap.size w w':=⟨hmv.os,hmv.tape,hmv.output,hmv.size,fun k hk=>(hout k hk).2.1⟩
 have hfz:∀ b us,frzB g1 w' w.heap.size b = some us→w.heap.size≤b∧b < w'.heap.size∧(∃ id,g1.cls b = some (.box id))∧∃ T,w'.heap[b]? = some (.cells us T (0,0)):=by
  intro b us h
  unfold frzB at h
  split at h
  ·rename_i hge
   split at h
   ·rename_i id us' T h1 h2
    cases h
    exact ⟨hge,(Array.getElem?_eq_some_iff.1 h2).1,⟨id,h1⟩,T,h2⟩
   ·cases h
  ·cases h
 have himm:∀ b o u,g1.imm b o = some u→(g.show g1 w.heap.size L (frzB g1 w' w.heap.size)).imm b o = some u:=by
  intro b o u hi
  simp only [Gh.show]
  split
  ·rename_i hl; rw [← (hout b hl).2.2]; exact hi
  ·split
   ·rename_i us e
    obtain ⟨_,_,⟨id,hid⟩,_⟩:=hfz b us e
    rcases hmv.good.immc b o u hi with h1 | ⟨L',h1⟩ <;> rw [hid] at h1 <;> cases h1
   ·exact hi
 have k1:LeP g w (g.show g1 w.heap.size L (frzB g1 w' w.heap.size)) w':=by
  refine ⟨hbel,fun b hb=>by funext o; simp [Gh.show,hb],fun b hb=>by simp [Gh.show,hb],rfl,rfl,rfl,fun _=>?_⟩
  refine ⟨fun b o u hi=>?_,fun b o u hi=>?_,fun b c hc=>?_,?_⟩
  ·simp only [Gh.show] at hi
   split at hi
   ·rename_i hl
    have:=hg.imm b o u hi
    unfold World.cell? at this ⊢
    rw [(hout b hl).2.1]; exact this
   ·split at hi
    ·rename_i us e
     obtain ⟨_,_,_,T,hT⟩:=hfz b us e
     rw [cell_of_row w' b o us T (0,0) hT]; exact hi
    ·exact hmv.good.imm b o u hi
  ·simp only [Gh.show] at hi ⊢
   split at hi
   ·rename_i hl; simp only [hl,if_true]; exact hg.immc b o u hi
   ·rename_i hl
    simp only [hl,if_false]
    split
    ·exact .inr ⟨_,rfl⟩
    ·exact .inl rfl
  ·simp only [Gh.show] at hc
   split at hc
   ·rename_i hl
    have:=hg.cls b c hc
    exact ⟨this.1,Nat.lt_of_lt_of_le hl hmv.size⟩
   ·rename_i hl
    split at hc
    ·rename_i k hk
     have:=(hmv.good.cls b _ hk).2
     have hb:=hg.base
     exact ⟨by simp only [Gh.show]; omega,this⟩
    ·cases hc
  ·have:=hg.base
   have:=hmv.size
   simp only [Gh.show]; omega
 have hbn:∀ id b,g1.bx id = some b→g1.cls b = some (.box id)→w.heap.size≤b:=by
  intro id b _ h2
  refine Nat.le_of_not_lt fun hlt=>?_
  rw [(hout b hlt).1] at h2; cases h2
 have kf:∀ b us,frzB g1 w' w.heap.size b = some us→∀ o:Nat,(g.show g1 w.heap.size L (frzB g1 w' w.heap.size)).imm b o = us[o]?:=by
  intro b us h o
  have hge:=(hfz b us h).1
  have hnl:¬ b < w.heap.size:=by omega
  simp only [Gh.show,hnl,if_false,h]
 have hRR:=frz_R (fzn_of hb1 hbn kf) himm hF hR
 cases hF with
 | le _ _ hle hn =>
   have hO0:OwnV g1 w' 0 (fun k=>.slot 5 0 k) v0 u:=hle.ownV (d:=0) (RS.of hR) hO
   refine ⟨u,_,he,k1,hRR,fun i c x hc hx=>⟨fun k es e=>?_,fun id s l stp e=>?_⟩⟩
   ·rcases (hO0 i c x hc hx).1 k es e with h0 | ⟨b,o,c',cur,T,q1,_,q2,q3,q4,q5,q6⟩
    ·exact .inl h0
    ·have hge:w.heap.size≤b:=by
      refine Nat.le_of_not_lt fun hl=>?_
      rw [(hout b hl).1] at q2; cases q2
     have hnl:¬ b < w.heap.size:=by omega
     have hf0:frzB g1 w' w.heap.size b = none:=by simp [frzB,q2]
     exact .inr ⟨b,o,c',cur,T,q1,hge,by simp [Gh.show,hnl,q2],q3,q4,q5,fun j hj hj'=>by simp [Gh.show,hnl,hf0,q6 j hj hj']⟩
   ·subst e
    have:=nb_cells hn _ (List.mem_of_getElem? hc)
    cases this
 | bs id k off len cap cs hgt hl hcap hk =>
   exact ⟨_,_,he,k1,hRR,fun i c x hc hx=>by
    cases i with
    | succ i=>simp [AV.cells] at hc
    | zero=>simp [AV.cells] at hc; subst hc; exact Own.of_no trivial⟩
 | agg cs ds hl h hn=>exact ⟨_,_,he,k1,hRR,fun i c x hc hx=>Own.of_no (hn c (List.mem_of_getElem? hc))⟩
 | tup cs ds hl h =>
   exact ⟨_,_,he,k1,hRR,fun i c x hc hx=>by
    cases i with
    | succ i=>simp [AV.cells] at hc
    | zero=>simp [AV.cells] at hc; subst hc; exact Own.of_no trivial⟩
end
end Go.Fx
