/- An evaluator for resolved code, proved against the model: part 1. -/
import Derived.StillTail
import Derived.WalkKit
import Derived.ChangeKeysEq
import Derived.Laws.BytesString
import Derived.Lib.ConvBytes
import Derived.Lib.AppendStr
import Derived.Great.BuildSlice
import Derived.Deep.AppendSrc
namespace Go.Fx
open Go
section
variable {G:Type} {P:Program} {ops:Array Oper} {Le:G→World→G→World→Prop} {g0:G} {w0:World} {F:Nat→Value→G→World→Prop} {n:Nat}
def cL (P:Program) (Le:G→World→G→World→Prop) (g:G) (w:World) (f:Value→G→World→Prop):Result Next→Prop
 | .ok (.value u) w'=>∃ g',Le g w g' w'∧f u g' w'
 | .ok .skip w'=>∃ g',Le g w g' w'∧f undef g' w'
 | .ok (.enter h args) w'=>Calls P h args w' (fun e w''=>∃ u g',e = .returned u∧Le g w g' w''∧f u g' w'')
 | _=>False
def aQ (P:Program) (Le:G→World→G→World→Prop) (o:Oper) (a:Act) (g:G) (w:World) (f:Value→G→World→Prop):Prop :=
 cL P Le g w f ((execOp a.eval o).run P w)
def facts (ops:Array Oper) (F:Nat→Value→G→World→Prop) (o:Oper) (a:Act) (g:G) (w:World):Prop :=
 ∀ e ∈ o.after,Region.binds .any e = true→∀ ok d,ops[e.on]? = some ok→ok.dst = some d→d ∈ o.looksAt ops →
  a.tmps.getD d undef = undef∨F e.on (a.tmps.getD d undef) g w
def pb (ops:Array Oper) (Le:G→World→G→World→Prop) (g0:G) (w0:World) (F:Nat→Value→G→World→Prop) (listed:Array Bool) (a:Act) (g:G) (w:World):Prop :=
 Le g0 w0 g w∧∀ k,listed.getD k false = true→∀ o d,ops[k]? = some o→o.dst = some d →
  a.tmps.getD d undef = undef∨F k (a.tmps.getD d undef) g w
def pe (ops:Array Oper) (n:Nat):Bool :=
 (List.range n).all fun k=>(List.range n).all fun i=>i == k ||
  match ops[k]?,ops[i]? with
  | some x,some y=>(match x.dst with | some d=>y.dst != some d | none=>true)
  | _,_=>true
theorem jJ (h:pe ops n = true) {k i:Nat} {x y:Oper} {d:Nat} (hkn:k < n) (hin:i < n) (hx:ops[k]? = some x) (hy:ops[i]? = some y)
  (hd:x.dst = some d) (hne:i≠k):y.dst≠some d:=by
 have h1:=List.all_eq_true.1 h k (List.mem_range.2 hkn)
 have h2:=List.all_eq_true.1 h1 i (List.mem_range.2 hin)
 simp only [hx,hy,hd,Bool.or_eq_true,beq_iff_eq,hne,false_or] at h2
 simpa using h2
theorem gZ {a:Act} {dst:Option Tmp} {v:Value} {d:Nat} (h:dst≠some d):(a.put dst v).tmps.getD d undef = a.tmps.getD d undef:=by
 cases dst with
 | none=>rfl
 | some t =>
   have hne:t≠d:=fun e=>h (by rw [e])
   simp [Act.put,Array.getElem?_setIfInBounds_ne hne]
theorem qk (a:Act) (v:Value) (d:Nat):(a.put (some d) v).tmps.getD d undef = undef∨(a.put (some d) v).tmps.getD d undef = v:=by
 simp only [Act.put]
 by_cases h:d < a.tmps.size
 ·right; simp [h]
 ·left; simp [h]
theorem pf {i:Nat} {oi:Oper} {listed:Array Bool} {a:Act} {g:G} {w:World} (hi:ops[i]? = some oi) (hr:i ∈ Region.ready .any ops listed)
  (hJ:pb ops Le g0 w0 F listed a g w):facts ops F oi a g w:=by
 intro e he hb ok d ho hd _
 obtain ⟨_,o,ho',hall⟩:=mem_ready.1 hr
 have:o = oi:=Option.some.inj (ho'.symm.trans hi)
 subst this
 exact hJ.2 e.on (hall e he hb) ok d ho hd
def within (n:Nat) (listed:Array Bool):Prop:=∀ k,listed.getD k false = true→k < n
theorem dB {listed:Array Bool} {i k:Nat} (hl:(listed.setIfInBounds i true).getD k false = true) (hki:i≠k):listed.getD k false = true:=by
 rwa [getD_set_ne false hki] at hl
theorem qu {i:Nat} {oi:Oper} {listed:Array Bool} {a:Act} {v:Value} {g g':G} {w w':World} (hst:∀ k v g w g' w',Le g0 w0 g w→Le g w g' w'→F k v g w→F k v g' w') (htr:∀ a b c d e f,Le a b c d→Le c d e f→Le a b e f)
  (hal:pe ops n = true) (hwi:within n listed) (hin:i < n) (hi:ops[i]? = some oi) (hle:Le g w g' w') (hv:v = undef∨F i v g' w')
  (hJ:pb ops Le g0 w0 F listed a g w):pb ops Le g0 w0 F (listed.setIfInBounds i true) (a.put oi.dst v) g' w':=by
 refine ⟨htr _ _ _ _ _ _ hJ.1 hle,fun k hl o d ho hd=>?_⟩
 by_cases hki:i = k
 ·subst hki
  have:o = oi:=Option.some.inj (ho.symm.trans hi)
  subst this
  rw [hd]
  rcases qk a v d with h | h
  ·exact .inl h
  ·rw [h]; exact hv
 ·rw [gZ (jJ hal (hwi k (dB hl hki)) hin ho hi hd hki)]
  exact (hJ.2 k (dB hl hki) o d ho hd).imp id (hst _ _ _ _ _ _ hJ.1 hle)
theorem ru {o:Oper} {a:Act} {g:G} {w:World} {f:Value→G→World→Prop} {K:Act→World→Prop} {Q:Exit→Act→World→Prop}
  (hh:aQ P Le o a g w f) (hK:∀ v g' w',Le g w g' w'→f v g' w'→K (a.put o.dst v) w'):o.wp P a w K Q:=by
 unfold aQ at hh
 unfold Oper.wp
 generalize (execOp a.eval o).run P w = r at *
 cases r with
 | ok x w' =>
   cases x <;> simp only [cL] at hh <;> simp only [Oper.upon]
   case value u=>obtain ⟨g',h1,h2⟩:=hh; exact hK _ _ _ h1 h2
   case skip=>obtain ⟨g',h1,h2⟩:=hh; exact hK _ _ _ h1 h2
   case enter h args=>exact hh.mono fun e w'' ⟨u,g',he,hl,hf⟩=>by subst he; exact hK _ _ _ hl hf
 | halt x w'=>simp only [cL] at hh
theorem softAt_some {o:Oper} {a:Act} {g:G} {w:World} {f:Value→G→World→Prop} (h:aQ P Le o a g w f):∃ v g' w',Le g w g' w'∧f v g' w':=by
 unfold aQ at *
 generalize (execOp a.eval o).run P w = r at *
 cases r with
 | ok x w' =>
   cases x <;> simp only [cL] at h
   case value=>obtain ⟨g',h⟩:=h; exact ⟨_,g',_,h⟩
   case skip=>obtain ⟨g',h⟩:=h; exact ⟨_,g',_,h⟩
   case enter h' args =>
    obtain ⟨e1,w1,_,⟨u,g',_,hl,hf⟩,_⟩:=h []
    exact ⟨u,g',w1,hl,hf⟩
 | halt x w'=>simp only [cL] at h
def Gives (P:Program) (ops:Array Oper) (Le:G→World→G→World→Prop) (g0:G) (w0:World) (F:Nat→Value→G→World→Prop) (i:Nat) (o:Oper) (a:Act) (V:Value→Prop):Prop :=
 (Region.wanted o (yielded ops a.tmps) = true∧(∀ g w,Le g0 w0 g w→facts ops F o a g w→aQ P Le o a g w (F i))∧V = fun v=>∃ g w,Le g0 w0 g w∧F i v g w) ∨
 (Region.wanted o (yielded ops a.tmps) = false∧V = fun u=>u = undef)
theorem Gives.some {i:Nat} {o:Oper} {a:Act} {V:Value→Prop} {listed:Array Bool} {g:G} {w:World} (hst:∀ k v g w g' w',Le g0 w0 g w→Le g w g' w'→F k v g w→F k v g' w') (hrf:∀ g w,Le g w g w) (htr:∀ a b c d e f,Le a b c d→Le c d e f→Le a b e f) (hal:pe ops n = true)
  (hwi:within n listed) (hin:i < n) (hi:ops[i]? = some o) (hr:i ∈ Region.ready .any ops listed) (h:Gives P ops Le g0 w0 F i o a V) (hJ:pb ops Le g0 w0 F listed a g w) :
  ∃ v g' w',V v∧pb ops Le g0 w0 F (listed.setIfInBounds i true) (a.put o.dst v) g' w':=by
 have hf:=pf hi hr hJ
 rcases h with ⟨hw,hv,rfl⟩ | ⟨hw,rfl⟩
 ·obtain ⟨v,g',w',hle,hfv⟩:=softAt_some (hv g w hJ.1 hf)
  exact ⟨v,g',w',⟨g',w',htr _ _ _ _ _ _ hJ.1 hle,hfv⟩,qu hst htr hal hwi hin hi hle (.inr hfv) hJ⟩
 ·exact ⟨undef,g,w,rfl,qu hst htr hal hwi hin hi (hrf g w) (.inl rfl) hJ⟩
theorem ql (n:Nat):HeadInv .any ops n (Array.replicate ops.size false) :=
 ⟨by simp,fun j oj _ hl=>(by rw [getD_replicate_false] at hl; cases hl),fun t _ ht=>getD_in (by simpa using ht) (getD_replicate_false _ _)⟩
end
end Go.Fx
namespace Go.Fx
open Go
inductive AV where
 | any
 | lit (v:Value)
 | ptr (id off:Nat)
 | lptr (s off:Nat)
 | cptr (cells:List AV)
 | sl (own:Bool) (k:Nat) (es:List AV)
 | map (id:Nat)
 | fn (f:Fn) (first cap:List AV)
 | agg (cells:List AV)
 | tup (vs:List AV)
 | bs (id k off len cap:Nat)
 | mit (id:Option Nat) (since:Nat) (seen:List Nat) (stp:Nat)
 | yld (id:Nat)
 | ifc (t:Nat) (v:AV)
 | xs (k:Nat) (es:List AV)
instance:Inhabited AV:=⟨.any⟩
def flat:Value→Bool
 | .bool _ | .int _ _ | .float _ _ | .complex _ _ _ | .string _ | .pointer none | .slice none 0 0 | .map none | .nilFunc | .nilIface=>true
 | _=>false
def AV.cells:AV→List AV
 | .agg cs=>cs
 | v=>[v]
def AV.own1:AV→AV
 | .sl _ k es=>.sl false k es
 | .mit _ _ _ _=>.any
 | v=>v
def AV.own2:AV→AV
 | .agg cs=>.agg (cs.map AV.own1)
 | .sl _ k es=>.sl false k es
 | .mit _ _ _ _=>.any
 | v=>v
def AV.solid1:AV→Bool
 | .lit _ | .ptr _ _ | .cptr _ | .sl _ _ _ | .map _ | .fn _ _ _ | .bs _ _ _ _ _ | .ifc _ _=>true
 | _=>false
def AV.solid (v:AV):Bool:=v.cells.all AV.solid1
def AV.dis:AV→AV
 | .tup vs=>.tup (vs.map AV.own2)
 | .agg cs=>.agg (cs.map AV.own1)
 | .sl _ k es=>.sl false k es
 | .mit _ _ _ _=>.any
 | v=>v
def mkSl (k:Nat):List AV→AV
 | .ptr i o::r=>.xs k (.ptr i o::r)
 | es=>.sl true k es
inductive Res (A:Type) where
 | ok (a:A)
 | fail
 | req (b:Bool) (r:Res A)
def Res.bind {A B:Type}:Res A→(A→Res B)→Res B
 | .ok a,f=>f a
 | .fail,_=>.fail
 | .req b r,f=>.req b (r.bind f)
def Res.wp {A:Type}:Res A→(A→Prop)→Prop
 | .ok a,K=>K a
 | .fail,_=>False
 | .req b r,K=>b = true∧r.wp K
def Res.opt {A:Type}:Res A→Option A
 | .ok a=>some a
 | .fail=>none
 | .req b r=>if b then r.opt else none
def Res.ofOpt {A:Type}:Option A→Res A
 | some a=>.ok a
 | none=>.fail
theorem Res.wp_of_opt {A:Type} {r:Res A} {a:A} {K:A→Prop} (h:r.opt = some a) (hk:K a):r.wp K:=by
 induction r with
 | ok b=>simp only [Res.opt,Option.some.injEq] at h; subst h; exact hk
 | fail=>cases h
 | req b r ih =>
   simp only [Res.opt] at h
   split at h
   ·rename_i hb; exact ⟨hb,ih h⟩
   ·cases h
theorem Res.wp_mono {A:Type} {r:Res A} {K K':A→Prop} (h:r.wp K) (hk:∀ a,K a→K' a):r.wp K':=by
 induction r with
 | ok b=>exact hk _ h
 | fail=>exact h
 | req b r ih=>exact ⟨h.1,ih h.2⟩
theorem Res.wp_bind {A B:Type} {r:Res A} {f:A→Res B} {K:B→Prop}:(r.bind f).wp K↔r.wp (fun a=>(f a).wp K):=by
 induction r with
 | ok b=>exact Iff.rfl
 | fail=>exact Iff.rfl
 | req b r ih=>simp only [Res.bind,Res.wp,ih]
inductive Box where
 | cells (cs:List AV)
 | mp (es:List (AV×AV)) (bs:List Nat) (clk:Nat)
 | lp (r:Loop) (rs:List (Nat×AV))
def Box.obj:Box→Bool
 | .cells _=>false
 | _=>true
structure St where
 boxes:List (Option Box)
def St.get (st:St) (id:Nat):Option (List AV) :=
 match st.boxes[id]? with
 | some (some (.cells cs))=>some cs
 | _=>none
def St.getM (st:St) (id:Nat):Option (List (AV×AV)) :=
 match st.boxes[id]? with
 | some (some (.mp es _ _))=>some es
 | _=>none
def St.getB (st:St) (id:Nat):List Nat×Nat :=
 match st.boxes[id]? with
 | some (some (.mp _ bs clk))=>(bs,clk)
 | _=>([],0)
def St.set (st:St) (id:Nat) (cs:List AV):St:=⟨st.boxes.set id (some (.cells cs))⟩
def St.setM (st:St) (id:Nat) (es:List (AV×AV)) (bs:List Nat) (clk:Nat):St:=⟨st.boxes.set id (some (.mp es bs clk))⟩
def St.setL (st:St) (id:Nat) (r:Loop) (rs:List (Nat×AV)):St:=⟨st.boxes.set id (some (.lp r rs))⟩
def St.push (st:St) (b:Box):St:=⟨st.boxes++[some b]⟩
structure Fr where
 slots:List AV
 locs:List (Nat×List AV)
def look (s:Nat):List (Nat×List AV)→Option (List AV)
 | []=>none
 | (t,cs)::r=>if t = s then some cs else look s r
def aG:List AV→Nat→List AV→List AV
 | cs,_,[]=>cs
 | cs,i,v::vs=>aG (cs.set i v) (i + 1) vs
def Fr.ev (fr:Fr):Operand→AV
 | .tmp t=>fr.slots.getD t .any
 | .const v=>if flat v then .lit v else .any
 | .global _=>.any
 | .func f=>.fn (.func f) [] []
def Fr.put (fr:Fr) (d:Option Tmp) (v:AV):Fr :=
 match d with
 | some d=>{ fr with slots:=fr.slots.set d v }
 | none=>fr
section
variable (P:Program)
def aw (t:TypeId):Bool :=
 match P.underlying t with
 | some (.struct _) | some (.array _ _)=>true
 | _=>false
def szT (t:TypeId):Option Nat:=(P.info? t).map (·.size)
def g5 (t:TypeId) (cs:List AV):Res AV :=
 match szT P t,P.underlying t with
 | some n, some _ => if aw P t then .req (decide (n ≤ cs.length)) (.ok (.agg (cs.take n)))
   else match cs with
    | c::_=>.ok c
    | []=>.fail
 | _,_=>.fail
def jK (locs:List (Nat×List AV)) (st:St):AV→Res (List AV)
 | .lptr s off=>(Res.ofOpt (look s locs)).bind fun cs=>.ok (cs.drop off)
 | .ptr id off=>(Res.ofOpt (st.get id)).bind fun cs=>.ok (cs.drop off)
 | .cptr cs=>.ok cs
 | _=>.fail
def addA (v:AV) (n:Nat):Res AV :=
 match v with
 | .lptr s off=>.ok (.lptr s (off + n))
 | .ptr id off=>.ok (.ptr id (off + n))
 | .cptr cs=>.ok (.cptr (cs.drop n))
 | _=>.fail
def intBin (op:BinOp) (k:IntKind) (a b:Int):Res Value :=
 match op with
 | .add=>.ok (.int k (k.wrap (a + b)))
 | .sub=>.ok (.int k (k.wrap (a - b)))
 | .mul=>.ok (.int k (k.wrap (a * b)))
 | .quo=>.req (b != 0) (.ok (.int k (k.wrap (a.tdiv b))))
 | .rem=>.req (b != 0) (.ok (.int k (a.tmod b)))
 | .and=>.ok (.int k (k.wrap (BitVec.ofInt k.bits a &&& BitVec.ofInt k.bits b).toNat))
 | .or=>.ok (.int k (k.wrap (BitVec.ofInt k.bits a ||| BitVec.ofInt k.bits b).toNat))
 | .xor=>.ok (.int k (k.wrap (BitVec.ofInt k.bits a ^^^ BitVec.ofInt k.bits b).toNat))
 | .andNot=>.ok (.int k (k.wrap (BitVec.ofInt k.bits a &&& ~~~BitVec.ofInt k.bits b).toNat))
 | .eql=>.ok (.bool (a == b))
 | .neq=>.ok (.bool (a != b))
 | .lss=>.ok (.bool (a < b))
 | .leq=>.ok (.bool (a≤b))
 | .gtr=>.ok (.bool (a > b))
 | .geq=>.ok (.bool (a ≥ b))
 | _=>.fail
def mw (op:BinOp) (k:IntKind) (a b:Int):Res Value :=
 match op with
 | .shl=>.req (decide (0≤b)) (.ok (.int k (k.wrap (a * 2 ^ (min b.toNat k.bits)))))
 | .shr=>.req (decide (0≤b)) (.ok (.int k (a.fdiv (2 ^ (min b.toNat k.bits)))))
 | _=>.fail
def strBin (op:BinOp) (a b:ByteArray):Res Value :=
 match op with
 | .eql=>.ok (.bool (a.toList == b.toList))
 | .neq=>.ok (.bool !(a.toList == b.toList))
 | .lss=>.ok (.bool (Op.bytesLess a.toList b.toList))
 | .leq=>.ok (.bool (Op.bytesLess a.toList b.toList || a.toList == b.toList))
 | .gtr=>.ok (.bool !(Op.bytesLess a.toList b.toList || a.toList == b.toList))
 | .geq=>.ok (.bool !(Op.bytesLess a.toList b.toList))
 | .add=>.req (decide (a.size + b.size≤1000000000000)) (.ok (.string (a++b)))
 | _=>.fail
def df:TypeDesc→AV→Option Bool
 | .pointer _,.lit (.pointer none)=>some true
 | .pointer _,.ptr _ _=>some false
 | .pointer _,.lptr _ _=>some false
 | .pointer _,.cptr _=>some false
 | .slice _,.lit (.slice none 0 0)=>some true
 | .slice _,.sl _ _ es=>if es.isEmpty then none else some false
 | .slice _,.bs _ _ _ _ _=>some false
 | .map _ _,.lit (.map none)=>some true
 | .map _ _,.map _=>some false
 | .func _ _ _,.lit .nilFunc=>some true
 | .func _ _ _,.fn _ _ _=>some false
 | _,_=>none
def g6 (d:TypeDesc) (x y:AV):Option Bool :=
 match df d x,df d y with
 | some true,some b=>some b
 | some false,some true=>some false
 | _,_=>none
def andA (r:Res Bool) (s:Res Bool):Res Bool:=r.bind fun a=>s.bind fun b=>.ok (a && b)
def rz:List AV→List AV→Res Bool
 | [.lit (.bool a)],[.lit (.bool b)]=>.ok (a == b)
 | _,_=>.fail
def rA:List AV→List AV→Res Bool
 | [.lit (.int k a)],[.lit (.int k' b)]=>if k = k' then .ok (a == b) else .fail
 | _,_=>.fail
def eqStrA:List AV→List AV→Res Bool
 | [.lit (.string a)],[.lit (.string b)]=>.ok (a.toList == b.toList)
 | _,_=>.fail
def eqA:(depth:Nat)→TypeId→List AV→List AV→Res Bool
 | 0,_,_,_=>.fail
 | d + 1, t, xs, ys =>
   match P.underlying t with
   | some .bool=>rz xs ys
   | some (.int _)=>rA xs ys
   | some .string=>eqStrA xs ys
   | some (.struct fields) =>
     if P.stoodInHeld t then .fail else
     fields.toList.foldr (fun f r => if f.name ≠ "_" then
       (Res.ofOpt (szT P f.type)).bind fun n=>andA (eqA d f.type ((xs.drop f.offset).take n) ((ys.drop f.offset).take n)) r
      else r) (.ok true)
   | _=>.fail
def binA (op:BinOp) (t:TypeId) (x y:AV):Res AV :=
 match op,x,y with
 | .shl,.lit (.int k a),.lit (.int _ b)=>(mw .shl k a b).bind fun v=>.ok (.lit v)
 | .shr,.lit (.int k a),.lit (.int _ b)=>(mw .shr k a b).bind fun v=>.ok (.lit v)
 | op,.lit (.int k a),.lit (.int k' b)=>if k = k' then (intBin op k a b).bind fun v=>.ok (.lit v) else .fail
 | op,.lit (.string a),.lit (.string b)=>(strBin op a b).bind fun v=>.ok (.lit v)
 | .eql,.lit (.bool a),.lit (.bool b)=>match P.underlying t with | some .bool=>.ok (.lit (.bool (a == b))) | _=>.fail
 | .neq,.lit (.bool a),.lit (.bool b)=>match P.underlying t with | some .bool=>.ok (.lit (.bool !(a == b))) | _=>.fail
 | .eql,.agg xs,.agg ys=>if (P.eqGuardType P.depth t || !aw P t) = true then .fail else (eqA P 9 t xs ys).bind fun b=>.ok (.lit (.bool b))
 | .neq,.agg xs,.agg ys=>if (P.eqGuardType P.depth t || !aw P t) = true then .fail else (eqA P 9 t xs ys).bind fun b=>.ok (.lit (.bool !b))
 | .eql, x, y => match P.underlying t with
   | some dd=>(Res.ofOpt (g6 dd x y)).bind fun b=>.ok (.lit (.bool b))
   | none=>.fail
 | .neq, x, y => match P.underlying t with
   | some dd=>(Res.ofOpt (g6 dd x y)).bind fun b=>.ok (.lit (.bool !b))
   | none=>.fail
 | _,_,_=>.fail
def ofVal:Value→AV
 | .agg cs=>if cs.all flat then .agg (cs.toList.map .lit) else .any
 | v=>if flat v then .lit v else .any
def eR (t:TypeId):Res AV :=
 match (P.info? t).bind (·.zero) with
 | some z=>(match ofVal z with | .any=>.fail | v=>.ok v)
 | none=>.fail
def byteA:AV→Option UInt8
 | .lit (.int .u8 n)=>some (UInt8.ofNat n.toNat)
 | _=>none
def ng (es:List AV):Option ByteArray:=(es.mapM byteA).map fun l=>⟨l.toArray⟩
def dC (b:UInt8):AV:=.lit (.int .u8 b.toNat)
def grp (k:Nat):Nat→List AV→List AV
 | 0,_=>[]
 | n + 1,cs=>(if k = 1 then cs.getD 0 .any else .agg (cs.take k))::grp k n (cs.drop k)
def gf (st:St) (id k off len:Nat):Res (List AV) :=
 (Res.ofOpt (st.get id)).bind fun cs=>.req (decide (off + len * k≤cs.length)) (.ok (grp k len (cs.drop off)))
def g7 (st:St) (src dst:TypeId) (x:AV):Res AV :=
 match P.underlying src,P.underlying dst,x with
 | some _,some (.int k),.lit (.int _ n)=>.ok (.lit (.int k (k.wrap n)))
 | some _,some .string,.lit (.string s)=>.ok (.lit (.string s))
 | some (.slice e), some .string, .lit (.slice none 0 0) => match P.underlying e with
   | some (.int .u8)=>.ok (.lit (.string .empty))
   | _=>.fail
 | some (.slice e), some .string, .sl _ k es => match P.underlying e with
   | some (.int .u8)=>if k = 1 then (Res.ofOpt (ng es)).bind fun s=>.ok (.lit (.string s)) else .fail
   | _=>.fail
 | some (.slice e), some .string, .bs id k off len _ => match P.underlying e with
   | some (.int .u8)=>if k = 1 then (gf st id 1 off len).bind fun es=>(Res.ofOpt (ng es)).bind fun s=>.ok (.lit (.string s)) else .fail
   | _=>.fail
 | some _, some (.slice e), .lit (.string s) => match P.underlying e with
   | some (.int .u8)=>if szT P e = some 1 then .req (decide (s.size≤1000000000000)) (.ok (.sl false 1 (s.data.toList.map dC))) else .fail
   | _=>.fail
 | _,_,_=>.fail
def unA (op:UnOp) (x:AV):Res AV :=
 match op,x with
 | .not,.lit (.bool b)=>.ok (.lit (.bool !b))
 | .neg,.lit (.int k n)=>.ok (.lit (.int k (k.wrap (0 - n))))
 | .xor,.lit (.int k n)=>.ok (.lit (.int k (k.wrap (BitVec.ofInt k.bits (if k.signed then -1 else k.max) ^^^ BitVec.ofInt k.bits n).toNat)))
 | _,_=>.fail
def g8 (t:TypeId) (i:Nat):Option Field :=
 match P.underlying t with
 | some (.struct fs)=>fs[i]?
 | _=>none
def eS (fields:Array Field):Option (List (Nat×Nat)):=fields.toList.mapM fun (f:Field)=>(P.info? f.type).map fun i=>(f.offset,i.size)
def ixA (v:AV) (n:Nat):Res Nat :=
 match v with
 | .lit (.int _ i)=>.req (decide (0≤i∧i < n)) (.ok i.toNat)
 | _=>.fail
def ixTo (v:Option AV) (dflt:Nat) (n:Nat):Res Nat :=
 match v with
 | none=>.ok dflt
 | some (.lit (.int _ i))=>.req (decide (0≤i∧i≤n)) (.ok i.toNat)
 | _=>.fail
def sl3 (mx hi lo:Option AV) (len cap:Nat) (K:Nat→Nat→Nat→Res AV):Res AV :=
 match mx with
 | none=>(ixTo hi len cap).bind fun h=>(ixTo lo 0 h).bind fun l=>K l h cap
 | some mx => match hi with
   | none=>.fail
   | some hi=>(ixTo (some mx) 0 cap).bind fun m=>(ixTo (some hi) 0 m).bind fun h=>(ixTo lo 0 h).bind fun l=>K l h m
def eT (k:Nat):List (Nat×AV)→List AV→Res (List AV)
 | [],es=>.ok es
 | (i,v)::r,es=>if i < es.length∧v.cells.length = k∧v.solid = true then eT k r (es.set i v.dis) else .fail
def br (place:Nat→Option (Nat×Nat)):List (Nat×AV)→List AV→Res (List AV)
 | [],cs=>.ok cs
 | (i, v) :: r, cs =>
   match place i with
   | some (off,size)=>if v.cells.length = size∧off + size≤cs.length∧v.solid = true then br place r (aG cs off v.dis.cells) else .fail
   | none=>.fail
def fM (n bytes:Nat):Bool:=decide (n * bytes≤140737488355328∧n≤1000000000000000)
def srcA (st:St) (k:Nat) (x:AV):Res (List AV) :=
 match x with
 | .lit (.slice none 0 0)=>.ok []
 | .sl _ k' es=>if k = k' then .ok es else .fail
 | .lit (.string s)=>if k = 1 then .ok (s.data.toList.map dC) else .fail
 | .bs id k' off len _=>if k = k' then gf st id k off len else .fail
 | .xs k' es=>if k = k' then .ok es else .fail
 | _=>.fail
def aR:List AV→List AV→Option Bool
 | [],[]=>some true
 | .lit (.int k a)::r,.lit (.int k' b)::s=>if k = k' then (aR r s).map fun q=>(a == b) && q else none
 | _,_=>none
def bS:AV→AV→Option Bool
 | .lit (.int k a),.lit (.int k' b)=>if k = k' then some (a == b) else none
 | .lit (.string a),.lit (.string b)=>some (a == b)
 | .lit (.bool a),.lit (.bool b)=>some (a == b)
 | .agg xs,.agg ys=>aR xs ys
 | _,_=>none
def bU (key:AV):List (AV×AV)→Nat→Res (Option (Nat×AV))
 | [],_=>.ok none
 | (k, v) :: r, i =>
   match bS key k with
   | some b=>if b then .ok (some (i,v)) else bU key r (i + 1)
   | none=>.fail
def pg:AV→Bool
 | .lit (.int _ _)=>true
 | _=>false
def nh (G:TypeId→Option Nat):List Field→Nat→Option Nat
 | [],o=>some o
 | f :: fs, o => match szT P f.type, G f.type with
   | some n, some n' => if f.name ≠ "_" ∧ f.offset = o ∧ n = n' then nh G fs (o + n) else none
   | _,_=>none
def fo:Nat→TypeId→Option Nat
 | 0,_=>none
 | d + 1, t => match P.underlying t with
   | some (.int _)=>some 1
   | some (.struct fields)=>if P.stoodInHeld t then none else nh P (fo d) fields.toList 0
   | _=>none
def dD (t:TypeId) (v:AV):Bool :=
 match P.underlying t,v with
 | some (.int k),.lit (.int k' _)=>k == k'
 | some .string,.lit (.string _)=>true
 | some .bool,.lit (.bool _)=>true
 | some (.struct _),.agg cs=>fo P 9 t == some cs.length && cs.all pg
 | _,_=>false
def fp (t:TypeId) (st:St) (m key:AV) (commaOk:Bool):Res AV :=
 match P.underlying t with
 | some (.map kt et) =>
   if dD P kt key then
    (match m with
     | .lit (.map none)=>Res.ok []
     | .map id=>Res.ofOpt (st.getM id)
     | _=>.fail).bind fun es =>
    (bU key es 0).bind fun r =>
    match r with
    | some (_,v)=>.ok (if commaOk then .tup [v.dis,.lit (.bool true)] else v.dis)
    | none=>(eR P et).bind fun z=>.ok (if commaOk then .tup [z,.lit (.bool false)] else z)
   else .fail
 | _=>.fail
def lenA (t:TypeId) (st:St) (x:AV):Res AV :=
 match P.underlying t,x with
 | some .string,.lit (.string s)=>.ok (.lit (.int .i64 s.size))
 | some (.slice _),.lit (.slice none 0 0)=>.ok (.lit (.int .i64 0))
 | some (.slice _),.sl _ _ es=>.ok (.lit (.int .i64 es.length))
 | some (.slice _),.bs _ _ _ len _=>.ok (.lit (.int .i64 len))
 | some (.map _ _),.lit (.map none)=>.ok (.lit (.int .i64 0))
 | some (.map _ _),.map id=>(Res.ofOpt (st.getM id)).bind fun es=>.ok (.lit (.int .i64 es.length))
 | some (.array n _),_=>.ok (.lit (.int .i64 n))
 | _,_=>.fail
def srcT:TypeDesc→Bool
 | .slice _ | .string=>true
 | _=>false
def dq (st:St) (t t2:TypeId) (base x:AV):Res AV :=
 match P.underlying t,P.underlying t2 with
 | some (.slice e), some dd =>
   match P.info? e with
   | some i =>
     if srcT dd = true∧0 < i.size∧(i.zero.map (·.cells.size)) = some i.size then
      (srcA st i.size x).bind fun new =>
      match base with
      | .lit (.slice none 0 0) =>
        if new.isEmpty then .ok (.lit (.slice none 0 0))
        else .req (fM new.length i.bytes) (.ok (.sl true i.size (new.map AV.dis)))
      | .xs k es =>
        if k = i.size∧new.isEmpty = false then .req (fM (es.length + new.length) i.bytes) (.ok (.sl true i.size (es++new.map AV.dis))) else .fail
      | _=>.fail
     else .fail
   | none=>.fail
 | _,_=>.fail
def bh (lt:Bool):AV→AV→Res AV
 | .lit (.int k a),.lit (.int k' b)=>if k = k' then .ok (.lit (.int k (if lt then (if b < a then b else a) else (if a < b then b else a)))) else .fail
 | _,_=>.fail
def popR (o:Op) (fr:Fr) (st:St):Res AV :=
 match o with
 | .move x | .assign x=>.ok (fr.ev x).dis
 | .pick c a b => match fr.ev c with
   | .lit (.bool t)=>.ok (if t then (fr.ev a).dis else (fr.ev b).dis)
   | _=>.fail
 | .binOp op t x y _=>binA P op t (fr.ev x) (fr.ev y)
 | .unOp op _ x=>unA op (fr.ev x)
 | .convert s d x=>g7 P st s d (fr.ev x)
 | .extract x i => match fr.ev x with
   | .tup vs=>(Res.ofOpt vs[i]?).bind fun v=>.ok v.dis
   | _=>.fail
 | .field t x i => match g8 P t i, fr.ev x with
   | some f,.agg cs=>(g5 P f.type (cs.drop f.offset)).bind fun v=>.ok v.dis
   | _,_=>.fail
 | .fieldAddr t x i => match g8 P t i with
   | some f=>if (szT P f.type).getD 0 = 0 then .fail else addA (fr.ev x) f.offset
   | none=>.fail
 | .indexAddr t x i => match P.underlying t, fr.ev x with
   | some (.slice e),.sl _ k es=>if szT P e = some k then (ixA (fr.ev i) es.length).bind fun j=>.ok (.cptr (es.getD j .any).cells) else .fail
   | some (.slice e),.bs id k off len _=>if szT P e = some k then (ixA (fr.ev i) len).bind fun j=>.ok (.ptr id (off + j * k)) else .fail
   | some (.array n e),p=>(ixA (fr.ev i) n).bind fun j=>(Res.ofOpt (szT P e)).bind fun k=>addA p (j * k)
   | _,_=>.fail
 | .index t x i => match P.underlying t, fr.ev x with
   | some .string,.lit (.string s)=>(ixA (fr.ev i) s.size).bind fun j=>.ok (.lit (.int .u8 (s.data.getD j 0).toNat))
   | some (.array n e),.agg cs=>(ixA (fr.ev i) n).bind fun j=>(Res.ofOpt (szT P e)).bind fun k=>(g5 P e (cs.drop (j * k))).bind fun v=>.ok v.dis
   | _,_=>.fail
 | .load t a=>(jK fr.locs st (fr.ev a)).bind fun cs=>(g5 P t cs).bind fun v=>.ok v.dis
 | .nilCheck x => match fr.ev x with
   | .ptr a b=>.ok (.ptr a b)
   | .lptr a b=>.ok (.lptr a b)
   | .cptr cs=>.ok (.cptr cs)
   | _=>.fail
 | .slice t x lo hi mx => match P.underlying t, fr.ev x, mx with
   | some (.slice e),.sl _ k es,none=>if szT P e = some k then
     (ixTo (hi.map fr.ev) es.length es.length).bind fun h=>(ixTo (lo.map fr.ev) 0 h).bind fun l=>.ok (.sl false k ((es.take h).drop l)) else .fail
   | some (.slice e),.lit (.slice none 0 0),none=>if (szT P e).isSome = true then (ixTo (hi.map fr.ev) 0 0).bind fun h=>(ixTo (lo.map fr.ev) 0 h).bind fun _=>.ok (.lit (.slice none 0 0)) else .fail
   | some (.slice e),.bs id k off len cap,mx=>if szT P e = some k then
     sl3 (mx.map fr.ev) (hi.map fr.ev) (lo.map fr.ev) len cap fun l h m=>if m = l then (if h = l then .ok (.sl true k []) else .fail) else .ok (.bs id k (off + l * k) (h - l) (m - l)) else .fail
   | some (.slice e),.sl _ k es,some mx=>if szT P e = some k then
     sl3 (some (fr.ev mx)) (hi.map fr.ev) (lo.map fr.ev) es.length es.length fun l h m=>if m = l then .ok (.sl true k []) else .ok (.sl false k ((es.take h).drop l)) else .fail
   | some .string,.lit (.string s),none=>(ixTo (hi.map fr.ev) s.size s.size).bind fun h=>(ixTo (lo.map fr.ev) 0 h).bind fun l=>.ok (.lit (.string (s.extract l h)))
   | _,_,_=>.fail
 | .buildSlice t len parts => match P.underlying t with
   | some (.slice e) => match szT P e with
     | some k=>if 0 < k∧len * k≤1000000 then
       (eR P e).bind fun z=>if z.cells.length = k then (eT k (parts.toList.map fun p=>(p.1,fr.ev p.2)) (List.replicate len z)).bind fun es=>.ok (mkSl k es) else .fail
      else .fail
     | none=>.fail
   | _=>.fail
 | .build t parts => match P.underlying t with
   | some (.struct fields)=>(Res.ofOpt (eS P fields)).bind fun places =>
     (eR P t).bind fun z=>(br (fun i=>places[i]?) (parts.toList.map fun p=>(p.1,fr.ev p.2)) z.cells).bind fun cs=>.ok (.agg cs)
   | some (.array _ e)=>(eR P t).bind fun z=>(Res.ofOpt (szT P e)).bind fun k=>(br (fun i=>some (i * k,k)) (parts.toList.map fun p=>(p.1,fr.ev p.2)) z.cells).bind fun cs=>.ok (.agg cs)
   | _=>.fail
 | .lookup t m k ok=>fp P t st (fr.ev m) (fr.ev k) ok
 | .makeInterface t x => match P.underlying t with
   | some (.interface _)=>.fail
   | some _=>if (fr.ev x).solid1 = true then .ok (.ifc t (fr.ev x).dis) else .fail
   | none=>.fail
 | .typeAssert x _ t false => match P.underlying t, fr.ev x with
   | some (.interface _),_=>.fail
   | some _,.ifc t' v=>if t' = t then .ok v.dis else .fail
   | _,_=>.fail
 | .makeFunc f first cap=>if ((first.toList.map fr.ev)++(cap.toList.map fr.ev)).all AV.solid1 = true then .ok (.fn f (first.toList.map fr.ev) (cap.toList.map fr.ev)) else .fail
 | .call { callee := .builtin b, args, argTypes } => match b, args.toList, argTypes.toList with
   | .len,[x],[t]=>lenA P t st (fr.ev x)
   | .min,[x,y],_=>bh true (fr.ev x) (fr.ev y)
   | .max,[x,y],_=>bh false (fr.ev x) (fr.ev y)
   | .append,[x,y],[t,t2]=>dq P st t t2 (fr.ev x) (fr.ev y)
   | _,_,_=>.fail
 | _=>.fail
end
end Go.Fx
namespace Go.Fx
open Go Go.RowKit
inductive Loc where
 | slot (d s k:Nat)
 | lbox (d s k:Nat)
 | box (id k:Nat)
 deriving DecidableEq
inductive Cls where
 | box (id:Nat)
 | loc (d s:Nat)
 | arr (L:Loc)
structure Gh where
 base:Nat
 imm:Nat→Nat→Option Value
 bx:Nat→Option Nat
 lb:Nat→Nat→Option Nat
 cls:Nat→Option Cls
inductive R (g:Gh):AV→Value→Prop where
 | any (u:Value):R g .any u
 | lit (v:Value) (h:flat v = true):R g (.lit v) v
 | ptr (id off b:Nat) (h:g.bx id = some b):R g (.ptr id off) (.pointer (some ⟨b,off,none⟩))
 | cptr (cs:List AV) (us:Nat→Value) (b o:Nat) (h1:∀ (i:Nat) (c:AV),cs[i]? = some c→g.imm b (o + i) = some (us i)) (h2:∀ (i:Nat) (c:AV),cs[i]? = some c→R g c (us i)) :
   R g (.cptr cs) (.pointer (some ⟨b,o,none⟩))
 | sl (own:Bool) (k:Nat) (es:List AV) (us:Nat→Value) (b o c:Nat) (hc:es.length≤c) (hk:∀ e ∈ es,e.cells.length = k)
   (h1:∀ (i:Nat) (x:AV),(es.flatMap AV.cells)[i]? = some x→g.imm b (o + i) = some (us i)) (h2:∀ (i:Nat) (x:AV),(es.flatMap AV.cells)[i]? = some x→R g x (us i))
   (h3:∀ (i:Nat) (x:AV),(es.flatMap AV.cells)[i]? = some x→(us i).oneCell' = true) :
   R g (.sl own k es) (.slice (some ⟨b,o,none⟩) es.length c)
 | slE (own:Bool) (k:Nat) (a:Addr) (c:Nat):R g (.sl own k []) (.slice (some a) 0 c)
 | slN (own:Bool) (k:Nat):R g (.sl own k []) (.slice none 0 0)
 | bs (id k off len cap b:Nat) (h:g.bx id = some b):R g (.bs id k off len cap) (.slice (some ⟨b,off,none⟩) len cap)
 | mit (id:Option Nat) (since:Nat) (seen:List Nat) (stp b:Nat):R g (.mit id since seen stp) (.pointer (some ⟨b,0,none⟩))
 | yld (id b:Nat) (h:g.bx id = some b):R g (.yld id) (.func (.yield b) #[] #[])
 | ifc (t:Nat) (v:AV) (u:Value) (h:R g v u):R g (.ifc t v) (.iface t u)
 | xs (k:Nat) (es:List AV) (a:Addr) (h:R g (.sl false k es) (.slice (some a) es.length es.length)):R g (.xs k es) (.slice (some a) es.length es.length)
 | map (id b:Nat) (h:g.bx id = some b):R g (.map id) (.map (some b))
 | fn (f:Fn) (fs cs:List AV) (us vs:Array Value) (hu:us.size = fs.length) (hv:vs.size = cs.length)
   (h1:∀ (i:Nat) (x:AV) (u:Value),fs[i]? = some x→us[i]? = some u→R g x u) (h2:∀ (i:Nat) (x:AV) (u:Value),cs[i]? = some x→vs[i]? = some u→R g x u):R g (.fn f fs cs) (.func f us vs)
 | agg (cs:List AV) (us:Array Value) (hu:us.size = cs.length) (h:∀ (i:Nat) (x:AV) (u:Value),cs[i]? = some x→us[i]? = some u→R g x u):R g (.agg cs) (.agg us)
 | tup (cs:List AV) (us:Array Value) (hu:us.size = cs.length) (h:∀ (i:Nat) (x:AV) (u:Value),cs[i]? = some x→us[i]? = some u→R g x u):R g (.tup cs) (.tuple us)
structure GhLe (g g':Gh):Prop where
 imm:∀ b o u,g.imm b o = some u→g'.imm b o = some u
 bx:∀ id b,g.bx id = some b→g'.bx id = some b
theorem GhLe.refl (g:Gh):GhLe g g:=⟨fun _ _ _ h=>h,fun _ _ h=>h⟩
theorem R.mono {g g':Gh} (hg:GhLe g g') {v:AV} {u:Value} (h:R g v u):R g' v u:=by
 induction h with
 | any u=>exact .any u
 | lit v h=>exact .lit v h
 | ptr id off b h=>exact .ptr id off b (hg.bx _ _ h)
 | cptr cs us b o h1 _ ih=>exact .cptr cs us b o (fun i c hc=>hg.imm _ _ _ (h1 i c hc)) ih
 | sl own k es us b o c hc hk h1 _ h3 ih=>exact .sl own k es us b o c hc hk (fun i x hx=>hg.imm _ _ _ (h1 i x hx)) ih h3
 | slE own k a c=>exact .slE own k a c
 | slN own k=>exact .slN own k
 | bs id k off len cap b h=>exact .bs id k off len cap b (hg.bx _ _ h)
 | mit id s l p u=>exact .mit id s l p u
 | yld id b h=>exact .yld id b (hg.bx _ _ h)
 | ifc t v u _ ih=>exact .ifc t v u ih
 | xs k es a _ ih=>exact .xs k es a ih
 | map id b h=>exact .map id b (hg.bx _ _ h)
 | fn f fs cs us vs hu hv _ _ ih1 ih2=>exact .fn f fs cs us vs hu hv ih1 ih2
 | agg cs us hu _ ih=>exact .agg cs us hu ih
 | tup cs us hu _ ih=>exact .tup cs us hu ih
theorem R.own {g:Gh} {own own':Bool} {k:Nat} {es:List AV} {u:Value} (h:R g (.sl own k es) u):R g (.sl own' k es) u:=by
 cases h with
 | sl _ _ _ us b o c hc hk h1 h2 h3=>exact .sl own' k es us b o c hc hk h1 h2 h3
 | slE _ _ a c=>exact .slE own' k a c
 | slN _ _=>exact .slN own' k
theorem R.own1 {g:Gh} {v:AV} {u:Value} (h:R g v u):R g v.own1 u:=by
 cases v <;> simp only [AV.own1] <;> first | exact h | exact h.own | exact .any _
theorem R.own2 {g:Gh} {v:AV} {u:Value} (h:R g v u):R g v.own2 u:=by
 cases v <;> simp only [AV.own2] <;> first | exact h | exact h.own | exact .any _ | skip
 cases h with
 | agg cs us hu h =>
   refine .agg _ us (by simpa using hu) fun i x u hx hxu=>?_
   simp only [List.getElem?_map,Option.map_eq_some_iff] at hx
   obtain ⟨y,hy,rfl⟩:=hx
   exact (h i y u hy hxu).own1
theorem R.dis {g:Gh} {v:AV} {u:Value} (h:R g v u):R g v.dis u:=by
 cases v <;> simp only [AV.dis] <;> first | exact h | exact h.own | exact .any _ | skip
 ·exact h.own2
 ·cases h with
  | tup cs us hu h =>
    refine .tup _ us (by simpa using hu) fun i x u hx hxu=>?_
    simp only [List.getElem?_map,Option.map_eq_some_iff] at hx
    obtain ⟨y,hy,rfl⟩:=hx
    exact (h i y u hy hxu).own2
def RS (g:Gh) (d:Nat) (v:AV) (u:Value):Prop :=
 match v with
 | .lptr s off=>∃ b,g.lb d s = some b∧u = .pointer (some ⟨b,off,none⟩)
 | _=>R g v u
theorem R.undef (g:Gh):R g (.tup []) undef:=.tup [] #[] rfl fun i x u hx=>by simp at hx
theorem RS.tup_inv {g:Gh} {d:Nat} {cs:List AV} {u:Value} (h:RS g d (.tup cs) u):∃ us,u = .tuple us:=by
 cases h with
 | tup _ us _ _=>exact ⟨us,rfl⟩
theorem RS.of {g:Gh} {d:Nat} {v:AV} {u:Value} (h:R g v u):RS g d v u:=by
 cases h with
 | any u=>exact .any u
 | lit _ h=>exact .lit _ h
 | ptr id off b h=>exact .ptr id off b h
 | cptr cs us b o h1 h2=>exact .cptr cs us b o h1 h2
 | sl own k es us b o c hc hk h1 h2 h3=>exact .sl own k es us b o c hc hk h1 h2 h3
 | slE own k a c=>exact .slE own k a c
 | slN own k=>exact .slN own k
 | bs id k off len cap b h=>exact .bs id k off len cap b h
 | mit id s l p u=>exact .mit id s l p u
 | yld id b h=>exact .yld id b h
 | ifc t v u h=>exact .ifc t v u h
 | xs k es a h=>exact .xs k es a h
 | map id b h=>exact .map id b h
 | fn f fs cs us vs hu hv h1 h2=>exact .fn f fs cs us vs hu hv h1 h2
 | agg cs us hu h=>exact .agg cs us hu h
 | tup cs us hu h=>exact .tup cs us hu h
theorem RS.r {g:Gh} {d:Nat} {v:AV} {u:Value} (h:RS g d v u) (hv:∀ s o,v≠.lptr s o):R g v u:=by
 cases v <;> first | exact h | exact absurd rfl (hv _ _)
theorem RS.dis {g:Gh} {d:Nat} {v:AV} {u:Value} (h:RS g d v u):RS g d v.dis u:=by
 cases v with
 | lptr s o=>exact h
 | _=>exact RS.of (R.dis (v:=_) h)
structure Good (g:Gh) (w:World):Prop where
 imm:∀ b o u,g.imm b o = some u→w.cell? ⟨b,o,none⟩ = some u
 immc:∀ b o u,g.imm b o = some u→g.cls b = none∨∃ L,g.cls b = some (.arr L)
 cls:∀ b c,g.cls b = some c→g.base≤b∧b < w.heap.size
 base:g.base≤w.heap.size
theorem Good.lt {g:Gh} {w:World} (h:Good g w) {b o:Nat} {u:Value} (hi:g.imm b o = some u):b < w.heap.size:=by
 have:=h.imm b o u hi
 unfold World.cell? at this
 cases hh:w.heap[b]? with
 | none=>simp [hh] at this
 | some x=>exact (Array.getElem?_eq_some_iff.1 hh).1
def OwnS (g:Gh) (w:World) (N:Nat) (L:Loc) (a:AV) (u:Value):Prop :=
 ∀ k es,a = .sl true k es→(es = []∧∃ x,u = .slice x 0 0)∨∃ b o c cur T,u = .slice (some ⟨b,o,none⟩) es.length c∧N≤b∧g.cls b = some (.arr L)∧w.heap[b]? = some (.cells cur T (0,0))∧o + c * k≤cur.size ∧
  es.length≤c∧∀ j,o + es.length * k≤j→j < o + c * k→g.imm b j = none
def ItM (g:Gh) (id:Option Nat) (mb:Option Nat):Prop :=
 match id with
 | none=>mb = none
 | some id=>∃ r,mb = some r∧g.bx id = some r
def itObj (id:Option Nat) (since:Nat) (seen:List Nat) (mb:Option Nat) (stepped:Nat):Obj :=
 match id,since with
 | none,1=>.stringIter ⟨(seen.map UInt8.ofNat).toArray⟩ (stepped - 1)
 | _,_=>.mapIter mb since seen.toArray stepped
def OwnI (g:Gh) (w:World) (N:Nat) (L:Loc) (a:AV) (u:Value):Prop :=
 ∀ id since seen stp,a = .mit id since seen stp→∃ b mb stepped,u = .pointer (some ⟨b,0,none⟩)∧N≤b∧g.cls b = some (.arr L)∧w.heap[b]? = some (itObj id since seen mb stepped)∧(since≤stepped∧stepped = stp)∧ItM g id mb
def Own (g:Gh) (w:World) (N:Nat) (L:Loc) (a:AV) (u:Value):Prop:=OwnS g w N L a u∧OwnI g w N L a u
theorem ItM.mono {g g':Gh} {id mb:Option Nat} (hb:∀ i b,g.bx i = some b→g'.bx i = some b) (h:ItM g id mb):ItM g' id mb:=by
 cases id with
 | none=>exact h
 | some id=>obtain ⟨r,h1,h2⟩:=h; exact ⟨r,h1,hb _ _ h2⟩
theorem OwnI.of_not {g:Gh} {w:World} {N:Nat} {L:Loc} {a:AV} {u:Value} (h:∀ id s l p,a≠.mit id s l p):OwnI g w N L a u:=fun id s l stp e=>absurd e (h id s l stp)
theorem Own.of_sl {g:Gh} {w:World} {N:Nat} {L:Loc} {o:Bool} {k:Nat} {es:List AV} {u:Value} (h:OwnS g w N L (.sl o k es) u):Own g w N L (.sl o k es) u:=⟨h,OwnI.of_not fun _ _ _ _ e=>by cases e⟩
def OwnV (g:Gh) (w:World) (N:Nat) (mk:Nat→Loc) (a:AV) (u:Value):Prop :=
 ∀ (i:Nat) (c:AV) (x:Value),a.cells[i]? = some c→u.cells[i]? = some x→Own g w N (mk i) c x
def AV.noOwn:AV→Prop
 | .sl true _ _=>False
 | .mit _ _ _ _=>False
 | _=>True
theorem Own.of_no {g:Gh} {w:World} {N:Nat} {L:Loc} {a:AV} {u:Value} (h:a.noOwn):Own g w N L a u:=by
 refine ⟨fun k es e=>?_,fun id s l stp e=>?_⟩
 ·subst e; exact h.elim
 ·subst e; exact h.elim
theorem jL (a:AV):a.own1.noOwn:=by
 cases a <;> simp [AV.own1,AV.noOwn]
theorem aq (a:AV):∀ (i:Nat) (c:AV),a.dis.cells[i]? = some c→c.noOwn:=by
 intro i c h
 cases a with
 | agg cs =>
   simp only [AV.dis,AV.cells,List.getElem?_map,Option.map_eq_some_iff] at h
   obtain ⟨y,_,rfl⟩:=h
   exact jL y
 | tup vs =>
   simp only [AV.dis,AV.cells] at h
   have:c = .tup (vs.map AV.own2):=by cases i <;> simp_all
   subst this; trivial
 | sl o k es =>
   simp only [AV.dis,AV.cells] at h
   have:c = .sl false k es:=by cases i <;> simp_all
   subst this; trivial
 | mit id s l p =>
   simp only [AV.dis,AV.cells] at h
   have:c = .any:=by cases i <;> simp_all
   subst this; trivial
 | _ =>
   simp only [AV.dis,AV.cells] at h
   cases i <;> simp at h
   subst h; trivial
theorem OwnV.dis {g:Gh} {w:World} {N:Nat} {mk:Nat→Loc} {a:AV} {u:Value}:OwnV g w N mk a.dis u :=
 fun i c _ h _=>Own.of_no (aq a i c h)
def LocR (g:Gh) (d:Nat) (w:World) (N:Nat) (locs:List (Nat×List AV)):Prop :=
 ∀ s cs,look s locs = some cs→∃ b us T,g.lb d s = some b∧N≤b∧g.cls b = some (.loc d s)∧w.heap[b]? = some (.cells us T (0,0))∧us.size = cs.length ∧
  ∀ (i:Nat) (c:AV) (x:Value),cs[i]? = some c→us[i]? = some x→R g c x∧Own g w N (.lbox d s i) c x
def KeyR (k:AV) (u:Value):Prop:=(∃ x,k = .lit x∧flat x = true∧u = x)∨∃ vs:List Value,k = .agg (vs.map AV.lit)∧(∀ v ∈ vs,∃ q n,v = .int q n)∧u = .agg vs.toArray
theorem KeyR.r {g:Gh} {k:AV} {u:Value} (h:KeyR k u):R g k u:=by
 rcases h with ⟨x,rfl,hf,rfl⟩ | ⟨vs,rfl,hv,rfl⟩
 ·exact .lit _ hf
 ·refine .agg _ _ (by simp) fun i x u hx hu=>?_
  simp only [List.getElem?_map,Option.map_eq_some_iff] at hx
  obtain ⟨v,hv',rfl⟩:=hx
  simp only [List.getElem?_toArray] at hu
  rw [hv'] at hu
  cases hu
  obtain ⟨q,n,rfl⟩:=hv _ (List.mem_of_getElem? hv')
  exact .lit _ rfl
def EntR (g:Gh) (es:List (AV×AV)) (us:Array MapEntry):Prop :=
 us.size = es.length∧∀ (i:Nat) (k v:AV) (e:MapEntry),es[i]? = some (k,v)→us[i]? = some e→KeyR k e.key∧R g v e.val∧(∀ c ∈ v.cells,c.noOwn)
structure BrnR (bs:List Nat) (clk:Nat) (us:Array MapEntry):Prop where
 eq:us.toList.map (·.born) = bs
 nodup:bs.Nodup
 lt:∀ b ∈ bs,b < clk
def ObjR (g:Gh):Box→Obj→Prop
 | .mp es bs clk,.map us clk'=>clk' = clk∧EntR g es us∧BrnR bs clk us
 | .lp r rs,.loop r'=>r' = r∧∀ p ∈ rs,R g p.2 (r.tmps.getD p.1 undef)∧∀ c ∈ p.2.cells,c.noOwn
 | _,_=>False
def BoxR (g:Gh) (w:World) (st:St):Prop :=
 (∀ id,st.boxes.length≤id→g.bx id = none) ∧
 (∀ id cs,st.boxes[id]? = some (some (.cells cs))→∃ b us T,g.bx id = some b∧g.cls b = some (.box id)∧w.heap[b]? = some (.cells us T (0,0))∧us.size = cs.length ∧
  (∀ (i:Nat) (c:AV) (x:Value),cs[i]? = some c→us[i]? = some x→R g c x∧Own g w 0 (.box id i) c x)∧∀ x ∈ us,x.oneCell' = true) ∧
 (∀ id bx,st.boxes[id]? = some (some bx)→bx.obj = true→∃ b o,g.bx id = some b∧g.cls b = some (.box id)∧w.heap[b]? = some o∧ObjR g bx o)
structure LeP (g:Gh) (w:World) (g':Gh) (w':World):Prop where
 below:Below w.heap.size w w'
 imm:∀ b,b < w.heap.size→g'.imm b = g.imm b
 cls:∀ b,b < w.heap.size→g'.cls b = g.cls b
 bx:g'.bx = g.bx
 lb:g'.lb = g.lb
 base:g'.base = g.base
 good:Good g w→Good g' w'
theorem LeP.refl (g:Gh) (w:World):LeP g w g w:=⟨Below.refl _ _,fun _ _=>rfl,fun _ _=>rfl,rfl,rfl,rfl,id⟩
theorem LeP.ghle {g g':Gh} {w w':World} (h:LeP g w g' w') (hg:Good g w):GhLe g g' :=
 ⟨fun b o u e=>by rw [h.imm b (hg.lt e)]; exact e,fun id b e=>by rw [h.bx]; exact e⟩
theorem Own.le {g g':Gh} {w w':World} {N:Nat} {L:Loc} {a:AV} {u:Value} (h:LeP g w g' w') (hg:Good g w) (ho:Own g w N L a u):Own g' w' N L a u:=by
 refine ⟨fun k es e=>?_,fun id s l stp e=>?_⟩
 ·rcases ho.1 k es e with h0 | ⟨b,o,c,cur,T,h1,hN,h2,h3,h4,h5,h6⟩
  ·exact .inl h0
  have hb:=(hg.cls b _ h2).2
  exact .inr ⟨b,o,c,cur,T,h1,hN,by rw [h.cls b hb]; exact h2,by rw [h.below.block b hb]; exact h3,h4,h5,fun j hj hj'=>by rw [h.imm b hb]; exact h6 j hj hj'⟩
 ·obtain ⟨b,mb,sp,h1,hN,h2,h3,h4,h5⟩:=ho.2 id s l stp e
  have hb:=(hg.cls b _ h2).2
  exact ⟨b,mb,sp,h1,hN,by rw [h.cls b hb]; exact h2,by rw [h.below.block b hb]; exact h3,h4,h5.mono fun i b e=>by rw [h.bx]; exact e⟩
theorem OwnV.le {g g':Gh} {w w':World} {N:Nat} {mk:Nat→Loc} {a:AV} {u:Value} (h:LeP g w g' w') (hg:Good g w) (ho:OwnV g w N mk a u):OwnV g' w' N mk a u :=
 fun i c x hc hx=>(ho i c x hc hx).le h hg
theorem RS.le {g g':Gh} {w w':World} {d:Nat} {a:AV} {u:Value} (h:LeP g w g' w') (hg:Good g w) (hr:RS g d a u):RS g' d a u:=by
 cases a with
 | lptr s o=>obtain ⟨b,h1,h2⟩:=hr; exact ⟨b,by rw [h.lb]; exact h1,h2⟩
 | _=>exact RS.of (R.mono (h.ghle hg) (v:=_) hr)
theorem LocR.le {g g':Gh} {w w':World} {d N:Nat} {locs:List (Nat×List AV)} (h:LeP g w g' w') (hg:Good g w) (hr:LocR g d w N locs):LocR g' d w' N locs:=by
 intro s cs hs
 obtain ⟨b,us,T,h1,hN,h2,h3,h4,h5⟩:=hr s cs hs
 have hb:=(hg.cls b _ h2).2
 exact ⟨b,us,T,by rw [h.lb]; exact h1,hN,by rw [h.cls b hb]; exact h2,by rw [h.below.block b hb]; exact h3,h4,fun i c x hc hx=>⟨(h5 i c x hc hx).1.mono (h.ghle hg),(h5 i c x hc hx).2.le h hg⟩⟩
theorem EntR.mono {g g':Gh} {es:List (AV×AV)} {us:Array MapEntry} (h:GhLe g g') (he:EntR g es us):EntR g' es us :=
 ⟨he.1,fun i k v e hk hu=>⟨(he.2 i k v e hk hu).1,(he.2 i k v e hk hu).2.1.mono h,(he.2 i k v e hk hu).2.2⟩⟩
theorem ObjR.mono {g g':Gh} {bx:Box} {o:Obj} (h:GhLe g g') (ho:ObjR g bx o):ObjR g' bx o:=by
 cases bx with
 | cells cs=>exact ho.elim
 | mp es bs clk=>cases o <;> first | exact ho.elim | exact ⟨ho.1,ho.2.1.mono h,ho.2.2⟩
 | lp r rs=>cases o <;> first | exact ho.elim | exact ⟨ho.1,fun p hp=>⟨(ho.2 p hp).1.mono h,(ho.2 p hp).2⟩⟩
theorem BoxR.le {g g':Gh} {w w':World} {st:St} (h:LeP g w g' w') (hg:Good g w) (hr:BoxR g w st):BoxR g' w' st:=by
 obtain ⟨h1,h2,h3⟩:=hr
 refine ⟨fun id hid=>by rw [h.bx]; exact h1 id hid,fun id cs hc=>?_,fun id bx he hob=>?_⟩
 ·obtain ⟨b,us,T,a1,a2,a3,a4,a5,a6⟩:=h2 id cs hc
  have hb:=(hg.cls b _ a2).2
  exact ⟨b,us,T,by rw [h.bx]; exact a1,by rw [h.cls b hb]; exact a2,by rw [h.below.block b hb]; exact a3,a4,fun i c x hc hx=>⟨(a5 i c x hc hx).1.mono (h.ghle hg),(a5 i c x hc hx).2.le h hg⟩,a6⟩
 ·obtain ⟨b,o,a1,a2,a3,a4⟩:=h3 id bx he hob
  have hb:=(hg.cls b _ a2).2
  exact ⟨b,o,by rw [h.bx]; exact a1,by rw [h.cls b hb]; exact a2,by rw [h.below.block b hb]; exact a3,a4.mono (h.ghle hg)⟩
theorem BoxR.mp {g:Gh} {w:World} {st:St} (h:BoxR g w st) (id:Nat) (es:List (AV×AV)) (bs:List Nat) (clk:Nat) (hc:st.boxes[id]? = some (some (.mp es bs clk))) :
  ∃ b us,g.bx id = some b∧g.cls b = some (.box id)∧w.heap[b]? = some (.map us clk)∧EntR g es us∧BrnR bs clk us:=by
 obtain ⟨b,o,a1,a2,a3,a4⟩:=h.2.2 id _ hc rfl
 cases o <;> first | exact a4.elim | skip
 rename_i us clk'
 obtain ⟨rfl,h5,h6⟩:=a4
 exact ⟨b,us,a1,a2,a3,h5,h6⟩
theorem BoxR.lp {g:Gh} {w:World} {st:St} (h:BoxR g w st) {id:Nat} {r:Loop} {rs:List (Nat×AV)} (hc:st.boxes[id]? = some (some (.lp r rs))) :
  ∃ b,g.bx id = some b∧g.cls b = some (.box id)∧w.heap[b]? = some (.loop r)∧∀ p ∈ rs,R g p.2 (r.tmps.getD p.1 undef)∧∀ c ∈ p.2.cells,c.noOwn:=by
 obtain ⟨b,o,a1,a2,a3,a4⟩:=h.2.2 id _ hc rfl
 cases o <;> first | exact a4.elim | skip
 obtain ⟨rfl,h5⟩:=a4
 exact ⟨b,a1,a2,a3,h5⟩
end Go.Fx
namespace Go.Fx
open Go Go.RowKit
section
variable {P:Program}
theorem ak {A:Type} {o:Option A} {K:A→Prop}:(Res.ofOpt o).wp K↔∃ a,o = some a∧K a:=by
 cases o <;> simp [Res.ofOpt,Res.wp]
theorem R.lit_inv {g:Gh} {v u:Value} (h:R g (.lit v) u):u = v∧flat v = true:=by
 cases h with
 | lit _ h=>exact ⟨rfl,h⟩
theorem RS.lit_inv {g:Gh} {d:Nat} {v u:Value} (h:RS g d (.lit v) u):u = v∧flat v = true:=R.lit_inv h
theorem run_intBin {op:BinOp} {k:IntKind} {a b:Int} {K:Value→Prop} {t:TypeId} (h:(intBin op k a b).wp K) :
  ∃ v,K v∧flat v = true∧∀ w,(binOp op t (.int k a) (.int k b)).run P w = .ok v w:=by
 cases op
 case quo =>
  obtain ⟨hb,h⟩:=h
  have hb':b≠0:=by simpa using hb
  exact ⟨_,h,rfl,fun w=>by simp [binOp,Op.intDiv,hb']⟩
 case rem =>
  obtain ⟨hb,h⟩:=h
  have hb':b≠0:=by simpa using hb
  exact ⟨_,h,rfl,fun w=>by simp [binOp,Op.intDiv,hb']⟩
 case shl=>exact h.elim
 case shr=>exact h.elim
 all_goals first
  | exact ⟨_,h,rfl,fun w=>by simp [binOp,Op.intArith,Op.intBits,Op.intCmp]⟩
theorem ph {op:BinOp} {k k':IntKind} {a b:Int} {K:Value→Prop} {t:TypeId} (h:(mw op k a b).wp K) :
  ∃ v,K v∧flat v = true∧∀ w,(binOp op t (.int k a) (.int k' b)).run P w = .ok v w:=by
 cases op
 case shl =>
  obtain ⟨hb,h⟩:=h
  have hb':¬ b < 0:=by simpa using hb
  exact ⟨_,h,rfl,fun w=>by simp [binOp,Op.shift,hb']⟩
 case shr =>
  obtain ⟨hb,h⟩:=h
  have hb':¬ b < 0:=by simpa using hb
  exact ⟨_,h,rfl,fun w=>by simp [binOp,Op.shift,hb']⟩
 all_goals exact h.elim
theorem run_strBin {op:BinOp} {a b:ByteArray} {K:Value→Prop} {t:TypeId} (h:(strBin op a b).wp K) :
  ∃ v,K v∧flat v = true∧∀ w,(binOp op t (.string a) (.string b)).run P w = .ok v w:=by
 cases op
 case add =>
  obtain ⟨hb,h⟩:=h
  have hb':a.size + b.size≤1000000000000:=by simpa using hb
  exact ⟨_,h,rfl,fun w=>by simp [binOp,Op.stringOp]; omega⟩
 all_goals first
  | exact ⟨_,h,rfl,fun w=>by simp [binOp,Op.stringOp]⟩
  | exact h.elim
structure Cmp (P:Program) (t:TypeId) (x y:Operand) (ux uy:Value) (b:Bool):Prop where
 eq:∀ n w,(Op.equalIn (n + 1) t ux uy).run P w = .ok b w
 e1:binOp .eql t ux uy = (do pure (.bool (← Op.equal t ux uy)))
 e2:binOp .neq t ux uy = (do pure (.bool (!(← Op.equal t ux uy))))
 gd:∀ op w,(eqGuard op t x y ux uy).run P w = .ok () w
theorem Cmp.run1 {t:TypeId} {x y:Operand} {ux uy:Value} {b:Bool} (h:Cmp P t x y ux uy b) (w:World):(binOp .eql t ux uy).run P w = .ok (.bool b) w:=by
 rw [h.e1,Sem.run_bind]
 unfold Op.equal Op.maxDepth
 rw [h.eq 9999 w]
 simp
theorem Cmp.run2 {t:TypeId} {x y:Operand} {ux uy:Value} {b:Bool} (h:Cmp P t x y ux uy b) (w:World):(binOp .neq t ux uy).run P w = .ok (.bool !b) w:=by
 rw [h.e2,Sem.run_bind]
 unfold Op.equal Op.maxDepth
 rw [h.eq 9999 w]
 simp
theorem my {dd:TypeDesc} {t:TypeId} {g:Gh} {d:Nat} {x y:AV} {ux uy:Value} {b:Bool} (hx:RS g d x ux) (hy:RS g d y uy) (hu:P.underlying t = some dd) (h:g6 dd x y = some b) (ox oy:Operand) :
  Cmp P t ox oy ux uy b:=by
 unfold g6 at h
 cases dd with
 | pointer e =>
   have key:∀ {v:AV} {u:Value} {c:Bool},RS g d v u→df (.pointer e) v = some c→∃ a,u = .pointer a∧a.isNone = c:=by
    intro v u c hr hc
    cases v <;> simp only [df] at hc
    case lit v =>
     obtain ⟨rfl,_⟩:=hr.lit_inv
     split at hc <;> simp_all
    case ptr=>cases hr; simp at hc; exact ⟨_,rfl,by simpa using hc⟩
    case lptr=>obtain ⟨_,_,rfl⟩:=hr; simp at hc; exact ⟨_,rfl,by simpa using hc⟩
    case cptr=>cases hr; simp at hc; exact ⟨_,rfl,by simpa using hc⟩
    all_goals cases hc
   split at h
   ·rename_i h1 h2
    obtain ⟨a,rfl,ha⟩:=key hx h1
    obtain ⟨a',rfl,ha'⟩:=key hy h2
    cases a <;> simp at ha
    cases h
    exact ⟨fun n w=>by simp [Op.equalIn,run_underlying hu,ha'],rfl,rfl,fun op w=>by cases op <;> simp [eqGuard]⟩
   ·rename_i h1 h2
    obtain ⟨a,rfl,ha⟩:=key hx h1
    obtain ⟨a',rfl,ha'⟩:=key hy h2
    cases a' <;> simp at ha'
    cases a <;> simp at ha
    cases h
    exact ⟨fun n w=>by simp [Op.equalIn,run_underlying hu],rfl,rfl,fun op w=>by cases op <;> simp [eqGuard]⟩
   ·cases h
 | slice e =>
   have key:∀ {v:AV} {u:Value} {c:Bool},RS g d v u→df (.slice e) v = some c→∃ a n m,u = .slice a n m∧a.isNone = c:=by
    intro v u c hr hc
    cases v <;> simp only [df] at hc
    case lit v =>
     obtain ⟨rfl,_⟩:=hr.lit_inv
     split at hc <;> simp_all
    case sl=>simp at hc; obtain ⟨hne,rfl⟩:=hc; cases hr <;> first | exact absurd rfl hne | exact ⟨_,_,_,rfl,rfl⟩
    case bs=>cases hc; cases hr; exact ⟨_,_,_,rfl,rfl⟩
    all_goals cases hc
   split at h
   ·rename_i h1 h2
    obtain ⟨a,_,_,rfl,ha⟩:=key hx h1
    obtain ⟨a',_,_,rfl,ha'⟩:=key hy h2
    cases a <;> simp at ha
    cases h
    exact ⟨fun n w=>by simp [Op.equalIn,run_underlying hu,ha'],rfl,rfl,fun op w=>by cases op <;> simp [eqGuard]⟩
   ·rename_i h1 h2
    obtain ⟨a,_,_,rfl,ha⟩:=key hx h1
    obtain ⟨a',_,_,rfl,ha'⟩:=key hy h2
    cases a' <;> simp at ha'
    cases a <;> simp at ha
    cases h
    exact ⟨fun n w=>by simp [Op.equalIn,run_underlying hu],rfl,rfl,fun op w=>by cases op <;> simp [eqGuard]⟩
   ·cases h
 | map k e =>
   have key:∀ {v:AV} {u:Value} {c:Bool},RS g d v u→df (.map k e) v = some c→∃ a,u = .map a∧a.isNone = c:=by
    intro v u c hr hc
    cases v <;> simp only [df] at hc
    case lit v =>
     obtain ⟨rfl,_⟩:=hr.lit_inv
     split at hc <;> simp_all
    case map=>cases hr; simp at hc; exact ⟨_,rfl,by simpa using hc⟩
    all_goals cases hc
   split at h
   ·rename_i h1 h2
    obtain ⟨a,rfl,ha⟩:=key hx h1
    obtain ⟨a',rfl,ha'⟩:=key hy h2
    cases a <;> simp at ha
    cases h
    exact ⟨fun n w=>by simp [Op.equalIn,run_underlying hu,ha'],rfl,rfl,fun op w=>by cases op <;> simp [eqGuard]⟩
   ·rename_i h1 h2
    obtain ⟨a,rfl,ha⟩:=key hx h1
    obtain ⟨a',rfl,ha'⟩:=key hy h2
    cases a' <;> simp at ha'
    cases a <;> simp at ha
    cases h
    exact ⟨fun n w=>by simp [Op.equalIn,run_underlying hu],rfl,rfl,fun op w=>by cases op <;> simp [eqGuard]⟩
   ·cases h
 | func p r v =>
   have key:∀ {v':AV} {u:Value} {c:Bool},RS g d v' u→df (.func p r v) v' = some c→(u = .nilFunc∧c = true)∨(∃ a b e,u = .func a b e)∧c = false:=by
    intro v u c hr hc
    cases v <;> simp only [df] at hc
    case lit v =>
     obtain ⟨rfl,_⟩:=hr.lit_inv
     split at hc <;> simp_all
    case fn=>cases hr; simp at hc; exact .inr ⟨⟨_,_,_,rfl⟩,by simpa using hc.symm⟩
    all_goals cases hc
   split at h
   ·rename_i h1 h2
    rcases key hx h1 with ⟨rfl,ha⟩ | ⟨_,ha⟩
    ·rcases key hy h2 with ⟨rfl,ha'⟩ | ⟨⟨_,_,_,rfl⟩,ha'⟩
     ·cases h; exact ⟨fun n w=>by simp [Op.equalIn,run_underlying hu,ha'],rfl,rfl,fun op w=>by cases op <;> simp [eqGuard]⟩
     ·cases h; exact ⟨fun n w=>by simp [Op.equalIn,run_underlying hu,ha'],rfl,rfl,fun op w=>by cases op <;> simp [eqGuard]⟩
    ·cases ha
   ·rename_i h1 h2
    rcases key hx h1 with ⟨rfl,ha⟩ | ⟨⟨_,_,_,rfl⟩,ha⟩
    ·cases ha
    ·rcases key hy h2 with ⟨rfl,ha'⟩ | ⟨⟨_,_,_,rfl⟩,ha'⟩
     ·cases h; exact ⟨fun n w=>by simp [Op.equalIn,run_underlying hu],rfl,rfl,fun op w=>by cases op <;> simp [eqGuard]⟩
     ·cases ha'
   ·cases h
 | _=>simp [df] at h
def fq (P:Program) (t:TypeId) (us:List Value):Value:=if aw P t then .agg us.toArray else us.headD undef
theorem eU {t:TypeId} {dd:TypeDesc} (hu:P.underlying t = some dd) (w:World):(isAgg t).run P w = .ok (aw P t) w:=by
 unfold isAgg aw
 rw [Sem.run_bind,run_underlying hu w]
 cases dd <;> simp [hu]
theorem j0 {t:TypeId} {n:Nat} (h:szT P t = some n):∃ i,P.info? t = some i∧i.size = n:=by
 unfold szT at h
 cases hi:P.info? t with
 | none=>simp [hi] at h
 | some i=>exact ⟨i,rfl,by simpa [hi] using h⟩
theorem aS {t:TypeId} {n:Nat} (h:szT P t = some n) (w:World):(sizeOf t).run P w = .ok n w:=by
 obtain ⟨i,hi,rfl⟩:=j0 h
 simp [sizeOf,typeInfo,hi]
theorem ka {t:TypeId} {n off:Nat} {us:Array Value} {dd:TypeDesc} (hu:P.underlying t = some dd) (hn:szT P t = some n) (hne:aw P t = false→(us.toList.drop off).take n≠[]) (w:World) :
  (part t us off).run P w = .ok (fq P t ((us.toList.drop off).take n)) w:=by
 unfold part fq
 rw [Sem.run_bind,eU hu w]
 simp only [Result.andThen_ok]
 cases ha:aw P t with
 | true =>
   simp only [if_true,Sem.run_bind,aS hn w,Result.andThen_ok,Sem.run_pure]
   have:us.extract off (off + n) = ((us.toList.drop off).take n).toArray:=by
    apply Array.ext'
    simp [Array.toList_extract,List.extract]
   rw [this]
 | false =>
   have h1:=hne ha
   have h0:us[off]? = some (((us.toList.drop off).take n).headD undef):=by
    cases hl:(us.toList.drop off).take n with
    | nil=>exact absurd hl h1
    | cons x r =>
      have h2:=congrArg (·[0]?) hl
      simp only [List.getElem?_cons_zero] at h2
      cases n with
      | zero=>simp at hl
      | succ n =>
        simp only [List.getElem?_take,Nat.zero_lt_succ,if_true,List.getElem?_drop,Nat.add_zero] at h2
        simpa using h2
   simp [h0]
def RL (g:Gh) (cs:List AV) (us:List Value):Prop:=us.length = cs.length∧∀ (i:Nat) (x:AV) (u:Value),cs[i]? = some x→us[i]? = some u→R g x u
theorem RL.drop {g:Gh} {cs:List AV} {us:List Value} (h:RL g cs us) (n:Nat):RL g (cs.drop n) (us.drop n) :=
 ⟨by simp [h.1],fun i x u hx hu=>h.2 (n + i) x u (by simpa using hx) (by simpa using hu)⟩
theorem RL.take {g:Gh} {cs:List AV} {us:List Value} (h:RL g cs us) (n:Nat):RL g (cs.take n) (us.take n):=by
 refine ⟨by simp [h.1],fun i x u hx hu=>?_⟩
 simp only [List.getElem?_take] at hx hu
 split at hx
 ·rename_i hi; simp only [hi,if_true] at hu; exact h.2 i x u hx hu
 ·cases hx
theorem RL.single {g:Gh} {x:AV} {us:List Value} (h:RL g [x] us):∃ u,us = [u]∧R g x u:=by
 obtain ⟨h1,h2⟩:=h
 match us,h1 with
 | [u],_=>exact ⟨u,rfl,h2 0 x u rfl rfl⟩
theorem R.agg_inv {g:Gh} {cs:List AV} {u:Value} (h:R g (.agg cs) u):∃ us:Array Value,u = .agg us∧RL g cs us.toList:=by
 cases h with
 | agg _ us hu h=>exact ⟨us,rfl,by simpa using hu,fun i x u hx hu=>h i x u hx (by simpa using hu)⟩
theorem RL.agg {g:Gh} {cs:List AV} {us:List Value} (h:RL g cs us):R g (.agg cs) (.agg us.toArray) :=
 .agg cs us.toArray (by simpa using h.1) fun i x u hx hu=>h.2 i x u hx (by simpa using hu)
theorem eqA_run {g:Gh}:∀ (d:Nat) (t:TypeId) (xs ys:List AV) (ux uy:List Value) (K:Bool→Prop),RL g xs ux→RL g ys uy→(eqA P d t xs ys).wp K →
  ∃ b,K b∧(aw P t = false→ux≠[]∧uy≠[])∧(∃ dd,P.underlying t = some dd)∧∀ k w,(Op.equalIn (d + k) t (fq P t ux) (fq P t uy)).run P w = .ok b w:=by
 intro d
 induction d with
 | zero=>intro t ax ay ux uy K _ _ h; exact h.elim
 | succ d ih =>
   intro t ax ay ux uy K hx hy h
   unfold eqA at h
   split at h
   ·rename_i hu
    unfold rz at h
    split at h
    case h_2=>exact h.elim
    rename_i a b
    obtain ⟨u1,rfl,r1⟩:=hx.single
    obtain ⟨u2,rfl,r2⟩:=hy.single
    obtain ⟨rfl,_⟩:=r1.lit_inv
    obtain ⟨rfl,_⟩:=r2.lit_inv
    have ha:aw P t = false:=by simp [aw,hu]
    refine ⟨_,h,fun _=>⟨by simp,by simp⟩,⟨_,hu⟩,fun k w=>?_⟩
    rw [show d + 1 + k = (d + k) + 1 by omega]
    simp [fq,ha,Op.equalIn,run_underlying hu]
   ·rename_i hu
    unfold rA at h
    split at h
    case h_2=>exact h.elim
    rename_i k1 a k2 b
    split at h
    ·rename_i hk
     subst hk
     obtain ⟨u1,rfl,r1⟩:=hx.single
     obtain ⟨u2,rfl,r2⟩:=hy.single
     obtain ⟨rfl,_⟩:=r1.lit_inv
     obtain ⟨rfl,_⟩:=r2.lit_inv
     have ha:aw P t = false:=by simp [aw,hu]
     refine ⟨_,h,fun _=>⟨by simp,by simp⟩,⟨_,hu⟩,fun k w=>?_⟩
     rw [show d + 1 + k = (d + k) + 1 by omega]
     simp [fq,ha,Op.equalIn,run_underlying hu]
    ·exact h.elim
   ·rename_i hu
    unfold eqStrA at h
    split at h
    case h_2=>exact h.elim
    rename_i a b
    obtain ⟨u1,rfl,r1⟩:=hx.single
    obtain ⟨u2,rfl,r2⟩:=hy.single
    obtain ⟨rfl,_⟩:=r1.lit_inv
    obtain ⟨rfl,_⟩:=r2.lit_inv
    have ha:aw P t = false:=by simp [aw,hu]
    refine ⟨_,h,fun _=>⟨by simp,by simp⟩,⟨_,hu⟩,fun k w=>?_⟩
    rw [show d + 1 + k = (d + k) + 1 by omega]
    simp only [fq,ha,Bool.false_eq_true,if_false,List.headD_cons]
    exact run_equalIn_string w (d + k) t a b hu
   ·rename_i fields hu
    split at h
    ·exact h.elim
    ·rename_i hst
     have ha:aw P t = true:=by simp [aw,hu]
     have hf:P.fieldsOf t = fields:=by simp [Program.fieldsOf,hu]
     have key : ∀ (fs : List Field) (K : Bool → Prop), (fs.foldr (fun f r => if f.name ≠ "_" then
       (Res.ofOpt (szT P f.type)).bind fun n=>andA (eqA P d f.type ((ax.drop f.offset).take n) ((ay.drop f.offset).take n)) r else r) (.ok true)).wp K →
       ∃ b,K b∧∀ k w,(Op.eqFields (d + k) ux.toArray uy.toArray fs).run P w = .ok b w:=by
      intro fs
      induction fs with
      | nil=>intro K h; exact ⟨true,h,fun k w=>by simp [Op.eqFields]⟩
      | cons f fs ihf =>
        intro K h
        simp only [List.foldr_cons] at h
        split at h
        ·rename_i hn
         rw [Res.wp_bind,ak] at h
         obtain ⟨n,hsz,h⟩:=h
         unfold andA at h
         rw [Res.wp_bind] at h
         obtain ⟨b1,h,hne,⟨dd,hdd⟩,hr⟩:=ih f.type _ _ _ _ _ ((hx.drop f.offset).take n) ((hy.drop f.offset).take n) h
         rw [Res.wp_bind] at h
         obtain ⟨b2,h,hr2⟩:=ihf _ h
         refine ⟨b1 && b2,h,fun k w=>?_⟩
         have p1:=ka (P:=P) (us:=ux.toArray) hdd hsz (by simpa using fun e=>(hne e).1) w
         have p2:=ka (P:=P) (us:=uy.toArray) hdd hsz (by simpa using fun e=>(hne e).2) w
         simp only [Op.eqFields,hn,ne_eq,not_false_eq_true,if_true,Sem.run_bind,p1,p2,Result.andThen_ok]
         rw [hr k w]
         cases b1
         ·simp
         ·simpa using hr2 k w
        ·rename_i hn
         obtain ⟨b2,h,hr2⟩:=ihf _ h
         refine ⟨b2,h,fun k w=>?_⟩
         simp only [Op.eqFields,hn,if_false]
         exact hr2 k w
     obtain ⟨b,h,hr⟩:=key _ _ h
     refine ⟨b,h,(fun e=>by rw [ha] at e; cases e),⟨_,hu⟩,fun k w=>?_⟩
     rw [show d + 1 + k = (d + k) + 1 by omega]
     simp only [fq,ha,if_true]
     rw [run_equalIn_struct w (d + k) t _ _ (by rw [hf]; exact hu) (by simpa using hst),hf]
     exact hr k w
   ·exact h.elim
theorem iF (op:BinOp) (t:TypeId) (x y:Operand) (k k':IntKind) (a b:Int) (w:World):(eqGuard op t x y (.int k a) (.int k' b)).run P w = .ok () w:=by
 cases op <;> simp [eqGuard]
theorem iG (op:BinOp) (t:TypeId) (x y:Operand) (a b:ByteArray) (w:World):(eqGuard op t x y (.string a) (.string b)).run P w = .ok () w:=by
 cases op <;> simp [eqGuard]
theorem fO {t:TypeId} (x y:Operand) (a b:Bool) (hu:P.underlying t = some .bool):Cmp P t x y (.bool a) (.bool b) (a == b) :=
 ⟨fun n w=>by simp [Op.equalIn,run_underlying hu],rfl,rfl,fun op w=>by cases op <;> simp [eqGuard]⟩
theorem pi {g:Gh} {d:Nat} {op:BinOp} {t:TypeId} {vx vy:AV} {ux uy:Value} {K:AV→Prop} (x y:Operand) (hx:RS g d vx ux) (hy:RS g d vy uy) (h:(binA P op t vx vy).wp K) :
  ∃ v u,K (.lit v)∧flat v = true∧u = v∧∀ w,(eqGuard op t x y ux uy).run P w = .ok () w∧(binOp op t ux uy).run P w = .ok u w:=by
 unfold binA at h
 split at h
 ·obtain ⟨rfl,_⟩:=hx.lit_inv
  obtain ⟨rfl,_⟩:=hy.lit_inv
  rw [Res.wp_bind] at h
  obtain ⟨v,h,hf,hr⟩:=ph (P:=P) (t:=t) h
  exact ⟨v,v,h,hf,rfl,fun w=>⟨by first | exact iF _ _ _ _ _ _ _ _ w | exact iG _ _ _ _ _ _ w,hr w⟩⟩
 ·obtain ⟨rfl,_⟩:=hx.lit_inv
  obtain ⟨rfl,_⟩:=hy.lit_inv
  rw [Res.wp_bind] at h
  obtain ⟨v,h,hf,hr⟩:=ph (P:=P) (t:=t) h
  exact ⟨v,v,h,hf,rfl,fun w=>⟨by first | exact iF _ _ _ _ _ _ _ _ w | exact iG _ _ _ _ _ _ w,hr w⟩⟩
 ·obtain ⟨rfl,_⟩:=hx.lit_inv
  obtain ⟨rfl,_⟩:=hy.lit_inv
  split at h
  ·rename_i hk
   subst hk
   rw [Res.wp_bind] at h
   obtain ⟨v,h,hf,hr⟩:=run_intBin (P:=P) (t:=t) h
   exact ⟨v,v,h,hf,rfl,fun w=>⟨by first | exact iF _ _ _ _ _ _ _ _ w | exact iG _ _ _ _ _ _ w,hr w⟩⟩
  ·exact h.elim
 ·obtain ⟨rfl,_⟩:=hx.lit_inv
  obtain ⟨rfl,_⟩:=hy.lit_inv
  rw [Res.wp_bind] at h
  obtain ⟨v,h,hf,hr⟩:=run_strBin (P:=P) (t:=t) h
  exact ⟨v,v,h,hf,rfl,fun w=>⟨by first | exact iF _ _ _ _ _ _ _ _ w | exact iG _ _ _ _ _ _ w,hr w⟩⟩
 ·obtain ⟨rfl,_⟩:=hx.lit_inv
  obtain ⟨rfl,_⟩:=hy.lit_inv
  split at h
  ·rename_i hu
   exact ⟨_,_,h,rfl,rfl,fun w=>⟨(fO x y _ _ hu).gd _ w,by first | exact (fO x y _ _ hu).run1 w | exact (fO x y _ _ hu).run2 w⟩⟩
  ·exact h.elim
 ·obtain ⟨rfl,_⟩:=hx.lit_inv
  obtain ⟨rfl,_⟩:=hy.lit_inv
  split at h
  ·rename_i hu
   exact ⟨_,_,h,rfl,rfl,fun w=>⟨(fO x y _ _ hu).gd _ w,by first | exact (fO x y _ _ hu).run1 w | exact (fO x y _ _ hu).run2 w⟩⟩
  ·exact h.elim
 all_goals first
  | (rename_i xs ys
     split at h
     ·exact h.elim
     ·rename_i hgd
      simp only [Bool.or_eq_true,Bool.not_eq_true',not_or,Bool.not_eq_true,Bool.not_eq_false] at hgd
      obtain ⟨hgd,ha⟩:=hgd
      obtain ⟨ux,rfl,hx'⟩:=R.agg_inv hx
      obtain ⟨uy,rfl,hy'⟩:=R.agg_inv hy
      rw [Res.wp_bind] at h
      obtain ⟨b,h,hne,⟨dd,hdd⟩,hr⟩:=eqA_run 9 t xs ys _ _ _ hx' hy' h
      refine ⟨_,_,h,rfl,rfl,fun w=>⟨by simp [eqGuard,hgd],?_⟩⟩
      have h1:(Op.equal t (.agg ux) (.agg uy)).run P w = .ok b w:=by
       have h1:=hr 9991 w
       simp only [fq,ha,if_true] at h1
       exact h1
      first
       | (show (do pure (.bool (← Op.equal t (.agg ux) (.agg uy))) : Sem Value).run P w = _
          rw [Sem.run_bind,h1]; rfl)
       | (show (do pure (.bool (!(← Op.equal t (.agg ux) (.agg uy)))) : Sem Value).run P w = _
          rw [Sem.run_bind,h1]; rfl))
  | (split at h
     ·rename_i dd hu
      rw [Res.wp_bind,ak] at h
      obtain ⟨b,hb,h⟩:=h
      exact ⟨_,_,h,rfl,rfl,fun w=>⟨(my hx hy hu hb x y).gd _ w,by first | exact (my hx hy hu hb x y).run1 w | exact (my hx hy hu hb x y).run2 w⟩⟩
     ·exact h.elim)
  | exact h.elim
end
end Go.Fx
namespace Go.Fx
open Go Go.RowKit
section
variable {P:Program}
structure Ctx (g:Gh) (d:Nat) (w:World) (N:Nat) (fr:Fr) (st:St):Prop where
 good:Good g w
 loc:LocR g d w N fr.locs
 box:BoxR g w st
def Yld (P:Program) (o:Oper) (a:Act) (g:Gh) (w:World) (N d:Nat) (L:Nat→Loc) (v:AV):Prop :=
 ∃ u g' w',(execOp a.eval o).run P w = .ok (.value u) w'∧LeP g w g' w'∧RS g' d v u∧OwnV g' w' N L v u
theorem Yld.same {o:Oper} {a:Act} {g:Gh} {w:World} {N d:Nat} {L:Nat→Loc} {v:AV} {u:Value} (h:(execOp a.eval o).run P w = .ok (.value u) w) (hr:RS g d v u)
  (hn:∀ (i:Nat) (c:AV),v.cells[i]? = some c→c.noOwn):Yld P o a g w N d L v :=
 ⟨u,g,w,h,LeP.refl g w,hr,fun i c x hc _=>Own.of_no (hn i c hc)⟩
theorem cx (v:Value):∀ (i:Nat) (c:AV),(AV.lit v).cells[i]? = some c→c.noOwn:=by
 intro i c h
 cases i <;> simp [AV.cells] at h
 subst h; trivial
theorem ae {v:AV} (h1:∀ cs,v≠.agg cs) (h2:v.noOwn):∀ (i:Nat) (c:AV),v.cells[i]? = some c→c.noOwn:=by
 intro i c h
 cases v <;> first | exact absurd rfl (h1 _) | (cases i <;> simp [AV.cells] at h; subst h; exact h2)
theorem bf (b o n:Nat):(⟨b,o,none⟩:Addr).add n = ⟨b,o + n,none⟩:=by
 unfold Addr.add
 split <;> simp_all
theorem qv {g:Gh} {d N:Nat} {w:World} {fr:Fr} {st:St} (hc:Ctx g d w N fr st) {v:AV} {u:Value} (hr:RS g d v u) {K:List AV→Prop} (h:(jK fr.locs st v).wp K) :
  ∃ cs,K cs∧∃ b o,u = .pointer (some ⟨b,o,none⟩)∧∃ xs:Nat→Value,∀ (i:Nat) (c:AV),cs[i]? = some c→w.cell? ⟨b,o + i,none⟩ = some (xs i)∧R g c (xs i):=by
 unfold jK at h
 split at h
 ·rename_i s off
  rw [Res.wp_bind,ak] at h
  obtain ⟨cs,hl,h⟩:=h
  obtain ⟨b,hb,rfl⟩:=hr
  obtain ⟨b',us,T,h1,_,h2,h3,h4,h5⟩:=hc.loc s cs hl
  have:b' = b:=Option.some.inj (h1.symm.trans hb)
  subst this
  refine ⟨_,h,b',off,rfl,fun i=>us.getD (off + i) undef,fun i c hci=>?_⟩
  have hci':cs[off + i]? = some c:=by simpa using hci
  have hlt:off + i < us.size:=by rw [h4]; exact (List.getElem?_eq_some_iff.1 hci').1
  have hx:us[off + i]? = some (us.getD (off + i) undef):=by simp [hlt]
  exact ⟨by rw [cell_of_row w b' _ us T (0,0) h3]; exact hx,(h5 _ _ _ hci' hx).1⟩
 ·rename_i id off
  rw [Res.wp_bind,ak] at h
  obtain ⟨cs,hl,h⟩:=h
  have hl':st.boxes[id]? = some (some (.cells cs)):=by
   unfold St.get at hl
   split at hl
   ·rename_i cs' hs; cases hl; exact hs
   ·cases hl
  obtain ⟨b',us,T,h1,h2,h3,h4,h5,_⟩:=hc.box.2.1 id cs hl'
  cases hr with
  | ptr _ _ b hb =>
    have:b' = b:=Option.some.inj (h1.symm.trans hb)
    subst this
    refine ⟨_,h,b',off,rfl,fun i=>us.getD (off + i) undef,fun i c hci=>?_⟩
    have hci':cs[off + i]? = some c:=by simpa using hci
    have hlt:off + i < us.size:=by rw [h4]; exact (List.getElem?_eq_some_iff.1 hci').1
    have hx:us[off + i]? = some (us.getD (off + i) undef):=by simp [hlt]
    exact ⟨by rw [cell_of_row w b' _ us T (0,0) h3]; exact hx,(h5 _ _ _ hci' hx).1⟩
 ·rename_i cs
  cases hr with
  | cptr _ us b o h1 h2=>exact ⟨_,h,b,o,rfl,us,fun i c hci=>⟨hc.good.imm _ _ _ (h1 i c hci),h2 i c hci⟩⟩
 ·exact h.elim
theorem ai {k:Nat}:∀ {q:List AV},(∀ e ∈ q,e.cells.length = k)→(q.flatMap AV.cells).length = q.length * k
 | [],_=>by simp
 | y::r,hh=>by simp [List.flatMap_cons,hh y (by simp),ai (q:=r) (fun e he=>hh e (by simp [he])),Nat.succ_mul,Nat.add_comm]
theorem qw {g:Gh} {c:AV} {x:Value} (h:R g c x) (hx:x.oneCell' = true):c.cells = [c]:=by
 cases h <;> first | rfl | (simp [Value.oneCell'] at hx; done)
theorem mz {k:Nat}:∀ (n:Nat) (cs:List AV),(∀ c ∈ cs,c.cells = [c])→n * k≤cs.length→(grp k n cs).length = n∧(∀ e ∈ grp k n cs,e.cells.length = k)∧(grp k n cs).flatMap AV.cells = cs.take (n * k)
 | 0,cs,_,_=>by simp [grp]
 | n + 1, cs, hc, h => by
   rw [Nat.succ_mul] at h
   obtain ⟨h1,h2,h3⟩:=mz (k:=k) n (cs.drop k) (fun c hcc=>hc c (List.mem_of_mem_drop hcc)) (by simp; omega)
   have hhead:(if k = 1 then cs.getD 0 .any else AV.agg (cs.take k)).cells = cs.take k:=by
    by_cases h1:k = 1
    ·subst h1
     cases cs with
     | nil=>simp at h
     | cons c r=>simpa using hc c (by simp)
    ·rw [if_neg h1]; rfl
   refine ⟨by simp [grp,h1],fun e he=>?_,?_⟩
   ·simp only [grp,List.mem_cons] at he
    rcases he with rfl | he
    ·rw [hhead]; simp; omega
    ·exact h2 e he
   ·simp only [grp,List.flatMap_cons,h3,hhead]
    rw [Nat.succ_mul,Nat.add_comm,List.take_add]
theorem ni {g:Gh} {w:World} {st:St} (hb:BoxR g w st) {id k off len cap:Nat} {u:Value} (hr:R g (.bs id k off len cap) u) {K:List AV→Prop} (h:(gf st id k off len).wp K) :
  ∃ es,K es∧es.length = len∧(∀ e ∈ es,e.cells.length = k)∧∃ b us T,u = .slice (some ⟨b,off,none⟩) len cap∧w.heap[b]? = some (.cells us T (0,0))∧off + len * k≤us.size ∧
   (∀ (i:Nat) (c:AV) (x:Value),(es.flatMap AV.cells)[i]? = some c→us[off + i]? = some x→R g c x)∧∀ x ∈ us,x.oneCell' = true:=by
 unfold gf at h
 rw [Res.wp_bind,ak] at h
 obtain ⟨cs,hcs,hle,h⟩:=h
 have hle:off + len * k≤cs.length:=of_decide_eq_true hle
 have hl':st.boxes[id]? = some (some (.cells cs)):=by
  unfold St.get at hcs
  split at hcs
  ·rename_i cs' hs; cases hcs; exact hs
  ·cases hcs
 obtain ⟨b,us,T,h1,h2,h3,h4,h5,h6⟩:=hb.2.1 id cs hl'
 cases hr with
 | bs _ _ _ _ _ b' hb' =>
   have:b = b':=Option.some.inj (h1.symm.trans hb')
   subst this
   have hone:∀ c ∈ cs.drop off,c.cells = [c]:=by
    intro c hc
    obtain ⟨i,hi⟩:=List.mem_iff_getElem?.1 (List.mem_of_mem_drop hc)
    have hlt:i < us.size:=by rw [h4]; exact (List.getElem?_eq_some_iff.1 hi).1
    have hx:us[i]? = some us[i]:=Array.getElem?_eq_getElem hlt
    exact qw (h5 i c _ hi hx).1 (h6 _ (Array.getElem_mem hlt))
   obtain ⟨q1,q2,q3⟩:=mz (k:=k) len (cs.drop off) hone (by simp; omega)
   refine ⟨_,h,q1,q2,b,us,T,rfl,h3,by omega,fun i c x hc hx=>?_,h6⟩
   rw [q3,List.getElem?_take] at hc
   split at hc
   ·rw [List.getElem?_drop] at hc
    exact (h5 _ c x hc hx).1
   ·cases hc
theorem take_run {g:Gh} {w:World} {t:TypeId} {cs:List AV} {b o:Nat} {xs:Nat→Value} (hx:∀ (i:Nat) (c:AV),cs[i]? = some c→w.cell? ⟨b,o + i,none⟩ = some (xs i)∧R g c (xs i))
  {K:AV→Prop} (h:(g5 P t cs).wp K):∃ v,K v∧∃ u,(loadVar t ⟨b,o,none⟩).run P w = .ok u w∧R g v u:=by
 unfold g5 at h
 split at h
 case h_2=>exact h.elim
 ·rename_i n dd hn hu
  split at h
  ·rename_i ha
   obtain ⟨hle,h⟩:=h
   have hle:n≤cs.length:=of_decide_eq_true hle
   refine ⟨_,h,.agg ((List.range n).map xs).toArray,?_,?_⟩
   ·have hl:=run_loadCells (P:=P) w ⟨b,o,none⟩ n xs (fun j hj=>by
     rw [bf]
     exact (hx j _ (List.getElem?_eq_getElem (by omega))).1)
    simp [loadVar,Sem.run_bind,eU hu w,ha,aS hn w,hl]
   ·refine .agg _ _ (by simp; omega) fun i x u hi hui=>?_
    simp only [List.getElem?_take] at hi
    split at hi
    ·rename_i hin
     simp [hin] at hui
     subst hui
     exact (hx i x hi).2
    ·cases hi
  ·rename_i ha
   split at h
   ·rename_i c r
    refine ⟨c,h,xs 0,?_,(hx 0 c rfl).2⟩
    have h0:=(hx 0 c rfl).1
    simp only [Nat.add_zero] at h0
    simp [loadVar,Sem.run_bind,eU hu w,ha,run_load,h0,Result.andThen]
   ·exact h.elim
def Gh.arr (g:Gh) (b:Nat) (us:List Value) (L:Loc):Gh :=
 { g with imm:=fun b' o=>if b' = b then us[o]? else g.imm b' o,cls:=fun b'=>if b' = b then some (.arr L) else g.cls b' }
theorem mA {g:Gh} {w:World} (us:List Value) (rest:Array Value) (T:TypeId) (L:Loc) (n:Nat) :
  LeP g w (g.arr w.heap.size us L) ({ w with drawn:=w.drawn + n }.alloc (.cells (us.toArray++rest) T)):=by
 have hne:∀ b,b < w.heap.size→b≠w.heap.size:=fun b hb=>Nat.ne_of_lt hb
 have hb:Below w.heap.size w ({ w with drawn:=w.drawn + n }.alloc (.cells (us.toArray++rest) T)) :=
  ⟨rfl,rfl,rfl,by simp,fun k hk=>Below.heap_alloc { w with drawn:=w.drawn + n } _ k hk⟩
 refine ⟨hb,fun b h=>?_,fun b h=>?_,rfl,rfl,rfl,fun hg=>?_⟩
 ·funext o; simp [Gh.arr,hne b h]
 ·simp [Gh.arr,hne b h]
 ·refine ⟨fun b o u hi=>?_,fun b o u hi=>?_,fun b c hc=>?_,?_⟩
  ·simp only [Gh.arr] at hi
   split at hi
   ·rename_i e
    subst e
    have:=heap_alloc_new { w with drawn:=w.drawn + n } (.cells (us.toArray++rest) T)
    rw [cell_of_row _ w.heap.size o _ T (0,0) this]
    have hlt:o < us.length:=(List.getElem?_eq_some_iff.1 hi).1
    rw [Array.getElem?_append_left (by simpa using hlt)]
    simpa using hi
   ·have h1:=hg.imm b o u hi
    rw [hb.cell (p:=⟨b,o,none⟩) (hg.lt hi)]
    exact h1
  ·simp only [Gh.arr] at hi ⊢
   split at hi
   ·rename_i e; subst e; simp
   ·rename_i e; simp only [e,if_false]; exact hg.immc b o u hi
  ·simp only [Gh.arr] at hc
   split at hc
   ·rename_i e; subst e; exact ⟨hg.base,by simp⟩
   ·have:=hg.cls b c hc; exact ⟨this.1,by simp; omega⟩
  ·have:=hg.base; simp [Gh.arr]; omega
theorem qx {g:Gh} {w:World} {us:List Value} {L:Loc} {k:Nat} {es:List AV} (own:Bool) (c:Nat) (hc:es.length≤c) (hk:∀ e ∈ es,e.cells.length = k)
  (hl:us.length = (es.flatMap AV.cells).length) (hr:∀ (i:Nat) (x:AV) (u:Value),(es.flatMap AV.cells)[i]? = some x→us[i]? = some u→R g x u) (h1c:∀ u ∈ us,u.oneCell' = true) (hg:GhLe g (g.arr w.heap.size us L)) :
  R (g.arr w.heap.size us L) (.sl own k es) (.slice (some ⟨w.heap.size,0,none⟩) es.length c):=by
 refine .sl own k es (fun i=>us.getD i undef) w.heap.size 0 c hc hk (fun i x hx=>?_) (fun i x hx=>?_) (fun i x hx=>?_)
 ·have hlt:i < us.length:=by rw [hl]; exact (List.getElem?_eq_some_iff.1 hx).1
  simp [Gh.arr,List.getD,hlt]
 ·have hlt:i < us.length:=by rw [hl]; exact (List.getElem?_eq_some_iff.1 hx).1
  exact (hr i x (us.getD i undef) hx (by simp [List.getD,hlt])).mono hg
 ·have hlt:i < us.length:=by rw [hl]; exact (List.getElem?_eq_some_iff.1 hx).1
  have:us.getD i undef = us[i]:=by simp [List.getD,hlt]
  rw [this]
  exact h1c _ (List.getElem_mem hlt)
theorem iH {g:Gh} {w:World} {us:List Value} {L:Nat→Loc} {k:Nat} {es:List AV} (c:Nat) (rest:Array Value) (T:TypeId) (n:Nat) (hc:es.length≤c) (hk:us.length = es.length * k) (hcap:c * k≤us.length + rest.size) (own:Bool) {N:Nat} (hN:N≤w.heap.size) :
  OwnV (g.arr w.heap.size us (L 0)) ({ w with drawn:=w.drawn + n }.alloc (.cells (us.toArray++rest) T)) N L (.sl own k es) (.slice (some ⟨w.heap.size,0,none⟩) es.length c):=by
 intro i x u hx hu
 cases i with
 | succ i=>simp [AV.cells] at hx
 | zero =>
   simp [AV.cells] at hx
   simp [Value.cells] at hu
   subst hx; subst hu
   refine Own.of_sl fun k' es' e=>.inr ?_
   cases e
   refine ⟨w.heap.size,0,c,us.toArray++rest,T,rfl,hN,by simp [Gh.arr],heap_alloc_new { w with drawn:=w.drawn + n } _,by simp; omega,hc,fun j hj _=>?_⟩
   simp only [Gh.arr,if_true]
   exact List.getElem?_eq_none (by omega)
end
end Go.Fx
namespace Go.Fx
open Go Go.RowKit
section
variable {P:Program} {g:Gh} {d:Nat} {w:World} {fr:Fr} {st:St} {a:Act} {L:Nat→Loc}
theorem aA {s:Sem Value} {u:Value} {w w':World} (h:s.run P w = .ok u w'):(do pure (Next.value (← s)):Sem Next).run P w = .ok (.value u) w':=by
 rw [Sem.run_bind,h]; rfl
theorem add_run {v:AV} {u:Value} (hr:RS g d v u) {n:Nat} {K:AV→Prop} (h:(addA v n).wp K) :
  ∃ v',K v'∧(∃ b o,u = .pointer (some ⟨b,o,none⟩)∧RS g d v' (.pointer (some ⟨b,o + n,none⟩)))∧(∀ cs,v'≠.agg cs)∧v'.noOwn:=by
 unfold addA at h
 split at h
 ·obtain ⟨b,hb,rfl⟩:=hr
  exact ⟨_,h,⟨b,_,rfl,b,hb,rfl⟩,by simp,trivial⟩
 ·cases hr with
  | ptr _ _ b hb=>exact ⟨_,h,⟨b,_,rfl,R.ptr _ _ _ hb⟩,by simp,trivial⟩
 ·cases hr with
  | cptr cs us b o h1 h2 =>
    refine ⟨_,h,⟨b,o,rfl,R.cptr _ (fun i=>us (n + i)) b (o + n) (fun i c hc=>?_) (fun i c hc=>?_)⟩,by simp,trivial⟩
    ·rw [Nat.add_assoc]; exact h1 (n + i) c (by simpa using hc)
    ·exact h2 (n + i) c (by simpa using hc)
 ·exact h.elim
theorem pj {v:AV} {u:Value} (hr:RS g d v u) {n:Nat} {K:Nat→Prop} (h:(ixA v n).wp K):∃ k i j,u = .int k i∧0≤i∧i < n∧i.toNat = j∧j < n∧K j:=by
 unfold ixA at h
 split at h
 ·obtain ⟨rfl,_⟩:=hr.lit_inv
  obtain ⟨hb,h⟩:=h
  have hb:=of_decide_eq_true hb
  exact ⟨_,_,_,rfl,hb.1,hb.2,rfl,by omega,h⟩
 ·exact h.elim
theorem nj {t:TypeId} {i:Nat} {f:Field} (h:g8 P t i = some f):∃ fs,P.underlying t = some (.struct fs)∧fs[i]? = some f:=by
 unfold g8 at h
 split at h
 ·rename_i fs hu; exact ⟨fs,hu,h⟩
 ·cases h
theorem qy {t:TypeId} {off:Nat} {cs:List AV} {us:Array Value} (hl:RL g cs us.toList) {K:AV→Prop} (h:(g5 P t (cs.drop off)).wp K) :
  ∃ v,K v∧∃ u',(∀ w,(part t us off).run P w = .ok u' w)∧R g v u':=by
 unfold g5 at h
 split at h
 case h_2=>exact h.elim
 ·rename_i n dd hn hd
  split at h
  ·rename_i ha
   obtain ⟨hle,h⟩:=h
   refine ⟨_,h,_,fun w=>?_,(hl.drop off |>.take n).agg⟩
   have hp:=ka (P:=P) (us:=us) (off:=off) hd hn (by rw [ha]; simp) w
   simp only [fq,ha,if_true] at hp
   exact hp
  ·rename_i ha
   split at h
   ·rename_i c r hcs
    have hl':=hl.drop off
    rw [hcs] at hl'
    cases hus:us.toList.drop off with
    | nil=>rw [hus] at hl'; simp [RL] at hl'
    | cons u0 ur =>
      rw [hus] at hl'
      refine ⟨_,h,u0,fun w=>?_,hl'.2 0 c u0 rfl rfl⟩
      have h0:us[off]? = some u0:=by
       have:=congrArg (·[0]?) hus
       simpa using this
      simp [part,eU hd w,ha,h0]
   ·exact h.elim
theorem pop_field {t:TypeId} {u:Value} {i:Nat} {f:Field} {cs:List AV} (hf:g8 P t i = some f) (hr:RS g d (.agg cs) u) {K:AV→Prop} (h:(g5 P f.type (cs.drop f.offset)).wp K) :
  ∃ v,K v∧∃ u',(∀ w,(Instr.field t u i).run P w = .ok u' w)∧R g v u':=by
 obtain ⟨fs,hu,hi⟩:=nj hf
 obtain ⟨us,rfl,hl⟩:=R.agg_inv hr
 obtain ⟨v,h,u',hp,hv⟩:=qy hl h
 exact ⟨v,h,u',fun w=>by simp [Instr.field,run_underlying hu,hi,asAgg,hp w],hv⟩
theorem qm {t:TypeId} {v:AV} {u:Value} {i:Nat} {f:Field} (hf:g8 P t i = some f) (hz:(szT P f.type).getD 0≠0) (hr:RS g d v u) {K:AV→Prop} (h:(addA v f.offset).wp K) :
  ∃ v',K v'∧∃ u',(∀ w,(Instr.fieldAt t u i).run P w = .ok u' w)∧RS g d v' u'∧(∀ cs,v'≠.agg cs)∧v'.noOwn:=by
 obtain ⟨fs,hu,hi⟩:=nj hf
 obtain ⟨v',h,⟨b,o,rfl,hr'⟩,h1,h2⟩:=add_run hr h
 refine ⟨v',h,_,fun w=>?_,hr',h1,h2⟩
 cases hs:szT P f.type with
 | none=>simp [hs] at hz
 | some n =>
   have hn:n≠0:=by simpa [hs] using hz
   simp [Instr.fieldAt,run_underlying hu,hi,Instr.sureAddr,fieldPlace,aS hs w,hn,bf]
theorem pop_unA {op:UnOp} {x:AV} {u:Value} (hr:RS g d x u) {K:AV→Prop} (h:(unA op x).wp K):∃ v,K (.lit v)∧flat v = true∧∀ w,(Op.unary op u).run P w = .ok v w:=by
 unfold unA at h
 split at h
 ·obtain ⟨rfl,_⟩:=hr.lit_inv; exact ⟨_,h,rfl,fun w=>by simp [Op.unary]⟩
 ·obtain ⟨rfl,_⟩:=hr.lit_inv; exact ⟨_,h,rfl,fun w=>by simp [Op.unary,Op.intArith]⟩
 ·obtain ⟨rfl,_⟩:=hr.lit_inv; exact ⟨_,h,rfl,fun w=>by simp [Op.unary,Op.intBits]⟩
 ·exact h.elim
theorem jp {t e:TypeId} {own:Bool} {k:Nat} {es:List AV} {u ui:Value} {vi:AV} (hu:P.underlying t = some (.slice e)) (hk:szT P e = some k) (hr:RS g d (.sl own k es) u) (hi:RS g d vi ui) {K:AV→Prop}
  (h:((ixA vi es.length).bind fun j=>.ok (.cptr (es.getD j .any).cells)).wp K) :
  ∃ v',K v'∧∃ u',(∀ w,(Instr.indexAt t u ui).run P w = .ok u' w)∧RS g d v' u'∧(∀ cs,v'≠.agg cs)∧v'.noOwn:=by
 rw [Res.wp_bind] at h
 obtain ⟨q,i,j,rfl,h0,h1,hj,hjl,h⟩:=pj hi h
 refine ⟨_,h,?_⟩
 cases hr with
 | slE _ _ a c=>simp at hjl
 | slN _ _=>simp at hjl
 | sl _ _ _ us b o c hc hk' hi1 hi2 hi3 =>
   refine ⟨.pointer (some ⟨b,o + j * k,none⟩),fun w=>?_,?_,by simp,trivial⟩
   ·simp [Instr.indexAt,asIntOf,run_underlying hu,h0,h1,aS hk w,bf,hj]
   ·have hget:es.getD j .any = es[j]:=by simp [List.getD,hjl]
    have hlen:∀ (l:List AV),(∀ e ∈ l,e.cells.length = k)→(l.flatMap AV.cells).length = l.length * k:=by
     intro l
     induction l with
     | nil=>intro _; simp
     | cons x r ih=>intro hh; simp [List.flatMap_cons,hh x (by simp),ih (fun e he=>hh e (by simp [he])),Nat.succ_mul,Nat.add_comm]
    have hsplit:es = es.take j++es[j]::es.drop (j + 1):=by rw [← List.drop_eq_getElem_cons hjl]; exact (List.take_append_drop j es).symm
    have key:∀ (i':Nat) (c:AV),es[j].cells[i']? = some c→(es.flatMap AV.cells)[j * k + i']? = some c:=by
     intro i' c hc'
     have hlt:=(List.getElem?_eq_some_iff.1 hc').1
     rw [hsplit,List.flatMap_append,List.flatMap_cons]
     have h2:=hlen (es.take j) (fun e he=>hk' e (List.mem_of_mem_take he))
     rw [List.length_take,Nat.min_eq_left (Nat.le_of_lt hjl)] at h2
     rw [List.getElem?_append_right (by omega),h2,show j * k + i' - j * k = i' by omega,List.getElem?_append_left hlt]
     exact hc'
    rw [hget]
    exact R.cptr _ (fun i'=>us (j * k + i')) b (o + j * k) (fun i' c hc'=>by rw [Nat.add_assoc]; exact hi1 _ c (key i' c hc')) (fun i' c hc'=>hi2 _ c (key i' c hc'))
theorem jq {t e:TypeId} {n k:Nat} {v:AV} {u ui:Value} {vi:AV} (hu:P.underlying t = some (.array n e)) (hk:szT P e = some k) (hr:RS g d v u) (hi:RS g d vi ui) {j:Nat} {K:AV→Prop}
  (hj:∃ q i,ui = .int q i∧0≤i∧i < (n:Int)∧i.toNat = j) (h:(addA v (j * k)).wp K) :
  ∃ v',K v'∧∃ u',(∀ w,(Instr.indexAt t u ui).run P w = .ok u' w)∧RS g d v' u'∧(∀ cs,v'≠.agg cs)∧v'.noOwn:=by
 obtain ⟨q,i,rfl,h0,h1,hj⟩:=hj
 obtain ⟨v',h,⟨b,o,rfl,hr'⟩,h2,h3⟩:=add_run hr h
 exact ⟨v',h,_,fun w=>by simp [Instr.indexAt,asIntOf,run_underlying hu,h0,h1,Instr.sureAddr,aS hk w,bf,hj],hr',h2,h3⟩
theorem mB {t:TypeId} {s:ByteArray} {ui:Value} {vi:AV} (hu:P.underlying t = some .string) (hi:RS g d vi ui) {K:AV→Prop}
  (h:((ixA vi s.size).bind fun j=>.ok (.lit (.int .u8 (s.data.getD j 0).toNat))).wp K):∃ v,K (.lit v)∧flat v = true∧∀ w,(Instr.index t (.string s) ui).run P w = .ok v w:=by
 rw [Res.wp_bind] at h
 obtain ⟨q,i,j,rfl,h0,h1,hj,hjl,h⟩:=pj hi h
 refine ⟨_,h,rfl,fun w=>?_⟩
 have hg:s[j]? = some (s.data.getD j 0):=by
  have h2:j < s.data.size:=hjl
  rw [getElem?_pos s j hjl]
  have h3:s.data.getD j 0 = s.data[j]:=by rw [Array.getD,dif_pos h2]; rfl
  rw [h3]
  rfl
 simp [Instr.index,asIntOf,run_underlying hu,h0,hj,hg]
theorem nD {t e:TypeId} {n k:Nat} {cs:List AV} {u ui:Value} {vi:AV} (hu:P.underlying t = some (.array n e)) (hk:szT P e = some k) (hr:RS g d (.agg cs) u) (hi:RS g d vi ui) {j:Nat} {K:AV→Prop}
  (hj:∃ q i,ui = .int q i∧0≤i∧i < (n:Int)∧i.toNat = j) (h:(g5 P e (cs.drop (j * k))).wp K) :
  ∃ v,K v∧∃ u',(∀ w,(Instr.index t u ui).run P w = .ok u' w)∧R g v u':=by
 obtain ⟨q,i,rfl,h0,h1,hj⟩:=hj
 obtain ⟨us,rfl,hl⟩:=R.agg_inv hr
 obtain ⟨v,h,u',hp,hv⟩:=qy hl h
 exact ⟨v,h,u',fun w=>by simp [Instr.index,asIntOf,run_underlying hu,h0,h1,aS hk w,hj,hp w],hv⟩
end
end Go.Fx
namespace Go.Fx
open Go Go.RowKit
section
variable {P:Program} {g:Gh} {d:Nat} {w:World} {fr:Fr} {st:St} {a:Act} {L:Nat→Loc}
theorem g9 {es:List AV} {l:List UInt8} (h:es.mapM byteA = some l):∃ ns:List Int,es = ns.map (fun n=>.lit (.int .u8 n))∧l = ns.map fun n=>UInt8.ofNat n.toNat:=by
 induction es generalizing l with
 | nil=>simp at h; subst h; exact ⟨[],rfl,rfl⟩
 | cons e es ih =>
   simp only [List.mapM_cons,bind,Option.bind_eq_some_iff,pure,Option.some.injEq] at h
   obtain ⟨b,hb,l',hl,rfl⟩:=h
   obtain ⟨ns,rfl,rfl⟩:=ih hl
   unfold byteA at hb
   split at hb
   ·rename_i n; cases hb; exact ⟨n::ns,rfl,rfl⟩
   ·cases hb
theorem qz (ns:List Int) (s:ByteArray):ns.foldl (fun r n=>r.push (UInt8.ofNat n.toNat)) s = ⟨s.data++(ns.map fun n=>UInt8.ofNat n.toNat).toArray⟩:=by
 induction ns generalizing s with
 | nil=>simp
 | cons n ns ih =>
   rw [List.foldl_cons,ih]
   simp [ByteArray.push]
theorem kg (ns:List Int) (k:IntKind):(ns.map (fun n=>AV.lit (.int k n))).flatMap AV.cells = ns.map (fun n=>AV.lit (.int k n)):=by
 induction ns with
 | nil=>rfl
 | cons n ns ih=>simp [List.flatMap_cons,ih,AV.cells]
theorem conv_run {src dst:TypeId} {x:AV} {u:Value} (hg:Good g w) (hb:BoxR g w st) (hr:RS g d x u) {K:AV→Prop} (h:(g7 P st src dst x).wp K) :
  ∃ v,K v∧∃ u' g' w',(convert src dst u).run P w = .ok u' w'∧LeP g w g' w'∧R g' v u'∧(∀ cs,v≠.agg cs)∧v.noOwn:=by
 unfold g7 at h
 split at h
 ·rename_i h1 h2
  obtain ⟨rfl,_⟩:=hr.lit_inv
  exact ⟨_,h,_,g,w,by simp [convert,run_underlying h1,run_underlying h2,Conv.intToInt],LeP.refl g w,R.lit _ rfl,by simp,trivial⟩
 ·rename_i h1 h2
  obtain ⟨rfl,_⟩:=hr.lit_inv
  exact ⟨_,h,_,g,w,by simp [convert,run_underlying h1,run_underlying h2],LeP.refl g w,R.lit _ rfl,by simp,trivial⟩
 ·rename_i h1 h2
  obtain ⟨rfl,_⟩:=hr.lit_inv
  split at h
  ·rename_i h3
   exact ⟨_,h,_,g,w,by simp [convert,run_underlying h1,run_underlying h2,run_underlying h3,Conv.bytesToString],LeP.refl g w,R.lit _ rfl,by simp,trivial⟩
  ·exact h.elim
 ·rename_i h1 h2
  split at h
  ·rename_i h3
   split at h
   ·rename_i hk
    rw [Res.wp_bind,ak] at h
    obtain ⟨s,hs,h⟩:=h
    unfold ng at hs
    rw [Option.map_eq_some_iff] at hs
    obtain ⟨l,hl,rfl⟩:=hs
    obtain ⟨ns,rfl,rfl⟩:=g9 hl
    have key:(Conv.bytesToString u).run P w = .ok (.string ⟨(ns.map fun n=>UInt8.ofNat n.toNat).toArray⟩) w:=by
     generalize hes:ns.map (fun n=>AV.lit (Value.int IntKind.u8 n)) = es at hr
     have hlen:es.length = ns.length:=by rw [← hes]; simp
     cases hr with
     | sl _ _ _ us b o c hc hk' hi1 hi2 hi3 =>
       subst hes
       have hld:(loadCells ⟨b,o,none⟩ ns.length).run P w = .ok (ns.map (Value.int .u8)).toArray w:=by
        have:=run_loadCells_list (P:=P) w ⟨b,o,none⟩ (ns.map (Value.int .u8)) (fun j v hv=>by
         rw [bf]
         simp only [List.getElem?_map,Option.map_eq_some_iff] at hv
         obtain ⟨n,hn,rfl⟩:=hv
         have hx:((ns.map (fun n=>AV.lit (.int .u8 n))).flatMap AV.cells)[j]? = some (.lit (.int .u8 n)):=by rw [kg]; simp [hn]
         have:=(hi2 j _ hx).lit_inv.1
         rw [← this]
         exact hg.imm _ _ _ (hi1 j _ hx))
        simpa using this
       have:=run_bytesToString (P:=P) w ⟨b,o,none⟩ ns.length c ns hld
       rw [qz] at this
       rw [hlen]
       simpa using this
     | slE _ _ a c =>
       have:=run_bytesToString (P:=P) w a 0 c [] (by simp [loadCells,loadCellsFrom])
       have hns:ns = []:=by simpa using hes
       subst hns
       exact this
     | slN _ _ =>
       have hns:ns = []:=by simpa using hes
       subst hns
       simp [Conv.bytesToString]; rfl
    have hsl:∃ a n c,u = .slice a n c:=by
     generalize ns.map (fun n=>AV.lit (Value.int IntKind.u8 n)) = es at hr
     cases hr <;> exact ⟨_,_,_,rfl⟩
    obtain ⟨a',n',c',rfl⟩:=hsl
    exact ⟨_,h,_,g,w,by simp [convert,run_underlying h1,run_underlying h2,run_underlying h3,key],LeP.refl g w,R.lit _ rfl,by simp,trivial⟩
   ·exact h.elim
  ·exact h.elim
 ·rename_i e0 id0 k0 off0 len0 cap0 h1 h2
  split at h
  ·rename_i h3
   split at h
   ·rename_i hk
    subst hk
    rw [Res.wp_bind] at h
    obtain ⟨es,h,hlen,hcl,b,us,T,rfl,hrow,hsz,hR,hone⟩:=ni hb hr h
    rw [Res.wp_bind,ak] at h
    obtain ⟨s,hs,h⟩:=h
    unfold ng at hs
    rw [Option.map_eq_some_iff] at hs
    obtain ⟨l,hl,rfl⟩:=hs
    obtain ⟨ns,rfl,rfl⟩:=g9 hl
    simp only [List.length_map] at hlen
    have hld:(loadCells ⟨b,off0,none⟩ ns.length).run P w = .ok (ns.map (Value.int .u8)).toArray w:=by
     have:=run_loadCells_list (P:=P) w ⟨b,off0,none⟩ (ns.map (Value.int .u8)) (fun j v hv=>by
      rw [bf,cell_of_row w b _ us T (0,0) hrow]
      simp only [List.getElem?_map,Option.map_eq_some_iff] at hv
      obtain ⟨n,hn,rfl⟩:=hv
      have hjl:j < ns.length:=(List.getElem?_eq_some_iff.1 hn).1
      have hlt:off0 + j < us.size:=Nat.lt_of_lt_of_le (Nat.add_lt_add_left hjl _) (by rw [hlen]; simpa using hsz)
      rw [Array.getElem?_eq_getElem hlt]
      have hx:((ns.map (fun n=>AV.lit (.int .u8 n))).flatMap AV.cells)[j]? = some (.lit (.int .u8 n)):=by rw [kg]; simp [hn]
      have:=(hR j _ _ hx (Array.getElem?_eq_getElem hlt)).lit_inv.1
      rw [this])
     simpa using this
    have key:=run_bytesToString (P:=P) w ⟨b,off0,none⟩ ns.length cap0 ns hld
    rw [qz] at key
    rw [hlen] at key
    exact ⟨_,h,_,g,w,by simp [convert,run_underlying h1,run_underlying h2,run_underlying h3,key],LeP.refl g w,R.lit _ rfl,by simp,trivial⟩
   ·exact h.elim
  ·exact h.elim
 ·rename_i e s h1 h2
  obtain ⟨rfl,_⟩:=hr.lit_inv
  split at h
  ·rename_i h3
   split at h
   ·obtain ⟨_,h⟩:=h
    have hrun:=Lib.run_convert_string_bytes (P:=P) w src dst e s h1 h2 h3
    let us:List Value:=s.data.toList.map fun b=>.int .u8 b.toNat
    have hold:∀ b,b < w.heap.size→(Lib.bytesWorld w e s).heap[b]? = w.heap[b]?:=fun b hb=>Lib.bytesWorld_at_old w e s b hb
    have hbel:Below w.heap.size w (Lib.bytesWorld w e s):=⟨rfl,rfl,rfl,by rw [Lib.bytesWorld_size]; omega,hold⟩
    have hne:∀ b,b < w.heap.size→b≠w.heap.size:=fun b hb=>Nat.ne_of_lt hb
    refine ⟨_,h,_,g.arr w.heap.size us (.box 0 0),_,hrun,⟨hbel,fun b hb=>by funext o; simp [Gh.arr,hne b hb],fun b hb=>by simp [Gh.arr,hne b hb],rfl,rfl,rfl,fun hg'=>?_⟩,?_,by simp,trivial⟩
    ·refine ⟨fun b o u hi=>?_,fun b o u hi=>?_,fun b c hc=>?_,?_⟩
     ·simp only [Gh.arr] at hi
      split at hi
      ·rename_i eb
       subst eb
       simp only [us,List.getElem?_map,Option.map_eq_some_iff] at hi
       obtain ⟨x,hx,rfl⟩:=hi
       have hlt:o < s.size:=by have:=(List.getElem?_eq_some_iff.1 hx).1; simpa using this
       rw [Lib.bytesWorld_cell w e s o hlt]
       simp [List.getD,hx]
      ·rw [hbel.cell (p:=⟨b,o,none⟩) (hg'.lt hi)]
       exact hg'.imm b o u hi
     ·simp only [Gh.arr] at hi ⊢
      split at hi
      ·rename_i e; subst e; simp
      ·rename_i e; simp only [e,if_false]; exact hg'.immc b o u hi
     ·simp only [Gh.arr] at hc
      rw [Lib.bytesWorld_size]
      split at hc
      ·rename_i e; subst e; exact ⟨hg'.base,by omega⟩
      ·have:=hg'.cls b c hc; exact ⟨this.1,by omega⟩
     ·rw [Lib.bytesWorld_size]; have:=hg'.base; simp [Gh.arr]; omega
    ·have hfl:(s.data.toList.map dC).flatMap AV.cells = s.data.toList.map dC:=by
      generalize s.data.toList = l
      induction l with
      | nil=>rfl
      | cons x r ih=>simp [List.flatMap_cons,ih,dC,AV.cells]
     have hsz:(s.data.toList.map dC).length = s.size:=by rw [List.length_map,Array.length_toList]; rfl
     rw [← hsz]
     refine R.sl false 1 _ (fun i=>us.getD i undef) w.heap.size 0 _ ?_ ?_ (fun i x hx=>?_) (fun i x hx=>?_) (fun i x hx=>?_)
     ·rw [hsz]; exact grownCap_ge w s.size 0 e
     ·intro x hx; simp only [List.mem_map] at hx; obtain ⟨b,_,rfl⟩:=hx; rfl
     ·rw [hfl] at hx
      simp only [List.getElem?_map,Option.map_eq_some_iff] at hx
      obtain ⟨b,hb,rfl⟩:=hx
      have hb':s.data[i]? = some b:=by simpa using hb
      simp [Gh.arr,us,List.getD,hb']
     ·rw [hfl] at hx
      simp only [List.getElem?_map,Option.map_eq_some_iff] at hx
      obtain ⟨b,hb,rfl⟩:=hx
      simp only [us,List.getD,List.getElem?_map,hb,Option.map_some,Option.getD_some,dC]
      exact R.lit _ rfl
     ·rw [hfl] at hx
      simp only [List.getElem?_map,Option.map_eq_some_iff] at hx
      obtain ⟨b,hb,rfl⟩:=hx
      simp only [us,List.getD,List.getElem?_map,hb,Option.map_some,Option.getD_some]
      rfl
   ·exact h.elim
  ·exact h.elim
 ·exact h.elim
theorem dE {o:Option AV} {ou:Option Value} {dflt n:Nat} (hr:∀ v,o = some v→∃ u,ou = some u∧RS g d v u) (hn:o = none→ou = none) {K:Nat→Prop} (h:(ixTo o dflt n).wp K) :
  (ou = none∧K dflt)∨∃ q i j,ou = some (.int q i)∧0≤i∧i≤(n:Int)∧i.toNat = j∧K j:=by
 unfold ixTo at h
 split at h
 ·exact .inl ⟨hn rfl,h⟩
 ·obtain ⟨u,hu,hr⟩:=hr _ rfl
  obtain ⟨rfl,_⟩:=hr.lit_inv
  obtain ⟨hb,h⟩:=h
  have hb:=of_decide_eq_true hb
  exact .inr ⟨_,_,_,hu,hb.1,hb.2,rfl,h⟩
 ·exact h.elim
theorem gg {isSlice:Bool} {len cap:Nat} (hcap:len≤cap) {lo hi:Option AV} {ulo uhi:Option Value} (hlo:∀ v,lo = some v→∃ u,ulo = some u∧RS g d v u) (hlon:lo = none→ulo = none)
  (hhi:∀ v,hi = some v→∃ u,uhi = some u∧RS g d v u) (hhin:hi = none→uhi = none) {K:Nat×Nat→Prop}
  (h:((ixTo hi len len).bind fun h=>(ixTo lo 0 h).bind fun l=>.ok (l,h)).wp K) :
  ∃ l h,K (l,h)∧l≤h∧h≤len∧∀ w,(Instr.sliceBounds isSlice len cap ulo uhi none).run P w = .ok (l,h,cap) w:=by
 rw [Res.wp_bind] at h
 rcases dE hhi hhin h with ⟨hn,h⟩ | ⟨q,i,j,hn,h0,h1,hj,h⟩
 ·rw [Res.wp_bind] at h
  rcases dE hlo hlon h with ⟨hn',h⟩ | ⟨q',i',j',hn',h0',h1',hj',h⟩
  ·exact ⟨0,len,h,Nat.zero_le _,Nat.le_refl _,fun w=>by simp [Instr.sliceBounds,hn,hn']⟩
  ·exact ⟨j',len,h,by omega,Nat.le_refl _,fun w=>by simp [Instr.sliceBounds,hn,hn',run_sliceBound w q' i' len _ h0' h1',hj']⟩
 ·rw [Res.wp_bind] at h
  have hic:i≤(cap:Int):=by omega
  rcases dE hlo hlon h with ⟨hn',h⟩ | ⟨q',i',j',hn',h0',h1',hj',h⟩
  ·exact ⟨0,j,h,Nat.zero_le _,by omega,fun w=>by simp [Instr.sliceBounds,hn,hn',run_sliceBound w q i cap _ h0 hic,hj]⟩
  ·exact ⟨j',j,h,by omega,by omega,fun w=>by simp [Instr.sliceBounds,hn,hn',run_sliceBound w q i cap _ h0 hic,run_sliceBound w q' i' j _ h0' h1',hj,hj']⟩
theorem qA {own:Bool} {k:Nat} {es:List AV} {b o c l h:Nat} {u:Value} (hr:R g (.sl own k es) u) (hlh:l≤h) (hhl:h≤es.length) :
  ∃ a n m,u = .slice a n m∧n = es.length∧n≤m∧R g (.sl false k ((es.take h).drop l)) (.slice (if m = l then a else a.map (·.add (l * k))) (h - l) (m - l)):=by
 have hlen:((es.take h).drop l).length = h - l:=by simp; omega
 cases hr with
 | slE _ _ a c =>
   have h1:l = 0∧h = 0:=by simp at hhl; omega
   obtain ⟨rfl,rfl⟩:=h1
   refine ⟨_,_,_,rfl,rfl,Nat.zero_le _,?_⟩
   have e:(if c = 0 then some a else (some a).map (·.add (0 * k))) = some a:=by split <;> simp [Addr.add]
   rw [e]
   exact R.slE false k a c
 | slN _ _ =>
   have h1:l = 0∧h = 0:=by simp at hhl; omega
   obtain ⟨rfl,rfl⟩:=h1
   exact ⟨_,_,_,rfl,rfl,Nat.le_refl _,R.slN false k⟩
 | sl _ _ _ us b o c hc hk h1 h2 h3 =>
   refine ⟨_,_,_,rfl,rfl,hc,?_⟩
   by_cases hm:c = l
   ·have he:(es.take h).drop l = []:=List.eq_nil_of_length_eq_zero (by rw [hlen]; omega)
    rw [if_pos hm,he]
    have:h - l = 0:=by omega
    rw [this]
    exact R.slE false k _ _
   ·rw [if_neg hm,← hlen]
    have hfm:∀ (i:Nat) (x:AV),(((es.take h).drop l).flatMap AV.cells)[i]? = some x→(es.flatMap AV.cells)[l * k + i]? = some x:=by
     intro i x hx
     have hlt:=(List.getElem?_eq_some_iff.1 hx).1
     have hfl:∀ (q:List AV),(∀ e ∈ q,e.cells.length = k)→(q.flatMap AV.cells).length = q.length * k:=by
      intro q
      induction q with
      | nil=>intro _; simp
      | cons y r ih=>intro hh; simp [List.flatMap_cons,hh y (by simp),ih (fun e he=>hh e (by simp [he])),Nat.succ_mul,Nat.add_comm]
     have hs:es = (es.take h).take l++((es.take h).drop l++es.drop h):=by
      rw [← List.append_assoc,List.take_append_drop,List.take_append_drop]
     rw [hs,List.flatMap_append,List.flatMap_append]
     have hl1:=hfl ((es.take h).take l) (fun e he=>hk e (List.mem_of_mem_take (List.mem_of_mem_take he)))
     have hl2:((es.take h).take l).length = l:=by simp; omega
     rw [hl2] at hl1
     rw [List.getElem?_append_right (by omega),hl1,show l * k + i - l * k = i by omega,List.getElem?_append_left hlt]
     exact hx
    simp only [Option.map_some,bf]
    refine R.sl false k _ (fun i=>us (l * k + i)) b (o + l * k) _ (by rw [hlen]; omega) (fun e he=>hk e (List.mem_of_mem_take (List.mem_of_mem_drop he))) (fun i x hx=>?_) (fun i x hx=>h2 _ x (hfm i x hx)) (fun i x hx=>h3 _ x (hfm i x hx))
    rw [Nat.add_assoc]; exact h1 _ x (hfm i x hx)
end
end Go.Fx
namespace Go.Fx
open Go Go.RowKit
section
variable {P:Program} {g:Gh} {d:Nat} {w:World} {fr:Fr} {st:St} {a:Act} {L:Nat→Loc}
theorem qB {v:AV} {u:Value} (hs:v.solid1 = true) (h:R g v u):u.oneCell' = true∧u.cells = #[u]:=by
 cases h <;> first | exact ⟨rfl,rfl⟩ | (simp [AV.solid1] at hs; done) | skip
 rename_i hf
 cases u <;> first | exact ⟨rfl,rfl⟩ | (simp [flat] at hf; done)
theorem solid_cells {v:AV} (hs:v.solid1 = true):v.cells = [v]:=by cases v <;> first | rfl | (simp [AV.solid1] at hs; done)
theorem ba {v:AV} {u:Value} (hs:v.solid = true) (h:R g v u):RL g v.cells u.cells.toList∧∀ x ∈ u.cells,x.oneCell' = true:=by
 have hs':∀ c ∈ v.cells,c.solid1 = true:=by simpa [AV.solid] using hs
 by_cases hagg:∃ cs,v = .agg cs
 ·obtain ⟨cs,rfl⟩:=hagg
  obtain ⟨us,rfl,hl⟩:=h.agg_inv
  refine ⟨hl,fun x hx=>?_⟩
  obtain ⟨i,hi,rfl⟩:=Array.getElem_of_mem hx
  have hi':i < us.size:=hi
  have hc:i < cs.length:=by have:=hl.1; simp at this; omega
  exact (qB (hs' cs[i] (List.getElem_mem hc)) (hl.2 i cs[i] us[i] (by simp [hc]) (by simp [hi']))).1
 ·have hc1:v.cells = [v]:=by cases v <;> first | rfl | exact absurd ⟨_,rfl⟩ hagg
  have h1:=hs' v (by rw [hc1]; simp)
  have h2:=qB h1 h
  rw [solid_cells h1,h2.2]
  refine ⟨⟨rfl,fun i x y hx hy=>?_⟩,fun x hx=>by simp at hx; subst hx; exact h2.1⟩
  cases i <;> simp at hx hy
  subst hx; subst hy; exact h
theorem aO (v:AV):v.dis.cells.length = v.cells.length:=by
 cases v <;> simp [AV.dis,AV.cells]
theorem mC {v:AV} (h:v.solid = true):v.dis.solid = true:=by
 unfold AV.solid at *
 cases v with
 | agg cs =>
   simp only [AV.dis,AV.cells,List.all_map] at *
   rw [List.all_eq_true] at *
   intro x hx
   have:=h x hx
   cases x <;> simp_all [AV.own1,AV.solid1]
 | sl o k es=>rfl
 | tup vs=>simp [AV.cells,AV.solid1] at h
 | _=>exact h
theorem RL.nil:RL g [] []:=⟨rfl,fun i x u h=>by simp at h⟩
theorem RL.append {as bs:List AV} {us vs:List Value} (h:RL g as us) (k:RL g bs vs):RL g (as++bs) (us++vs):=by
 refine ⟨by simp [h.1,k.1],fun i x u hx hu=>?_⟩
 by_cases hi:i < as.length
 ·rw [List.getElem?_append_left hi] at hx
  rw [List.getElem?_append_left (by rw [h.1]; exact hi)] at hu
  exact h.2 i x u hx hu
 ·rw [List.getElem?_append_right (by omega)] at hx
  rw [List.getElem?_append_right (by rw [h.1]; omega),h.1] at hu
  exact k.2 _ x u hx hu
theorem bC {t:TypeId} {K:AV→Prop} (h:(eR P t).wp K):∃ v,K v∧∃ i z,P.info? t = some i∧i.zero = some z∧R g v z∧v.solid = true∧(∀ (j:Nat) (c:AV),v.cells[j]? = some c→c.noOwn):=by
 unfold eR at h
 cases hi:P.info? t with
 | none=>simp [hi] at h; exact h.elim
 | some i =>
   cases hz:i.zero with
   | none=>simp [hi,hz] at h; exact h.elim
   | some z =>
     simp only [hi,hz,Option.bind_some] at h
     have key:∀ v,ofVal z = v→v≠.any→R g v z∧v.solid = true∧(∀ (j:Nat) (c:AV),v.cells[j]? = some c→c.noOwn):=by
      intro v hv hne
      have lits:∀ x:Value,flat x = true→R g (.lit x) x∧(AV.lit x).solid = true∧(∀ (j:Nat) (c:AV),(AV.lit x).cells[j]? = some c→c.noOwn) :=
       fun x hx=>⟨R.lit x hx,rfl,cx x⟩
      cases z with
      | agg cs =>
        simp only [ofVal] at hv
        split at hv
        ·rename_i hall
         subst hv
         refine ⟨.agg _ cs (by simp) (fun j x u hx hu=>?_),by simp [AV.solid,AV.cells,AV.solid1],fun j c hc=>?_⟩
         ·simp only [List.getElem?_map,Option.map_eq_some_iff] at hx
          obtain ⟨y,hy,rfl⟩:=hx
          have:y = u:=Option.some.inj (hy.symm.trans (by simpa using hu))
          subst this
          refine R.lit _ (Array.all_eq_true_iff_forall_mem.1 hall _ ?_)
          exact Array.mem_of_getElem? hu
         ·simp only [AV.cells,List.getElem?_map,Option.map_eq_some_iff] at hc
          obtain ⟨y,_,rfl⟩:=hc
          trivial
        ·exact absurd hv.symm hne
      | _ =>
        simp only [ofVal] at hv
        split at hv
        ·subst hv; rename_i hf; exact lits _ hf
        ·exact absurd hv.symm hne
     split at h
     ·exact h.elim
     ·rename_i v hne
      exact ⟨_,h,i,z,rfl,hz,key _ rfl (by simpa using hne)⟩
end
end Go.Fx
namespace Go.Fx
open Go Go.RowKit
section
variable {P:Program} {g:Gh} {d:Nat} {w:World} {fr:Fr} {st:St} {a:Act} {L:Nat→Loc}
theorem dt:∀ (vs cs:List AV) (i j:Nat),(aG cs i vs)[j]? = if i≤j∧j < i + vs.length∧j < cs.length then vs[j - i]? else cs[j]?
 | [],cs,i,j=>by simp [aG]; omega
 | v :: vs, cs, i, j => by
   rw [aG,dt vs (cs.set i v) (i + 1) j,List.length_set,List.getElem?_set,List.length_cons]
   by_cases h1:i + 1≤j∧j < i + 1 + vs.length∧j < cs.length
   ·rw [if_pos h1,if_pos (by omega),show j - i = (j - (i + 1)) + 1 by omega,List.getElem?_cons_succ]
   ·rw [if_neg h1]
    by_cases h2:i = j
    ·subst h2
     by_cases h3:i < cs.length
     ·rw [if_pos rfl,if_pos h3,if_pos (by omega)]; simp
     ·rw [if_pos rfl,if_neg h3,if_neg (by omega),List.getElem?_eq_none (by omega)]
    ·rw [if_neg h2,if_neg (by omega)]
theorem eJ:∀ (vs cs:List AV) (i:Nat),(aG cs i vs).length = cs.length
 | [],cs,i=>rfl
 | v::vs,cs,i=>by rw [aG,eJ vs]; simp
theorem du (off:Nat):∀ (vs:List Value) (k:Nat) (cells:Array Value) (j:Nat),
  ((vs.zipIdx k).foldl (fun cs (p:Value×Nat)=>cs.setIfInBounds (off + p.2) p.1) cells)[j]? = if off + k≤j∧j < off + k + vs.length∧j < cells.size then vs[j - (off + k)]? else cells[j]?
 | [],k,cells,j=>by simp; omega
 | v :: vs, k, cells, j => by
   rw [List.zipIdx_cons,List.foldl_cons,du off vs (k + 1) _ j,Array.size_setIfInBounds,List.length_cons]
   by_cases h1:off + (k + 1)≤j∧j < off + (k + 1) + vs.length∧j < cells.size
   ·rw [if_pos h1,if_pos (by omega),show j - (off + k) = (j - (off + (k + 1))) + 1 by omega,List.getElem?_cons_succ]
   ·rw [if_neg h1]
    by_cases h2:off + k = j
    ·subst h2
     by_cases h3:off + k < cells.size
     ·rw [if_pos (by omega)]; simp [h3]
     ·rw [if_neg (by omega)]; simp [h3]
    ·rw [if_neg (by omega),Array.getElem?_setIfInBounds_ne h2]
theorem eA (off:Nat):∀ (vs:List Value) (k:Nat) (cells:Array Value),
  ((vs.zipIdx k).foldl (fun cs (p:Value×Nat)=>cs.setIfInBounds (off + p.2) p.1) cells).size = cells.size
 | [],k,cells=>by simp
 | v::vs,k,cells=>by rw [List.zipIdx_cons,List.foldl_cons,eA off vs]; simp
theorem pk (off:Nat) (vs:Array Value) (cells:Array Value) :
  vs.zipIdx.foldl (fun cs (p:Value×Nat)=>match p with | (c,j)=>cs.setIfInBounds (off + j) c) cells = (vs.toList.zipIdx 0).foldl (fun cs (p:Value×Nat)=>cs.setIfInBounds (off + p.2) p.1) cells:=by
 rw [← Array.foldl_toList,Array.toList_zipIdx]
inductive PR (g:Gh):List (Nat×AV)→List (Nat×Value)→Prop where
 | nil:PR g [] []
 | cons (i:Nat) (v:AV) (u:Value) (r:List (Nat×AV)) (s:List (Nat×Value)) (h:R g v u) (t:PR g r s):PR g ((i,v)::r) ((i,u)::s)
structure EL (g:Gh) (k:Nat) (es:List AV) (cells:Array Value):Prop where
 size:cells.size = es.length * k
 len:∀ e ∈ es,e.cells.length = k
 one:∀ x ∈ cells,x.oneCell' = true
 get:∀ (i r:Nat) (e c:AV),es[i]? = some e→e.cells[r]? = some c→∃ u,cells[i * k + r]? = some u∧R g c u
theorem eV {k:Nat}:∀ {es:List AV},(∀ e ∈ es,e.cells.length = k)→∀ {j:Nat} {x:AV},(es.flatMap AV.cells)[j]? = some x→∃ i r e,j = i * k + r∧es[i]? = some e∧e.cells[r]? = some x
 | [],_,j,x,h=>by simp at h
 | e :: es, hk, j, x, h => by
   rw [List.flatMap_cons] at h
   have he:=hk e (by simp)
   by_cases hj:j < e.cells.length
   ·rw [List.getElem?_append_left hj] at h
    exact ⟨0,j,e,by simp,rfl,h⟩
   ·rw [List.getElem?_append_right (by omega)] at h
    obtain ⟨i,r,e',h1,h2,h3⟩:=eV (fun e he=>hk e (by simp [he])) h
    exact ⟨i + 1,r,e',by rw [Nat.succ_mul]; omega,by simpa using h2,h3⟩
theorem EL.rl {k:Nat} {es:List AV} {cells:Array Value} (h:EL g k es cells):RL g (es.flatMap AV.cells) cells.toList:=by
 refine ⟨by rw [ai h.len]; simpa using h.size,fun j x u hx hu=>?_⟩
 obtain ⟨i,r,e,rfl,h2,h3⟩:=eV h.len hx
 obtain ⟨u',h4,h5⟩:=h.get i r e x h2 h3
 have:u' = u:=Option.some.inj (h4.symm.trans (by simpa using hu))
 subst this
 exact h5
theorem mem_foldSet {off:Nat} {vs:List Value} {cells:Array Value} {x:Value} (hv:∀ y ∈ vs,y.oneCell' = true) (hc:∀ y ∈ cells,y.oneCell' = true)
  (h:x ∈ ((vs.zipIdx 0).foldl (fun cs (p:Value×Nat)=>cs.setIfInBounds (off + p.2) p.1) cells)):x.oneCell' = true:=by
 obtain ⟨i,hi⟩:=Array.getElem?_of_mem h
 rw [du] at hi
 split at hi
 ·exact hv x (List.mem_of_getElem? hi)
 ·exact hc x (Array.mem_of_getElem? hi)
theorem fill_run {k:Nat}:∀ {ps:List (Nat×AV)} {us:List (Nat×Value)} {es:List AV} {cells:Array Value} {K:List AV→Prop},PR g ps us→EL g k es cells→(eT k ps es).wp K →
  ∃ es',K es'∧es'.length = es.length∧∃ cells',Instr.fill (fun i=>some (i * k,k)) cells us = some cells'∧EL g k es' cells'
 | _,_,es,cells,K,.nil,hE,h=>⟨es,h,rfl,cells,rfl,hE⟩
 | _, _, es, cells, K, .cons i v u r s hr ht, hE, h => by
   simp only [eT] at h
   split at h
   ·rename_i hc
    obtain ⟨hi,hk,hs⟩:=hc
    obtain ⟨hl,h1⟩:=ba hs hr
    have hsz:u.cells.size = k:=by have:=hl.1; simp at this; omega
    have hbound:i * k + k≤es.length * k:=by rw [← Nat.succ_mul]; exact Nat.mul_le_mul_right k hi
    have hE':EL g k (es.set i v.dis) ((u.cells.toList.zipIdx 0).foldl (fun cs (p:Value×Nat)=>cs.setIfInBounds (i * k + p.2) p.1) cells):=by
     refine ⟨by rw [eA]; simpa using hE.size,fun e he=>?_,fun x hx=>mem_foldSet (by simpa using h1) hE.one hx,fun i' r' e c he hc=>?_⟩
     ·rcases List.mem_or_eq_of_mem_set he with he | rfl
      ·exact hE.len e he
      ·rw [aO]; exact hk
     ·rw [du]
      rw [List.getElem?_set] at he
      have hul:u.cells.toList.length = k:=by simpa using hsz
      split at he
      ·rename_i e0
       subst e0
       first | (rw [if_pos hi] at he) | skip
       cases he
       have hr':r' < k:=by have:=(List.getElem?_eq_some_iff.1 hc).1; rw [aO] at this; omega
       rw [if_pos ⟨by omega,by omega,by rw [hE.size]; omega⟩,show i * k + r' - (i * k + 0) = r' by omega]
       have hcd:=(ba (mC hs) hr.dis).1
       have hlt:r' < u.cells.toList.length:=by omega
       exact ⟨u.cells.toList[r'],List.getElem?_eq_getElem hlt,hcd.2 r' c _ hc (List.getElem?_eq_getElem hlt)⟩
      ·rename_i hne
       obtain ⟨u',h4,h5⟩:=hE.get i' r' e c he hc
       refine ⟨u',?_,h5⟩
       have hr':r' < k:=by have:=(List.getElem?_eq_some_iff.1 hc).1; have:=hE.len e (List.mem_of_getElem? he); omega
       rw [if_neg]
       ·exact h4
       ·rintro ⟨q1,q2,_⟩
        rw [hul] at q2
        rcases Nat.lt_or_gt_of_ne hne with hlt | hlt
        ·have:(i + 1) * k≤i' * k:=Nat.mul_le_mul_right k hlt
         rw [Nat.succ_mul] at this; omega
        ·have:(i' + 1) * k≤i * k:=Nat.mul_le_mul_right k hlt
         rw [Nat.succ_mul] at this; omega
    obtain ⟨es',h2,h3,cells',h4,h5⟩:=fill_run ht hE' h
    refine ⟨es',h2,by rw [h3]; simp,cells',?_,h5⟩
    simp only [Instr.fill,hsz]
    rw [if_neg (by simp [hE.size]; omega),pk]
    exact h4
   ·exact h.elim
theorem mD {place:Nat→Option (Nat×Nat)}:∀ {ps:List (Nat×AV)} {us:List (Nat×Value)} {cs:List AV} {cells:Array Value} {K:List AV→Prop},PR g ps us→RL g cs cells.toList→(br place ps cs).wp K →
  ∃ cs',K cs'∧∃ cells',Instr.fill place cells us = some cells'∧RL g cs' cells'.toList
 | _,_,cs,cells,K,.nil,hE,h=>⟨cs,h,cells,rfl,hE⟩
 | _, _, cs, cells, K, .cons i v u r s hr ht, hE, h => by
   simp only [br] at h
   split at h
   ·rename_i off size hp
    split at h
    ·rename_i hc
     obtain ⟨hk,hle,hs⟩:=hc
     obtain ⟨hl,h1⟩:=ba (mC hs) hr.dis
     have hsz:u.cells.size = size:=by have:=hl.1; rw [aO] at this; simp at this; omega
     have hcs:cells.size = cs.length:=by simpa using hE.1
     have hE':RL g (aG cs off v.dis.cells) ((u.cells.toList.zipIdx 0).foldl (fun cs (p:Value×Nat)=>cs.setIfInBounds (off + p.2) p.1) cells).toList:=by
      refine ⟨by rw [eJ]; simp only [Array.length_toList]; rw [eA,hcs],fun j x y hx hy=>?_⟩
      rw [dt,aO] at hx
      rw [Array.getElem?_toList,du] at hy
      have hul:u.cells.toList.length = v.cells.length:=by simp; omega
      rw [hul,hcs] at hy
      simp only [Nat.add_zero] at hy
      split at hx
      ·rename_i hcond
       rw [if_pos hcond] at hy
       exact hl.2 _ x y hx hy
      ·rename_i hcond
       rw [if_neg hcond] at hy
       exact hE.2 j x y hx (by simpa using hy)
     obtain ⟨cs',h2,cells',h4,h5⟩:=mD ht hE' h
     refine ⟨cs',h2,cells',?_,h5⟩
     simp only [Instr.fill,hp,hsz]
     rw [if_neg (by simp [hcs]; omega),pk]
     exact h4
    ·exact h.elim
   ·exact h.elim
end
end Go.Fx
namespace Go.Fx
open Go Go.RowKit
section
variable {P:Program} {g:Gh} {d:Nat} {w:World} {fr:Fr} {st:St} {a:Act} {L:Nat→Loc}
theorem setAt_noOwn {vs cs:List AV} {i:Nat} (h1:∀ (j:Nat) (c:AV),vs[j]? = some c→c.noOwn) (h2:∀ (j:Nat) (c:AV),cs[j]? = some c→c.noOwn):∀ (j:Nat) (c:AV),(aG cs i vs)[j]? = some c→c.noOwn:=by
 intro j c h
 rw [dt] at h
 split at h
 ·exact h1 _ c h
 ·exact h2 _ c h
theorem gh {place:Nat→Option (Nat×Nat)}:∀ {ps:List (Nat×AV)} {cs:List AV} {K:List AV→Prop},(∀ (j:Nat) (c:AV),cs[j]? = some c→c.noOwn)→(br place ps cs).wp K →
  (br place ps cs).wp fun cs'=>K cs'∧∀ (j:Nat) (c:AV),cs'[j]? = some c→c.noOwn
 | [],cs,K,h0,h=>⟨h,h0⟩
 | (i, v) :: r, cs, K, h0, h => by
   simp only [br] at h ⊢
   split at h
   ·rename_i off size hp
    split at h
    ·rename_i hc
     rw [if_pos hc]
     exact gh (setAt_noOwn (aq v) h0) h
    ·exact h.elim
   ·exact h.elim
theorem pop_build {t:TypeId} {ps:List (Nat×AV)} {us:List (Nat×Value)} (hp:PR g ps us) {K:AV→Prop}
  (h:(match P.underlying t with
  | some (.struct fields)=>(Res.ofOpt (eS P fields)).bind fun places =>
    (eR P t).bind fun z=>(br (fun i=>places[i]?) ps z.cells).bind fun cs=>.ok (AV.agg cs)
  | some (.array _ e)=>(eR P t).bind fun z=>(Res.ofOpt (szT P e)).bind fun k=>(br (fun i=>some (i * k,k)) ps z.cells).bind fun cs=>.ok (AV.agg cs)
  | _=>Res.fail).wp K) :
  ∃ v,K v∧∃ u,(∀ w,(Instr.build t us.toArray).run P w = .ok u w)∧R g v u∧∀ (j:Nat) (c:AV),v.cells[j]? = some c→c.noOwn:=by
 split at h
 ·rename_i fields hu
  rw [Res.wp_bind,ak] at h
  obtain ⟨places,hpl,h⟩:=h
  rw [Res.wp_bind] at h
  obtain ⟨z,h,i,zv,hi,hz,hzr,hzs,hzn⟩:=bC (g:=g) h
  rw [Res.wp_bind] at h
  obtain ⟨cs',⟨h,hno⟩,cells',hf,hR⟩:=mD hp (ba hzs hzr).1 (gh hzn h)
  refine ⟨_,h,.agg cells',fun w=>run_build w t _ _ ?_,?_,hno⟩
  ·unfold eS at hpl
   unfold Program.built
   simp only [hi,hu,hz,hpl]
   have:(fun i:Nat=>places.toArray[i]?) = fun i:Nat=>places[i]?:=by funext i; simp
   rw [this]
   exact hf
  ·have:=hR.agg; simpa using this
 ·rename_i n e hu
  rw [Res.wp_bind] at h
  obtain ⟨z,h,i,zv,hi,hz,hzr,hzs,hzn⟩:=bC (g:=g) h
  rw [Res.wp_bind,ak] at h
  obtain ⟨k,hk,h⟩:=h
  rw [Res.wp_bind] at h
  obtain ⟨ie,hie,rfl⟩:=j0 hk
  obtain ⟨cs',⟨h,hno⟩,cells',hf,hR⟩:=mD hp (ba hzs hzr).1 (gh hzn h)
  refine ⟨_,h,.agg cells',fun w=>run_build w t _ _ ?_,?_,hno⟩
  ·unfold Program.built
   simp only [hi,hu,hz,hie]
   exact hf
  ·have:=hR.agg; simpa using this
 ·exact h.elim
theorem zeros_EL {k len:Nat} {z:AV} {zv:Value} (hk:0 < k) (hl:z.cells.length = k) (hs:z.solid = true) (hr:R g z zv) :
  EL g k (List.replicate len z) ((Array.range (len * k)).map (zv.cells[· % zv.cells.size]!)):=by
 obtain ⟨hrl,h1⟩:=ba hs hr
 have hsz:zv.cells.size = k:=by have:=hrl.1; simp at this; omega
 refine ⟨by simp,fun e he=>by rw [List.eq_of_mem_replicate he]; exact hl,fun x hx=>?_,fun i r e c he hc=>?_⟩
 ·simp only [Array.mem_map,Array.mem_range] at hx
  obtain ⟨j,hj,rfl⟩:=hx
  have hlt:j % zv.cells.size < zv.cells.size:=Nat.mod_lt _ (by omega)
  rw [getElem!_pos zv.cells _ hlt]
  exact h1 _ (Array.getElem_mem hlt)
 ·have hi:i < len:=by have:=(List.getElem?_eq_some_iff.1 he).1; simpa using this
  have:e = z:=by
   obtain ⟨hi',he'⟩:=List.getElem?_eq_some_iff.1 he
   rw [List.getElem_replicate] at he'
   exact he'.symm
  subst this
  have hr':r < k:=by have:=(List.getElem?_eq_some_iff.1 hc).1; omega
  have hlt:i * k + r < len * k:=by
   have:(i + 1) * k≤len * k:=Nat.mul_le_mul_right k hi
   rw [Nat.succ_mul] at this; omega
  have hmod:(i * k + r) % zv.cells.size = r:=by rw [hsz,Nat.mul_comm,Nat.mul_add_mod]; exact Nat.mod_eq_of_lt hr'
  have hlt2:r < zv.cells.size:=by omega
  refine ⟨zv.cells[r],?_,hrl.2 r c _ hc (by simp [hlt2])⟩
  simp only [Array.getElem?_map]
  rw [Array.getElem?_range]
  simp only [hlt,if_true,Option.map_some]
  rw [hmod,getElem!_pos zv.cells r hlt2]
theorem mkSl_R {g:Gh} {k:Nat} {es:List AV} {a:Addr} (h:R g (.sl true k es) (.slice (some a) es.length es.length)):R g (mkSl k es) (.slice (some a) es.length es.length):=by
 unfold mkSl
 split
 ·exact .xs _ _ a h.own
 ·exact h
theorem mkSl_Own {g:Gh} {w:World} {N:Nat} {L:Nat→Loc} {k:Nat} {es:List AV} {u:Value} (h:OwnV g w N L (.sl true k es) u):OwnV g w N L (mkSl k es) u:=by
 unfold mkSl
 split
 ·intro i c x hc _
  cases i with
  | succ i=>simp [AV.cells] at hc
  | zero =>
    simp [AV.cells] at hc
    subst hc
    exact Own.of_no trivial
 ·exact h
theorem pm {t e:TypeId} {k len:Nat} {ps:List (Nat×AV)} {us:List (Nat×Value)} (hp:PR g ps us) (hu:P.underlying t = some (.slice e)) (hk:szT P e = some k) (hk0:0 < k) (hsm:len * k≤1000000) (L:Nat→Loc)
  {K:AV→Prop} (h:((eR P e).bind fun z=>if z.cells.length = k then (eT k ps (List.replicate len z)).bind fun es=>.ok (mkSl k es) else .fail).wp K) (hg:Good g w) {N:Nat} (hN:N≤w.heap.size) :
  ∃ v,K v∧∃ u g' w',(Instr.buildSlice t len us.toArray).run P w = .ok u w'∧LeP g w g' w'∧R g' v u∧OwnV g' w' N L v u:=by
 rw [Res.wp_bind] at h
 obtain ⟨z,h,i,zv,hi,hz,hzr,hzs,hzn⟩:=bC (g:=g) h
 split at h
 ·rename_i hzl
  rw [Res.wp_bind] at h
  obtain ⟨ie,hie,hsz⟩:=j0 hk
  have hie':ie = i:=Option.some.inj (hie.symm.trans hi)
  subst hie'
  obtain ⟨es',h,hlen,cells',hf,hE⟩:=fill_run hp (zeros_EL (len:=len) hk0 hzl hzs hzr) h
  simp only [List.length_replicate] at hlen
  have hle:=mA (g:=g) (w:=w) cells'.toList #[] e (L 0) 0
  have hrl:=hE.rl
  have hfl:=ai hE.len
  refine ⟨_,h,.slice (some ⟨w.heap.size,0,none⟩) len len,_,_,?_,hle,?_,?_⟩
  ·have hw:({ w with drawn:=w.drawn + 0 }.alloc (.cells (cells'.toList.toArray++#[]) e)) = w.alloc (.cells cells' e):=by simp
   rw [hw]
   by_cases h0:len * ie.size = 0
   ·have hl0:len = 0:=by rw [hsz] at h0; rcases Nat.mul_eq_zero.1 h0 with h1 | h1 <;> omega
    subst hl0
    have hc0:cells' = #[]:=by
     have:=hE.size; rw [hlen] at this; simp at this; exact this
    subst hc0
    have hz0:∀ f:Nat→Value,(Array.range 0).map f = #[]:=fun f=>by
     apply Array.eq_empty_of_size_eq_zero
     rw [Array.size_map,Array.size_range]
    have hf':Instr.fill (fun i=>some (i * ie.size,ie.size)) #[] us = some #[]:=by
     rw [hsz]
     rw [show (Array.range (0 * k)) = Array.range 0 by rw [Nat.zero_mul],hz0] at hf
     exact hf
    simp [Instr.buildSlice,run_underlying hu,sizeOf,typeInfo,hie,hz0,hf',newRow]
   ·exact run_buildSlice w t e len us.toArray cells' ie zv hu hie hz (by rw [hsz]; omega) h0 (by rw [hsz]; simpa using hf)
  ·rw [← hlen]
   exact mkSl_R (qx true es'.length (Nat.le_refl _) hE.len hrl.1 hrl.2 (by simpa using hE.one) (hle.ghle hg))
  ·rw [← hlen]
   refine mkSl_Own (iH (g:=g) (w:=w) (us:=cells'.toList) (L:=L) (k:=k) es'.length #[] e 0 (Nat.le_refl _) ?_ ?_ true hN)
   ·have:=hE.size; simpa using this
   ·have:=hE.size; simp; omega
 ·exact h.elim
end
end Go.Fx
namespace Go.Fx
open Go Go.RowKit
section
variable {P:Program} {g:Gh} {d:Nat} {w:World} {fr:Fr} {st:St} {a:Act} {L:Nat→Loc}
def qC:TypeDesc→Value→Prop
 | .int k,.int k' _=>k = k'
 | .string,.string _=>True
 | .bool,.bool _=>True
 | _,_=>False
theorem find_run {kt:TypeDesc} {key:Value} :
  ∀ {es:List (AV×AV)} {us:List MapEntry} {i:Nat} {K:Option (Nat×AV)→Prop},us.length = es.length →
   (∀ (j:Nat) (k v:AV) (e:MapEntry),es[j]? = some (k,v)→us[j]? = some e→KeyR k e.key) →
   qC kt key →
   (bU (.lit key) es i).wp K →
   ∃ r,K r∧((r = none∧Instr.findNow kt key us i = some none)∨∃ j k v e,r = some (i + j,v)∧es[j]? = some (k,v)∧us[j]? = some e∧Instr.findNow kt key us i = some (some (i + j,e.val)))
 | [], us, i, K, hl, _, _, h => by
   have:us = []:=List.eq_nil_of_length_eq_zero (by simpa using hl)
   subst this
   exact ⟨none,h,.inl ⟨rfl,rfl⟩⟩
 | (k, v) :: es, us, i, K, hl, hes, hkey, h => by
   cases us with
   | nil=>simp at hl
   | cons e us =>
     have hes':∀ (j:Nat) (k v:AV) (e:MapEntry),es[j]? = some (k,v)→us[j]? = some e→KeyR k e.key :=
      fun j k v e h1 h2=>hes (j + 1) k v e (by simpa using h1) (by simpa using h2)
     rcases hes 0 k v e rfl rfl with ⟨x,rfl,hf,hx⟩ | ⟨ws,rfl,_⟩
     case inr =>
      have:bS (.lit key) (.agg (ws.map AV.lit)) = none:=by cases key <;> rfl
      simp only [bU,this] at h
      exact h.elim
     have hsame:∀ b,bS (.lit key) (.lit x) = some b→Instr.sameNow kt key e.key = some b:=by
      intro b hb
      rw [hx]
      unfold bS at hb
      split at hb
      ·rename_i k1 n1 k2 n2 e1 e2
       cases e1; cases e2
       cases kt <;> simp only [qC] at hkey
       subst hkey
       split at hb
       ·rename_i hk; subst hk; simpa [Instr.sameNow] using hb
       ·cases hb
      ·rename_i e1 e2
       cases e1; cases e2
       cases kt <;> simp only [qC] at hkey
       simpa [Instr.sameNow] using hb
      ·rename_i e1 e2
       cases e1; cases e2
       cases kt <;> simp only [qC] at hkey
       simpa [Instr.sameNow] using hb
      ·rename_i e1 e2; cases e1
      ·cases hb
     simp only [bU] at h
     split at h
     ·rename_i b hb
      have hs:=hsame b hb
      cases b with
      | true =>
        refine ⟨_,h,.inr ⟨0,.lit x,v,e,rfl,rfl,rfl,?_⟩⟩
        simp [Instr.findNow,hs]
      | false =>
        obtain ⟨r,hr,h2⟩:=find_run (i:=i + 1) (by simpa using hl) hes' hkey h
        refine ⟨r,hr,?_⟩
        rcases h2 with ⟨h3,h4⟩ | ⟨j,k',v',e',h3,h4,h5,h6⟩
        ·exact .inl ⟨h3,by simp [Instr.findNow,hs,h4]⟩
        ·exact .inr ⟨j + 1,k',v',e',by rw [h3]; congr 2; omega,by simpa using h4,by simpa using h5,by simp [Instr.findNow,hs,h6]; omega⟩
     ·exact h.elim
theorem eB {t:TypeId} {kt:TypeDesc} (hu:P.underlying t = some kt) (hkt:(∃ k,kt = .int k)∨kt = .string∨kt = .bool) (b:Bool) (v:Value) (n:Nat) (w:World) :
  (Instr.checkKey b (n + 1) t v).run P w = .ok () w:=by
 rcases hkt with ⟨k,rfl⟩ | rfl | rfl <;> simp [Instr.checkKey,run_underlying hu]
theorem qD:∀ {cs:List AV},cs.all pg = true→∃ vs:List Value,cs = vs.map AV.lit∧∀ v ∈ vs,∃ q n,v = .int q n
 | [],_=>⟨[],rfl,fun v hv=>by cases hv⟩
 | c :: cs, h => by
   simp only [List.all_cons,Bool.and_eq_true] at h
   obtain ⟨vs,rfl,hv⟩:=qD h.2
   cases c with
   | lit v =>
     cases v with
     | int q n=>exact ⟨.int q n::vs,rfl,fun v hm=>by rcases List.mem_cons.1 hm with rfl | hm; exact ⟨q,n,rfl⟩; exact hv v hm⟩
     | _=>simp [pg] at h
   | _=>simp [pg] at h
theorem kh:∀ (n:Nat) {xs ys:List AV} {b:Bool},aR xs ys = some b→∃ b1 b2,aR (xs.take n) (ys.take n) = some b1∧aR (xs.drop n) (ys.drop n) = some b2∧b = (b1 && b2)
 | 0,xs,ys,b,h=>⟨true,b,by simp [aR],by simpa using h,by simp⟩
 | n + 1, xs, ys, b, h => by
   unfold aR at h
   split at h
   ·cases h; exact ⟨true,true,by simp [aR],by simp [aR],rfl⟩
   ·rename_i k a r k' c s
    split at h
    ·rename_i hk
     obtain ⟨q,hq,rfl⟩:=Option.map_eq_some_iff.1 h
     obtain ⟨b1,b2,h1,h2,rfl⟩:=kh n hq
     exact ⟨a == c && b1,b2,by simp [aR,hk,h1],by simpa using h2,by simp [Bool.and_assoc]⟩
    ·cases h
   ·cases h
theorem hH:∀ {xs ys:List AV} {b:Bool},aR xs ys = some b→xs.length = ys.length
 | xs, ys, b, h => by
   unfold aR at h
   split at h
   ·rfl
   ·split at h
    ·obtain ⟨q,hq,_⟩:=Option.map_eq_some_iff.1 h
     simp [hH hq]
    ·cases h
   ·cases h
theorem ints_eq:∀ (d:Nat) (t:TypeId) (N:Nat),fo P d t = some N→∀ {xs ys:List AV} {b:Bool},xs.length = N→aR xs ys = some b→eqA P d t xs ys = .ok b:=by
 intro d
 induction d with
 | zero=>intro t N h; cases h
 | succ d ih =>
   intro t N h xs ys b hl he
   unfold fo at h
   split at h
   ·rename_i k hu
    cases h
    match xs,hl with
    | [x], _ =>
      have hly:=hH he
      match ys,hly with
      | [y], _ =>
        unfold eqA
        simp only [hu]
        unfold aR at he
        split at he
        ·rename_i h1 _; cases h1
        ·rename_i k1 a r k2 c s h1 h2
         cases h1; cases h2
         split at he
         ·rename_i hk
          simp [aR] at he
          simp [rA,hk,he]
         ·cases he
        ·cases he
   ·rename_i fields hu
    split at h
    ·cases h
    ·rename_i hst
     unfold eqA
     simp only [hu]
     rw [if_neg hst]
     have key:∀ (fs:List Field) (o:Nat) (b:Bool),nh P (fo P d) fs o = some N→aR (xs.drop o) (ys.drop o) = some b →
       fs.foldr (fun f r => if f.name ≠ "_" then (Res.ofOpt (szT P f.type)).bind fun n => andA (eqA P d f.type ((xs.drop f.offset).take n) ((ys.drop f.offset).take n)) r else r) (.ok true) = .ok b ∧ o ≤ N := by
      intro fs
      induction fs with
      | nil =>
        intro o b h1 h2
        simp only [nh,Option.some.injEq] at h1
        subst h1
        have e:xs.drop o = []:=List.drop_eq_nil_of_le (by omega)
        have e2:ys.drop o = []:=List.drop_eq_nil_of_le (by have:=hH he; omega)
        rw [e,e2] at h2
        simp only [aR,Option.some.injEq] at h2
        subst h2
        exact ⟨rfl,Nat.le_refl _⟩
      | cons f fs ihf =>
        intro o b h1 h2
        simp only [nh] at h1
        split at h1
        ·rename_i n n' hsz hg
         split at h1
         ·rename_i hc
          obtain ⟨hn,ho,rfl⟩:=hc
          obtain ⟨b1,b2,e1,e2,rfl⟩:=kh n h2
          rw [List.drop_drop,List.drop_drop] at e2
          obtain ⟨r1,r2⟩:=ihf (o + n) b2 h1 e2
          have:=ih f.type n hg (xs:=(xs.drop o).take n) (by rw [List.length_take,List.length_drop]; omega) e1
          refine ⟨?_,by omega⟩
          rw [List.foldr_cons,r1,ho,hsz,if_pos hn]
          simp only [Res.ofOpt,Res.bind,andA,this]
         ·cases h1
        ·cases h1
     exact (key _ 0 b h (by simpa using he)).1
   ·cases h
theorem intsT_desc {d:Nat} {t:TypeId} {N:Nat} (h:fo P d t = some N):∃ dd,P.underlying t = some dd:=by
 cases d with
 | zero=>cases h
 | succ d =>
   unfold fo at h
   split at h
   ·rename_i hu; exact ⟨_,hu⟩
   ·rename_i hu; exact ⟨_,hu⟩
   ·cases h
theorem qn (b:Bool):∀ (d:Nat) (t:TypeId) (N k:Nat),fo P d t = some N→∀ (us:List Value),us.length = N→∀ w,(Instr.checkKey b (d + k) t (fq P t us)).run P w = .ok () w:=by
 intro d
 induction d with
 | zero=>intro t N k h; cases h
 | succ d ih =>
   intro t N k h us hl w
   unfold fo at h
   split at h
   ·rename_i q hu
    rw [show d + 1 + k = (d + k) + 1 by omega]
    exact eB hu (.inl ⟨q,rfl⟩) b _ _ w
   ·rename_i fields hu
    split at h
    ·cases h
    ·have ha:aw P t = true:=by simp [aw,hu]
     rw [show d + 1 + k = (d + k) + 1 by omega]
     unfold fq
     rw [if_pos ha,Instr.checkKey]
     simp only [Sem.run_bind,run_underlying hu,Result.andThen_ok]
     rw [← Array.forIn_toList]
     have key:∀ (fs:List Field) (o:Nat),nh P (fo P d) fs o = some N→o≤N∧(forIn fs PUnit.unit fun f _=>(do
       if f.name ≠ "_" then Instr.checkKey b (d + k) f.type (← part f.type us.toArray f.offset)
       pure (ForInStep.yield PUnit.unit):Sem (ForInStep PUnit))).run P w = .ok PUnit.unit w:=by
      intro fs
      induction fs with
      | nil =>
        intro o h1
        simp only [nh,Option.some.injEq] at h1
        exact ⟨by omega,by simp⟩
      | cons f fs ihf =>
        intro o h1
        simp only [nh] at h1
        split at h1
        ·rename_i n n' hsz hg
         split at h1
         ·rename_i hc
          obtain ⟨hn,ho,rfl⟩:=hc
          obtain ⟨r1,r2⟩:=ihf (o + n) h1
          obtain ⟨dd,hdd⟩:=intsT_desc hg
          have hn0:aw P f.type = false→(us.toArray.toList.drop f.offset).take n≠[]:=fun e0 e1=>by
           have hpos:0 < n:=by
            cases d with
            | zero=>cases hg
            | succ d =>
              unfold fo at hg
              split at hg
              ·cases hg; omega
              ·rename_i hu2
               simp [aw,hu2] at e0
              ·cases hg
           have:=congrArg List.length e1
           simp only [List.length_take,List.length_drop,List.length_nil] at this
           omega
          have p1:=ka (P:=P) (us:=us.toArray) hdd hsz hn0 w
          have p2:=ih f.type n k hg ((us.drop f.offset).take n) (by rw [List.length_take,List.length_drop]; omega) w
          refine ⟨by omega,?_⟩
          simp only [List.forIn_cons,Sem.run_bind,hn,ne_eq,not_false_eq_true,if_true,Result.andThen_ok,p1,p2,Sem.run_pure]
          exact r2
         ·cases h1
        ·cases h1
     have:=(key _ 0 h).2
     simp at this
     simp [this]
   ·cases h
theorem mE {t:TypeId} {vk:AV} {uk:Value} (hfit:dD P t vk = true) (hk:RS g d vk uk):KeyR vk uk∧∀ b w,(Instr.checkKey b 10000 t uk).run P w = .ok () w:=by
 unfold dD at hfit
 split at hfit
 ·rename_i k k' n hu; obtain ⟨rfl,hf⟩:=hk.lit_inv; exact ⟨.inl ⟨_,rfl,hf,rfl⟩,fun b w=>eB hu (.inl ⟨_,rfl⟩) b _ 9999 w⟩
 ·rename_i n hu; obtain ⟨rfl,hf⟩:=hk.lit_inv; exact ⟨.inl ⟨_,rfl,hf,rfl⟩,fun b w=>eB hu (.inr (.inl rfl)) b _ 9999 w⟩
 ·rename_i n hu; obtain ⟨rfl,hf⟩:=hk.lit_inv; exact ⟨.inl ⟨_,rfl,hf,rfl⟩,fun b w=>eB hu (.inr (.inr rfl)) b _ 9999 w⟩
 ·rename_i fs cs hu
  simp only [Bool.and_eq_true,beq_iff_eq] at hfit
  obtain ⟨h1,h2⟩:=hfit
  obtain ⟨vs,rfl,hv⟩:=qD h2
  have hk:R g (.agg (vs.map AV.lit)) uk:=hk
  obtain ⟨us,rfl,hr⟩:=hk.agg_inv
  have hus:us.toList = vs:=by
   apply List.ext_getElem?
   intro i
   cases hv':vs[i]? with
   | none =>
     have:=List.getElem?_eq_none_iff.1 hv'
     exact List.getElem?_eq_none (by rw [hr.1,List.length_map]; exact this)
   | some v =>
     have hil:=(List.getElem?_eq_some_iff.1 hv').1
     have hu':us.toList[i]? = some (us.toList[i]'(by rw [hr.1,List.length_map]; exact hil)):=List.getElem?_eq_getElem _
     have:=(hr.2 i (.lit v) _ (by simp [hv']) hu').lit_inv.1
     rw [hu',this]
  refine ⟨.inr ⟨vs,rfl,hv,by rw [← hus]⟩,fun b w=>?_⟩
  have ha:aw P t = true:=by simp [aw,hu]
  have:=qn (P:=P) b 9 t _ 9991 h1 us.toList (by rw [hr.1]) w
  unfold fq at this
  rw [if_pos ha] at this
  exact this
 ·cases hfit
theorem eK {id:Nat} {es:List (AV×AV)} (h:st.getM id = some es):st.boxes[id]? = some (some (.mp es (st.getB id).1 (st.getB id).2)):=by
 unfold St.getM at h
 unfold St.getB
 split at h
 ·rename_i es' bs clk hs; cases h; rw [hs]
 ·cases h
theorem nn {t:TypeId} {kt:TypeDesc} (hu:P.underlying t = some kt) {key:Value} {es:List MapEntry} {r:Option (Nat×Value)} (h:Instr.findNow kt key es 0 = some r) (w:World) :
  (Instr.findKey t key es).run P w = .ok r w:=by
 unfold Instr.findKey
 rw [Sem.run_bind,run_underlying hu]
 simp [h]
theorem intL_of:∀ {xs:List Value} {ys:List AV} {b:Bool},aR (xs.map AV.lit) ys = some b→∀ {v:Value},v ∈ xs→∃ q n,v = .int q n
 | [],ys,b,h,v,hv=>by cases hv
 | x :: xs, ys, b, h, v, hv => by
   simp only [List.map_cons] at h
   unfold aR at h
   split at h
   ·rename_i h1; cases h1
   ·rename_i k a r k' c s h1
    cases h1
    split at h
    ·obtain ⟨q,hq,_⟩:=Option.map_eq_some_iff.1 h
     rcases List.mem_cons.1 hv with rfl | hv
     ·exact ⟨_,_,rfl⟩
     ·exact intL_of hq hv
    ·cases h
   ·cases h
theorem ki:∀ {vs ws:List Value} {b:Bool},aR (vs.map AV.lit) (ws.map AV.lit) = some b→(b = true→vs = ws)
 | [],[],b,h,_=>rfl
 | [],w::ws,b,h,_=>by simp [aR] at h
 | v::vs,[],b,h,_=>by cases v <;> simp [aR] at h
 | v :: vs, w :: ws, b, h, hb => by
   simp only [List.map_cons] at h
   unfold aR at h
   split at h
   ·rename_i h1 _; cases h1
   ·rename_i k a r k' c s h1 h2
    cases h1; cases h2
    split at h
    ·rename_i hk
     obtain ⟨q,hq,e⟩:=Option.map_eq_some_iff.1 h
     subst hb
     simp only [Bool.and_eq_true,beq_iff_eq] at e
     rw [ki hq e.2,e.1,hk]
    ·cases h
   ·cases h
theorem find_agg {t:TypeId} {N:Nat} {fs:Array Field} (hu:P.underlying t = some (.struct fs)) (hN:fo P 9 t = some N) {vs:List Value} (hl:vs.length = N) :
  ∀ {es:List (AV×AV)} {us:List MapEntry} {i:Nat} {K:Option (Nat×AV)→Prop},us.length = es.length →
   (∀ (j:Nat) (k v:AV) (e:MapEntry),es[j]? = some (k,v)→us[j]? = some e→KeyR k e.key)→(bU (.agg (vs.map AV.lit)) es i).wp K →
   ∃ r,K r∧((r = none∧∀ w,(Instr.findAsking t (.agg vs.toArray) us i).run P w = .ok none w)∨∃ j k v e,r = some (i + j,v)∧es[j]? = some (k,v)∧us[j]? = some e∧∀ w,(Instr.findAsking t (.agg vs.toArray) us i).run P w = .ok (some (i + j,e.val)) w)
 | [], us, i, K, hl', _, h => by
   have:us = []:=List.eq_nil_of_length_eq_zero (by simpa using hl')
   subst this
   exact ⟨none,h,.inl ⟨rfl,fun w=>by simp [Instr.findAsking]⟩⟩
 | (k, v) :: es, us, i, K, hl', hes, h => by
   cases us with
   | nil=>simp at hl'
   | cons e us =>
     have hk:=hes 0 k v e rfl rfl
     have hes':∀ (j:Nat) (k v:AV) (e:MapEntry),es[j]? = some (k,v)→us[j]? = some e→KeyR k e.key:=fun j k v e h1 h2=>hes (j + 1) k v e (by simpa using h1) (by simpa using h2)
     simp only [bU] at h
     split at h
     case h_2=>exact h.elim
     rename_i b hb
     have hs:∀ w,(Op.equal t (.agg vs.toArray) e.key).run P w = .ok b w:=by
      rcases hk with ⟨x,rfl,hf,hx⟩ | ⟨ws,rfl,hws,hx⟩
      ·simp [bS] at hb
      ·rw [hx]
       simp only [bS] at hb
       have h9:=ints_eq (P:=P) 9 t N hN (by rw [List.length_map]; exact hl) hb
       have ha:aw P t = true:=by simp [aw,hu]
       have hl1:∀ (l:List Value),(∀ v ∈ l,∃ q n,v = .int q n)→RL ⟨0,fun _ _=>none,fun _=>none,fun _ _=>none,fun _=>none⟩ (l.map AV.lit) l:=fun l hv=>by
        refine ⟨by rw [List.length_map],fun i x u hx hu=>?_⟩
        simp only [List.getElem?_map,Option.map_eq_some_iff] at hx
        obtain ⟨y,hy,rfl⟩:=hx
        rw [hy] at hu; cases hu
        obtain ⟨q,n,rfl⟩:=hv _ (List.mem_of_getElem? hy)
        exact .lit _ rfl
       obtain ⟨b',hb',_,_,hr⟩:=eqA_run (P:=P) 9 t _ _ vs ws (fun b'=>b' = b) (hl1 vs fun v hv=>intL_of hb hv) (hl1 ws hws) (by rw [h9]; rfl)
       subst hb'
       intro w
       have:=hr (Op.maxDepth - 9) w
       simp only [fq,ha,if_true] at this
       exact this
     cases b with
     | true =>
       refine ⟨_,h,.inr ⟨0,k,v,e,rfl,rfl,rfl,fun w=>?_⟩⟩
       simp [Instr.findAsking,hs w]
     | false =>
       obtain ⟨r,hr,h2⟩:=find_agg hu hN hl (i:=i + 1) (by simpa using hl') hes' h
       refine ⟨r,hr,?_⟩
       rcases h2 with ⟨h3,h4⟩ | ⟨j,k',v',e',h3,h4,h5,h6⟩
       ·exact .inl ⟨h3,fun w=>by simp [Instr.findAsking,hs w,h4 w]⟩
       ·exact .inr ⟨j + 1,k',v',e',by rw [h3]; congr 2; omega,by simpa using h4,by simpa using h5,fun w=>by simp [Instr.findAsking,hs w,h6 w]; omega⟩
theorem pn {t:TypeId} {vk:AV} {uk:Value} (hfit:dD P t vk = true) (hk:KeyR vk uk) {es:List (AV×AV)} {us:List MapEntry} {K:Option (Nat×AV)→Prop} (hl:us.length = es.length)
  (hes:∀ (j:Nat) (k v:AV) (e:MapEntry),es[j]? = some (k,v)→us[j]? = some e→KeyR k e.key) (h:(bU vk es 0).wp K) :
  ∃ r,K r∧((r = none∧∀ w,(Instr.findKey t uk us).run P w = .ok none w)∨∃ j k v e,r = some (j,v)∧es[j]? = some (k,v)∧us[j]? = some e∧∀ w,(Instr.findKey t uk us).run P w = .ok (some (j,e.val)) w):=by
 unfold dD at hfit
 have plain:∀ (kt:TypeDesc) (x:Value),P.underlying t = some kt→vk = .lit x→qC kt x →
   ∃ r,K r∧((r = none∧∀ w,(Instr.findKey t uk us).run P w = .ok none w)∨∃ j k v e,r = some (j,v)∧es[j]? = some (k,v)∧us[j]? = some e∧∀ w,(Instr.findKey t uk us).run P w = .ok (some (j,e.val)) w):=by
  intro kt x hu hx hok
  subst hx
  have huk:uk = x:=by
   rcases hk with ⟨y,e,_,rfl⟩ | ⟨vs,e,_⟩
   ·cases e; rfl
   ·cases e
  subst huk
  obtain ⟨r,hK,hr⟩:=find_run (kt:=kt) hl hes hok h
  refine ⟨r,hK,?_⟩
  rcases hr with ⟨rfl,hn⟩ | ⟨j,k',v',e',rfl,hj1,hj2,hn⟩
  ·exact .inl ⟨rfl,fun w=>nn hu hn w⟩
  ·rw [Nat.zero_add] at hn ⊢
   exact .inr ⟨j,k',v',e',rfl,hj1,hj2,fun w=>nn hu hn w⟩
 split at hfit
 ·rename_i k k' n hu; exact plain _ _ hu rfl (by simpa [qC] using hfit)
 ·rename_i n hu; exact plain _ _ hu rfl trivial
 ·rename_i n hu; exact plain _ _ hu rfl trivial
 ·rename_i fs cs hu
  simp only [Bool.and_eq_true,beq_iff_eq] at hfit
  obtain ⟨h1,h2⟩:=hfit
  rcases hk with ⟨y,e,_⟩ | ⟨vs,e,hv,rfl⟩
  ·cases e
  cases e
  have ask:∀ {r:Option (Nat×Value)} (w:World),(Instr.findAsking t (.agg vs.toArray) us 0).run P w = .ok r w→(Instr.findKey t (.agg vs.toArray) us).run P w = .ok r w:=by
   intro r w hr
   unfold Instr.findKey
   rw [Sem.run_bind,run_underlying hu]
   cases us with
   | nil=>simpa [Instr.findNow,Instr.findAsking] using hr
   | cons e us =>
     have:Instr.findNow (.struct fs) (.agg vs.toArray) (e::us) 0 = none:=by
      simp [Instr.findNow,Instr.sameNow]
     simp only [this,Result.andThen_ok]
     exact hr
  obtain ⟨r,hK,hr⟩:=find_agg hu h1 (by simp) hl hes h
  refine ⟨r,hK,?_⟩
  rcases hr with ⟨rfl,hn⟩ | ⟨j,k',v',e',rfl,hj1,hj2,hn⟩
  ·exact .inl ⟨rfl,fun w=>ask w (hn w)⟩
  ·simp only [Nat.zero_add] at hn ⊢
   exact .inr ⟨j,k',v',e',rfl,hj1,hj2,fun w=>ask w (hn w)⟩
 ·cases hfit
theorem lookup_run {N:Nat} (hc:Ctx g d w N fr st) {t:TypeId} {m key:AV} {um uk:Value} {ok:Bool} (hm:RS g d m um) (hk:RS g d key uk) {K:AV→Prop} (h:(fp P t st m key ok).wp K) :
  ∃ v,K v∧∃ u,(Instr.lookup t um uk ok).run P w = .ok u w∧R g v u∧∀ (j:Nat) (c:AV),v.cells[j]? = some c→c.noOwn:=by
 unfold fp at h
 split at h
 ·rename_i kt et hu
  split at h
  ·rename_i hfit
   obtain ⟨hkr,hchk⟩:=mE hfit hk
   rw [Res.wp_bind] at h
   -- the entries
   have hent:∃ (es:List (AV×AV)) (us:Array MapEntry),EntR g es us∧((bU key es 0).bind fun r =>
     match r with
     | some (_,v)=>.ok (if ok then AV.tup [v.dis,.lit (.bool true)] else v.dis)
     | none=>(eR P et).bind fun z=>.ok (if ok then .tup [z,.lit (.bool false)] else z)).wp K ∧
     ((um = .map none∧us = #[])∨∃ b clk,um = .map (some b)∧w.heap[b]? = some (.map us clk)):=by
    split at h
    ·obtain ⟨rfl,_⟩:=hm.lit_inv
     exact ⟨[],#[],⟨rfl,fun i k v e h=>by simp at h⟩,h,.inl ⟨rfl,rfl⟩⟩
    ·rename_i id
     rw [ak] at h
     obtain ⟨es,hes,h⟩:=h
     obtain ⟨b,us,h1,h2,h3,h4,_⟩:=hc.box.mp id es _ _ (eK hes)
     cases hm with
     | map _ b' hb =>
       have:b = b':=Option.some.inj (h1.symm.trans hb)
       subst this
       exact ⟨es,us,h4,h,.inr ⟨b,_,rfl,h3⟩⟩
    ·exact h.elim
   obtain ⟨es,us,hE,h,hum⟩:=hent
   rw [Res.wp_bind] at h
   obtain ⟨r,h,hr⟩:=pn (us:=us.toList) hfit hkr (by simpa using hE.1) (fun j k v e h1 h2=>(hE.2 j k v e h1 (by simpa using h2)).1) h
   have fin:∀ (q:Option (Nat×Value)),(∀ w,(Instr.findKey kt uk us.toList).run P w = .ok q w)→∀ (v0:Value) (b0:Bool),(match q with | some p=>v0 = p.2∧b0 = true | none=>(zeroValue et).run P w = .ok v0 w∧b0 = false) →
     (Instr.lookup t um uk ok).run P w = .ok (if ok then .tuple #[v0,.bool b0] else v0) w:=by
    intro q hq v0 b0 hv
    have h1:=hq w
    have h2:=hchk us.isEmpty w
    rcases hum with ⟨rfl,rfl⟩ | ⟨b,clk,rfl,hb⟩
    ·unfold Instr.lookup
     simp only [Sem.run_bind,run_underlying hu,Result.andThen_ok,Sem.run_pure]
     rw [h2]
     simp only [Result.andThen_ok]
     rw [h1]
     simp only [Result.andThen_ok]
     cases q with
     | none=>obtain ⟨hv,rfl⟩:=hv; simp [hv]
     | some p=>obtain ⟨rfl,rfl⟩:=hv; simp
    ·have h3:(getObj b).run P w = .ok (.map us clk) w:=by simp [getObj,Sem.run,hb]
     unfold Instr.lookup
     simp only [Sem.run_bind,run_underlying hu,Result.andThen_ok,h3,Sem.run_pure]
     rw [h2]
     simp only [Result.andThen_ok]
     rw [h1]
     simp only [Result.andThen_ok]
     cases q with
     | none=>obtain ⟨hv,rfl⟩:=hv; simp [hv]
     | some p=>obtain ⟨rfl,rfl⟩:=hv; simp
   rcases hr with ⟨rfl,hn⟩ | ⟨j,k',v',e',rfl,hj1,hj2,hn⟩
   ·simp only at h
    rw [Res.wp_bind] at h
    obtain ⟨z,h,i,zv,hi,hz,hzr,hzs,hzn⟩:=bC (g:=g) h
    refine ⟨_,h,_,fin _ hn zv false ⟨by simp [zeroValue,typeInfo,hi,hz],rfl⟩,?_,?_⟩
    ·cases ok
     ·simpa using hzr
     ·simp only [if_true]
      refine .tup _ _ (by simp) fun i x u hx hu=>?_
      match i with
      | 0=>simp at hx hu; subst hx; subst hu; exact hzr
      | 1=>simp at hx hu; subst hx; subst hu; exact R.lit _ rfl
      | i + 2=>simp at hx
    ·cases ok
     ·simpa using hzn
     ·exact ae (by simp) trivial
   ·obtain ⟨_,hv2,hv3⟩:=hE.2 j k' v' e' hj1 (by simpa using hj2)
    refine ⟨_,h,_,fin _ hn e'.val true ⟨rfl,rfl⟩,?_,?_⟩
    ·cases ok
     ·simpa using hv2.dis
     ·simp only [if_true]
      refine .tup _ _ (by simp) fun i x u hx hu=>?_
      match i with
      | 0=>simp at hx hu; subst hx; subst hu; exact hv2.dis
      | 1=>simp at hx hu; subst hx; subst hu; exact R.lit _ rfl
      | i + 2=>simp at hx
    ·cases ok
     ·simpa using aq v'
     ·exact ae (by simp) trivial
  ·exact h.elim
 ·exact h.elim
end
end Go.Fx
namespace Go.Fx
open Go Go.RowKit Go.Lib
section
variable {P:Program} {g:Gh} {d:Nat} {w:World} {fr:Fr} {st:St} {a:Act} {L:Nat→Loc}
theorem len_run {N:Nat} (hc:Ctx g d w N fr st) {t ty:TypeId} {x:AV} {u:Value} (hr:RS g d x u) {K:AV→Prop} (h:(lenA P t st x).wp K) :
  ∃ v,K (.lit v)∧flat v = true∧(Builtin.len_ #[t] ty #[u]).run P w = .ok v w:=by
 unfold lenA at h
 split at h
 ·rename_i hu; obtain ⟨rfl,_⟩:=hr.lit_inv; exact ⟨_,h,rfl,by simp [Builtin.len_,run_underlying hu,goInt]⟩
 ·rename_i hu; obtain ⟨rfl,_⟩:=hr.lit_inv; exact ⟨_,h,rfl,by simp [Builtin.len_,run_underlying hu,goInt]⟩
 ·rename_i hu
  cases hr with
  | sl=>exact ⟨_,h,rfl,by simp [Builtin.len_,run_underlying hu,goInt]⟩
  | slE=>exact ⟨_,h,rfl,by simp [Builtin.len_,run_underlying hu,goInt]⟩
  | slN=>exact ⟨_,h,rfl,by simp [Builtin.len_,run_underlying hu,goInt]⟩
 ·rename_i hu
  cases hr with
  | bs=>exact ⟨_,h,rfl,by simp [Builtin.len_,run_underlying hu,goInt]⟩
 ·rename_i hu; obtain ⟨rfl,_⟩:=hr.lit_inv; exact ⟨_,h,rfl,by simp [Builtin.len_,run_underlying hu,goInt]⟩
 ·rename_i k e id hu
  rw [Res.wp_bind,ak] at h
  obtain ⟨es,hes,h⟩:=h
  obtain ⟨b,us,h1,h2,h3,h4,_⟩:=hc.box.mp id es _ _ (eK hes)
  cases hr with
  | map _ b' hb =>
    have:b = b':=Option.some.inj (h1.symm.trans hb)
    subst this
    have h5:(getObj b).run P w = .ok (.map us (st.getB id).2) w:=by simp [getObj,Sem.run,h3]
    refine ⟨_,h,rfl,?_⟩
    simp [Builtin.len_,run_underlying hu,goInt,h5,h4.1]
 ·rename_i n e hu; exact ⟨_,h,rfl,by simp [Builtin.len_,run_underlying hu,goInt]⟩
 ·exact h.elim
theorem dis_cell {e:AV} {r:Nat} {c':AV} (h:e.dis.cells[r]? = some c'):∃ c,e.cells[r]? = some c∧∀ (g:Gh) (u:Value),R g c u→R g c' u:=by
 cases e with
 | agg cs =>
   simp only [AV.dis,AV.cells,List.getElem?_map,Option.map_eq_some_iff] at h
   obtain ⟨y,hy,rfl⟩:=h
   exact ⟨y,hy,fun g u hr=>hr.own1⟩
 | tup vs =>
   simp only [AV.dis,AV.cells] at h
   refine ⟨.tup vs,by cases r <;> simp_all [AV.cells],fun g u hr=>?_⟩
   have:c' = (AV.tup vs).dis:=by cases r <;> simp_all [AV.dis]
   subst this; exact hr.dis
 | sl o k es =>
   simp only [AV.dis,AV.cells] at h
   refine ⟨.sl o k es,by cases r <;> simp_all [AV.cells],fun g u hr=>?_⟩
   have:c' = (AV.sl o k es).dis:=by cases r <;> simp_all [AV.dis]
   subst this; exact hr.dis
 | mit id s l p =>
   simp only [AV.dis,AV.cells] at h
   refine ⟨.mit id s l p,by cases r <;> simp_all [AV.cells],fun g u hr=>?_⟩
   have:c' = .any:=by cases r <;> simp_all
   subst this; exact .any _
 | _=>exact ⟨c',h,fun g u hr=>hr⟩
theorem src_sl (hg:Good g w) {k:Nat} {own:Bool} {es:List AV} {u:Value} (hr:RS g d (.sl own k es) u) {K:List AV→Prop} (h:K es) :
  ∃ es,K es∧(∀ e ∈ es,e.cells.length = k)∧(∀ w,(Builtin.lenOf u).run P w = .ok es.length w) ∧
   ∃ new:List Value,RL g (es.flatMap AV.cells) new∧(∀ u ∈ new,u.oneCell' = true)∧∀ w',(∀ b o,(w.cell? ⟨b,o,none⟩).isSome→w'.cell? ⟨b,o,none⟩ = w.cell? ⟨b,o,none⟩)→(Builtin.firstCells k es.length u).run P w' = .ok new.toArray w':=by
 cases hr with
 | slE _ _ a c=>exact ⟨[],h,by simp,fun w=>by simp [Builtin.lenOf],[],RL.nil,by simp,fun w' _=>by simp [Builtin.firstCells,loadCells,loadCellsFrom]⟩
 | slN _ _=>exact ⟨[],h,by simp,fun w=>by simp [Builtin.lenOf],[],RL.nil,by simp,fun w' _=>by simp [Builtin.firstCells]⟩
 | sl _ _ _ us b o c hc hk h1 h2 h3 =>
   refine ⟨es,h,hk,fun w=>by simp [Builtin.lenOf],(List.range (es.length * k)).map us,⟨by rw [ai hk]; simp,fun i x u hx hu=>?_⟩,fun u hu=>?_,fun w' hw'=>?_⟩
   ·have hlt:i < es.length * k:=by have:=(List.getElem?_eq_some_iff.1 hx).1; rwa [ai hk] at this
    simp [hlt] at hu
    subst hu
    exact h2 i x hx
   ·simp only [List.mem_map,List.mem_range] at hu
    obtain ⟨j,hj,rfl⟩:=hu
    exact h3 j _ (List.getElem?_eq_getElem (by rw [ai hk]; exact hj))
   ·have hl:=run_loadCells (P:=P) w' ⟨b,o,none⟩ (es.length * k) us (fun j hj=>by
     rw [bf]
     have hx:∃ x,(es.flatMap AV.cells)[j]? = some x:=⟨_,List.getElem?_eq_getElem (by rw [ai hk]; exact hj)⟩
     obtain ⟨x,hx⟩:=hx
     have:=hg.imm _ _ _ (h1 j x hx)
     rw [hw' _ _ (by simp [this])]
     exact this)
    simpa [Builtin.firstCells] using hl
theorem gj (hg:Good g w) (hb:BoxR g w st) {k:Nat} {x:AV} {u:Value} (hr:RS g d x u) {K:List AV→Prop} (h:(srcA st k x).wp K) :
  ∃ es,K es∧(∀ e ∈ es,e.cells.length = k)∧(∀ w,(Builtin.lenOf u).run P w = .ok es.length w) ∧
   ∃ new:List Value,RL g (es.flatMap AV.cells) new∧(∀ u ∈ new,u.oneCell' = true)∧∀ w',(∀ b o,(w.cell? ⟨b,o,none⟩).isSome→w'.cell? ⟨b,o,none⟩ = w.cell? ⟨b,o,none⟩)→(Builtin.firstCells k es.length u).run P w' = .ok new.toArray w':=by
 unfold srcA at h
 split at h
 ·obtain ⟨rfl,_⟩:=hr.lit_inv
  exact ⟨[],h,by simp,fun w=>by simp [Builtin.lenOf],[],RL.nil,by simp,fun w' _=>by simp [Builtin.firstCells]⟩
 ·rename_i own k' es
  split at h
  ·rename_i hk
   subst hk
   exact src_sl hg hr h
  ·exact h.elim
 ·rename_i s
  split at h
  ·rename_i hk
   subst hk
   obtain ⟨rfl,_⟩:=hr.lit_inv
   have hfl:(s.data.toList.map dC).flatMap AV.cells = s.data.toList.map dC:=by
    generalize s.data.toList = l
    induction l with
    | nil=>rfl
    | cons x r ih=>simp [List.flatMap_cons,ih,dC,AV.cells]
   have hsz:(s.data.toList.map dC).length = s.size:=by rw [List.length_map,Array.length_toList]; rfl
   refine ⟨_,h,fun e he=>by simp only [List.mem_map] at he; obtain ⟨b,_,rfl⟩:=he; rfl,fun w=>by rw [hsz]; simp [Builtin.lenOf],s.data.toList.map fun b=>.int .u8 b.toNat,?_,fun u hu=>by simp only [List.mem_map] at hu; obtain ⟨b,_,rfl⟩:=hu; rfl,fun w' _=>?_⟩
   ·rw [hfl]
    refine ⟨by simp,fun i x u hx hu=>?_⟩
    simp only [List.getElem?_map,Option.map_eq_some_iff] at hx hu
    obtain ⟨b,hb,rfl⟩:=hx
    obtain ⟨b',hb',rfl⟩:=hu
    have:b = b':=Option.some.inj (hb.symm.trans hb')
    subst this
    exact R.lit _ rfl
   ·rw [hsz]
    have:=run_firstCells_string (P:=P) w' 1 s
    simpa [strCells] using this
  ·exact h.elim
 ·rename_i id k' off len cap
  split at h
  ·rename_i hk
   subst hk
   obtain ⟨es,h,hlen,hcl,b,us,T,rfl,hrow,hsz,hR,hone⟩:=ni hb hr h
   have hfl:=ai hcl
   rw [hlen] at hfl
   refine ⟨es,h,hcl,fun w=>by simp [Builtin.lenOf,hlen],(List.range (len * k)).map fun i=>us.getD (off + i) undef,⟨by simp [hfl],fun i x u hx hu=>?_⟩,fun u hu=>?_,fun w' hw'=>?_⟩
   ·have hi:i < len * k:=by rw [← hfl]; exact (List.getElem?_eq_some_iff.1 hx).1
    simp [hi] at hu
    subst hu
    have hlt:off + i < us.size:=by omega
    exact hR i x _ hx (by simp [hlt])
   ·simp only [List.mem_map,List.mem_range] at hu
    obtain ⟨i,hi,rfl⟩:=hu
    have hlt:off + i < us.size:=by omega
    have:us.getD (off + i) undef = us[off + i]:=by simp [hlt]
    rw [this]; exact hone _ (Array.getElem_mem hlt)
   ·rw [hlen]
    have hl:=run_loadCells (P:=P) w' ⟨b,off,none⟩ (len * k) (fun i=>us.getD (off + i) undef) (fun j hj=>by
     rw [bf]
     have hlt:off + j < us.size:=by omega
     have h1:w.cell? ⟨b,off + j,none⟩ = some us[off + j]:=by rw [cell_of_row w b _ us T (0,0) hrow]; simp [hlt]
     rw [hw' _ _ (by simp [h1]),h1]; simp [hlt])
    simpa [Builtin.firstCells] using hl
  ·exact h.elim
 ·rename_i k' es
  split at h
  ·rename_i hk
   subst hk
   have hr':R g (.xs k es) u:=hr
   cases hr' with
   | xs _ _ a h0=>exact src_sl (d:=d) hg (RS.of h0) h
  ·exact h.elim
 ·exact h.elim
theorem jM {t t2 ty e:TypeId} {i:TypeInfo} {z:Value} {dd:TypeDesc} (ht:P.underlying t = some (.slice e)) (ht2:P.underlying t2 = some dd) (hdd:srcT dd = true) (hi:P.info? e = some i) (hz:i.zero = some z)
  {x:Value} {n:Nat} {new:List Value} (hlen:∀ w,(Builtin.lenOf x).run P w = .ok n w) (hfc:(Builtin.firstCells i.size n x).run P w.drew = .ok new.toArray w.drew)
  (h0:0 < n) (h63:(n:Int)≤9223372036854775807) (h48:n * i.bytes≤281474976710656) :
  (Builtin.append_ #[t,t2] ty #[.slice none 0 0,x]).run P w =
   .ok (.slice (some ⟨w.heap.size,0,none⟩) n (grownCap w n 0 e)) (w.drew.alloc (.cells (new.toArray++Builtin.zeroCells z.cells (grownCap w n 0 e - n)) e)):=by
 have hn:n≠0:=by omega
 have h63':¬ (9223372036854775807 < (n:Int)):=by omega
 have h48':¬ (281474976710656 < Builtin.nextslicecap n 0 * i.bytes):=by rw [nextslicecap_zero h0]; omega
 cases dd <;> simp only [srcT] at hdd <;> first
  | (cases hdd; done)
  | simp [Builtin.append_,run_underlying ht,run_underlying ht2,sizeOf,typeInfo,zeroValue,hi,hz,hlen,hn,h63',h48',Question.forced,run_firstCells_none,hfc,newRow,grownCap]
theorem jr {t t2 ty e:TypeId} {i:TypeInfo} {dd:TypeDesc} (ht:P.underlying t = some (.slice e)) (ht2:P.underlying t2 = some dd) (hdd:srcT dd = true) (hi:P.info? e = some i)
  {x:Value} (hlen:∀ w,(Builtin.lenOf x).run P w = .ok 0 w) (hfc:(Builtin.firstCells i.size 0 x).run P w = .ok #[] w) :
  (Builtin.append_ #[t,t2] ty #[.slice none 0 0,x]).run P w = .ok (.slice none 0 0) w:=by
 cases dd <;> simp only [srcT] at hdd <;> first
  | (cases hdd; done)
  | simp [Builtin.append_,run_underlying ht,run_underlying ht2,sizeOf,typeInfo,hi,hlen,hfc]
theorem cV (w:World) (b o:Nat):w.drew.cell? ⟨b,o,none⟩ = w.cell? ⟨b,o,none⟩:=rfl
theorem mF {g:Gh} {k:Nat} {es:List AV} {new:List Value} (hk:∀ e ∈ es,e.cells.length = k) (hnew:RL g (es.flatMap AV.cells) new):RL g ((es.map AV.dis).flatMap AV.cells) new:=by
 have hdk:∀ x ∈ es.map AV.dis,x.cells.length = k:=by
  intro x hx
  simp only [List.mem_map] at hx
  obtain ⟨y,hy,rfl⟩:=hx
  rw [aO]; exact hk y hy
 refine ⟨by rw [hnew.1,ai hk,ai hdk]; simp,fun j x u hx hu=>?_⟩
 obtain ⟨q,r,e',rfl,h2,h3⟩:=eV hdk hx
 simp only [List.getElem?_map,Option.map_eq_some_iff] at h2
 obtain ⟨e0,he0,rfl⟩:=h2
 obtain ⟨c,hc,hcr⟩:=dis_cell h3
 refine hcr g u (hnew.2 (q * k + r) c u ?_ hu)
 have hlt:=(List.getElem?_eq_some_iff.1 hc).1
 obtain ⟨hql,hqe⟩:=(List.getElem?_eq_some_iff.1 he0)
 have hsplit:es = es.take q++es[q]::es.drop (q + 1):=by rw [← List.drop_eq_getElem_cons hql]; exact (List.take_append_drop q es).symm
 rw [hsplit,List.flatMap_append,List.flatMap_cons]
 have h5:=ai (q:=es.take q) (k:=k) (fun e he=>hk e (List.mem_of_mem_take he))
 rw [List.length_take,Nat.min_eq_left (Nat.le_of_lt hql)] at h5
 rw [List.getElem?_append_right (by omega),h5,show q * k + r - q * k = r by omega,hqe,List.getElem?_append_left hlt]
 exact hc
theorem append_run (hg:Good g w) (hb:BoxR g w st) {N:Nat} (hN:N≤w.heap.size) {t t2 ty:TypeId} {x y:AV} {ux uy:Value} (hx:RS g d x ux) (hy:RS g d y uy) (L:Nat→Loc) {K:AV→Prop} (h:(dq P st t t2 x y).wp K) :
  ∃ v,K v∧∃ u g' w',(Builtin.append_ #[t,t2] ty #[ux,uy]).run P w = .ok u w'∧LeP g w g' w'∧R g' v u∧OwnV g' w' N L v u:=by
 unfold dq at h
 split at h
 ·rename_i e dd ht ht2
  split at h
  ·rename_i i hi
   split at h
   ·rename_i hcond
    obtain ⟨hdd,hpos,hzs⟩:=hcond
    rw [Res.wp_bind] at h
    obtain ⟨es,h,hk,hlen,new,hnew,hone,hfc⟩:=gj (P:=P) hg hb hy h
    split at h
    ·obtain ⟨rfl,_⟩:=hx.lit_inv
     split at h
     ·rename_i hemp
      have hes:es = []:=by simpa using hemp
      subst hes
      have hnil:new = []:=List.eq_nil_of_length_eq_zero (by simpa using hnew.1)
      subst hnil
      exact ⟨_,h,.slice none 0 0,g,w,jr ht ht2 hdd hi (by simpa using hlen) (by simpa using hfc w (fun _ _ _=>rfl)),LeP.refl g w,R.lit _ rfl,fun i c x hc _=>Own.of_no (cx _ i c hc)⟩
     ·rename_i hemp
      obtain ⟨hroom,h⟩:=h
      have hroom:=of_decide_eq_true hroom
      cases hz:i.zero with
      | none=>simp [hz] at hzs
      | some z =>
        have hzl:z.cells.size = i.size:=by simpa [hz] using hzs
        have hne:es≠[]:=by simpa using hemp
        have h0:0 < es.length:=by cases es <;> simp_all
        have hrun:=jM (ty:=ty) ht ht2 hdd hi hz hlen (hfc w.drew (fun b o _=>cV w b o)) h0 (by omega) (by omega)
        have hle:=mA (g:=g) (w:=w) new (Builtin.zeroCells z.cells (grownCap w es.length 0 e - es.length)) e (L 0) 1
        have hge:=grownCap_ge w es.length 0 e
        have hdl:(es.map AV.dis).length = es.length:=by simp
        have hdk:∀ x ∈ es.map AV.dis,x.cells.length = i.size:=by
         intro x hx
         simp only [List.mem_map] at hx
         obtain ⟨y,hy,rfl⟩:=hx
         rw [aO]; exact hk y hy
        have hnl:new.length = es.length * i.size:=by rw [hnew.1,ai hk]
        refine ⟨_,h,_,_,_,hrun,hle,?_,?_⟩
        ·rw [← hdl]
         refine qx true _ (by rw [hdl]; exact hge) hdk (by rw [ai hdk,hdl]; exact hnl) (fun j x u hx hu=>?_) hone (hle.ghle hg)
         obtain ⟨q,r,e',rfl,h2,h3⟩:=eV hdk hx
         simp only [List.getElem?_map,Option.map_eq_some_iff] at h2
         obtain ⟨e0,he0,rfl⟩:=h2
         obtain ⟨c,hc,hcr⟩:=dis_cell h3
         refine hcr g u (hnew.2 (q * i.size + r) c u ?_ hu)
         have hlt:=(List.getElem?_eq_some_iff.1 hc).1
         have hqe:=(List.getElem?_eq_some_iff.1 he0)
         obtain ⟨hql,hqe⟩:=hqe
         have hsplit:es = es.take q++es[q]::es.drop (q + 1):=by rw [← List.drop_eq_getElem_cons hql]; exact (List.take_append_drop q es).symm
         rw [hsplit,List.flatMap_append,List.flatMap_cons]
         have h5:=ai (q:=es.take q) (k:=i.size) (fun e he=>hk e (List.mem_of_mem_take he))
         rw [List.length_take,Nat.min_eq_left (Nat.le_of_lt hql)] at h5
         rw [List.getElem?_append_right (by omega),h5,show q * i.size + r - q * i.size = r by omega,hqe,List.getElem?_append_left hlt]
         exact hc
        ·have:=iH (g:=g) (w:=w) (us:=new) (L:=L) (k:=i.size) (es:=es.map AV.dis) (grownCap w es.length 0 e) (Builtin.zeroCells z.cells (grownCap w es.length 0 e - es.length)) e 1 (by rw [hdl]; exact hge) (by rw [hdl]; exact hnl)
          (by rw [size_zeroCells,hzl,hnl,← Nat.add_mul]; exact Nat.mul_le_mul_right _ (by omega)) true hN
         rw [hdl] at this
         exact this
    ·rename_i k0 es0 hsrcA
     by_cases hke:k0 = i.size∧es.isEmpty = false
     case neg=>rw [if_neg hke] at h; exact h.elim
     rw [if_pos hke] at h
     obtain ⟨rfl,hemp⟩:=hke
     obtain ⟨hroom,h⟩:=h
     have hroom:=of_decide_eq_true hroom
     have hn0:0 < es.length:=by cases es <;> simp_all
     obtain ⟨ad,hx0,rfl⟩:∃ ad,R g (.sl false i.size es0) (.slice (some ad) es0.length es0.length)∧ux = .slice (some ad) es0.length es0.length:=by
      have hxr:R g (.xs i.size es0) ux:=hx
      cases hxr with
      | xs _ _ a h0=>exact ⟨a,h0,rfl⟩
     have hek:∀ e ∈ es0,e.cells.length = i.size:=by cases hx0 <;> first | assumption | simp
     have hndk:∀ x ∈ es.map AV.dis,x.cells.length = i.size:=by
      intro x hx
      simp only [List.mem_map] at hx
      obtain ⟨y,hy,rfl⟩:=hx
      rw [aO]; exact hk y hy
     have hnl:new.length = es.length * i.size:=by rw [hnew.1,ai hk]
     have hsrc:Src P i.size t2 uy es.length new w:=by
      refine ⟨?_,hlen,hfc w (fun _ _ _=>rfl),hfc w.drew (fun b o _=>cV w b o),hnl,hone⟩
      cases dd <;> simp only [srcT] at hdd <;> first | (cases hdd; done) | exact .inl ⟨_,ht2⟩ | exact .inr ht2
     have hlen2:(es0++es.map AV.dis).length = es0.length + es.length:=by simp
     have hall:∀ e ∈ es0++es.map AV.dis,e.cells.length = i.size:=fun e he=>by
      rcases List.mem_append.1 he with h1 | h1
      ·exact hek e h1
      ·exact hndk e h1
     obtain ⟨es',hes',_,_,olds,hold,hold1,hofc⟩:=gj (P:=P) hg hb (d:=d) (k:=i.size) (x:=.sl false i.size es0) (RS.of hx0) (K:=fun x=>x = es0) (by simp [srcA,Res.wp])
     subst hes'
     cases hz:i.zero with
     | none=>simp [hz] at hzs
     | some z =>
       have hzl:z.cells.size = i.size:=by simpa [hz] using hzs
       have hol:olds.length = es'.length * i.size:=by rw [hold.1,ai hek]
       have hrun:=run_append_grow_src (P:=P) w t t2 ty e i z ht hi hz (some ad) es'.length es'.length olds (hofc w.drew (fun b o _=>cV w b o)) uy es.length new hsrc (by omega) (by omega) (growslice_fits (by omega) hroom.1)
       have hge:=grownCap_ge w (es'.length + es.length) es'.length e
       generalize grownCap w (es'.length + es.length) es'.length e = cap at *
       have hle:=mA (g:=g) (w:=w) (olds++new) (Builtin.zeroCells z.cells (cap - (es'.length + es.length))) e (L 0) 1
       have hrl:RL g ((es'++es.map AV.dis).flatMap AV.cells) (olds++new):=by rw [List.flatMap_append]; exact hold.append (mF hk hnew)
       refine ⟨_,h,_,_,_,hrun,hle,?_,?_⟩
       ·rw [← hlen2]
        exact qx true _ (by rw [hlen2]; exact hge) hall hrl.1 (fun j x u hx hu=>hrl.2 j x u hx hu) (fun u hu=>(List.mem_append.1 hu).elim (hold1 u) (hone u)) (hle.ghle hg)
       ·have:=iH (g:=g) (w:=w) (us:=olds++new) (L:=L) (k:=i.size) (es:=es'++es.map AV.dis) cap (Builtin.zeroCells z.cells (cap - (es'.length + es.length))) e 1 (by rw [hlen2]; exact hge)
         (by rw [hlen2,List.length_append,hol,hnl,Nat.add_mul])
         (by rw [size_zeroCells,hzl,List.length_append,hol,hnl,← Nat.add_mul,← Nat.add_mul]; exact Nat.mul_le_mul_right _ (by omega)) true hN
        rw [hlen2] at this
        exact this
    ·exact h.elim
   ·exact h.elim
  ·exact h.elim
 ·exact h.elim
theorem po {lt:Bool} {x y:AV} {ux uy:Value} (hx:RS g d x ux) (hy:RS g d y uy) {K:AV→Prop} (h:(bh lt x y).wp K) :
  ∃ v,K (.lit v)∧flat v = true∧∃ k a b,ux = .int k a∧uy = .int k b∧v = .int k (if lt then (if b < a then b else a) else (if a < b then b else a)):=by
 unfold bh at h
 split at h
 ·obtain ⟨rfl,_⟩:=hx.lit_inv
  obtain ⟨rfl,_⟩:=hy.lit_inv
  split at h
  ·rename_i hk; subst hk; exact ⟨_,h,rfl,_,_,_,rfl,rfl,rfl⟩
  ·exact h.elim
 ·exact h.elim
end
end Go.Fx
