/- An evaluator for resolved code, proved against the model: part 4. -/
import Derived.Test.YtoiokbmgdcaaoaaFxC
import Derived.Laws.IdiomRangeMap
import Derived.Laws.MakeOwn
import Derived.Lib.MakeNoZero
import Derived.Laws.Externs
import Derived.Lib.Bytealg
import Derived.Lib.AppendZeros
import Derived.KernelRfl
namespace Go.Fx
open Go
section
variable {P:Program} {gOf:FuncId→Option Nat} {F:Nat→FuncId} {n:Nat}
theorem comp_ref {heap:Nat→Bool} {all:List Oper} {o:Oper} {i:AI} (h:mM P gOf F n heap all o = some i) (m:Bool) (sf:Sf) (st:St) :
  Ref ((aW F m i sf st).bind fun q=>.ok (sp n q.1,q.2)) (db P m heap all o (sp n sf) st):=by
 obtain ⟨dst,op,ty,pos,after,gd⟩:=o
 unfold mM at h
 simp only at h
 split at h
 -- alloc
 ·rename_i t s
  obtain ⟨z,hz,rfl⟩:=map_some h
  simp only [db]
  refine Ref.trans ?_ (mK hz _)
  by_cases hh:heap s = true
  ·rw [if_pos hh,if_pos hh]
   simp only [aW]
   cases m
   ·simp only [Bool.false_eq_true,if_false,Res.bind]
    refine Ref.of_eq ?_
    rw [cO]; rfl
   ·exact Ref.fail _
  ·rw [if_neg hh,if_neg hh]
   simp only [aW,Res.bind,mL]
   exact Ref.refl _
 -- box
 ·rename_i t x s
  split at h
  ·rename_i y k hy hk
   cases h
   by_cases hh:heap s = true
   ·rw [if_pos hh]
    simp only [db,aW,kw hy sf,hk,hh,if_true]
    intro K hK
    split at hK
    ·rename_i hc
     obtain ⟨h1,h2,rfl⟩:=hc
     rw [if_pos ⟨h1,by rw [h2]⟩]
     simp only [Bool.false_eq_true,if_false]
     simp only [Res.bind,cO,rK hy sf] at hK
     exact hK
    ·exact hK.elim
   ·rw [if_neg hh]
    simp only [db,aW,kw hy sf,hk,hh]
    intro K hK
    split at hK
    ·rename_i hc
     obtain ⟨h1,h2⟩:=hc
     rw [if_pos ⟨h1,by rw [h2]⟩]
     simp only [Res.bind,mL] at hK
     exact hK
    ·exact hK.elim
  ·cases h
 -- store
 ·rename_i t a x
  split at h
  ·rename_i a' x' k ha hx hk
   cases h
   simp only [db,aW,kw hx sf,hk,af ha sf]
   intro K hK
   split at hK
   ·rename_i hc
    obtain ⟨h1,h2⟩:=hc
    rw [if_pos ⟨h1,by rw [h2]⟩]
    rw [← rK hx sf]
    unfold rJ at hK
    unfold rC
    split at hK
    ·rename_i s off heq
     simp only [heq]
     rw [aZ,Res.wp_bind] at hK
     rw [Res.wp_bind]
     refine Res.wp_mono hK fun cs hcs=>?_
     split at hcs
     ·rename_i hf; rw [if_pos hf]; exact hcs
     ·exact hcs.elim
    ·rename_i id off heq
     split at hK
     ·exact hK.elim
     ·rename_i hm
      have hm:m = false:=by simpa using hm
      subst hm
      simp only [heq,Bool.false_eq_true,if_false]
      rw [aZ,Res.wp_bind] at hK
      rw [Res.wp_bind]
      refine Res.wp_mono hK fun cs hcs=>?_
      split at hcs
      ·rename_i hf; rw [if_pos hf]; exact hcs
      ·exact hcs.elim
    ·exact hK.elim
   ·exact hK.elim
  ·cases h
 -- assign
 ·rename_i sx sd
  split at h
  ·rename_i hc
   cases h
   simp only [db,aW,Res.bind]
   rw [if_neg hc.1,cO,jP hc.2,co hc.2]
   exact Ref.refl _
  ·cases h
 -- move
 ·rename_i sx sd
  split at h
  ·rename_i hc
   split at h
   ·rename_i hl
    cases h
    simp only [db,aW,Res.bind]
    rw [if_pos hc,cO,jP hl,co hl]
    exact Ref.refl _
   ·cases h
  ·rename_i hc
   refine kz (d:=some sd) rfl h sf st ?_
   simp only [db]
   rw [if_neg hc]
 -- load
 ·rename_i t a sd
  split at h
  ·rename_i hc
   obtain ⟨y,hy,rfl⟩:=map_some h
   have htk:nv P t = some none:=by
    obtain ⟨_,h2,h3,h4⟩:=hc
    unfold nv
    cases hu:P.underlying t with
    | none=>rw [hu] at h4; cases h4
    | some d=>simp [h3,h2]
   have hpop:Ref ((vI (some sd) sf st (popI F (.load (some sd) y none) sf st)).bind fun q=>.ok (sp n q.1,q.2)) (putR P ⟨some sd,.load t a,ty,pos,after,gd⟩ (sp n sf) st):=by
    refine vI_ref (d:=some sd) (op:=.load t a) (o:=⟨some sd,.load t a,ty,pos,after,gd⟩) ?_ rfl rfl sf st rfl
    exact ej (P:=P) (gOf:=gOf) (d:=some sd) (op:=.load t a) (by simp only [popC,hy,htk]) sf st
   simp only [db,aW]
   rw [if_pos hc,af hy sf]
   split
   ·rename_i s off heq
    simp only [heq]
    rw [aZ]
    refine Ref.bindL fun cs=>?_
    split
    ·rename_i heq2; simp only [heq2,Res.bind,cO,sp_setLoc]; exact Ref.refl _
    ·rename_i hno
     split
     ·rename_i heq2; exact absurd heq2 (hno _ _)
     ·exact hpop
   ·rename_i id off heq
    simp only [heq]
    cases m
    ·simp only [Bool.false_eq_true,if_false]
     rw [aZ]
     refine Ref.bindL fun cs=>?_
     split
     ·rename_i heq2; simp only [heq2,Res.bind,cO]; exact Ref.refl _
     ·rename_i hno
      split
      ·rename_i heq2; exact absurd heq2 (hno _ _)
      ·exact hpop
    ·simp only [if_true]; exact hpop
   ·rename_i h1 h2
    split
    ·rename_i heq; exact absurd heq (h1 _ _)
    ·rename_i heq; exact absurd heq (h2 _ _)
    ·exact hpop
  ·rename_i hc
   refine kz (d:=some sd) rfl h sf st ?_
   simp only [db]
   rw [if_neg hc]
 -- slice
 ·rename_i t sx lo sd
  split at h
  ·rename_i e hu
   split at h
   ·rename_i hc
    split at h
    ·rename_i k lo' hk hlo
     cases h
     have hpop:Ref ((vI (some sd) sf st (popI F (.sliS (some sd) (.r sx) (some lo') none k) sf st)).bind fun q=>.ok (sp n q.1,q.2)) (putR P ⟨some sd,.slice t (.tmp sx) (some lo) none none,ty,pos,after,gd⟩ (sp n sf) st):=by
      refine vI_ref (d:=some sd) (op:=.slice t (.tmp sx) (some lo) none none) (o:=⟨some sd,.slice t (.tmp sx) (some lo) none none,ty,pos,after,gd⟩) ?_ rfl rfl sf st rfl
      exact ej (P:=P) (gOf:=gOf) (d:=some sd) (op:=.slice t (.tmp sx) (some lo) none none) (by
       have hsx:opd gOf F n (.tmp sx) = some (.r sx):=by simp only [opd,hc.2,if_true]
       simp only [popC,hu,hsx,opdO,hlo,Option.map_some,hk]) sf st
     simp only [db,aW,hu,co hc.2]
     split
     ·rename_i k' es heq
      split
      ·rename_i hkk; subst hkk
       simp only [heq]
       rw [if_pos ⟨hc.1,hk⟩,aZ,af hlo sf]
       refine Ref.bindL fun l=>?_
       simp only [Res.bind,cO,jP hc.2]; exact Ref.refl _
      ·exact Ref.fail _
     ·rename_i hno
      split
      ·rename_i heq; exact absurd heq (hno _ _)
      ·exact hpop
    ·cases h
   ·cases h
  ·rename_i hno
   refine kz (d:=some sd) rfl h sf st ?_
   simp only [db]
   split
   ·rename_i heq _; exact (hno _ heq).elim
   ·rfl
 -- append
 ·rename_i args ts sd
  split at h
  ·rename_i sx y t t2 hargs hts
   split at h
   ·rename_i hc
    split at h
    ·rename_i k y' hk hy
     cases h
     have hpop:Ref ((vI (some sd) sf st (popI F (.app (some sd) k.1 k.2 (.r sx) y') sf st)).bind fun q=>.ok (sp n q.1,q.2)) (putR P ⟨some sd,.call { callee:=.builtin .append,args:=args,argTypes:=ts },ty,pos,after,gd⟩ (sp n sf) st):=by
      refine vI_ref (d:=some sd) (op:=.call { callee:=.builtin .append,args:=args,argTypes:=ts }) (o:=⟨some sd,.call { callee:=.builtin .append,args:=args,argTypes:=ts },ty,pos,after,gd⟩) ?_ rfl rfl sf st rfl
      exact ej (P:=P) (gOf:=gOf) (d:=some sd) (op:=.call { callee:=.builtin .append,args:=args,argTypes:=ts }) (by
       have hsx:opd gOf F n (.tmp sx) = some (.r sx):=by simp only [opd,hc.2,if_true]
       simp only [popC,hargs,hts,hsx,hk,hy]) sf st
     simp only [db,aW,hargs,hts,co hc.2]
     split
     ·rename_i k' es heq
      simp only [heq]
      rw [if_neg hc.1,aZ,af hy sf]
      refine Ref.bind (pB hk st _ _) fun v=>Ref.of_eq ?_
      simp only [Res.bind,cO,jP hc.2]; rfl
     ·rename_i hno
      split
      ·rename_i heq; exact absurd heq (hno _ _)
      ·exact hpop
    ·cases h
   ·cases h
  ·rename_i hno
   refine kz (d:=some sd) rfl h sf st ?_
   simp only [db]
 -- delete
 ·rename_i args ts
  split at h
  ·rename_i mp k t r hargs hts
   split at h
   ·rename_i kt et hu
    split at h
    ·rename_i kk mp' k' hkk hm hk
     cases h
     simp only [db,aW,hargs,hts,hu,mJ hkk,af hm sf,af hk sf]
     split
     ·rename_i hc
      split
      ·rename_i id heq
       simp only [heq]
       rw [aZ]
       refine Ref.bindL fun es=>?_
       rw [aZ]
       refine Ref.bindL fun r=>?_
       cases r with
       | none=>exact Ref.refl _
       | some p=>exact Ref.refl _
      ·exact Ref.fail _
     ·exact Ref.fail _
    ·cases h
   ·cases h
  ·cases h
 -- makeMap
 ·rename_i t s
  cases h
  simp only [db,aW]
  cases m
  ·simp only [Bool.false_eq_true,if_false,Res.bind,cO]; exact Ref.refl _
  ·exact Ref.fail _
 -- mapUpdate
 ·rename_i t mp k x
  split at h
  ·rename_i kt et hu
   split at h
   ·rename_i kk mp' k' x' hkk hm hk hx
    cases h
    simp only [db,aW,hu,mJ hkk,af hm sf,af hk sf,af hx sf]
    split
    ·rename_i hc
     split
     ·rename_i id heq
      simp only [heq]
      rw [aZ]
      refine Ref.bindL fun es=>?_
      rw [aZ]
      exact Ref.bindL fun r=>Ref.refl _
     ·exact Ref.fail _
    ·exact Ref.fail _
   ·cases h
  ·cases h
 ·refine kz rfl h sf st ?_
  unfold db
  simp only
end
end Go.Fx
namespace Go.Fx
open Go Go.RowKit Go.Lib
def putK (K:Sf→St→Prop) (d:Option Nat) (sf:Sf) (v:AV) (st:St):Prop:=K (sf.put d v) st
def putP (K:Sf→St→Prop) (d:Option Nat) (sf:Sf) (st:St) (v:AV):Prop:=K (sf.put d v) st
def atS (C:AV→St→Prop) (st:St) (v:AV):Prop:=C v st
def nilX (op:BinOp) (x y:AV) (C:AV→St→Prop) (st:St):Prop :=
 match x,y with
 | .sl _ _ [],.lit (.slice none 0 0)=>∀ b:Bool,C (.lit (.bool b)) st
 | x,y=>(binI (.nil .sl) op x y).wp (atS C st)
def cellsD (l:List AV):List AV:=(l.map AV.dis).flatMap AV.cells
def growX (k:Nat) (old new:List AV) (n:Nat) (C:AV→St→Prop) (st:St):Prop :=
 ∀ c,n≤c→C (.bs st.boxes.length k 0 n c) (st.push (.cells (old++new++List.replicate ((c - n) * k) .any)))
def appX (m:Bool) (k bytes:Nat) (base:AV) (C:AV→St→Prop) (st:St) (new:List AV):Prop :=
 match base with
 | .bs id k' off len cap=>k' = k∧m = false∧fM (len + new.length) bytes = true∧(Res.ofOpt (st.get id)).wp fun cs =>
   if len + new.length≤cap then off + (len + new.length) * k≤cs.length∧C (.bs id k off (len + new.length) cap) (st.set id (aG cs (off + len * k) (cellsD new)))
   else off + len * k≤cs.length∧growX k (((cs.drop off).take (len * k)).map AV.own1) (cellsD new) (len + new.length) C st
 | .lit (.slice none 0 0)=>m = false∧fM new.length bytes = true∧if new.isEmpty = true then C (.lit (.slice none 0 0)) st else growX k [] (cellsD new) new.length C st
 | _=>False
def jA (m:Bool) (k:Nat) (base:AV) (C:AV→St→Prop) (st:St) (new:List AV):Prop :=
 match base with
 | .bs id k' off len _=>k' = k∧m = false∧new.length≤len∧(Res.ofOpt (st.get id)).wp fun cs=>off + new.length * k≤cs.length∧C (.lit (.int .i64 new.length)) (st.set id (aG cs off (cellsD new)))
 | .sl _ _ []=>new = []∧C (.lit (.int .i64 0)) st
 | .lit (.slice none 0 0)=>new = []∧C (.lit (.int .i64 0)) st
 | _=>False
def lenS:AV→Nat
 | .bs _ _ _ len _=>len
 | _=>0
def cutS (n:Nat) (v:AV):AV :=
 match v with
 | .sl o k es=>if es.length≤n then .sl o k es else .sl false k (es.take n)
 | .bs id k off len cap=>if len≤n then .bs id k off len cap else .bs id k off n cap
 | v=>v
def clrX (m:Bool) (k:Nat) (z:AV) (x:AV) (C:AV→St→Prop) (st:St):Prop :=
 match x with
 | .bs id k' off len _=>k' = k∧m = false∧(Res.ofOpt (st.get id)).wp fun cs=>off + len * k≤cs.length∧C (.tup []) (st.set id (aG cs off ((List.replicate len z).flatMap AV.cells)))
 | .lit (.slice none 0 0)=>C (.tup []) st
 | .sl _ _ []=>C (.tup []) st
 | _=>False
def clrMX (m:Bool) (x:AV) (C:AV→St→Prop) (st:St):Prop :=
 match x with
 | .map id=>m = false∧(Res.ofOpt (st.getM id)).wp fun _=>C (.tup []) (st.setM id [] [] (st.getB id).2)
 | .lit (.map none)=>C (.tup []) st
 | _=>False
def qK (m:Bool) (k bytes:Nat) (z len cap:AV) (C:AV→St→Prop) (st:St):Prop :=
 match len,cap with
 | .lit (.int _ l),.lit (.int _ c)=>m = false∧0≤l∧l≤c∧c * bytes≤140737488355328∧c≤1000000000000000∧C (.bs st.boxes.length k 0 l.toNat c.toNat) (st.push (.cells ((List.replicate c.toNat z).flatMap AV.cells)))
 | _,_=>False
def capX (x:AV) (C:AV→St→Prop) (st:St):Prop :=
 match x with
 | .bs _ _ _ _ c=>C (.lit (.int .i64 (c:Nat))) st
 | .lit (.slice none 0 0)=>C (.lit (.int .i64 0)) st
 | _=>False
def appZX (m:Bool) (k bytes:Nat) (z base n:AV) (C:AV→St→Prop) (st:St):Prop :=
 match base,n with
 | .lit (.slice none 0 0),.lit (.int _ c)=>m = false∧0 < c∧c * bytes≤140737488355328∧c≤1000000000000000∧growX k [] ((List.replicate c.toNat z).flatMap AV.cells) c.toNat C st
 | _,_=>False
def mksX (k bytes:Nat) (z len cap:AV) (C:AV→St→Prop) (st:St):Prop :=
 match len,cap with
 | .lit (.int _ l),.lit (.int _ c)=>0≤l∧l = c∧c * bytes≤140737488355328∧c≤1000000000000000∧C (.sl true k (List.replicate l.toNat z)) st
 | _,_=>False
def mknzX (m:Bool) (x:AV) (C:AV→St→Prop) (st:St):Prop :=
 match x with
 | .lit (.int .i64 n)=>m = false∧0≤n∧n≤281474976710656∧∀ c:Nat,n.toNat≤c→C (.bs st.boxes.length 1 0 n.toNat c) (st.push (.cells (List.replicate c .any)))
 | _=>False
def slAX (n k:Nat) (x:AV) (lo hi mx:Option AV) (C:AV→St→Prop) (st:St):Prop :=
 match x with
 | .ptr id off=>(sl3 mx hi lo n n fun l h m=>if m = l then (if h = l then .ok (.sl true k []) else .fail) else .ok (.bs id k (off + l * k) (h - l) (m - l))).wp (atS C st)
 | _=>False
def rngX (x:AV) (C:AV→St→Prop) (st:St):Prop :=
 match x with
 | .map id=>(Res.ofOpt (st.getM id)).wp fun _=>C (.mit (some id) (st.getB id).2 [] (st.getB id).2) st
 | .lit (.map none)=>C (.mit none 0 [] 0) st
 | _=>False
def nxtX (s:Nat) (d:Option Nat) (v:AV) (K:Sf→St→Prop) (sf:Sf) (st:St):Prop :=
 match v with
 | .mit none 0 _ _=>K (sf.put d (.tup [.lit (.bool false)])) st
 | .mit (some id) since seen _=>(Res.ofOpt (st.getM id)).wp fun es =>
   (∀ b ∈ (st.getB id).1,b < since)∧since≤(st.getB id).2 ∧
   (∀ (i:Nat) (k x:AV) (b:Nat),es[i]? = some (k,x)→(st.getB id).1[i]? = some b→b ∉ seen→K ((sf.set s (.mit (some id) since (seen++[b]) (st.getB id).2)).put d (.tup [.lit (.bool true),k.dis,x.dis])) st) ∧
   ((∀ b ∈ (st.getB id).1,b ∈ seen)→K (sf.put d (.tup [.lit (.bool false)])) st)
 | _=>False
def rngSX (x:AV) (C:AV→St→Prop) (st:St):Prop :=
 match x with
 | .lit (.string b)=>C (.mit none 1 (b.data.toList.map UInt8.toNat) 1) st
 | _=>False
def qL (s:Nat) (d:Option Nat) (v:AV) (K:Sf→St→Prop) (sf:Sf) (st:St):Prop :=
 match v with
 | .mit none 1 bs (p + 1) => match bs[p]? with
   | none=>K (sf.put d (.tup [.lit (.bool false)])) st
   | some b => b < 256 ∧ (b < 128 → K ((sf.set s (.mit none 1 bs (p + 2))).put d (.tup [.lit (.bool true), .lit (.int .i64 (p : Nat)), .lit (.int .i32 (b : Nat))])) st) ∧
     (128≤b→∀ c wd:Nat,128≤c→0 < wd→K ((sf.set s (.mit none 1 bs (p + wd + 1))).put d (.tup [.lit (.bool true),.lit (.int .i64 (p:Nat)),.lit (.int .i32 (c:Nat))])) st)
 | _=>False
def cmpSX (x y:AV) (C:AV→St→Prop) (st:St):Prop :=
 match x,y with
 | .lit (.string a),.lit (.string b)=>C (.lit (.int .i64 (compareBytes a.data.toList b.data.toList))) st
 | _,_=>False
def entX (v:AV) (C:AV→St→Prop) (st:St):Prop :=
 match v with
 | .mit (some id) _ seen stp=>(Res.ofOpt (st.getM id)).wp fun es=>stp = (st.getB id).2∧∃ (i:Nat) (k x:AV) (b:Nat),seen.getLast? = some b∧es[i]? = some (k,x)∧(st.getB id).1[i]? = some b∧C (.tup [k.dis,x.dis]) st
 | _=>False
def kA (m:Bool) (x:AV) (C:AV→St→Prop) (st:St):Prop :=
 match x with
 | .ifc t (.map id)=>m = false∧(Res.ofOpt (st.getM id)).wp fun es=>C (.ifc t (.map st.boxes.length)) (st.push (.mp es (st.getB id).1 (st.getB id).2))
 | _=>False
def gp (place:Nat→Option (Nat×Nat)):List (Nat×AV)→List AV→Res (List AV)
 | [],cs=>.ok cs
 | (i, v) :: r, cs =>
   match place i with
   | some (off,size)=>if v.cells.length = size∧off + size≤cs.length∧v.solid = true then gp place r (aG cs off v.cells) else .fail
   | none=>.fail
def kB (x:AV) (C:AV→Prop):Prop :=
 match x with
 | .sl true k (e::es)=>C (.sl false k (e::es))
 | _=>False
section
variable (F:Nat→FuncId)
def fR:List (Nat×Opd)→Sf→List (Nat×AV)×Sf
 | [],sf=>([],sf)
 | (i,x)::r,sf=>((i,sf.evOwn F x)::(fR r (sf.disOp x)).1,(fR r (sf.disOp x)).2)
def al (m:Bool) (i:XI) (d:Option Nat) (K:Sf→St→Prop) (sf:Sf) (st:St):Prop :=
 match i with
 | .bad=>False
 | .ldF _ _=>False
 | .nilU op x y=>nilX op (sf.ev F x) (sf.ev F y) (putK K d sf) st
 | .appB s k bytes y=>(srcA st k (sf.ev F y)).wp (appX m k bytes (sf.ev F s) (putK K d sf) st)
 | .copyB k x y=>(srcA st k (cutS (lenS (sf.ev F x)) (sf.ev F y))).wp (jA m k (sf.ev F x) (putK K d sf) st)
 | .clrB k z x=>clrX m k z (sf.ev F x) (putK K d sf) st
 | .clrM x=>clrMX m (sf.ev F x) (putK K d sf) st
 | .mksB k bytes z len cap=>qK m k bytes z (sf.ev F len) (sf.ev F cap) (putK K d sf) st
 | .mks k bytes z len cap=>mksX k bytes z (sf.ev F len) (sf.ev F cap) (putK K d sf) st
 | .mknz x=>mknzX m (sf.ev F x) (putK K d sf) st
 | .slA n k x lo hi mx=>slAX n k (sf.ev F x) (lo.map (sf.ev F)) (hi.map (sf.ev F)) (mx.map (sf.ev F)) (putK K d sf) st
 | .rng x=>rngX (sf.ev F x) (putK K d sf) st
 | .nxt s=>nxtX s d (sf.reg s) K sf st
 | .rngS x=>rngSX (sf.ev F x) (putK K d sf) st
 | .nxtS s=>qL s d (sf.reg s) K sf st
 | .cmpS x y=>cmpSX (sf.ev F x) (sf.ev F y) (putK K d sf) st
 | .ent s=>entX (sf.reg s) (putK K d sf) st
 | .capU x=>capX (sf.ev F x) (putK K d sf) st
 | .appZ k bytes z b n=>appZX m k bytes z (sf.ev F b) (sf.ev F n) (putK K d sf) st
 | .mclone x=>kA m (sf.ev F x) (putK K d sf) st
 | .mark s=>kB (sf.reg s) fun v=>putK K d (sf.disAt s) v st
 | .bstO places z parts=>((gp (fun i=>places[i]?) (fR F parts sf).1 z.cells).bind fun cs=>.ok (.agg cs)).wp (putP K d (fR F parts sf).2 st)
end
section
variable (P:Program) (gOf:FuncId→Option Nat) (F:Nat→FuncId) (n:Nat)
inductive ExtK where
 | mclone | mknz | cmpS
def mkzB (t:TypeId):Bool :=
 match P.underlying t with
 | some (.slice _)=>true
 | _=>false
def extK (f:FuncId):Option ExtK :=
 match P.funcs[f]? with
 | some fn => if fn.body.isNone = true ∧ fn.name = "maps.clone" ∧ fn.origin = "" then some .mclone
   else if fn.body.isNone = true ∧ fn.name = "internal/bytealg.MakeNoZero" ∧ fn.origin = "" ∧ fn.resultTypes.size = 1 ∧ mkzB P (fn.resultTypes.getD 0 0) = true then some .mknz else if fn.body.isNone = true ∧ fn.name = "internal/bytealg.abigen_runtime_cmpstring" ∧ fn.origin = "" then some .cmpS else none
 | none=>none
def apzB (t:TypeId):Bool :=
 match P.underlying t with
 | some (.slice e)=>(cN P e).isSome
 | _=>false
def compX (mu:Nat→Bool) (o:Oper):Option XI :=
 match o.op with
 | .binOp .eql t x y _ => match P.underlying t, opd gOf F n x, opd gOf F n y with
   | some (.slice _),some x,some y=>some (.nilU .eql x y)
   | _,_,_=>none
 | .binOp .neq t x y _ => match P.underlying t, opd gOf F n x, opd gOf F n y with
   | some (.slice _),some x,some y=>some (.nilU .neq x y)
   | _,_,_=>none
 | .call { callee := .builtin .append, args, argTypes } => match o.dst, args.toList, argTypes.toList with
   | some sd, [x, y], [t, t2] => if mu sd = true ∧ apzB P t = true then (match appK P t t2, opd gOf F n x, opd gOf F n y with
     | some k,some x,some y=>some (.appB x k.1 k.2 y)
     | _, some x, some y => match P.underlying t, P.underlying t2 with
       | some (.slice e), some (.int _) => match P.info? e, cN P e with
         | some i,some z=>if z.cells.length = i.size∧0 < i.size then some (.appZ i.size i.bytes z x y) else none
         | _,_=>none
       | _,_=>none
     | _,_,_=>none) else none
   | _,_,_=>none
 | .call { callee := .builtin .copy, args, argTypes } => match args.toList, argTypes.toList with
   | [x, y], [t, t2] => (match appK P t t2, opd gOf F n x, opd gOf F n y with
     | some k,some x,some y=>some (.copyB k.1 x y)
     | _,_,_=>none)
   | _,_=>none
 | .call { callee := .builtin .cap, args, argTypes } => match args.toList, argTypes.toList with
   | [x], [t] => (match P.underlying t, opd gOf F n x with
     | some (.slice _),some x=>some (.capU x)
     | _,_=>none)
   | _,_=>none
 | .call { callee := .builtin .clear, args, argTypes } => match args.toList, argTypes.toList with
   | [x], [t] => (match P.underlying t, opd gOf F n x with
     | some (.slice e), some x => match szT P e, cN P e with
       | some k,some z=>if z.cells.length = k∧0 < k then some (.clrB k z x) else none
       | _,_=>none
     | some (.map _ _),some x=>some (.clrM x)
     | _,_=>none)
   | _,_=>none
 | .makeSlice t len cap => match o.dst, P.underlying t, opd gOf F n len, opd gOf F n cap with
   | some sd, some (.slice e), some l, some c => match P.info? e, cN P e with
     | some i,some z=>if z.cells.length = i.size∧0 < i.size then (if mu sd = true then some (.mksB i.size i.bytes z l c) else some (.mks i.size i.bytes z l c)) else none
     | _,_=>none
   | _,_,_,_=>none
 | .buildSlice t len parts => match o.dst, P.underlying t with
   | some sd, some (.slice e) => match P.info? e, cN P e with
     | some i,some z=>if mu sd = true∧len = 0∧parts = #[]∧z.cells.length = i.size∧0 < i.size then some (.mksB i.size i.bytes z (.c (.lit (.int .i64 0))) (.c (.lit (.int .i64 0)))) else none
     | _,_=>none
   | _,_=>none
 | .call { callee := .value (.func f), args, .. } => match extK P f, args.toList with
   | some .mclone,[x]=>(opd gOf F n x).map .mclone
   | some .mknz,[x]=>(opd gOf F n x).map .mknz
   | some .cmpS, [x, y] => match opd gOf F n x, opd gOf F n y with
     | some x,some y=>some (.cmpS x y)
     | _,_=>none
   | _,_=>none
 | .slice t x lo hi mx => match P.underlying t with
   | some (.array k e) => match opd gOf F n x, opdO gOf F n lo, opdO gOf F n hi, opdO gOf F n mx with
     | some x,some lo,some hi,some mx=>(szT P e).map fun s=>.slA k s x lo hi mx
     | _,_,_,_=>none
   | some (.pointer arr) => match P.underlying arr, opd gOf F n x, opdO gOf F n lo, opdO gOf F n hi, opdO gOf F n mx with
     | some (.array k e),some x,some lo,some hi,some mx=>(szT P e).map fun s=>.slA k s x lo hi mx
     | _,_,_,_,_=>none
   | _=>none
 | .range t x => match o.dst, P.underlying t, opd gOf F n x with
   | some _,some (.map _ _),some x=>some (.rng x)
   | some _,some .string,some x=>some (.rngS x)
   | _,_,_=>none
 | .build t parts => match o.dst, P.underlying t, cN P t, e8 gOf F n parts.toList with
   | some sd,some (.struct fields),some z,some ps=>if mu sd = true∧(ps.all fun p=>match p.2 with | .r q=>q != sd | _=>true) = true then (eS P fields).map (.bstO · z ps) else none
   | _,_,_,_=>none
 | .next (.tmp s) false=>if s < n∧o.dst≠some s then some (.nxt s) else none
 | .next (.tmp s) true=>if s < n∧o.dst≠some s then some (.nxtS s) else none
 | .entry (.tmp s)=>if s < n then some (.ent s) else none
 | .convert t t2 (.tmp s) => match P.underlying t with
   | some (.slice e) => match P.underlying e with
     | some (.int .u8)=>if t = t2∧s < n then some (.mark s) else none
     | _=>none
   | _=>none
 | _=>none
end
end Go.Fx
namespace Go.Fx
open Go Go.RowKit Go.Lib
section
variable {P:Program} {gOf:FuncId→Option Nat} {F:Nat→FuncId} {n:Nat} {m:Bool} {E:Ent} {g g':Gh} {w w':World} {sf:Sf} {st st':St} {a:Act} {fr:Fr}
theorem kC {o:Oper} {K:Sf→St→Prop} {K':Act→World→Prop} {Q':Exit→Act→World→Prop}
  (hk:∀ sf' st' g' w' u,Ok m E g' w' (sp n sf') st' (a.put o.dst u)→K sf' st'→K' (a.put o.dst u) w') {u:Value} {v:AV} (hrun:(execOp a.eval o).run P w = .ok (.value u) w') (hok:Ok m E g' w' (sp n sf) st' a)
  (hr:RS g' E.d v u) (ho:∀ s,o.dst = some s→OwnV g' w' E.N (Loc.slot E.d s) v u) (hK:putK K o.dst sf v st'):o.wp P a w K' Q':=by
 unfold Oper.wp
 rw [hrun]
 exact hk _ _ _ _ u (by rw [aJ]; exact hok.put o.dst hr ho) hK
theorem cX {v:AV} (h1:∀ cs,v≠.agg cs) (h2:v.noOwn) {N:Nat} {L:Nat→Loc} {u:Value}:OwnV g w N L v u:=fun i c _ hc _=>Own.of_no (ae h1 h2 i c hc)
theorem Ok.newBox (h:Ok false E g w fr st a) {cs:List AV} {us:Array Value} {T:TypeId} (hw:Nw w (.cells us T (0,0)) w') (hr:RL g cs us.toList) (hn:∀ (i:Nat) (c:AV),cs[i]? = some c→c.noOwn) (h1c:∀ x ∈ us,x.oneCell' = true) :
  Ok false E (g.newB w.heap.size st.boxes.length) w' fr (st.push (.cells cs)) a:=by
 have hg:=h.ctx.good
 have hid:=h.ctx.box.1 st.boxes.length (Nat.le_refl _)
 have hch:=Nw.chB (d:=E.d) hw hg _ hid
 refine h.ch (hw.mvB hg _ hid) hch h.size h.defers (fun t v u hv hu=>.inr ⟨hv,hu,fun i c _=>.inl (fun e=>e),fun _ _ _=>by simp⟩) (fun t cs' hc=>.inr ⟨hc,by simp,by simp,fun _ _ _=>.inl (fun e=>e)⟩) (fun id hid=>?_) (fun id cs' hc=>?_) (fun id bx he hob=>?_) (fun e=>by cases e)
 ·simp [St.push] at hid
  have:¬ id = st.boxes.length:=by omega
  simp only [Gh.newB,this,if_false]
  exact h.ctx.box.1 id (by omega)
 ·rcases aP hc with h1 | ⟨rfl,h1⟩
  ·exact .inr ⟨h1,by simp,fun _ _ _=>.inl (fun e=>e)⟩
  ·cases h1
   exact .inl ⟨w.heap.size,us,T,by simp [Gh.newB],by simp [Gh.newB],hw.new,by simpa using hr.1,fun i c x hc hx=>⟨(hr.2 i c x hc (by simpa using hx)).mono hch.ghle,Own.of_no (hn i c hc)⟩,h1c⟩
 ·rcases aP he with h1 | ⟨rfl,h1⟩
  ·exact .inr ⟨h1,by simp⟩
  ·cases h1; cases hob
theorem gq (g:Gh) (b id:Nat):(g.newB b id).bx id = some b:=by simp [Gh.newB]
theorem Ok.newMapB (h:Ok false E g w fr st a) {es:List (AV×AV)} {us:Array MapEntry} {bs:List Nat} {clk:Nat} (hw:Nw w (.map us clk) w') (hE:EntR g es us) (hB:BrnR bs clk us) :
  Ok false E (g.newB w.heap.size st.boxes.length) w' fr (st.push (.mp es bs clk)) a:=by
 have hg:=h.ctx.good
 have hid:=h.ctx.box.1 st.boxes.length (Nat.le_refl _)
 have hch:=Nw.chB (d:=E.d) hw hg _ hid
 refine h.ch (hw.mvB hg _ hid) hch h.size h.defers (fun t v u hv hu=>.inr ⟨hv,hu,fun i c _=>.inl (fun e=>e),fun _ _ _=>by simp⟩) (fun t cs' hc=>.inr ⟨hc,by simp,by simp,fun _ _ _=>.inl (fun e=>e)⟩) (fun id hid=>?_) (fun id cs' hc=>?_) (fun id bx he hob=>?_) (fun e=>by cases e)
 ·simp [St.push] at hid
  have:¬ id = st.boxes.length:=by omega
  simp only [Gh.newB,this,if_false]
  exact h.ctx.box.1 id (by omega)
 ·rcases aP hc with h1 | ⟨rfl,h1⟩
  ·exact .inr ⟨h1,by simp,fun _ _ _=>.inl (fun e=>e)⟩
  ·cases h1
 ·rcases aP he with h1 | ⟨rfl,h1⟩
  ·exact .inr ⟨h1,by simp⟩
  ·cases h1
   exact .inl ⟨w.heap.size,.map us clk,by simp [Gh.newB],by simp [Gh.newB],hw.new,rfl,hE.mono hch.ghle,hB⟩
theorem nG (w:World) (k:Nat) (o:Obj):Nw w o ({ w with drawn:=w.drawn + k }.alloc o) :=
 ⟨rfl,rfl,rfl,by simp,fun q hq=>heap_alloc_old { w with drawn:=w.drawn + k } o hq,heap_alloc_new { w with drawn:=w.drawn + k } o⟩
theorem eD (l:List AV):∀ (i:Nat) (c:AV),(cellsD l)[i]? = some c→c.noOwn:=by
 intro i c h
 have hm:=List.mem_of_getElem? h
 simp only [cellsD,List.mem_flatMap,List.mem_map] at hm
 obtain ⟨v,⟨x,_,rfl⟩,hc⟩:=hm
 obtain ⟨j,hj⟩:=List.mem_iff_getElem?.1 hc
 exact aq x j c hj
theorem pC {k:Nat} {l:List AV} (h:∀ e ∈ l,e.cells.length = k):(cellsD l).length = l.length * k:=by
 unfold cellsD
 rw [ai (k:=k)]
 ·simp
 ·intro x hx
  simp only [List.mem_map] at hx
  obtain ⟨y,hy,rfl⟩:=hx
  rw [aO]; exact h y hy
theorem src_x (hg:Good g w) (hb:BoxR g w st) {d:Nat} {t t2:TypeId} {e:TypeId} {dd:TypeDesc} {k:Nat} (ht2:P.underlying t2 = some dd) (hdd:srcT dd = true) {y:AV} {uy:Value} (hy:RS g d y uy) {K:List AV→Prop} (h:(srcA st k y).wp K) :
  ∃ nes new,K nes∧(∀ e ∈ nes,e.cells.length = k)∧RL g (cellsD nes) new∧new.length = nes.length * k∧Go.Src P k t2 uy nes.length new w∧(∀ u ∈ new,u.oneCell' = true):=by
 obtain ⟨nes,hK,hnk,hlen,new,hnew,hone,hfc⟩:=gj (P:=P) hg hb hy h
 have hnl:new.length = nes.length * k:=by rw [hnew.1,ai hnk]
 refine ⟨nes,new,hK,hnk,mF hnk hnew,hnl,⟨?_,hlen,hfc w (fun _ _ _=>rfl),hfc w.drew (fun b o _=>cV w b o),hnl,hone⟩,hone⟩
 cases dd <;> simp only [srcT] at hdd <;> first | (cases hdd; done) | exact .inl ⟨_,ht2⟩ | exact .inr ht2
theorem appK_inv {t t2:TypeId} {k bytes:Nat} (h:appK P t t2 = some (k,bytes)):∃ e dd i z,P.underlying t = some (.slice e)∧P.underlying t2 = some dd∧P.info? e = some i∧srcT dd = true∧0 < i.size∧i.zero = some z∧z.cells.size = i.size∧k = i.size∧bytes = i.bytes:=by
 unfold appK at h
 split at h
 ·rename_i e dd h1 h2
  split at h
  ·rename_i i hi
   split at h
   ·rename_i hc
    cases h
    cases hz:i.zero with
    | none=>simp [hz] at hc
    | some z=>exact ⟨e,dd,i,z,h1,h2,hi,hc.1,hc.2.1,hz,by simpa [hz] using hc.2.2,rfl,rfl⟩
   ·cases h
  ·cases h
 ·cases h
theorem rL {d id k off len cap:Nat} {u:Value} (h:RS g d (.bs id k off len cap) u):∃ b,g.bx id = some b∧u = .slice (some ⟨b,off,none⟩) len cap:=by
 have h:R g (.bs id k off len cap) u:=h
 cases h with | bs _ _ _ _ _ b hb=>exact ⟨b,hb,rfl⟩
theorem RL.append_any {cs:List AV} {us:List Value} (h:RL g cs us) (r:List Value):RL g (cs++List.replicate r.length .any) (us++r):=by
 refine h.append ⟨by simp,fun i x u hx hu=>?_⟩
 have:x = .any:=by
  have:=List.mem_of_getElem? hx
  exact List.eq_of_mem_replicate this
 subst this; exact .any _
theorem RL.own1 {cs:List AV} {us:List Value} (h:RL g cs us):RL g (cs.map AV.own1) us:=by
 refine ⟨by simp [h.1],fun i x u hx hu=>?_⟩
 simp only [List.getElem?_map,Option.map_eq_some_iff] at hx
 obtain ⟨y,hy,rfl⟩:=hx
 exact (h.2 i y u hy hu).own1
theorem jB {e:TypeId} {i:TypeInfo} {z:Value} (h:(cN P e).isSome = true) (hi:P.info? e = some i) (hz:i.zero = some z) (q:Nat):∀ x ∈ Builtin.zeroCells z.cells q,x.oneCell' = true:=by
 obtain ⟨zv,hzv⟩:=Option.isSome_iff_exists.1 h
 obtain ⟨z',hz',i',z2,hi',hz2,hr,hs,_⟩:=bC (g:=⟨0,fun _ _=>none,fun _=>none,fun _ _=>none,fun _=>none⟩) (Res.wp_of_opt hzv (K:=fun x=>x = zv) rfl)
 rw [hi] at hi'; cases hi'
 rw [hz] at hz2; cases hz2
 obtain ⟨_,h1⟩:=ba hs hr
 intro x hx
 simp only [Builtin.zeroCells,Array.mem_map,Array.mem_range] at hx
 obtain ⟨j,hj,rfl⟩:=hx
 have hpos:0 < z.cells.size:=by
  rcases Nat.eq_zero_or_pos z.cells.size with h0 | h0
  ·rw [h0] at hj; simp at hj
  ·exact h0
 have hlt:j % z.cells.size < z.cells.size:=Nat.mod_lt _ hpos
 rw [getElem!_pos z.cells _ hlt]
 exact h1 _ (Array.getElem_mem hlt)
theorem app_x {o:Oper} {t t2:TypeId} {x y:Operand} {k bytes:Nat} (ho:o.op = .call { callee:=.builtin .append,args:=#[x,y],argTypes:=#[t,t2] }) (hak:appK P t t2 = some (k,bytes)) (hz1:∀ e,P.underlying t = some (.slice e)→(cN P e).isSome = true) (h:Ok m E g w (sp n sf) st a) {xv yv:AV} (hxv:(sp n sf).ev x = xv) (hyv:(sp n sf).ev y = yv)
  {C:AV→St→Prop} (hK:(srcA st k yv).wp (appX m k bytes xv C st)) :
  ∃ v st',C v st'∧∃ u g' w',(execOp a.eval o).run P w = .ok (.value u) w'∧Ok m E g' w' (sp n sf) st' a∧R g' v u∧(∀ cs,v≠.agg cs)∧v.noOwn:=by
 have hg:=h.ctx.good
 obtain ⟨e,dd,i,z,ht,ht2,hi,hdd,hpos,hz,hzl,rfl,rfl⟩:=appK_inv hak
 have hy:=h.ev y
 rw [hyv] at hy
 obtain ⟨nes,new,hK,hnk,hnew,hnl,hsrc,hone⟩:=src_x (P:=P) (t:=t) (e:=e) hg h.ctx.box ht2 hdd hy hK
 have hzc:=jB (hz1 e ht) hi hz
 have hbase:=h.ev x
 rw [hxv] at hbase
 have hexec:∀ u w',(Builtin.append_ #[t,t2] o.type #[a.eval x,a.eval y]).run P w = .ok u w'→(execOp a.eval o).run P w = .ok (.value u) w':=by
  intro u w' hr
  obtain ⟨dst,op,ty',pos,after,gd⟩:=o
  simp only at ho hr
  subst ho
  exact dF (s:=Builtin.append_ #[t,t2] ty' #[a.eval x,a.eval y]) (fun _=>by simp [builtin]) hr
 unfold appX at hK
 split at hK
 ·rename_i id k' off len cap _
  obtain ⟨rfl,rfl,hroom,hK⟩:=hK
  have hroom:=of_decide_eq_true hroom
  rw [ak] at hK
  obtain ⟨cs,hcs,hK⟩:=hK
  obtain ⟨b,hb,hu⟩:=rL hbase
  obtain ⟨b',us,T,a1,a2,a3,a4,a5,a6⟩:=h.ctx.box.2.1 id cs (kj hcs)
  have:b' = b:=Option.some.inj (a1.symm.trans hb)
  subst this
  split at hK
  ·rename_i hfit
   obtain ⟨hle,hK⟩:=hK
   have hcl:=pC hnk
   have hrl:RL g (cellsD nes) new:=hnew
   have hoff:off + len * i.size + (cellsD nes).length≤cs.length:=by rw [hcl,Nat.add_assoc,← Nat.add_mul]; exact hle
   obtain ⟨us',T',hrow,hus,hok⟩:=h.writeB (off:=off + len * i.size) (xs:=new) hcs hb hoff hrl (fun j c x hc _=>Own.of_no (eD nes j c hc)) hone
   have hrun:=run_append_room_src (P:=P) w t t2 o.type e i ht hi b' off len cap (a.eval y) nes.length new hsrc hfit
    (fun j hj=>by rw [cell_of_row w b' _ us T (0,0) a3]; have:off + len * i.size + j < us.size:=(by rw [a4]; rw [hnl] at hj; rw [hcl] at hoff; omega); simp [this])
    (fun j hj=>by simp [World.frozen?,a3])
   exact ⟨_,_,hK,_,_,_,hexec _ _ (by rw [hu]; exact hrun),hok,R.bs _ _ _ _ _ b' hb,by simp,trivial⟩
  ·rename_i hfit
   obtain ⟨hle,hK⟩:=hK
   let olds:=(us.toList.drop off).take (len * i.size)
   have hol:olds.length = len * i.size:=by simp [olds]; omega
   have hcell:∀ w2:World,(∀ b o,(w.cell? ⟨b,o,none⟩).isSome→w2.cell? ⟨b,o,none⟩ = w.cell? ⟨b,o,none⟩)→(Builtin.firstCells i.size len (.slice (some ⟨b',off,none⟩) len cap)).run P w2 = .ok olds.toArray w2:=by
    intro w2 hw2
    have:=run_loadCells_list (P:=P) w2 ⟨b',off,none⟩ olds (fun j v hv=>by
     rw [bf]
     have hjl:j < len * i.size:=by rw [← hol]; exact (List.getElem?_eq_some_iff.1 hv).1
     have hlt:off + j < us.size:=by omega
     simp only [olds,List.getElem?_take,hjl,if_true,List.getElem?_drop] at hv
     have h1:w.cell? ⟨b',off + j,none⟩ = some v:=by rw [cell_of_row w b' _ us T (0,0) a3]; simpa using hv
     rw [hw2 _ _ (by simp [h1]),h1])
    rw [hol] at this
    simpa [Builtin.firstCells] using this
   have hrun:=run_append_grow_src (P:=P) w t t2 o.type e i z ht hi hz (some ⟨b',off,none⟩) len cap olds (hcell w.drew (fun b o _=>cV w b o)) (a.eval y) nes.length new hsrc (by omega) (by omega) (growslice_fits (by omega) hroom.1)
   have hge:=grownCap_ge w (len + nes.length) cap e
   generalize grownCap w (len + nes.length) cap e = c at *
   have hK:=hK c hge
   have hrest:(Builtin.zeroCells z.cells (c - (len + nes.length))).toList.length = (c - (len + nes.length)) * i.size:=by rw [Array.length_toList,size_zeroCells,hzl]
   have hrl:RL g (((cs.drop off).take (len * i.size)).map AV.own1++cellsD nes++List.replicate ((c - (len + nes.length)) * i.size) .any) ((olds++new).toArray++Builtin.zeroCells z.cells (c - (len + nes.length))).toList:=by
    rw [Array.toList_append,← hrest]
    refine RL.append_any (RL.append ?_ hnew) _
    exact RL.own1 (RL.take (RL.drop ⟨by simp [a4],fun j x u hx hu=>(a5 j x u hx (by simpa using hu)).1⟩ off) _)
   have hnw:Nw w (.cells ((olds++new).toArray++Builtin.zeroCells z.cells (c - (len + nes.length))) e) (w.drew.alloc (.cells ((olds++new).toArray++Builtin.zeroCells z.cells (c - (len + nes.length))) e)):=nG w 1 _
   have hok:=h.newBox hnw hrl (fun j c' hc=>?_) (fun x hx=>?_)
   ·exact ⟨_,_,hK,_,_,_,hexec _ _ (by rw [hu]; exact hrun),hok,R.bs _ _ _ _ _ _ (gq _ _ _),by simp,trivial⟩
   ·have hm:=List.mem_of_getElem? hc
    simp only [List.mem_append] at hm
    rcases hm with (hm | hm) | hm
    ·simp only [List.mem_map] at hm
     obtain ⟨q,_,rfl⟩:=hm
     exact jL q
    ·obtain ⟨q,hq⟩:=List.mem_iff_getElem?.1 hm
     exact eD nes q c' hq
    ·rw [List.eq_of_mem_replicate hm]; trivial
   ·rcases Array.mem_append.1 hx with hx | hx
    ·rcases List.mem_append.1 (by simpa using hx) with hx | hx
     ·have:=List.mem_of_mem_drop (List.mem_of_mem_take hx)
      exact a6 x (by simpa using this)
     ·exact hone x hx
    ·exact hzc _ x hx
 ·skip
  obtain ⟨hu,_⟩:=hbase.lit_inv
  obtain ⟨rfl,hroom,hK⟩:=hK
  have hroom:=of_decide_eq_true hroom
  split at hK
  ·rename_i hemp
   have hn0:nes = []:=by simpa using hemp
   subst hn0
   have hnew0:new = []:=List.eq_nil_of_length_eq_zero (by simpa using hnl)
   subst hnew0
   exact ⟨_,_,hK,_,_,_,hexec _ _ (by rw [hu]; exact run_append_nothing w t t2 o.type e i ht hi none 0 0 (Nat.le_refl 0) (a.eval y) hsrc),h,R.lit _ rfl,by simp,trivial⟩
  ·rename_i hemp
   have hne:nes≠[]:=by simpa using hemp
   have h0:0 < nes.length:=by cases nes <;> simp_all
   have hrun:=run_append_grow_src (P:=P) w t t2 o.type e i z ht hi hz none 0 0 [] (by simp [Builtin.firstCells]) (a.eval y) nes.length new hsrc (by omega) (by omega) (growslice_fits (by omega) (by simpa using hroom.1))
   have hge:=grownCap_ge w (0 + nes.length) 0 e
   generalize grownCap w (0 + nes.length) 0 e = c at *
   simp only [Nat.zero_add,List.nil_append] at hrun hge
   have hK:=hK c hge
   simp only [List.nil_append] at hK
   have hrest:(Builtin.zeroCells z.cells (c - nes.length)).toList.length = (c - nes.length) * i.size:=by rw [Array.length_toList,size_zeroCells,hzl]
   have hrl:RL g (cellsD nes++List.replicate ((c - nes.length) * i.size) .any) (new.toArray++Builtin.zeroCells z.cells (c - nes.length)).toList:=by
    rw [Array.toList_append,← hrest]
    exact RL.append_any hnew _
   have hnw:Nw w (.cells (new.toArray++Builtin.zeroCells z.cells (c - nes.length)) e) (w.drew.alloc (.cells (new.toArray++Builtin.zeroCells z.cells (c - nes.length)) e)):=nG w 1 _
   have hok:=h.newBox hnw hrl (fun j c' hc=>?_) (fun x hx=>?_)
   ·exact ⟨_,_,hK,_,_,_,hexec _ _ (by rw [hu]; exact hrun),hok,R.bs _ _ _ _ _ _ (gq _ _ _),by simp,trivial⟩
   ·have hm:=List.mem_of_getElem? hc
    simp only [List.mem_append] at hm
    rcases hm with hm | hm
    ·obtain ⟨q,hq⟩:=List.mem_iff_getElem?.1 hm
     exact eD nes q c' hq
    ·rw [List.eq_of_mem_replicate hm]; trivial
   ·rcases Array.mem_append.1 hx with hx | hx
    ·exact hone x (by simpa using hx)
    ·exact hzc _ x hx
 ·exact hK.elim
end
end Go.Fx
namespace Go.Fx
open Go Go.RowKit Go.Lib
section
variable {P:Program} {gOf:FuncId→Option Nat} {F:Nat→FuncId} {n:Nat} {m:Bool} {E:Ent} {g g':Gh} {w w':World} {sf:Sf} {st st':St} {a:Act} {fr:Fr}
theorem gt {g:Gh} {w:World} {N:Nat} {L:Nat→Loc} {x u:Value}:OwnV g w N L (.lit x) u:=cX (v:=.lit x) (by simp) trivial
theorem dj {g:Gh} {w:World} {N:Nat} {L:Nat→Loc} {x:List AV} {u:Value}:OwnV g w N L (.tup x) u:=cX (v:=.tup x) (by simp) trivial
theorem pD {g:Gh} {w:World} {N:Nat} {L:Nat→Loc} {a b c d e:Nat} {u:Value}:OwnV g w N L (.bs a b c d e) u:=cX (v:=.bs a b c d e) (by simp) trivial
theorem own_ifc {g:Gh} {w:World} {N:Nat} {L:Nat→Loc} {t:Nat} {x:AV} {u:Value}:OwnV g w N L (.ifc t x) u:=cX (v:=.ifc t x) (by simp) trivial
def Ends (P:Program) (o:Oper) (m:Bool) (E:Ent) (w:World) (fr:Fr) (a:Act) (C:AV→St→Prop):Prop :=
 ∃ v st',C v st'∧∃ u g' w',(execOp a.eval o).run P w = .ok (.value u) w'∧Ok m E g' w' fr st' a∧RS g' E.d v u∧∀ s,o.dst = some s→OwnV g' w' E.N (Loc.slot E.d s) v u
theorem nil_x {o:Oper} {op:BinOp} {t ty e:TypeId} {x y:Operand} (ho:o.op = .binOp op t x y ty) (hop:op = .eql∨op = .neq) (hu:P.underlying t = some (.slice e)) (h:Ok m E g w fr st a) {C:AV→St→Prop}
  (hK:nilX op (fr.ev x) (fr.ev y) C st):Ends P o m E w fr a C:=by
 have hx:=h.ev x
 have hy:=h.ev y
 unfold nilX at hK
 split at hK
 ·rename_i own k h1 h2
  rw [h1] at hx
  rw [h2] at hy
  have hy:=hy.lit_inv.1
  have hx':∃ ad c,a.eval x = .slice ad 0 c:=by
   have hx:R g (.sl own k []) (a.eval x):=hx
   generalize a.eval x = u at hx
   cases hx <;> exact ⟨_,_,rfl⟩
  obtain ⟨ad,c,hx'⟩:=hx'
  have hc:Cmp P t x y (a.eval x) (a.eval y) ad.isNone:=by
   rw [hx',hy]
   exact ⟨fun n w=>by cases ad <;> simp [Op.equalIn,run_underlying hu],rfl,rfl,fun op w=>by cases op <;> simp [eqGuard]⟩
  rcases hop with rfl | rfl
  ·refine ⟨_,st,hK ad.isNone,.bool ad.isNone,g,w,?_,h,R.lit _ rfl,fun s hs=>gt⟩
   simp only [execOp,ho]
   refine aA ?_
   rw [Sem.run_bind,hc.gd _ w]
   exact hc.run1 w
  ·refine ⟨_,st,hK (!ad.isNone),.bool (!ad.isNone),g,w,?_,h,R.lit _ rfl,fun s hs=>gt⟩
   simp only [execOp,ho]
   refine aA ?_
   rw [Sem.run_bind,hc.gd _ w]
   exact hc.run2 w
 ·have hK:=kr (op:=op) (isNil_sl e) hu _ _ _ hK
  obtain ⟨v,u,hK,hf,rfl,hr⟩:=pi x y hx hy hK
  refine ⟨_,st,hK,u,g,w,?_,h,R.lit _ hf,fun s hs=>gt⟩
  simp only [execOp,ho]
  refine aA ?_
  rw [Sem.run_bind,(hr w).1]
  exact (hr w).2
theorem dG {o:Oper} {b:Builtin} {args:Array Operand} {ts:Array TypeId} (ho:o.op = .call ⟨.builtin b,args,ts⟩) {s:Sem Value} (h:∀ cs,builtin b ts o.type cs (args.map a.eval) = (do pure (.value (← s)))) {u:Value} (hr:s.run P w = .ok u w') :
  (execOp a.eval o).run P w = .ok (.value u) w':=by
 obtain ⟨dst,op,ty,pos,after,gd⟩:=o
 simp only at ho h
 subst ho
 exact dF h hr
theorem cut_rel (n:Nat) {d:Nat} {v:AV} {u:Value} (hr:RS g d v u):∃ u',RS g d (cutS n v) u'∧∀ L',(∀ w,(Builtin.lenOf u').run P w = .ok L' w)→(∃ L,(∀ w,(Builtin.lenOf u).run P w = .ok L w)∧Nat.min L n = Nat.min L' n)∧∀ k m,Builtin.firstCells k m u = Builtin.firstCells k m u':=by
 have same:∃ u',RS g d v u'∧∀ L',(∀ w,(Builtin.lenOf u').run P w = .ok L' w)→(∃ L,(∀ w,(Builtin.lenOf u).run P w = .ok L w)∧Nat.min L n = Nat.min L' n)∧∀ k m,Builtin.firstCells k m u = Builtin.firstCells k m u' :=
  ⟨u,hr,fun L' h=>⟨⟨L',h,rfl⟩,fun _ _=>rfl⟩⟩
 unfold cutS
 split
 ·rename_i o k es
  split
  ·exact same
  ·rename_i hc
   have hr:R g (.sl o k es) u:=hr
   cases hr with
   | slE _ _ a c=>simp at hc
   | slN _ _=>simp at hc
   | sl _ _ _ us b o' c h0 hk h1 h2 h3 =>
     have hpre:∀ (i:Nat) (x:AV),((es.take n).flatMap AV.cells)[i]? = some x→(es.flatMap AV.cells)[i]? = some x:=fun i x hx=>by
      rw [← List.take_append_drop n es,List.flatMap_append,List.getElem?_append_left (List.getElem?_eq_some_iff.1 hx).1]
      exact hx
     have hlen:(es.take n).length = n:=by rw [List.length_take]; omega
     have hR:R g (.sl false k (es.take n)) (.slice (some ⟨b,o',none⟩) (es.take n).length c) :=
      .sl false k _ us b o' c (by omega) (fun e he=>hk e (List.mem_of_mem_take he)) (fun i x hx=>h1 i x (hpre i x hx)) (fun i x hx=>h2 i x (hpre i x hx)) (fun i x hx=>h3 i x (hpre i x hx))
     refine ⟨_,RS.of hR,fun L' h=>⟨⟨es.length,fun w=>by simp [Builtin.lenOf],?_⟩,fun _ _=>rfl⟩⟩
     have:=h default
     simp only [Builtin.lenOf,Sem.run_pure,Result.ok.injEq,and_true] at this
     rw [← this,hlen,Nat.min_eq_min,Nat.min_eq_min]
     omega
 ·rename_i id k off len cap
  split
  ·exact same
  ·rename_i hc
   have hr:R g (.bs id k off len cap) u:=hr
   cases hr with
   | bs _ _ _ _ _ b hb =>
     refine ⟨_,RS.of (R.bs id k off n cap b hb),fun L' h=>⟨⟨len,fun w=>by simp [Builtin.lenOf],?_⟩,fun _ _=>rfl⟩⟩
     have:=h default
     simp only [Builtin.lenOf,Sem.run_pure,Result.ok.injEq,and_true] at this
     rw [← this,Nat.min_eq_min,Nat.min_eq_min]
     omega
 ·exact same
theorem copy_x {o:Oper} {t t2:TypeId} {x y:Operand} {k bytes:Nat} (ho:o.op = .call ⟨.builtin .copy,#[x,y],#[t,t2]⟩) (hak:appK P t t2 = some (k,bytes)) (h:Ok m E g w fr st a) {C:AV→St→Prop}
  (hK:(srcA st k (cutS (lenS (fr.ev x)) (fr.ev y))).wp (jA m k (fr.ev x) C st)):Ends P o m E w fr a C:=by
 have hg:=h.ctx.good
 obtain ⟨e,dd,i,z,ht,ht2,hi,hdd,hpos,hz,hzl,rfl,rfl⟩:=appK_inv hak
 obtain ⟨uy',hry,hcut⟩:=cut_rel (P:=P) (lenS (fr.ev x)) (h.ev y)
 obtain ⟨nes,new,hK,hnk,hnew,hnl,hsrc,hone⟩:=src_x (P:=P) (t:=t) (e:=e) hg h.ctx.box ht2 hdd hry hK
 obtain ⟨⟨L,hL,hLm⟩,hfc⟩:=hcut nes.length hsrc.len
 have hcells:=hsrc.cells
 have hempty:∀ ad c,a.eval x = .slice ad 0 c→nes = []→C (.lit (.int .i64 0)) st→Ends P o m E w fr a C:=by
  intro ad c hu hn hC
  have hc0:(Builtin.firstCells i.size 0 (a.eval y)).run P w = .ok #[] w:=by
   rw [hfc]
   have:=hsrc.cells
   subst hn
   have h0:new = []:=List.eq_nil_of_length_eq_zero (by simpa using hnl)
   subst h0
   simpa using this
  have hm0:Nat.min L 0 = 0:=Nat.min_eq_right (Nat.zero_le _)
  subst hn
  have h0:new = []:=List.eq_nil_of_length_eq_zero (by simpa using hnl)
  subst h0
  refine ⟨_,_,hC,.int .i64 0,g,w,dG (s:=Builtin.copy_ #[t,t2] o.type #[a.eval x,a.eval y]) ho (fun _=>by simp [builtin]) ?_,h,R.lit _ rfl,fun s hs=>gt⟩
  rw [hu]
  cases ad <;> simp [Builtin.copy_,run_underlying ht,sizeOf,typeInfo,hi,hL,hm0,hc0,goInt,storeCells]
 unfold jA at hK
 split at hK
 case h_4=>exact hK.elim
 case h_2 =>
  rename_i own k' hx
  have hbase:=h.ev x
  rw [hx] at hbase
  have hbase:R g (.sl own k' []) (a.eval x):=hbase
  have hx':∃ ad c,a.eval x = .slice ad 0 c:=by
   generalize a.eval x = u at hbase
   cases hbase <;> exact ⟨_,_,rfl⟩
  obtain ⟨ad,c,hx'⟩:=hx'
  exact hempty ad c hx' hK.1 hK.2
 case h_3 =>
  rename_i hx
  have hbase:=h.ev x
  rw [hx] at hbase
  exact hempty none 0 hbase.lit_inv.1 hK.1 hK.2
 rename_i id k' off len cap hx
 obtain ⟨rfl,rfl,hle,hK⟩:=hK
 rw [ak] at hK
 obtain ⟨cs,hcs,hoff,hK⟩:=hK
 have hbase:=h.ev x
 rw [hx] at hbase
 obtain ⟨b,hb,hu⟩:=rL hbase
 obtain ⟨b',us,T,a1,a2,a3,a4,a5,a6⟩:=h.ctx.box.2.1 id cs (kj hcs)
 have:b' = b:=Option.some.inj (a1.symm.trans hb)
 subst this
 have hcl:=pC hnk
 obtain ⟨us',T',hrow,hus,hok⟩:=h.writeB (off:=off) (xs:=new) hcs hb (by rw [hcl]; exact hoff) hnew (fun j c x hc _=>Own.of_no (eD nes j c hc)) hone
 have hst:=run_storeCells_cells (P:=P) b' off new 0 w (fun j hj=>by rw [cell_of_row w b' _ us T (0,0) a3]; have:off + j < us.size:=(by rw [hnl] at hj; omega); simp [this]) (fun j hj=>by simp [World.frozen?,a3]) hone
 simp only [Nat.add_zero] at hst
 have hmin:Nat.min L len = nes.length:=by
  rw [hx] at hLm
  exact hLm.trans (Nat.min_eq_left hle)
 rw [← hfc] at hcells
 refine ⟨_,_,hK,.int .i64 nes.length,g,_,dG (s:=Builtin.copy_ #[t,t2] o.type #[a.eval x,a.eval y]) ho (fun _=>by simp [builtin]) ?_,hok,R.lit _ rfl,fun s hs=>gt⟩
 rw [hu]
 simp [Builtin.copy_,run_underlying ht,sizeOf,typeInfo,hi,hL,hmin,hcells,hst,goInt]
theorem kD {e:TypeId} {z:AV} (hz:cN P e = some z):∃ i zv,P.info? e = some i∧i.zero = some zv∧(∀ g,R g z zv)∧z.solid = true∧(∀ (j:Nat) (c:AV),z.cells[j]? = some c→c.noOwn):=by
 obtain ⟨z',hz',i,zv,hi,hzv,_,hs,hn⟩:=bC (g:=⟨0,fun _ _=>none,fun _=>none,fun _ _=>none,fun _=>none⟩) (Res.wp_of_opt hz (K:=fun x=>x = z) rfl)
 subst hz'
 refine ⟨i,zv,hi,hzv,fun g=>?_,hs,hn⟩
 obtain ⟨z2,hz2,i2,zv2,hi2,hzv2,hr,_⟩:=bC (g:=g) (Res.wp_of_opt hz (K:=fun x=>x = z') rfl)
 subst hz2
 rw [hi] at hi2; cases hi2
 rw [hzv] at hzv2; cases hzv2
 exact hr
theorem kE {k:Nat} {z:AV} {zv:Value} (hk:0 < k) (hl:z.cells.length = k) (hs:z.solid = true) (hr:R g z zv) (len:Nat) :
  RL g ((List.replicate len z).flatMap AV.cells) ((Array.range (len * k)).map (zv.cells[· % zv.cells.size]!)).toList∧∀ x ∈ ((Array.range (len * k)).map (zv.cells[· % zv.cells.size]!)),x.oneCell' = true:=by
 have hE:=zeros_EL (len:=len) hk hl hs hr
 exact ⟨hE.rl,hE.one⟩
theorem gu {z:AV} (hn:∀ (j:Nat) (c:AV),z.cells[j]? = some c→c.noOwn) (len:Nat):∀ (j:Nat) (c:AV),((List.replicate len z).flatMap AV.cells)[j]? = some c→c.noOwn:=by
 intro j c hc
 have hm:=List.mem_of_getElem? hc
 simp only [List.mem_flatMap] at hm
 obtain ⟨v,hv,hcv⟩:=hm
 rw [List.eq_of_mem_replicate hv] at hcv
 obtain ⟨q,hq⟩:=List.mem_iff_getElem?.1 hcv
 exact hn q c hq
theorem clr_x {o:Oper} {t e:TypeId} {x:Operand} {k:Nat} {z:AV} (ho:o.op = .call ⟨.builtin .clear,#[x],#[t]⟩) (ht:P.underlying t = some (.slice e)) (hk:szT P e = some k) (hz:cN P e = some z) (hzl:z.cells.length = k) (hk0:0 < k) (h:Ok m E g w fr st a) {C:AV→St→Prop}
  (hK:clrX m k z (fr.ev x) C st):Ends P o m E w fr a C:=by
 unfold clrX at hK
 have hbase:=h.ev x
 split at hK
 ·rename_i id k' off len cap hx
  rw [hx] at hbase
  obtain ⟨rfl,rfl,hK⟩:=hK
  rw [ak] at hK
  obtain ⟨cs,hcs,hoff,hK⟩:=hK
  obtain ⟨b,hb,hu⟩:=rL hbase
  obtain ⟨b',us,T,a1,a2,a3,a4,a5,a6⟩:=h.ctx.box.2.1 id cs (kj hcs)
  have:b' = b:=Option.some.inj (a1.symm.trans hb)
  subst this
  obtain ⟨i,zv,hi,hzv,hzr,hzs,hzn⟩:=kD (P:=P) hz
  obtain ⟨hrl,h1⟩:=kE (g:=g) hk0 hzl hzs (hzr g) len
  have hzc:zv.cells.size = k':=by have:=(ba hzs (hzr g)).1.1; simp at this; omega
  have hln:((List.replicate len z).flatMap AV.cells).length = len * k':=by rw [ai (k:=k') (fun e he=>by rw [List.eq_of_mem_replicate he]; exact hzl)]; simp
  have hzz:Builtin.zeroCells zv.cells len = (Array.range (len * k')).map (zv.cells[· % zv.cells.size]!):=by simp [Builtin.zeroCells,hzc]
  obtain ⟨us',T',hrow,hus,hok⟩:=h.writeB (off:=off) (xs:=(Builtin.zeroCells zv.cells len).toList) hcs hb (by rw [hln]; exact hoff) (by rw [hzz]; exact hrl) (fun j c x hc _=>Own.of_no (gu hzn len j c hc)) (fun x hx=>by rw [hzz] at hx; exact h1 x (by simpa using hx))
  by_cases hlen0:len = 0
  ·subst hlen0
   refine ⟨_,_,hK,.tuple #[],g,_,dG (s:=Builtin.clear_ #[t] o.type #[a.eval x]) ho (fun _=>by simp [builtin]) ?_,hok,RS.of (R.tup [] #[] rfl (fun i x u hx=>by simp at hx)),fun s hs=>dj⟩
   rw [hu]
   have:(Builtin.zeroCells zv.cells 0).toList = []:=by simp [Builtin.zeroCells,Array.range_zero']
   rw [this]
   have hw:w.setCells b' off [] = w:=rfl
   rw [hw]
   simp [Builtin.clear_,run_underlying ht]
  ·have hst:=run_storeCells_cells (P:=P) b' off (Builtin.zeroCells zv.cells len).toList 0 w (fun j hj=>by
    rw [cell_of_row w b' _ us T (0,0) a3]
    rw [Array.length_toList,size_zeroCells,hzc] at hj
    have:off + j < us.size:=by omega
    simp [this]) (fun j hj=>by simp [World.frozen?,a3]) (fun v hv=>by rw [hzz] at hv; exact h1 v (by simpa using hv))
   simp only [Nat.add_zero] at hst
   refine ⟨_,_,hK,.tuple #[],g,_,dG (s:=Builtin.clear_ #[t] o.type #[a.eval x]) ho (fun _=>by simp [builtin]) ?_,hok,RS.of (R.tup [] #[] rfl (fun i x u hx=>by simp at hx)),fun s hs=>dj⟩
   rw [hu]
   cases len with
   | zero=>exact absurd rfl hlen0
   | succ len=>simp [Builtin.clear_,run_underlying ht,zeroValue,typeInfo,hi,hzv,hst]
 ·rename_i hx
  rw [hx] at hbase
  have hu:=hbase.lit_inv.1
  refine ⟨_,_,hK,.tuple #[],g,w,dG (s:=Builtin.clear_ #[t] o.type #[a.eval x]) ho (fun _=>by simp [builtin]) ?_,h,RS.of (R.tup [] #[] rfl (fun i x u hx=>by simp at hx)),fun s hs=>dj⟩
  rw [hu]
  simp [Builtin.clear_,run_underlying ht]
 ·rename_i own k' hx
  rw [hx] at hbase
  have hbase:R g (.sl own k' []) (a.eval x):=hbase
  have hx':∃ ad c,a.eval x = .slice ad 0 c:=by
   generalize a.eval x = u at hbase
   cases hbase <;> exact ⟨_,_,rfl⟩
  obtain ⟨ad,c,hu⟩:=hx'
  refine ⟨_,_,hK,.tuple #[],g,w,dG (s:=Builtin.clear_ #[t] o.type #[a.eval x]) ho (fun _=>by simp [builtin]) ?_,h,RS.of (R.tup [] #[] rfl (fun i x u hx=>by simp at hx)),fun s hs=>dj⟩
  rw [hu]
  cases ad <;> simp [Builtin.clear_,run_underlying ht]
 ·exact hK.elim
theorem clrM_x {o:Oper} {t kt et:TypeId} {x:Operand} (ho:o.op = .call ⟨.builtin .clear,#[x],#[t]⟩) (ht:P.underlying t = some (.map kt et)) (h:Ok m E g w fr st a) {C:AV→St→Prop}
  (hK:clrMX m (fr.ev x) C st):Ends P o m E w fr a C:=by
 unfold clrMX at hK
 have hbase:=h.ev x
 split at hK
 ·rename_i id hx
  rw [hx] at hbase
  obtain ⟨rfl,hK⟩:=hK
  rw [ak] at hK
  obtain ⟨es,hes,hK⟩:=hK
  obtain ⟨b,us,clk,hb,hu,hrow,hE,hclk,hB⟩:=fQ h hbase hes
  have hok:=h.writeM (es':=[]) (us':=#[]) (clk':=clk) (bs':=[]) hes hb hrow ⟨rfl,fun i k v e hk=>by simp at hk⟩ ⟨rfl,List.nodup_nil,by simp⟩
  rw [hclk] at hok
  refine ⟨_,_,hK,.tuple #[],g,_,dG (s:=Builtin.clear_ #[t] o.type #[a.eval x]) ho (fun _=>by simp [builtin]) ?_,hok,RS.of (R.tup [] #[] rfl (fun i x u hx=>by simp at hx)),fun s hs=>dj⟩
  rw [hu]
  have h3:(getObj b).run P w = .ok (.map us clk) w:=by simp [getObj,Sem.run,hrow]
  have h4:(setObj b (.map #[] clk)).run P w = .ok () { w with heap:=w.heap.setIfInBounds b (.map #[] clk) }:=by simp [setObj,Sem.run,hrow]
  simp [Builtin.clear_,run_underlying ht,h3,h4,← hclk]
 ·rename_i hx
  rw [hx] at hbase
  have hu:=hbase.lit_inv.1
  refine ⟨_,_,hK,.tuple #[],g,w,dG (s:=Builtin.clear_ #[t] o.type #[a.eval x]) ho (fun _=>by simp [builtin]) ?_,h,RS.of (R.tup [] #[] rfl (fun i x u hx=>by simp at hx)),fun s hs=>dj⟩
  rw [hu]
  simp [Builtin.clear_,run_underlying ht]
 ·exact hK.elim
end
end Go.Fx
namespace Go.Fx
open Go Go.RowKit Go.Lib
section
variable {P:Program} {gOf:FuncId→Option Nat} {F:Nat→FuncId} {n:Nat} {m:Bool} {E:Ent} {g g':Gh} {w w':World} {sf:Sf} {st st':St} {a:Act} {fr:Fr}
theorem dH (z:Array Value) (q:Nat):madeCells z q = (Array.range q).map (z[· % z.size]!):=rfl
theorem ik {x:Operand} (h:Ok m E g w fr st a) {v:Value} (hx:fr.ev x = .lit v):a.eval x = v:=by
 have:=h.ev x
 rw [hx] at this
 exact this.lit_inv.1
theorem mksB_x {o:Oper} {t e:TypeId} {i:TypeInfo} {len cap:Operand} {z:AV} (ho:o.op = .makeSlice t len cap) (ht:P.underlying t = some (.slice e)) (hi:P.info? e = some i) (hz:cN P e = some z) (hzl:z.cells.length = i.size) (hk0:0 < i.size) (h:Ok m E g w fr st a) {C:AV→St→Prop}
  (hK:qK m i.size i.bytes z (fr.ev len) (fr.ev cap) C st):Ends P o m E w fr a C:=by
 unfold qK at hK
 split at hK
 case h_2=>exact hK.elim
 rename_i k1 l k2 c hl hc
 obtain ⟨rfl,h0,hlc,hby,hsm,hK⟩:=hK
 obtain ⟨i',zv,hi',hzv,hzr,hzs,hzn⟩:=kD (P:=P) hz
 rw [hi] at hi'; cases hi'
 have hrun:=run_make (P:=P) w t e i zv ht hi hzv k1 k2 l c h0 hlc (by rw [Int.mul_comm]; omega) (by omega)
 obtain ⟨hrl,h1⟩:=kE (g:=g) hk0 hzl hzs (hzr g) c.toNat
 have hok:=h.newBox (bW w (.cells (madeCells zv.cells (c.toNat * i.size)) e)) (by rw [dH]; exact hrl) (fun j c' hc=>gu hzn _ j c' hc) (by rw [dH]; exact h1)
 refine ⟨_,_,hK,_,_,_,?_,hok,RS.of (R.bs _ _ _ _ _ _ (gq _ _ _)),fun s hs=>pD⟩
 simp only [execOp,ho]
 refine aA ?_
 rw [ik h hl,ik h hc]
 exact hrun
theorem cap_x {o:Oper} {t e:TypeId} {x:Operand} (ho:o.op = .call ⟨.builtin .cap,#[x],#[t]⟩) (ht:P.underlying t = some (.slice e)) (h:Ok m E g w fr st a) {C:AV→St→Prop}
  (hK:capX (fr.ev x) C st):Ends P o m E w fr a C:=by
 have hb:=h.ev x
 have hrun:∀ ad l c,(Builtin.cap_ #[t] o.type #[.slice ad l c]).run P w = .ok (goInt c) w:=fun ad l c=>by simp [Builtin.cap_,run_underlying ht]
 unfold capX at hK
 split at hK
 ·rename_i id k off len c hx
  rw [hx] at hb
  obtain ⟨b,hb2,hu⟩:=rL hb
  refine ⟨_,_,hK,.int .i64 c,g,w,dG (s:=Builtin.cap_ #[t] o.type #[a.eval x]) ho (fun _=>by simp [builtin]) ?_,h,R.lit _ rfl,fun s hs=>gt⟩
  rw [hu]
  exact hrun _ _ _
 ·rename_i hx
  refine ⟨_,_,hK,.int .i64 0,g,w,dG (s:=Builtin.cap_ #[t] o.type #[a.eval x]) ho (fun _=>by simp [builtin]) ?_,h,R.lit _ rfl,fun s hs=>gt⟩
  rw [ik h hx]
  exact hrun _ _ _
 ·exact hK.elim
theorem appZ_x {o:Oper} {t t2 e:TypeId} {i:TypeInfo} {kn:IntKind} {x y:Operand} {z:AV} (ho:o.op = .call ⟨.builtin .append,#[x,y],#[t,t2]⟩) (ht:P.underlying t = some (.slice e)) (ht2:P.underlying t2 = some (.int kn)) (hi:P.info? e = some i) (hz:cN P e = some z) (hzl:z.cells.length = i.size) (hk0:0 < i.size) (h:Ok m E g w fr st a) {C:AV→St→Prop}
  (hK:appZX m i.size i.bytes z (fr.ev x) (fr.ev y) C st):Ends P o m E w fr a C:=by
 unfold appZX at hK
 split at hK
 case h_2=>exact hK.elim
 rename_i k1 q hx hy
 obtain ⟨rfl,h0,hby,hsm,hK⟩:=hK
 obtain ⟨c,rfl⟩:∃ c:Nat,q = (c:Int):=⟨q.toNat,by omega⟩
 rw [Int.toNat_natCast] at hK
 obtain ⟨i',zv,hi',hzv,hzr,hzs,hzn⟩:=kD (P:=P) hz
 rw [hi] at hi'; cases hi'
 have hzc:=jB (P:=P) (e:=e) (by rw [hz]; rfl) hi hzv
 have hby2:c * i.bytes≤281474976710656:=by
  have:((c * i.bytes:Nat):Int)≤140737488355328:=by rw [Int.natCast_mul]; exact hby
  omega
 have hrun:=run_append_nil_zeros (P:=P) w t t2 o.type e i zv k1 kn ht ht2 hi hzv c (by omega) hk0 (by omega) hby2
 have hge:=grownCap_ge w c 0 e
 generalize grownCap w c 0 e = cc at *
 have hK:=hK cc hge
 obtain ⟨hrl,h1⟩:=kE (g:=g) hk0 hzl hzs (hzr g) c
 have hsz:zv.cells.size = i.size:=by have:=(ba hzs (hzr g)).1.1; rw [hzl] at this; simpa using this
 have hmz:Builtin.zeroCells zv.cells c = (Array.range (c * i.size)).map (zv.cells[· % zv.cells.size]!):=by unfold Builtin.zeroCells; rw [hsz]
 have hrest:(Builtin.zeroCells zv.cells (cc - c)).toList.length = (cc - c) * i.size:=by rw [Array.length_toList,size_zeroCells,hsz]
 have hrl2:RL g ([]++((List.replicate c z).flatMap AV.cells)++List.replicate ((cc - c) * i.size) .any) (Builtin.zeroCells zv.cells c++Builtin.zeroCells zv.cells (cc - c)).toList:=by
  rw [Array.toList_append,← hrest,List.nil_append,hmz]
  exact RL.append_any hrl _
 have hok:=h.newBox (nG w 1 (.cells (Builtin.zeroCells zv.cells c++Builtin.zeroCells zv.cells (cc - c)) e)) hrl2 (fun j c' hc=>?_) (fun x hx=>?_)
 ·refine ⟨_,_,hK,_,_,_,dG (s:=Builtin.append_ #[t,t2] o.type #[a.eval x,a.eval y]) ho (fun _=>by simp [builtin]) ?_,hok,RS.of (R.bs _ _ _ _ _ _ (gq _ _ _)),fun s hs=>pD⟩
  rw [ik h hx,ik h hy]
  exact hrun
 ·have hm:=List.mem_of_getElem? hc
  simp only [List.nil_append,List.mem_append] at hm
  rcases hm with hm | hm
  ·obtain ⟨q,hq⟩:=List.mem_iff_getElem?.1 hm
   exact gu hzn c q c' hq
  ·rw [List.eq_of_mem_replicate hm]; trivial
 ·rcases Array.mem_append.1 hx with hx | hx
  ·exact hzc _ x hx
  ·exact hzc _ x hx
theorem bsl0_x {o:Oper} {t e:TypeId} {i:TypeInfo} {z:AV} (ho:o.op = .buildSlice t 0 #[]) (ht:P.underlying t = some (.slice e)) (hi:P.info? e = some i) (hz:cN P e = some z) (hzl:z.cells.length = i.size) (hk0:0 < i.size) (h:Ok m E g w fr st a) {C:AV→St→Prop}
  (hK:qK m i.size i.bytes z (.lit (.int .i64 0)) (.lit (.int .i64 0)) C st):Ends P o m E w fr a C:=by
 obtain ⟨rfl,h0,hlc,hby,hsm,hK⟩:=hK
 obtain ⟨i',zv,hi',hzv,hzr,hzs,hzn⟩:=kD (P:=P) hz
 rw [hi] at hi'; cases hi'
 obtain ⟨hrl,h1⟩:=kE (g:=g) hk0 hzl hzs (hzr g) 0
 have hok:=h.newBox (bW w (.cells (madeCells zv.cells ((0:Int).toNat * i.size)) e)) (by rw [dH]; exact hrl) (fun j c' hc=>gu hzn _ j c' hc) (by rw [dH]; exact h1)
 refine ⟨_,_,hK,_,_,_,?_,hok,RS.of (R.bs _ _ _ _ _ _ (gq _ _ _)),fun s hs=>pD⟩
 simp only [execOp,ho]
 refine aA ?_
 have hz0:∀ f:Nat→Value,(Array.range 0).map f = #[]:=fun f=>by
  apply Array.eq_empty_of_size_eq_zero
  rw [Array.size_map,Array.size_range]
 have hm0:madeCells zv.cells ((0:Int).toNat * i.size) = #[]:=by
  rw [dH,show (0:Int).toNat * i.size = 0 by simp]
  exact hz0 _
 rw [hm0]
 simp [Instr.buildSlice,run_underlying ht,sizeOf,typeInfo,hi,hz0,Instr.fill,newRow]
theorem mks_x {o:Oper} {t e:TypeId} {i:TypeInfo} {len cap:Operand} {z:AV} (ho:o.op = .makeSlice t len cap) (ht:P.underlying t = some (.slice e)) (hi:P.info? e = some i) (hz:cN P e = some z) (hzl:z.cells.length = i.size) (hk0:0 < i.size) (h:Ok m E g w fr st a) {C:AV→St→Prop}
  (hK:mksX i.size i.bytes z (fr.ev len) (fr.ev cap) C st):Ends P o m E w fr a C:=by
 unfold mksX at hK
 split at hK
 case h_2=>exact hK.elim
 rename_i k1 l k2 c hl hc
 obtain ⟨h0,rfl,hby,hsm,hK⟩:=hK
 obtain ⟨i',zv,hi',hzv,hzr,hzs,hzn⟩:=kD (P:=P) hz
 rw [hi] at hi'; cases hi'
 have hrun:=run_make (P:=P) w t e i zv ht hi hzv k1 k2 l l h0 (Int.le_refl _) (by rw [Int.mul_comm]; omega) (by omega)
 obtain ⟨hrl,h1⟩:=kE (g:=g) hk0 hzl hzs (hzr g) l.toNat
 let L:Nat→Loc:=fun k=>match o.dst with | some s=>Loc.slot E.d s k | none=>Loc.slot E.d 0 k
 let cells:=(Array.range (l.toNat * i.size)).map (zv.cells[· % zv.cells.size]!)
 have hle:=mA (g:=g) (w:=w) cells.toList #[] e (L 0) 0
 have hw:({ w with drawn:=w.drawn + 0 }.alloc (.cells (cells.toList.toArray++#[]) e)) = w.alloc (.cells cells e):=by simp
 rw [hw] at hle
 have hlen:∀ e ∈ List.replicate l.toNat z,e.cells.length = i.size:=fun e he=>by rw [List.eq_of_mem_replicate he]; exact hzl
 have hrep:(List.replicate l.toNat z).length = l.toNat:=by simp
 refine ⟨_,_,hK,.slice (some ⟨w.heap.size,0,none⟩) l.toNat l.toNat,g.arr w.heap.size cells.toList (L 0),w.alloc (.cells cells e),?_,h.le hle,RS.of ?_,fun s hs=>?_⟩
 ·simp only [execOp,ho]
  refine aA ?_
  rw [ik h hl,ik h hc]
  exact hrun
 ·have:=qx (g:=g) (w:=w) (us:=cells.toList) (L:=L 0) (k:=i.size) (es:=List.replicate l.toNat z) true l.toNat (by rw [hrep]; exact Nat.le_refl _) hlen hrl.1 hrl.2 (fun u hu=>h1 u (Array.mem_toList_iff.1 hu)) (hle.ghle h.ctx.good)
  rw [hrep] at this
  exact this
 ·have:=iH (g:=g) (w:=w) (us:=cells.toList) (L:=L) (k:=i.size) (es:=List.replicate l.toNat z) l.toNat #[] e 0 (by rw [hrep]; exact Nat.le_refl _) (by rw [hrep]; simp [cells]) (by simp [cells]) true (N:=E.N) h.hN
  rw [hw,hrep] at this
  have hL:L = Loc.slot E.d s:=by funext k; simp [L,hs]
  rw [hL] at this ⊢
  exact this
theorem slA_x {o:Oper} {t arr e:TypeId} {x:Operand} {lo hi mx:Option Operand} {q k:Nat} (ho:o.op = .slice t x lo hi mx) (ht:P.underlying t = some (.array q e)∨(P.underlying t = some (.pointer arr)∧P.underlying arr = some (.array q e))) (hk:szT P e = some k) (h:Ok m E g w fr st a) {C:AV→St→Prop}
  (hK:slAX q k (fr.ev x) (lo.map fr.ev) (hi.map fr.ev) (mx.map fr.ev) C st):Ends P o m E w fr a C:=by
 unfold slAX at hK
 split at hK
 case h_2=>exact hK.elim
 rename_i id off hx
 have hb:=h.ev x
 rw [hx] at hb
 have hb:R g (.ptr id off) (a.eval x):=hb
 have hsome:∀ (q:Option Operand) (v:AV),q.map fr.ev = some v→∃ u,q.map a.eval = some u∧RS g E.d v u:=by
  intro q v hv
  cases q with
  | none=>simp at hv
  | some l=>simp at hv; subst hv; exact ⟨_,rfl,h.ev l⟩
 have hnone:∀ (q:Option Operand),q.map fr.ev = none→q.map a.eval = none:=by intro q; cases q <;> simp
 obtain ⟨l,h',mm,hK,hlh,_,hr⟩:=rB (P:=P) (isl:=false) (Nat.le_refl q) (hsome mx) (fun e=>⟨hnone mx e,rfl⟩) (hsome hi) (hnone hi) (hsome lo) (hnone lo) hK
 generalize hux:a.eval x = ux at hb
 cases hb with
 | ptr _ _ b hbx =>
   have hrun:(execOp a.eval o).run P w = .ok (.value (.slice (if mm = l then some ⟨b,off,none⟩ else some ⟨b,off + l * k,none⟩) (h' - l) (mm - l))) w:=by
    simp only [execOp,ho]
    refine aA ?_
    rw [hux]
    have hrw:=hr w
    have hif:(some (if mm = l then (⟨b,off,none⟩:Addr) else ⟨b,off + l * k,none⟩)) = if mm = l then some ⟨b,off,none⟩ else some ⟨b,off + l * k,none⟩:=by split <;> rfl
    rcases ht with ht | ⟨ht,ha⟩
    ·simp [Instr.sliceAt,run_underlying ht,Instr.sureAddr,hrw,aS hk w,bf,hif]
    ·simp [Instr.sliceAt,run_underlying ht,Instr.slice,asAddr,run_underlying ha,hrw,aS hk w,bf,hif]
   split at hK
   ·rename_i hml
    subst hml
    rw [if_pos rfl] at hrun
    split at hK
    case isFalse=>exact hK.elim
    rename_i hz
    subst hz
    rw [Nat.sub_self] at hrun
    exact ⟨_,_,hK,_,_,_,hrun,h,RS.of (R.slE true k _ 0),fun s hs=>OwnV.cap0 _⟩
   ·rename_i hml
    rw [if_neg hml] at hrun
    exact ⟨_,_,hK,_,_,_,hrun,h,RS.of (R.bs id k (off + l * k) (h' - l) (mm - l) b hbx),fun s hs=>pD⟩
end
end Go.Fx
namespace Go.Fx
open Go Go.RowKit Go.Lib
section
variable {P:Program} {gOf:FuncId→Option Nat} {F:Nat→FuncId} {n:Nat} {m:Bool} {E:Ent} {g g':Gh} {w w':World} {sf:Sf} {st st':St} {a:Act} {fr:Fr}
def Gh.lab (g:Gh) (b:Nat) (L:Loc):Gh:={ g with cls:=fun b'=>if b' = b then some (.arr L) else g.cls b' }
theorem le_obj {g:Gh} {w:World} (o:Obj) (L:Loc):LeP g w (g.lab w.heap.size L) (w.alloc o):=by
 have hne:∀ b,b < w.heap.size→b≠w.heap.size:=fun b hb=>Nat.ne_of_lt hb
 have hb:Below w.heap.size w (w.alloc o):=⟨rfl,rfl,rfl,by simp,fun k hk=>Below.heap_alloc w _ k hk⟩
 refine ⟨hb,fun b h=>rfl,fun b h=>by simp [Gh.lab,hne b h],rfl,rfl,rfl,fun hg=>?_⟩
 refine ⟨fun b o' u hi=>?_,fun b o' u hi=>?_,fun b c hc=>?_,?_⟩
 ·rw [hb.cell (p:=⟨b,o',none⟩) (hg.lt hi)]
  exact hg.imm b o' u hi
 ·simp only [Gh.lab,hne b (hg.lt hi),if_false]; exact hg.immc b o' u hi
 ·simp only [Gh.lab] at hc
  split at hc
  ·rename_i e; subst e; exact ⟨hg.base,by simp⟩
  ·have:=hg.cls b c hc; exact ⟨this.1,by simp; omega⟩
 ·have:=hg.base; simp [Gh.lab]; omega
theorem rng_x {o:Oper} {t kt et:TypeId} {x:Operand} {sd:Nat} (ho:o.op = .range t x) (hd:o.dst = some sd) (ht:P.underlying t = some (.map kt et)) (h:Ok m E g w fr st a) {C:AV→St→Prop}
  (hK:rngX (fr.ev x) C st):Ends P o m E w fr a C:=by
 have hx:=h.ev x
 unfold rngX at hK
 have fin:∀ (mid mb:Option Nat) (clk:Nat),(Instr.range t (a.eval x)).run P w = .ok (.pointer (some ⟨w.heap.size,0,none⟩)) (w.alloc (.mapIter mb clk #[] clk))→ItM g mid mb→itObj mid clk [] mb clk = .mapIter mb clk #[] clk→C (.mit mid clk [] clk) st→Ends P o m E w fr a C:=by
  intro mid mb clk hrun hit hio hC
  have hle:=le_obj (g:=g) (w:=w) (.mapIter mb clk #[] clk) (.slot E.d sd 0)
  refine ⟨_,_,hC,_,_,_,by simp only [execOp,ho]; exact aA hrun,h.le hle,RS.of (R.mit _ _ _ _ _),fun s hs i c y hc hy=>?_⟩
  rw [hd] at hs; cases hs
  cases i with
  | succ i=>simp [AV.cells] at hc
  | zero =>
    simp [AV.cells] at hc
    simp [Value.cells] at hy
    subst hc; subst hy
    refine ⟨fun _ _ e=>(by cases e),fun id' s' l' p' e=>?_⟩
    cases e
    exact ⟨w.heap.size,mb,clk,rfl,h.hN,by simp [Gh.lab],by rw [hio]; exact heap_alloc_new w _,⟨Nat.le_refl _,rfl⟩,hit.mono fun i b e=>e⟩
 split at hK
 ·rename_i id hxv
  rw [hxv] at hx
  rw [ak] at hK
  obtain ⟨es,hes,hK⟩:=hK
  obtain ⟨b,us,clk,hb,hu,hrow,hE,hclk,hB⟩:=fQ h hx hes
  rw [← hclk] at hK
  exact fin (some id) (some b) clk (by rw [hu]; exact run_range_map w t kt et b us clk ht hrow) ⟨b,rfl,hb⟩ rfl hK
 ·rename_i hxv
  rw [hxv] at hx
  exact fin none none 0 (by rw [hx.lit_inv.1]; exact run_range_nilMap w t kt et ht) rfl rfl hK
 ·exact hK.elim
theorem run_nxt (w:World) (ty:TypeId) (r bm since c0:Nat) (seen:Array Nat) (es:Array MapEntry) (clock:Nat) (hr:w.heap[r]? = some (.mapIter (some bm) since seen c0)) (hb:w.heap[bm]? = some (.map es clock)) (hold:∀ x ∈ es.toList,x.born < since) (hsc:since≤c0) :
  ((leftOf es seen).size = 0∧(Instr.next (.pointer (some ⟨r,0,none⟩)) false ty).run P w = .ok (.tuple #[.bool false]) w) ∨
  ∃ e ∈ (leftOf es seen).toList,∃ k,(Instr.next (.pointer (some ⟨r,0,none⟩)) false ty).run P w = .ok (.tuple #[.bool true,e.key,e.val]) { w with drawn:=w.drawn + k,heap:=w.heap.setIfInBounds r (.mapIter (some bm) since (seen.push e.born) clock) }:=by
 simp only [Instr.next,getObj,Sem.run_bind,Sem.run,hr,hb,Result.andThen,next_test_false seen es since c0 hold hsc,Bool.false_eq_true,if_false]
 unfold leftOf
 have hmem:∀ x ∈ (Array.filter (fun e=>!seen.contains e.born) es).toList,x.born < since:=fun x hx=>hold x (by simp at hx ⊢; exact hx.1)
 generalize Array.filter (fun e=>!seen.contains e.born) es = L at hmem ⊢
 have e1:L.filter (fun x=>decide (x.born < since)) = L:=Array.filter_eq_self.2 (fun x hx=>by simpa using hmem x (by simpa using hx))
 have e2:L.filter (fun x=>decide (x.born ≥ since)) = #[]:=by
  rw [Array.filter_eq_empty_iff]
  intro x hx
  have:=hmem x (by simpa using hx)
  simp
  omega
 simp only [e1,e2,Array.append_empty]
 by_cases h0:L.size = 0
 ·left
  have:L = #[]:=Array.eq_empty_of_size_eq_zero h0
  subst this
  refine ⟨rfl,?_⟩
  simp [choose,Sem.run,Question.forced]
 ·right
  have hne:L.isEmpty = false:=by simp [Array.isEmpty,h0]
  simp only [hne,Bool.false_eq_true,if_false,Array.empty_append,Array.size_map]
  have hch:∃ (j k:Nat),j < L.size∧(choose (Question.mapNext L.size)).run P w = .ok j { w with drawn:=w.drawn + k }:=by
   by_cases hf:L.size≤1
   ·exact ⟨0,0,by omega,by simp [choose,Sem.run,Question.forced,hf]⟩
   ·exact ⟨_,1,Nat.mod_lt _ (by omega),by simp only [choose,Sem.run,Question.forced,decide_eq_true_eq,hf,if_false,Question.cut]; rfl⟩
  obtain ⟨j,k,hj,hrun⟩:=hch
  refine ⟨L[j],by simp,k,?_⟩
  have hset:∀ (o':Obj),(setObj r o').run P { w with drawn:=w.drawn + k } = .ok () { w with drawn:=w.drawn + k,heap:=w.heap.setIfInBounds r o' }:=fun o'=>by
   simp [setObj,Sem.run,hr]
  simp only [hrun,Array.getElem?_map,Array.getElem?_eq_getElem hj,Option.map_some,Sem.run_bind,hset,Result.andThen]
  rfl
theorem next_nil (w:World) (ty:TypeId) (r since c0:Nat) (seen:Array Nat) (hr:w.heap[r]? = some (.mapIter none since seen c0)):(Instr.next (.pointer (some ⟨r,0,none⟩)) false ty).run P w = .ok (.tuple #[.bool false]) w:=by
 simp only [Instr.next,getObj,Sem.run_bind,Sem.run,hr,Result.andThen]
 rfl
theorem Ok.iter (h:Ok m E g w fr st a) {s b:Nat} {u:Value} {v':AV} (hs:s < fr.slots.length) (hu:a.tmps[s]? = some u) (hcls:g.cls b = some (.arr (.slot E.d s 0))) (hN:E.N≤b) (hold:∀ o,w.cell? ⟨b,o,none⟩ = none) (hw:Wr w b w')
  (hr:RS g E.d v' u) (ho:OwnV g w' E.N (Loc.slot E.d s) v' u):Ok m E g w' { fr with slots:=fr.slots.set s v' } st a:=by
 have hg:=h.ctx.good
 have himm:∀ o,g.imm b o = none:=fun o=>by
  cases hi:g.imm b o with
  | none=>rfl
  | some u=>have:=hg.imm b o u hi; rw [hold o] at this; cases this
 have hgood:Good g w':=by
  refine ⟨fun b' o u hi=>?_,hg.immc,fun b' c' hc=>by rw [hw.size]; exact hg.cls b' c' hc,by rw [hw.size]; exact hg.base⟩
  have hne:b'≠b:=fun e=>by subst e; rw [himm o] at hi; cases hi
  have:=hg.imm b' o u hi
  unfold World.cell? at this ⊢
  rw [hw.other b' hne]; exact this
 have hmv:Mv m E.N E.d g w g w':=by
  refine ⟨hw.os,hw.tape,hw.output,Nat.le_of_eq hw.size.symm,rfl,fun k hk=>hw.other k ?_,fun _ _ _ h=>h,fun _ _ h=>h,fun _ _=>rfl,fun k c hk ho=>?_,fun _=>⟨fun k hk=>⟨hw.other k ?_,rfl,rfl⟩,rfl⟩,hgood⟩
  ·intro e; subst e; have:=(hg.cls k _ hcls).1; omega
  ·have hne:k≠b:=fun e=>by subst e; rw [hcls] at hk; cases hk; exact Nat.lt_irrefl _ ho
   exact ⟨hk,hw.other k hne,rfl⟩
  ·omega
 have hch:Ch (fun L=>L = .slot E.d s 0) none none none E.d g w g w':=by
  refine ⟨GhLe.refl g,fun k c hk hX _ _=>?_,fun _ _=>rfl⟩
  have hne:k≠b:=fun e=>by subst e; rw [hcls] at hk; cases hk; exact hX _ rfl rfl
  exact ⟨hk,hw.other k hne,rfl⟩
 refine h.ch hmv hch (by simp [h.size]) h.defers (fun t v x hv hx=>?_) (fun t cs' hc=>.inr ⟨hc,by simp,by simp,fun _ _ _=>.inl (fun e=>by cases e)⟩) (fun id hid=>h.ctx.box.1 id hid)
  (fun id cs' hc=>.inr ⟨hc,by simp,fun _ _ _=>.inl (fun e=>by cases e)⟩) (fun id bx he _=>.inr ⟨he,by simp⟩) (fun _=>rfl)
 simp only [List.getElem?_set] at hv
 by_cases e:s = t
 ·subst e
  simp [hs] at hv
  subst hv
  rw [hu] at hx; cases hx
  exact .inl ⟨hr,ho⟩
 ·simp [e] at hv
  exact .inr ⟨hv,hx,fun i c _=>.inl (fun e'=>by cases e'; exact e rfl),fun _ _ _=>by simp⟩
theorem Ok.touch (h:Ok m E g w fr st a) {s b:Nat} {cur:Array Value} {T:TypeId} {f:Nat×Nat} (hcls:g.cls b = some (.arr (.slot E.d s 0))) (hN:E.N≤b) (hrow:w.heap[b]? = some (.cells cur T (0,0))) (hw:Wr w b w') (hnew:w'.heap[b]? = some (.cells cur T f)) :
  Ok m E g w' (fr.disAt s) st a:=by
 have hg:=h.ctx.good
 have hgood:Good g w':=by
  refine ⟨fun b' o u hi=>?_,hg.immc,fun b' c' hc=>by rw [hw.size]; exact hg.cls b' c' hc,by rw [hw.size]; exact hg.base⟩
  have:=hg.imm b' o u hi
  by_cases e:b' = b
  ·subst e
   rw [cell_of_row w b' o cur T (0,0) hrow] at this
   rw [cell_of_row w' b' o cur T f hnew]; exact this
  ·unfold World.cell? at this ⊢
   rw [hw.other b' e]; exact this
 have hmv:Mv m E.N E.d g w g w':=by
  refine ⟨hw.os,hw.tape,hw.output,Nat.le_of_eq hw.size.symm,rfl,fun k hk=>hw.other k ?_,fun _ _ _ h=>h,fun _ _ h=>h,fun _ _=>rfl,fun k c hk ho=>?_,fun _=>⟨fun k hk=>⟨hw.other k ?_,rfl,rfl⟩,rfl⟩,hgood⟩
  ·intro e; subst e; have:=(hg.cls k _ hcls).1; omega
  ·have hne:k≠b:=fun e=>by subst e; rw [hcls] at hk; cases hk; exact Nat.lt_irrefl _ ho
   exact ⟨hk,hw.other k hne,rfl⟩
  ·omega
 have hch:Ch (fun L=>L = .slot E.d s 0) none none none E.d g w g w':=by
  refine ⟨GhLe.refl g,fun k c hk hX _ _=>?_,fun _ _=>rfl⟩
  have hne:k≠b:=fun e=>by subst e; rw [hcls] at hk; cases hk; exact hX _ rfl rfl
  exact ⟨hk,hw.other k hne,rfl⟩
 refine (h.dis s).ch hmv hch (h.dis s).size h.defers (fun t v x hv hx=>.inr ⟨hv,hx,fun i c hc=>?_,fun _ _ _=>by simp⟩) (fun t cs' hc=>.inr ⟨hc,by simp,by simp,fun _ _ _=>.inl (fun e=>by cases e)⟩) (fun id hid=>h.ctx.box.1 id hid)
  (fun id cs' hc=>.inr ⟨hc,by simp,fun _ _ _=>.inl (fun e=>by cases e)⟩) (fun id bx he _=>.inr ⟨he,by simp⟩) (fun _=>rfl)
 by_cases e:s = t
 ·exact .inr (dis_slot fr s t hv e.symm i c hc)
 ·exact .inl fun q=>by cases q; exact e rfl
theorem mark_x {o:Oper} {t e:TypeId} {s:Nat} (ho:o.op = .convert t t (.tmp s)) (hu:P.underlying t = some (.slice e)) (he:P.underlying e = some (.int .u8)) (hs:s < n) (h:Ok m E g w (sp n sf) st a) {K:Sf→St→Prop}
  (hK:kB (sf.reg s) fun v=>putK K o.dst (sf.disAt s) v st)
  {K':Act→World→Prop} {Q':Exit→Act→World→Prop} (hk:∀ sf' st' g' w' u,Ok m E g' w' (sp n sf') st' (a.put o.dst u)→K sf' st'→K' (a.put o.dst u) w'):o.wp P a w K' Q':=by
 unfold kB at hK
 have hsz:s < a.tmps.size:=by rw [h.size,cq]; exact hs
 have hu':a.tmps[s]? = some a.tmps[s]:=Array.getElem?_eq_getElem hsz
 have hev:a.eval (.tmp s) = a.tmps[s]:=by simp [Act.eval,hsz]
 have hslot:(sp n sf).slots[s]? = some (sf.reg s):=by rw [ci,if_pos hs]
 split at hK
 ·rename_i k x es hreg
  obtain ⟨hr,hown⟩:=h.slots s _ _ hslot hu'
  rw [hreg] at hr hown
  have hr:R g (.sl true k (x::es)) a.tmps[s]:=hr
  rcases (hown 0 _ a.tmps[s] rfl (by rw [R.sl_cells hr]; rfl)).1 k (x::es) rfl with ⟨e0,_⟩ | ⟨b,off,c,cur,T,q1,q2,q3,q4,q5,q6,q7⟩
  ·cases e0
  have hlt:=(Array.getElem?_eq_some_iff.1 q4).1
  have hwr:Wr w b (w.freeze ⟨b,cur.size,none⟩ 1):=by
   refine ⟨rfl,rfl,rfl,by simp [World.freeze],fun k hk=>?_⟩
   simp only [World.freeze,Nat.succ_ne_zero,if_false]
   rw [Array.getElem?_modify,if_neg (fun e=>hk e.symm)]
  have hnew:(w.freeze ⟨b,cur.size,none⟩ 1).heap[b]? = some (.cells cur T (cur.size,cur.size + 1)):=by
   simp only [World.freeze,Nat.succ_ne_zero,if_false]
   rw [Array.getElem?_modify,if_pos rfl,q4]
   rfl
  have hok:=h.touch (s:=s) (f:=(cur.size,cur.size + 1)) q3 q2 q4 hwr hnew
  rw [← jP hs] at hok
  have hsh:w.shape? b = some (T,cur.size):=by
   unfold World.shape?
   rw [q4]
  refine kC hk (u:=a.tmps[s]) (v:=.sl false k (x::es)) ?_ hok (RS.of hr.slF) (fun _ _=>cX (v:=.sl false k (x::es)) (fun cs e=>by cases e) trivial) hK
  simp only [execOp,ho]
  refine aA ?_
  rw [hev,q1]
  simp [convert,run_underlying hu,run_underlying he,markStringish,hsh]
  try rfl
 ·exact hK.elim
theorem nxt_x {o:Oper} {s:Nat} (ho:o.op = .next (.tmp s) false) (hs:s < n) (h:Ok m E g w (sp n sf) st a) {K:Sf→St→Prop} (hK:nxtX s o.dst (sf.reg s) K sf st)
  {K':Act→World→Prop} {Q':Exit→Act→World→Prop} (hk:∀ sf' st' g' w' u,Ok m E g' w' (sp n sf') st' (a.put o.dst u)→K sf' st'→K' (a.put o.dst u) w'):o.wp P a w K' Q':=by
 unfold nxtX at hK
 have hsz:s < a.tmps.size:=by rw [h.size,cq]; exact hs
 have hu:a.tmps[s]? = some a.tmps[s]:=Array.getElem?_eq_getElem hsz
 have hev:a.eval (.tmp s) = a.tmps[s]:=by simp [Act.eval,hsz]
 have hslot:(sp n sf).slots[s]? = some (sf.reg s):=by rw [ci,if_pos hs]
 obtain ⟨_,hown⟩:=h.slots s _ _ hslot hu
 have hexec:∀ u w',(Instr.next (a.eval (.tmp s)) false o.type).run P w = .ok u w'→(execOp a.eval o).run P w = .ok (.value u) w':=by
  intro u w' hr
  simp only [execOp,ho]
  exact aA hr
 have hone:∀ {mid:Option Nat} {since:Nat} {seen:List Nat} {stp:Nat},sf.reg s = .mit mid since seen stp→∃ b mb stepped,a.tmps[s] = .pointer (some ⟨b,0,none⟩)∧E.N≤b∧g.cls b = some (.arr (.slot E.d s 0))∧w.heap[b]? = some (itObj mid since seen mb stepped)∧since≤stepped∧ItM g mid mb:=by
  intro mid since seen stp hreg
  obtain ⟨hr,hown⟩:=h.slots s _ _ hslot hu
  rw [hreg] at hr hown
  have hr:R g (.mit mid since seen stp) a.tmps[s]:=hr
  generalize a.tmps[s] = u at hr hown
  cases hr with
  | mit _ _ _ _ b =>
    obtain ⟨b',mb,stepped,e,q1,q2,q3,q4,q5⟩:=(hown 0 _ _ rfl rfl).2 mid since seen stp rfl
    exact ⟨b',mb,stepped,e,q1,q2,q3,q4.1,q5⟩
 split at hK
 ·rename_i seen stp hreg
  obtain ⟨b,mb,stepped,hb,hN,hcls,hrow,hsc,hit⟩:=hone hreg
  have hmb:mb = none:=hit
  subst hmb
  refine kC hk (u:=.tuple #[.bool false]) (v:=.tup [.lit (.bool false)]) (hexec _ _ ?_) h (RS.of (R.tup _ _ rfl fun i x u hx hu=>?_)) (fun _ _=>dj) hK
  ·rw [hev,hb]; exact next_nil w _ b 0 stepped _ hrow
  ·match i with
   | 0=>simp at hx hu; subst hx; subst hu; exact R.lit _ rfl
   | i + 1=>simp at hx
 ·rename_i id since seen stp hreg
  obtain ⟨b,mb,stepped,hb,hN,hcls,hrow,hsc,hit⟩:=hone hreg
  obtain ⟨r,rfl,hbr⟩:=hit
  have hrow:w.heap[b]? = some (.mapIter (some r) since seen.toArray stepped):=hrow
  rw [ak] at hK
  obtain ⟨es,hes,hlt,hclk,hnext,hend⟩:=hK
  obtain ⟨b2,us,hbx,_,hmrow,hE,hB⟩:=h.ctx.box.mp id es _ _ (eK hes)
  have:b2 = r:=Option.some.inj (hbx.symm.trans hbr)
  subst this
  have hborn:∀ (i:Nat) (e:MapEntry),us[i]? = some e→(st.getB id).1[i]? = some e.born:=fun i e he=>by
   rw [← hB.eq]; simp [he]
  have hold:∀ x ∈ us.toList,x.born < since:=fun x hx=>hlt _ (by rw [← hB.eq]; exact List.mem_map.2 ⟨x,hx,rfl⟩)
  rcases run_nxt (P:=P) w o.type b b2 since stepped seen.toArray us _ hrow hmrow hold hsc with ⟨h0,hrun⟩ | ⟨e,he,kd,hrun⟩
  ·refine kC hk (u:=.tuple #[.bool false]) (v:=.tup [.lit (.bool false)]) (hexec _ _ (by rw [hev,hb]; exact hrun)) h (RS.of (R.tup _ _ rfl fun i x u hx hu=>?_)) (fun _ _=>dj) (hend fun q hq=>?_)
   ·match i with
    | 0=>simp at hx hu; subst hx; subst hu; exact R.lit _ rfl
    | i + 1=>simp at hx
   ·rw [← hB.eq] at hq
    obtain ⟨x,hx,rfl⟩:=List.mem_map.1 hq
    have hL:leftOf us seen.toArray = #[]:=Array.eq_empty_of_size_eq_zero h0
    unfold leftOf at hL
    rw [Array.filter_eq_empty_iff] at hL
    have:=hL x (by simpa using hx)
    simpa using this
  ·unfold leftOf at he
   simp only [Array.mem_toList_iff,Array.mem_filter] at he
   obtain ⟨heu,hns⟩:=he
   obtain ⟨i,hi⟩:=Array.getElem?_of_mem heu
   have hil:i < es.length:=by rw [← hE.1]; exact (Array.getElem?_eq_some_iff.1 hi).1
   have hek:es[i]? = some (es[i].1,es[i].2):=by simp [hil]
   obtain ⟨hkr,hvr,_⟩:=hE.2 i _ _ e hek hi
   have hK2:=hnext i es[i].1 es[i].2 e.born hek (hborn i e hi) (by simpa using hns)
   have hlt2:b < w.heap.size:=(Array.getElem?_eq_some_iff.1 hrow).1
   let w2:World:={ w with drawn:=w.drawn + kd,heap:=w.heap.setIfInBounds b (.mapIter (some b2) since (seen.toArray.push e.born) (st.getB id).2) }
   have hwr:Wr w b w2:=⟨rfl,rfl,rfl,by simp [w2],fun q hq=>by simp [w2,Array.getElem?_setIfInBounds_ne (Ne.symm hq)]⟩
   have hok:=h.iter (s:=s) (b:=b) (u:=a.tmps[s]) (v':=.mit (some id) since (seen++[e.born]) (st.getB id).2) (by rw [cq]; exact hs) hu hcls hN (fun q=>by simp [World.cell?,hrow]) hwr (by rw [hb]; exact RS.of (R.mit _ _ _ _ b)) (fun j c y hc hy=>by
    cases j with
    | succ j=>simp [AV.cells] at hc
    | zero =>
      simp [AV.cells] at hc
      rw [hb] at hy
      simp [Value.cells] at hy
      subst hc; subst hy
      refine ⟨fun _ _ e=>(by cases e),fun id' s' l' p' e'=>?_⟩
      cases e'
      refine ⟨b,some b2,(st.getB id).2,rfl,hN,hcls,?_,⟨hclk,rfl⟩,b2,rfl,hbr⟩
      show w2.heap[b]? = some (Obj.mapIter (some b2) since (seen++[e.born]).toArray (st.getB id).2)
      simp [w2,hlt2])
   have hsp:sp n (sf.set s (.mit (some id) since (seen++[e.born]) (st.getB id).2)) = { sp n sf with slots:=(sp n sf).slots.set s (.mit (some id) since (seen++[e.born]) (st.getB id).2) }:=cO n sf s _
   rw [← hsp] at hok
   refine kC (w':=w2) hk (u:=.tuple #[.bool true,e.key,e.val]) (v:=.tup [.lit (.bool true),es[i].1.dis,es[i].2.dis]) (hexec _ _ (by rw [hev,hb]; exact hrun)) hok (RS.of (R.tup _ _ rfl fun q x u hx hu=>?_)) (fun _ _=>dj) hK2
   match q with
   | 0=>simp at hx hu; subst hx; subst hu; exact R.lit _ rfl
   | 1=>simp at hx hu; subst hx; subst hu; exact hkr.r.dis
   | 2=>simp at hx hu; subst hx; subst hu; exact hvr.dis
   | q + 3=>simp at hx
 ·exact hK.elim
theorem bytes_back (l:List UInt8):(⟨((l.map UInt8.toNat).map UInt8.ofNat).toArray⟩:ByteArray) = ⟨l.toArray⟩:=by
 rw [List.map_map]
 have:(UInt8.ofNat ∘ UInt8.toNat) = id:=by funext x; simp
 rw [this,List.map_id]
theorem rngS_x {o:Oper} {t:TypeId} {x:Operand} {sd:Nat} (ho:o.op = .range t x) (hd:o.dst = some sd) (ht:P.underlying t = some .string) (h:Ok m E g w fr st a) {C:AV→St→Prop}
  (hK:rngSX (fr.ev x) C st):Ends P o m E w fr a C:=by
 have hx:=h.ev x
 unfold rngSX at hK
 split at hK
 ·rename_i b hxv
  rw [hxv] at hx
  have hle:=le_obj (g:=g) (w:=w) (.stringIter b 0) (.slot E.d sd 0)
  have hrun:(Instr.range t (a.eval x)).run P w = .ok (.pointer (some ⟨w.heap.size,0,none⟩)) (w.alloc (.stringIter b 0)):=by
   rw [hx.lit_inv.1]
   simp [Instr.range,run_underlying ht]
  refine ⟨_,_,hK,_,_,_,by simp only [execOp,ho]; exact aA hrun,h.le hle,RS.of (R.mit _ _ _ _ _),fun s hs i c y hc hy=>?_⟩
  rw [hd] at hs; cases hs
  cases i with
  | succ i=>simp [AV.cells] at hc
  | zero =>
    simp [AV.cells] at hc
    simp [Value.cells] at hy
    subst hc; subst hy
    refine ⟨fun _ _ e=>(by cases e),fun id' s' l' p' e=>?_⟩
    cases e
    refine ⟨w.heap.size,none,1,rfl,h.hN,by simp [Gh.lab],?_,⟨Nat.le_refl _,rfl⟩,rfl⟩
    have e:itObj none 1 (b.data.toList.map UInt8.toNat) none 1 = .stringIter b 0:=by
     show Obj.stringIter _ (1 - 1) = _
     rw [bytes_back]
    rw [e]; exact heap_alloc_new w _
 ·exact hK.elim
theorem decode_high (s:ByteArray) (i:Nat) (h:¬ (s.get! (i + 0)).toNat < 128):128≤(Utf8.decode s i).1∧0 < (Utf8.decode s i).2:=by
 unfold Utf8.decode
 simp only [h,if_false]
 have e:128≤Utf8.runeError:=by decide
 split
 ·split
  ·rename_i h1; exact ⟨h1,Nat.succ_pos _⟩
  ·exact ⟨e,Nat.succ_pos _⟩
 ·split
  ·split
   ·rename_i h1
    simp only [Bool.and_eq_true,decide_eq_true_eq] at h1
    exact ⟨by omega,Nat.succ_pos _⟩
   ·exact ⟨e,Nat.succ_pos _⟩
  ·split
   ·split
    ·rename_i h1
     simp only [Bool.and_eq_true,decide_eq_true_eq] at h1
     exact ⟨by omega,Nat.succ_pos _⟩
    ·exact ⟨e,Nat.succ_pos _⟩
   ·exact ⟨e,Nat.succ_pos _⟩
theorem nxtS_x {o:Oper} {s:Nat} (ho:o.op = .next (.tmp s) true) (hs:s < n) (h:Ok m E g w (sp n sf) st a) {K:Sf→St→Prop} (hK:qL s o.dst (sf.reg s) K sf st)
  {K':Act→World→Prop} {Q':Exit→Act→World→Prop} (hk:∀ sf' st' g' w' u,Ok m E g' w' (sp n sf') st' (a.put o.dst u)→K sf' st'→K' (a.put o.dst u) w'):o.wp P a w K' Q':=by
 unfold qL at hK
 have hsz:s < a.tmps.size:=by rw [h.size,cq]; exact hs
 have hu:a.tmps[s]? = some a.tmps[s]:=Array.getElem?_eq_getElem hsz
 have hev:a.eval (.tmp s) = a.tmps[s]:=by simp [Act.eval,hsz]
 have hslot:(sp n sf).slots[s]? = some (sf.reg s):=by rw [ci,if_pos hs]
 have hexec:∀ u w',(Instr.next (a.eval (.tmp s)) true o.type).run P w = .ok u w'→(execOp a.eval o).run P w = .ok (.value u) w':=by
  intro u w' hr
  simp only [execOp,ho]
  exact aA hr
 split at hK
 case h_2=>exact hK.elim
 rename_i bs p hreg
 obtain ⟨b,hb,hN,hcls,hrow⟩:∃ b,a.tmps[s] = .pointer (some ⟨b,0,none⟩)∧E.N≤b∧g.cls b = some (.arr (.slot E.d s 0))∧w.heap[b]? = some (.stringIter ⟨(bs.map UInt8.ofNat).toArray⟩ p):=by
  obtain ⟨hr,hown⟩:=h.slots s _ _ hslot hu
  rw [hreg] at hr hown
  have hr:R g (.mit none 1 bs (p + 1)) a.tmps[s]:=hr
  generalize a.tmps[s] = u at hr hown
  cases hr with
  | mit _ _ _ _ b =>
    obtain ⟨b',mb,stepped,e,q1,q2,q3,q4,q5⟩:=(hown 0 _ _ rfl rfl).2 none 1 bs (p + 1) rfl
    obtain ⟨_,rfl⟩:=q4
    exact ⟨b',e,q1,q2,q3⟩
 have hsize:(⟨(bs.map UInt8.ofNat).toArray⟩:ByteArray).size = bs.length:=by simp [ByteArray.size]
 split at hK
 ·rename_i hp
  have hp:¬ p < bs.length:=by rw [List.getElem?_eq_none_iff] at hp; omega
  refine kC hk (u:=.tuple #[.bool false]) (v:=.tup [.lit (.bool false)]) (hexec _ _ ?_) h (RS.of (R.tup _ _ rfl fun i x u hx hu=>?_)) (fun _ _=>dj) hK
  ·rw [hev,hb]; simp [Instr.next,getObj,Sem.run,hrow,hsize,hp]
  ·match i with
   | 0=>simp at hx hu; subst hx; subst hu; exact R.lit _ rfl
   | i + 1=>simp at hx
 ·rename_i bb hp
  obtain ⟨hpl,hpe⟩:=List.getElem?_eq_some_iff.1 hp
  have hlt2:b < w.heap.size:=(Array.getElem?_eq_some_iff.1 hrow).1
  have hstep:∀ c wd:Nat,Utf8.decode ⟨(bs.map UInt8.ofNat).toArray⟩ p = (c,wd)→K ((sf.set s (.mit none 1 bs (p + wd + 1))).put o.dst (.tup [.lit (.bool true),.lit (.int .i64 (p:Nat)),.lit (.int .i32 (c:Nat))])) st→o.wp P a w K' Q':=by
   intro c wd hdec hK2
   let w2:World:={ w with heap:=w.heap.setIfInBounds b (.stringIter ⟨(bs.map UInt8.ofNat).toArray⟩ (p + wd)) }
   have hwr:Wr w b w2:=⟨rfl,rfl,rfl,by simp [w2],fun q hq=>by simp [w2,Array.getElem?_setIfInBounds_ne (Ne.symm hq)]⟩
   have hok:=h.iter (s:=s) (b:=b) (u:=a.tmps[s]) (v':=.mit none 1 bs (p + wd + 1)) (by rw [cq]; exact hs) hu hcls hN (fun q=>by simp [World.cell?,hrow]) hwr (by rw [hb]; exact RS.of (R.mit _ _ _ _ b)) (fun j c y hc hy=>by
    cases j with
    | succ j=>simp [AV.cells] at hc
    | zero =>
      simp [AV.cells] at hc
      rw [hb] at hy
      simp [Value.cells] at hy
      subst hc; subst hy
      refine ⟨fun _ _ e=>(by cases e),fun id' s' l' p' e'=>?_⟩
      cases e'
      refine ⟨b,none,p + wd + 1,rfl,hN,hcls,?_,⟨Nat.le_add_left _ _,rfl⟩,rfl⟩
      show w2.heap[b]? = some (Obj.stringIter _ (p + wd + 1 - 1))
      simp [w2,hlt2])
   have hsp:sp n (sf.set s (.mit none 1 bs (p + wd + 1))) = { sp n sf with slots:=(sp n sf).slots.set s (.mit none 1 bs (p + wd + 1)) }:=cO n sf s _
   rw [← hsp] at hok
   refine kC (w':=w2) hk (u:=.tuple #[.bool true,goInt p,.int .i32 c]) (v:=.tup [.lit (.bool true),.lit (.int .i64 (p:Nat)),.lit (.int .i32 (c:Nat))]) (hexec _ _ ?_) hok (RS.of (R.tup _ _ rfl fun q x u hx hu=>?_)) (fun _ _=>dj) hK2
   ·rw [hev,hb]
    simp only [Instr.next,getObj,setObj,Sem.run_bind,Sem.run,hrow,Result.andThen,hsize,hpl,if_true,hdec]
    simp [Sem.run,hrow,w2]
   ·match q with
    | 0=>simp at hx hu; subst hx; subst hu; exact R.lit _ rfl
    | 1=>simp at hx hu; subst hx; subst hu; exact R.lit _ rfl
    | 2=>simp at hx hu; subst hx; subst hu; exact R.lit _ rfl
    | q + 3=>simp at hx
  have hget:(⟨(bs.map UInt8.ofNat).toArray⟩:ByteArray).get! (p + 0) = UInt8.ofNat bb:=by
   show (⟨(bs.map UInt8.ofNat).toArray⟩:ByteArray).get! p = _
   simp [ByteArray.get!,hpl,hpe]
  obtain ⟨h256,hlo,hhi⟩:=hK
  have hbt:(UInt8.ofNat bb).toNat = bb:=by simp; omega
  by_cases hc:bb < 128
  ·exact hstep bb 1 (by simp only [Utf8.decode,hget,hbt,hc,if_true]) (hlo hc)
  ·have hd:=decode_high ⟨(bs.map UInt8.ofNat).toArray⟩ p (by rw [hget,hbt]; exact hc)
   exact hstep _ _ rfl (hhi (by omega) _ _ hd.1 hd.2)
theorem qM:∀ (l:List MapEntry) (i:Nat) (e:MapEntry),(l.map (·.born)).Nodup→l[i]? = some e→l.find? (·.born == e.born) = some e
 | [],i,e,_,h=>by simp at h
 | x::r,0,e,_,h=>by simp at h; subst h; simp
 | x :: r, i + 1, e, hn, h => by
   simp only [List.map_cons,List.nodup_cons] at hn
   have hr:r[i]? = some e:=by simpa using h
   have hne:x.born≠e.born:=fun q=>hn.1 (by rw [q]; exact List.mem_map.2 ⟨e,List.mem_of_getElem? hr,rfl⟩)
   have hf:(x.born == e.born) = false:=by simpa using hne
   rw [List.find?_cons,hf]
   exact qM r i e hn.2 hr
theorem ent_x {o:Oper} {s:Nat} (ho:o.op = .entry (.tmp s)) (hs:s < n) (h:Ok m E g w (sp n sf) st a) {C:AV→St→Prop} (hK:entX (sf.reg s) C st):Ends P o m E w (sp n sf) a C:=by
 unfold entX at hK
 have hsz:s < a.tmps.size:=by rw [h.size,cq]; exact hs
 have hu:a.tmps[s]? = some a.tmps[s]:=Array.getElem?_eq_getElem hsz
 have hev:a.eval (.tmp s) = a.tmps[s]:=by simp [Act.eval,hsz]
 have hslot:(sp n sf).slots[s]? = some (sf.reg s):=by rw [ci,if_pos hs]
 split at hK
 case h_2=>exact hK.elim
 rename_i id since seen stp hreg
 obtain ⟨hr,hown⟩:=h.slots s _ _ hslot hu
 rw [hreg] at hr hown
 have hr:R g (.mit (some id) since seen stp) a.tmps[s]:=hr
 have hit:∃ b r,a.tmps[s] = .pointer (some ⟨b,0,none⟩)∧w.heap[b]? = some (.mapIter (some r) since seen.toArray stp)∧g.bx id = some r:=by
  generalize a.tmps[s] = u at hr hown
  cases hr with
  | mit _ _ _ _ b =>
    obtain ⟨b',mb,stepped,e,q1,q2,q3,⟨_,q4⟩,r,q5,q6⟩:=(hown 0 _ _ rfl rfl).2 (some id) since seen stp rfl
    subst q4 q5
    exact ⟨b',r,e,q3,q6⟩
 obtain ⟨b,r,hb,hrow,hbr⟩:=hit
 rw [ak] at hK
 obtain ⟨es,hes,hstp,i,k,x,bo,hlast,hei,hbi,hK⟩:=hK
 obtain ⟨b2,us,hbx,_,hmrow,hE,hB⟩:=h.ctx.box.mp id es _ _ (eK hes)
 have:b2 = r:=Option.some.inj (hbx.symm.trans hbr)
 subst this
 have hil:i < us.size:=by rw [hE.1]; exact (List.getElem?_eq_some_iff.1 hei).1
 have hui:us[i]? = some us[i]:=Array.getElem?_eq_getElem hil
 obtain ⟨hkr,hvr,_⟩:=hE.2 i _ _ us[i] hei hui
 have hbo:us[i].born = bo:=by
  rw [← hB.eq] at hbi
  simpa [hil] using hbi
 have hfind:us.find? (·.born == bo) = some us[i]:=by
  rw [← Array.find?_toList,← hbo]
  exact qM us.toList i us[i] (by rw [hB.eq]; exact hB.nodup) (by simp)
 have hrun:(Instr.entry (.pointer (some ⟨b,0,none⟩))).run P w = .ok (.tuple #[us[i].key,us[i].val]) w:=by
  have hback:seen.toArray.back? = some bo:=by rw [List.back?_toArray]; exact hlast
  simp only [Instr.entry,getObj,Sem.run_bind,Sem.run,hrow,Result.andThen,hback,hmrow,hstp,bne_self_eq_false,Bool.false_eq_true,if_false,hfind]
  rfl
 refine ⟨_,_,hK,.tuple #[us[i].key,us[i].val],_,_,?_,h,RS.of (R.tup _ _ rfl fun q y u hx hu=>?_),fun _ _=>dj⟩
 ·simp only [execOp,ho]
  refine aA ?_
  rw [hev,hb]
  exact hrun
 ·match q with
  | 0=>simp at hx hu; subst hx; subst hu; exact hkr.r.dis
  | 1=>simp at hx hu; subst hx; subst hu; exact hvr.dis
  | q + 2=>simp at hx
end
end Go.Fx
namespace Go.Fx
open Go Go.RowKit Go.Lib
section
variable {P:Program} {gOf:FuncId→Option Nat} {F:Nat→FuncId} {n:Nat} {m:Bool} {E:Ent} {g g':Gh} {w w':World} {sf:Sf} {st st':St} {a:Act} {fr:Fr}
theorem ext_clone {fn : Func} (h1 : fn.name = "maps.clone") (h2 : fn.origin = "") : Extern.findNext fn = none ∧ Extern.find fn = some Extern.MapsClone.clone := by
 constructor
 ·unfold Extern.findNext
  rw [h1,h2]
  rfl
 ·unfold Extern.find
  rw [h1,h2]
  rfl
theorem ext_mknz {fn : Func} (h1 : fn.name = "internal/bytealg.MakeNoZero") (h2 : fn.origin = "") : Extern.findNext fn = none ∧ Extern.find fn = some (Extern.BytealgMakeNoZero.makeNoZero fn.params fn.resultTypes) := by
 constructor
 ·unfold Extern.findNext
  rw [h1,h2]
  rfl
 ·unfold Extern.find
  rw [h1,h2]
  rfl
theorem pE {o : Oper} {f : FuncId} {args : Array Operand} {ts : Array TypeId} {fn : Func} {ex : Array Value → Sem Value} (ho : o.op = .call ⟨.value (.func f), args, ts⟩) (hf : P.funcs[f]? = some fn) (hb : fn.body.isNone = true) (hname : (fn.name == "runtime.NumGoroutine") = false)
  (hn:Extern.findNext fn = none) (he:Extern.find fn = some ex) {u:Value} {w':World} (hr:(ex (args.map a.eval)).run P w = .ok u w'):(execOp a.eval o).run P w = .ok (.value u) w':=by
 have h:=run_callFunc_extern hf hname hb hn he (args.map a.eval) w
 rw [hr] at h
 simp only [Result.andThen] at h
 have hev:a.eval (.func f) = .func (.func f) #[] #[]:=rfl
 simp only [execOp,ho,resolve,hev,Deferred.ofValue,invoke,Sem.run_bind,Sem.run_pure,Result.andThen_ok]
 simpa using h
theorem extK_clone {f : FuncId} (h : extK P f = some .mclone) : ∃ fn, P.funcs[f]? = some fn ∧ fn.body.isNone = true ∧ fn.name = "maps.clone" ∧ fn.origin = "" := by
 unfold extK at h
 cases hf:P.funcs[f]? with
 | none=>simp [hf] at h
 | some fn =>
   simp only [hf] at h
   by_cases hc : fn.body.isNone = true ∧ fn.name = "maps.clone" ∧ fn.origin = ""
   ·exact ⟨fn,rfl,hc⟩
   ·rw [if_neg hc] at h
    split at h
    ·simp at h
    ·split at h <;> simp at h
theorem extK_mknz {f : FuncId} (h : extK P f = some .mknz) : ∃ fn t e, P.funcs[f]? = some fn ∧ fn.body.isNone = true ∧ fn.name = "internal/bytealg.MakeNoZero" ∧ fn.origin = "" ∧ fn.resultTypes = #[t] ∧ P.underlying t = some (.slice e) := by
 unfold extK at h
 cases hf:P.funcs[f]? with
 | none=>simp [hf] at h
 | some fn =>
   simp only [hf] at h
   by_cases hc0 : fn.body.isNone = true ∧ fn.name = "maps.clone" ∧ fn.origin = ""
   ·rw [if_pos hc0] at h; simp at h
   ·rw [if_neg hc0] at h
    split at h
    ·rename_i hc
     obtain ⟨h1,h2,h3,h4,h5⟩:=hc
     have hr:fn.resultTypes = #[fn.resultTypes.getD 0 0]:=by
      apply Array.ext
      ·simp [h4]
      ·intro i hi1 hi2
       have:i = 0:=by omega
       subst this
       simp [h4]
     unfold mkzB at h5
     generalize hu:P.underlying (fn.resultTypes.getD 0 0) = ou at h5
     have key:∃ e,ou = some (.slice e):=by
      cases ou with
      | none=>simp at h5
      | some dd=>cases dd <;> first | exact ⟨_,rfl⟩ | simp at h5
     obtain ⟨e,rfl⟩:=key
     exact ⟨fn,_,e,rfl,h1,h2,h3,hr,hu⟩
    ·split at h <;> simp at h
theorem extK_cmpS {f : FuncId} (h : extK P f = some .cmpS) : ∃ fn, P.funcs[f]? = some fn ∧ fn.body.isNone = true ∧ fn.name = "internal/bytealg.abigen_runtime_cmpstring" ∧ fn.origin = "" := by
 unfold extK at h
 cases hf:P.funcs[f]? with
 | none=>simp [hf] at h
 | some fn =>
   simp only [hf] at h
   split at h
   ·simp at h
   ·split at h
    ·simp at h
    ·split at h
     ·rename_i hc; exact ⟨fn,rfl,hc⟩
     ·simp at h
theorem ext_cmpS {fn : Func} (h1 : fn.name = "internal/bytealg.abigen_runtime_cmpstring") (h2 : fn.origin = "") : Extern.findNext fn = none ∧ Extern.find fn = some Extern.BytealgCompare.compare := by
 constructor
 ·unfold Extern.findNext
  rw [h1,h2]
  rfl
 ·unfold Extern.find
  rw [h1,h2]
  rfl
theorem cmpS_x {o:Oper} {f:FuncId} {x y:Operand} {ts:Array TypeId} (ho:o.op = .call ⟨.value (.func f),#[x,y],ts⟩) (hx:extK P f = some .cmpS) (h:Ok m E g w fr st a) {C:AV→St→Prop}
  (hK:cmpSX (fr.ev x) (fr.ev y) C st):Ends P o m E w fr a C:=by
 obtain ⟨fn,hf,hb,hname,horig⟩:=extK_cmpS hx
 obtain ⟨h1,h2⟩:=ext_cmpS hname horig
 unfold cmpSX at hK
 have hxr:=h.ev x
 have hyr:=h.ev y
 split at hK
 case h_2=>exact hK.elim
 rename_i b c hxv hyv
 rw [hxv] at hxr
 rw [hyv] at hyr
 have e1:=hxr.lit_inv.1
 have e2:=hyr.lit_inv.1
 refine ⟨_,_,hK,.int .i64 (compareBytes b.data.toList c.data.toList),_,_,pE ho hf hb (by rw [hname]; rfl) h1 h2 (w':=w) ?_,h,RS.of (R.lit _ rfl),fun s hs=>cX (v:=.lit _) (fun cs e=>by cases e) trivial⟩
 have hargs:Array.map a.eval #[x,y] = #[.string b,.string c]:=by simp [e1,e2]
 rw [hargs]
 exact run_compareString b c w
theorem pF:∀ (n t:Nat) (acc:Array Value),(∀ x ∈ acc,x.oneCell' = true)→∀ x ∈ Extern.BytealgMakeNoZero.digits n t acc,x.oneCell' = true
 | 0,_,acc,h=>h
 | n + 1, t, acc, h => by
   rw [Extern.BytealgMakeNoZero.digits]
   refine pF n (t / 256) _ fun x hx=>?_
   rcases Array.mem_push.1 hx with hx | rfl
   ·exact h x hx
   ·rfl
theorem run_mknz (w:World) (ps:Array TypeId) (t e:TypeId) (ht:P.underlying t = some (.slice e)) (n:Nat) (hn:n≤281474976710656) :
  ∃ cs:Array Value,(Extern.BytealgMakeNoZero.makeNoZero ps #[t] #[.int .i64 n]).run P w = .ok (.slice (some ⟨w.heap.size,0,none⟩) n cs.size) (w.drew.drew.alloc (.cells cs e))∧n≤cs.size∧∀ x ∈ cs,x.oneCell' = true:=by
 have hdef:Extern.BytealgMakeNoZero.makeNoZero ps #[t] #[.int .i64 n] =
   (do
    let .slice elem ← underlying t | stuck "bytealg.MakeNoZero: slice type expected"
    if (n : Int) < 0 || (n : Int) > 2 ^ 48 then runtimePanic (.error "makeslice: len out of range")
    let cap ← choose (.appendCap (n:Int).toNat 0 elem)
    askRoom cap
    let bytes ← choose (.extern "internal/bytealg.MakeNoZero.bytes" 0)
    let a ← newRow elem (Extern.BytealgMakeNoZero.digits cap bytes #[])
    pure (.slice (some a) (n:Int).toNat cap)):=rfl
 refine ⟨Extern.BytealgMakeNoZero.digits (grownCap w n 0 e) ((Question.extern "internal/bytealg.MakeNoZero.bytes" 0).cut (w.tape (w.drawn + 1) (.extern "internal/bytealg.MakeNoZero.bytes" 0))) #[], ?_, ?_, pF _ _ _ (by simp)⟩
 ·rw [hdef]
  have h1:¬ (n:Int) < 0:=by omega
  have h2:¬ (281474976710656:Int) < (n:Int):=by omega
  simp [run_underlying ht,h1,h2,Question.forced,newRow,size_digits,grownCap]
 ·rw [size_digits]
  simpa using grownCap_ge w n 0 e
theorem mclone_x {o:Oper} {f:FuncId} {x:Operand} {ts:Array TypeId} (ho:o.op = .call ⟨.value (.func f),#[x],ts⟩) (hx:extK P f = some .mclone) (h:Ok m E g w fr st a) {C:AV→St→Prop}
  (hK:kA m (fr.ev x) C st):Ends P o m E w fr a C:=by
 obtain ⟨fn,hf,hb,hname,horig⟩:=extK_clone hx
 obtain ⟨h1,h2⟩:=ext_clone hname horig
 unfold kA at hK
 have hxr:=h.ev x
 split at hK
 case h_2=>exact hK.elim
 rename_i t id hxv
 obtain ⟨rfl,hK⟩:=hK
 rw [ak] at hK
 obtain ⟨es,hes,hK⟩:=hK
 rw [hxv] at hxr
 have hxr:R g (.ifc t (.map id)) (a.eval x):=hxr
 generalize hux:a.eval x = ux at hxr
 cases hxr with
 | ifc _ _ u hm =>
   obtain ⟨b,us,clk,hb2,hu,hrow,hE,hclk,hB⟩:=fQ h (RS.of hm) hes
   subst hu
   have hok:=h.newMapB (bW w (.map us clk)) hE hB
   rw [show (st.getB id).2 = clk from hclk.symm] at hK
   refine ⟨_,_,hK,.iface t (.map (some w.heap.size)),_,_,pE ho hf hb (by rw [hname]; rfl) h1 h2 (w':=w.alloc (.map us clk)) ?_,hok,RS.of (R.ifc _ _ _ (R.map _ _ (gq _ _ _))),fun s hs=>own_ifc⟩
   have h3:(getObj b).run P w = .ok (.map us clk) w:=by simp [getObj,Sem.run,hrow]
   have e:Extern.MapsClone.clone #[.iface t (.map (some b))] = (getObj b >>= fun o=>match o with
    | .map entries clock=>(newObj (.map entries clock) >>= fun n=>pure (.iface t (.map (some n))))
    | _ => stuck "maps.clone: a map expected") := rfl
   have hargs:Array.map a.eval #[x] = #[.iface t (.map (some b))]:=by simp [hux]
   rw [hargs,e]
   simp [h3]
theorem mknz_x {o:Oper} {f:FuncId} {x:Operand} {ts:Array TypeId} (ho:o.op = .call ⟨.value (.func f),#[x],ts⟩) (hx:extK P f = some .mknz) (h:Ok m E g w fr st a) {C:AV→St→Prop}
  (hK:mknzX m (fr.ev x) C st):Ends P o m E w fr a C:=by
 obtain ⟨fn,t,e,hf,hb,hname,horig,hres,ht⟩:=extK_mknz hx
 obtain ⟨h1,h2⟩:=ext_mknz hname horig
 unfold mknzX at hK
 split at hK
 case h_2=>exact hK.elim
 rename_i q hxv
 obtain ⟨rfl,h0,hle,hK⟩:=hK
 obtain ⟨k,rfl⟩:∃ k:Nat,q = k:=⟨q.toNat,by omega⟩
 have hux:=ik h hxv
 obtain ⟨cs,hrun,hcs,hdig⟩:=run_mknz (P:=P) w fn.params t e ht k (by omega)
 have hK:=hK cs.size (by simpa using hcs)
 simp only [Int.toNat_natCast] at hK
 have hok:=h.newBox (cs:=List.replicate cs.size .any) (nG w 2 (.cells cs e)) ⟨by simp,fun i c x hc hx=>by
  have:=List.mem_of_getElem? hc
  rw [List.eq_of_mem_replicate this]; exact .any _⟩ (fun i c hc=>by
  have:=List.mem_of_getElem? hc
  rw [List.eq_of_mem_replicate this]; trivial) hdig
 refine ⟨_,_,hK,.slice (some ⟨w.heap.size,0,none⟩) k cs.size,_,_,pE ho hf hb (by rw [hname]; rfl) h1 h2 (w':=w.drew.drew.alloc (.cells cs e)) ?_,hok,RS.of (R.bs _ _ _ _ _ _ (gq _ _ _)),fun s hs=>pD⟩
 rw [hres]
 simp only [List.map_toArray,List.map_cons,List.map_nil,hux]
 exact hrun
theorem Ends.wp {o:Oper} {K:Sf→St→Prop} {K':Act→World→Prop} {Q':Exit→Act→World→Prop} (h:Ends P o m E w (sp n sf) a (putK K o.dst sf))
  (hk:∀ sf' st' g' w' u,Ok m E g' w' (sp n sf') st' (a.put o.dst u)→K sf' st'→K' (a.put o.dst u) w'):o.wp P a w K' Q':=by
 obtain ⟨v,st',hK,u,g',w',hrun,hok,hr,ho⟩:=h
 exact kC hk hrun hok hr ho hK
theorem Ok.stealTo (h:Ok m E g w fr st a) (x:Operand) (sd:Nat) (hx:x≠.tmp sd) (mk:Nat→Loc) :
  ∃ g',Ok m E g' w (fr.disOp x) st a∧RS g' E.d (fr.evOwn x) (a.eval x)∧OwnV g' w E.N mk (fr.evOwn x) (a.eval x)∧(∀ v u,RS g E.d v u→RS g' E.d v u)∧(∀ k v u,Own g w E.N (.slot E.d sd k) v u→Own g' w E.N (.slot E.d sd k) v u):=by
 cases x with
 | tmp s =>
   obtain ⟨h1,h2,h3⟩:=h.steal s mk
   refine ⟨_,h1,h2,h3,fun v u hr=>hr.ch (hZ g w E.N E.d _) (fun _ _ _=>by simp),fun k v u ho=>?_⟩
   have:=ho.relab (ρ:=dR E.d s mk) (Nat.le_refl E.N)
   have hne:¬ sd = s:=fun e=>hx (by rw [e])
   simpa [dR,hne] using this
 | const v=>exact ⟨g,h,(h.ev (.const v)).dis,OwnV.dis (a:=fr.ev (.const v)),fun _ _ h=>h,fun _ _ _ h=>h⟩
 | global v=>exact ⟨g,h,(h.ev (.global v)).dis,OwnV.dis (a:=fr.ev (.global v)),fun _ _ h=>h,fun _ _ _ h=>h⟩
 | func v=>exact ⟨g,h,(h.ev (.func v)).dis,OwnV.dis (a:=fr.ev (.func v)),fun _ _ h=>h,fun _ _ _ h=>h⟩
inductive PRO (g:Gh) (w:World) (N d sd:Nat) (place:Nat→Option (Nat×Nat)):List (Nat×AV)→List (Nat×Value)→Prop
 | nil:PRO g w N d sd place [] []
 | cons (i:Nat) (v:AV) (u:Value) (r:List (Nat×AV)) (s:List (Nat×Value)) (hr:RS g d v u) (ho:∀ off size,place i = some (off,size)→OwnV g w N (fun k=>.slot d sd (off + k)) v u) (ht:PRO g w N d sd place r s):PRO g w N d sd place ((i,v)::r) ((i,u)::s)
theorem opd_ne {x:Operand} {y:Opd} {sd:Nat} (hy:(match y with | .r q=>q != sd | _=>true) = true) (h:opd gOf F n x = some y):x≠.tmp sd:=by
 rintro rfl
 unfold opd at h
 simp only at h
 split at h
 ·cases h; simp at hy
 ·cases h
theorem qN (place:Nat→Option (Nat×Nat)) (sd:Nat):∀ {parts:List (Nat×Operand)} {ps:List (Nat×Opd)} {sf:Sf} {g:Gh},e8 gOf F n parts = some ps→(ps.all fun p=>match p.2 with | .r q=>q != sd | _=>true) = true→Ok m E g w (sp n sf) st a →
  ∃ g',Ok m E g' w (sp n (fR F ps sf).2) st a∧PRO g' w E.N E.d sd place (fR F ps sf).1 (parts.map fun p=>(p.1,a.eval p.2))∧(∀ v u,RS g E.d v u→RS g' E.d v u)∧(∀ k v u,Own g w E.N (.slot E.d sd k) v u→Own g' w E.N (.slot E.d sd k) v u)
 | [], ps, sf, g, hc, _, h => by
   simp only [e8] at hc
   cases hc
   exact ⟨g,h,.nil,fun _ _ h=>h,fun _ _ _ h=>h⟩
 | (i, x) :: r, ps, sf, g, hc, hne, h => by
   simp only [e8] at hc
   split at hc
   case h_2=>cases hc
   rename_i y l hy hl
   cases hc
   simp only [List.all_cons,Bool.and_eq_true] at hne
   obtain ⟨g1,h1,h2,h3,h4,h5⟩:=h.stealTo x sd (opd_ne hne.1 hy) (fun k=>.slot E.d sd ((match place i with | some q=>q.1 | none=>0) + k))
   rw [← rK hy sf] at h1
   obtain ⟨g2,k1,k2,k3,k4⟩:=qN place sd hl hne.2 h1
   refine ⟨g2,k1,.cons _ _ _ _ _ ?_ (fun off size hp=>?_) k2,fun v u hr=>k3 _ _ (h4 _ _ hr),fun k v u ho=>k4 _ _ _ (h5 _ _ _ ho)⟩
   ·rw [← kw hy sf]; exact k3 _ _ h2
   ·rw [← kw hy sf]
    intro j c z hc hz
    have:=h3 j c z hc hz
    simp only [hp] at this
    exact k4 _ _ _ this
theorem pG {N d sd:Nat} {place:Nat→Option (Nat×Nat)}:∀ {ps:List (Nat×AV)} {us:List (Nat×Value)} {cs:List AV} {cells:Array Value} {K:List AV→Prop},PRO g w N d sd place ps us→RL g cs cells.toList →
  (∀ (q:Nat) (c:AV) (x:Value),cs[q]? = some c→cells[q]? = some x→Own g w N (.slot d sd q) c x)→(gp place ps cs).wp K →
  ∃ cs',K cs'∧∃ cells',Instr.fill place cells us = some cells'∧RL g cs' cells'.toList∧(∀ (q:Nat) (c:AV) (x:Value),cs'[q]? = some c→cells'[q]? = some x→Own g w N (.slot d sd q) c x)
 | _,_,cs,cells,K,.nil,hE,hO,h=>⟨cs,h,cells,rfl,hE,hO⟩
 | _, _, cs, cells, K, .cons i v u r s hr ho ht, hE, hO, h => by
   simp only [gp] at h
   split at h
   ·rename_i off size hp
    split at h
    ·rename_i hc
     obtain ⟨hk,hle,hs⟩:=hc
     obtain ⟨hl,h1⟩:=ba hs (hr.r (cW hs))
     have ho:=ho off size hp
     have hsz:u.cells.size = size:=by have:=hl.1; simp at this; omega
     have hcs:cells.size = cs.length:=by simpa using hE.1
     have hul:u.cells.toList.length = v.cells.length:=by simp; omega
     have hE':RL g (aG cs off v.cells) ((u.cells.toList.zipIdx 0).foldl (fun cs (p:Value×Nat)=>cs.setIfInBounds (off + p.2) p.1) cells).toList:=by
      refine ⟨by rw [eJ]; simp only [Array.length_toList]; rw [eA,hcs],fun j x y hx hy=>?_⟩
      rw [dt] at hx
      rw [Array.getElem?_toList,du] at hy
      rw [hul,hcs] at hy
      simp only [Nat.add_zero] at hy
      split at hx
      ·rename_i hcond
       rw [if_pos hcond] at hy
       exact hl.2 _ x y hx hy
      ·rename_i hcond
       rw [if_neg hcond] at hy
       exact hE.2 j x y hx (by simpa using hy)
     have hO':∀ (q:Nat) (c:AV) (x:Value),(aG cs off v.cells)[q]? = some c→((u.cells.toList.zipIdx 0).foldl (fun cs (p:Value×Nat)=>cs.setIfInBounds (off + p.2) p.1) cells)[q]? = some x→Own g w N (.slot d sd q) c x:=by
      intro j x y hx hy
      rw [dt] at hx
      rw [du] at hy
      rw [hul,hcs] at hy
      simp only [Nat.add_zero] at hy
      split at hx
      ·rename_i hcond
       rw [if_pos hcond] at hy
       have:=ho (j - off) x y hx (by simpa using hy)
       simp only [show off + (j - off) = j by omega] at this
       exact this
      ·rename_i hcond
       rw [if_neg hcond] at hy
       exact hO j x y hx hy
     obtain ⟨cs',h2,cells',h4,h5,h6⟩:=pG ht hE' hO' h
     refine ⟨cs',h2,cells',?_,h5,h6⟩
     simp only [Instr.fill,hp,hsz]
     rw [if_neg (by simp [hcs]; omega),pk]
     exact h4
    ·exact h.elim
   ·exact h.elim
theorem bstO_x {o:Oper} {t:TypeId} {parts:Array (Nat×Operand)} {sd:Nat} {fields:Array Field} {z:AV} {ps:List (Nat×Opd)} {pl:List (Nat×Nat)} (ho:o.op = .build t parts) (hd:o.dst = some sd) (hu:P.underlying t = some (.struct fields))
  (hz:cN P t = some z) (hps:e8 gOf F n parts.toList = some ps) (hne:(ps.all fun p=>match p.2 with | .r q=>q != sd | _=>true) = true) (hpl:eS P fields = some pl) (h:Ok m E g w (sp n sf) st a) {K:Sf→St→Prop}
  (hK:al F m (.bstO pl z ps) o.dst K sf st) {K':Act→World→Prop} {Q':Exit→Act→World→Prop} (hk:∀ sf' st' g' w' u,Ok m E g' w' (sp n sf') st' (a.put o.dst u)→K sf' st'→K' (a.put o.dst u) w'):o.wp P a w K' Q':=by
 simp only [al] at hK
 rw [Res.wp_bind] at hK
 have hz':=mK hz (fun z'=>(gp (fun i=>pl[i]?) (fR F ps sf).1 z'.cells).bind fun cs=>.ok (AV.agg cs)) (putP K o.dst (fR F ps sf).2 st) (by rw [Res.wp_bind]; exact hK)
 rw [Res.wp_bind] at hz'
 obtain ⟨g',hok,hpr,hrm,hom⟩:=qN (fun i=>pl[i]?) sd hps hne h
 obtain ⟨z',hb,i,zv,hi,hzv,hzr,hzs,hzn⟩:=bC (g:=g') hz'
 rw [Res.wp_bind] at hb
 obtain ⟨cs',hK2,cells',hf,hR,hO⟩:=pG hpr (ba hzs hzr).1 (fun q c x hc _=>Own.of_no (hzn q c hc)) hb
 refine kC (sf:=(fR F ps sf).2) (v:=.agg cs') (u:=.agg cells') (w':=w) hk ?_ hok (RS.of (by have:=hR.agg; simpa using this)) (fun s hs q c x hc hx=>?_) hK2
 ·simp only [execOp,ho]
  refine aA ?_
  have:(parts.map fun x=>match x with | (i,x)=>(i,a.eval x)) = (parts.toList.map fun p=>(p.1,a.eval p.2)).toArray:=by
   apply Array.ext'; simp
  rw [this]
  refine run_build w t _ _ ?_
  unfold eS at hpl
  unfold Program.built
  simp only [hi,hu,hzv,hpl]
  have:(fun i:Nat=>pl.toArray[i]?) = fun i:Nat=>pl[i]?:=by funext i; simp
  rw [this]
  exact hf
 ·rw [hd] at hs; cases hs
  exact hO q c x hc hx
theorem args2 {args:Array Operand} {x y:Operand} (h:args.toList = [x,y]):args = #[x,y]:=by apply Array.ext'; simpa using h
theorem args1 {args:Array Operand} {x:Operand} (h:args.toList = [x]):args = #[x]:=by apply Array.ext'; simpa using h
theorem ts2 {args:Array TypeId} {x y:TypeId} (h:args.toList = [x,y]):args = #[x,y]:=by apply Array.ext'; simpa using h
theorem ts1 {args:Array TypeId} {x:TypeId} (h:args.toList = [x]):args = #[x]:=by apply Array.ext'; simpa using h
theorem x_sound {mu:Nat→Bool} {o:Oper} {xi:XI} (hc:compX P gOf F n mu o = some xi) (h:Ok m E g w (sp n sf) st a) {K:Sf→St→Prop} (hK:al F m xi o.dst K sf st)
  {K':Act→World→Prop} {Q':Exit→Act→World→Prop} (hk:∀ sf' st' g' w' u,Ok m E g' w' (sp n sf') st' (a.put o.dst u)→K sf' st'→K' (a.put o.dst u) w'):o.wp P a w K' Q':=by
 obtain ⟨dst,op,ty,pos,after,gd⟩:=o
 unfold compX at hc
 simp only at hc hK hk
 split at hc
 -- eql
 ·rename_i t x y yt
  split at hc
  ·rename_i e x' y' hu hx hy
   cases hc
   simp only [al,← af hx sf,← af hy sf] at hK
   exact (nil_x rfl (.inl rfl) hu h hK).wp hk
  ·cases hc
 -- neq
 ·rename_i t x y yt
  split at hc
  ·rename_i e x' y' hu hx hy
   cases hc
   simp only [al,← af hx sf,← af hy sf] at hK
   exact (nil_x rfl (.inr rfl) hu h hK).wp hk
  ·cases hc
 -- append
 ·rename_i args ts
  split at hc
  ·rename_i sd x y t t2 hargs hts
   split at hc
   ·rename_i hcond
    split at hc
    ·rename_i k x' y' hak hx hy
     cases hc
     have ha:=args2 hargs
     have ht:=ts2 hts
     subst ha; subst ht
     simp only [al] at hK
     obtain ⟨v,st',hC,u,g',w',hrun,hok,hr,h1,h2⟩:=app_x (P:=P) (o:=⟨some sd,.call ⟨.builtin .append,#[x,y],#[t,t2]⟩,ty,pos,after,gd⟩) rfl (k:=k.1) (bytes:=k.2) (by simpa using hak) (fun e hu=>by have:=hcond.2; unfold apzB at this; rw [hu] at this; exact this) h (af hx sf) (af hy sf) hK
     exact kC hk hrun hok (RS.of hr) (fun _ _=>cX h1 h2) hC
    ·rename_i x' y' hx hy hno
     have ha:=args2 hargs
     have ht:=ts2 hts
     subst ha; subst ht
     split at hc
     ·rename_i e kn hu hu2
      split at hc
      ·rename_i i z hi hz
       split at hc
       ·rename_i hzc
        cases hc
        simp only [al,← af hx sf,← af hy sf] at hK
        exact (appZ_x rfl hu hu2 hi hz hzc.1 hzc.2 h hK).wp hk
       ·cases hc
      ·cases hc
     ·cases hc
    ·cases hc
   ·cases hc
  ·cases hc
 -- copy
 ·rename_i args ts
  split at hc
  ·rename_i x y t t2 hargs hts
   split at hc
   ·rename_i k x' y' hak hx hy
    cases hc
    have ha:=args2 hargs
    have ht:=ts2 hts
    subst ha; subst ht
    simp only [al,← af hx sf,← af hy sf] at hK
    exact (copy_x (bytes:=k.2) rfl (by simpa using hak) h hK).wp hk
   ·cases hc
  ·cases hc
 -- cap
 ·rename_i args ts
  split at hc
  ·rename_i x t hargs hts
   have ha:=args1 hargs
   have ht:=ts1 hts
   subst ha; subst ht
   split at hc
   ·rename_i e x' hu hx
    cases hc
    simp only [al,← af hx sf] at hK
    exact (cap_x rfl hu h hK).wp hk
   ·cases hc
  ·cases hc
 -- clear
 ·rename_i args ts
  split at hc
  ·rename_i x t hargs hts
   have ha:=args1 hargs
   have ht:=ts1 hts
   subst ha; subst ht
   split at hc
   ·rename_i e x' hu hx
    split at hc
    ·rename_i k z hk' hz
     split at hc
     ·rename_i hcond
      cases hc
      simp only [al,← af hx sf] at hK
      exact (clr_x rfl hu hk' hz hcond.1 hcond.2 h hK).wp hk
     ·cases hc
    ·cases hc
   ·rename_i kt et x' hu hx
    cases hc
    simp only [al,← af hx sf] at hK
    exact (clrM_x rfl hu h hK).wp hk
   ·cases hc
  ·cases hc
 -- make
 ·rename_i t len cap
  split at hc
  ·rename_i sd e l c hu hl hcc
   split at hc
   ·rename_i i z hi hz
    split at hc
    ·rename_i hcond
     split at hc
     ·cases hc
      simp only [al,← af hl sf,← af hcc sf] at hK
      exact (mksB_x rfl hu hi hz hcond.1 hcond.2 h hK).wp hk
     ·cases hc
      simp only [al,← af hl sf,← af hcc sf] at hK
      exact (mks_x rfl hu hi hz hcond.1 hcond.2 h hK).wp hk
    ·cases hc
   ·cases hc
  ·cases hc
 -- an empty literal
 ·rename_i t len parts
  split at hc
  ·rename_i sd e hd hu
   split at hc
   ·rename_i i z hi hz
    split at hc
    ·rename_i hcond
     obtain ⟨_,rfl,rfl,hzl,hi0⟩:=hcond
     cases hc
     simp only [al] at hK
     exact (bsl0_x rfl hu hi hz hzl hi0 h hK).wp hk
    ·cases hc
   ·cases hc
  ·cases hc
 -- what the model itself has
 ·rename_i f args ts
  split at hc
  ·rename_i x hext hargs
   obtain ⟨y,hy,rfl⟩:=map_some hc
   have ha:=args1 hargs
   subst ha
   simp only [al,← af hy sf] at hK
   exact (mclone_x rfl hext h hK).wp hk
  ·rename_i x hext hargs
   obtain ⟨y,hy,rfl⟩:=map_some hc
   have ha:=args1 hargs
   subst ha
   simp only [al,← af hy sf] at hK
   exact (mknz_x rfl hext h hK).wp hk
  ·rename_i x y hext hargs
   split at hc
   ·rename_i x' y' hx' hy'
    cases hc
    have ha:=args2 hargs
    subst ha
    simp only [al,← af hx' sf,← af hy' sf] at hK
    exact (cmpS_x rfl hext h hK).wp hk
   ·cases hc
  ·cases hc
 -- slices of arrays
 ·rename_i t x lo hi mx
  split at hc
  ·rename_i q e hu
   split at hc
   ·rename_i x' lo' hi' mx' hx hlo hhi hmx
    obtain ⟨s,hs,rfl⟩:=map_some hc
    simp only [al,← af hx sf,← di hlo sf,← di hhi sf,← di hmx sf] at hK
    exact (slA_x (arr:=0) rfl (.inl hu) hs h hK).wp hk
   ·cases hc
  ·rename_i arr hu
   split at hc
   ·rename_i q e x' lo' hi' mx' hu2 hx hlo hhi hmx
    obtain ⟨s,hs,rfl⟩:=map_some hc
    simp only [al,← af hx sf,← di hlo sf,← di hhi sf,← di hmx sf] at hK
    exact (slA_x rfl (.inr ⟨hu,hu2⟩) hs h hK).wp hk
   ·cases hc
  ·cases hc
 -- range
 ·rename_i t x
  split at hc
  ·rename_i sd kt et x' hu hx
   cases hc
   simp only [al,← af hx sf] at hK
   exact (rng_x rfl rfl hu h hK).wp hk
  ·rename_i sd x' hu hx
   cases hc
   simp only [al,← af hx sf] at hK
   exact (rngS_x rfl rfl hu h hK).wp hk
  ·cases hc
 -- a struct
 ·rename_i t parts
  split at hc
  ·rename_i sd fields z ps hu hz hps
   split at hc
   ·rename_i hcond
    obtain ⟨pl,hpl,rfl⟩:=map_some hc
    exact bstO_x rfl rfl hu hz hps hcond.2 hpl h hK hk
   ·cases hc
  ·cases hc
 -- next
 ·rename_i s
  split at hc
  ·rename_i hcond
   cases hc
   simp only [al] at hK
   exact nxt_x rfl hcond.1 h hK hk
  ·cases hc
 -- next rune
 ·rename_i s
  split at hc
  ·rename_i hcond
   cases hc
   simp only [al] at hK
   exact nxtS_x rfl hcond.1 h hK hk
  ·cases hc
 -- entry
 ·rename_i s
  split at hc
  ·rename_i hcond
   cases hc
   simp only [al] at hK
   exact (ent_x rfl hcond h hK).wp hk
  ·cases hc
 -- a constant's bytes
 ·rename_i t t2 s
  split at hc
  ·rename_i e hu
   split at hc
   ·rename_i he
    split at hc
    ·rename_i hcond
     obtain ⟨rfl,hs⟩:=hcond
     cases hc
     simp only [al] at hK
     exact mark_x rfl hu he hs h hK hk
    ·cases hc
   ·cases hc
  ·cases hc
 ·cases hc
end
end Go.Fx
namespace Go.Fx
open Go Go.RowKit Go.Lib
def leR:List (Nat×AV)→List (Nat×AV)→Prop
 | [],[]=>True
 | (t,v)::r,(t',v')::r'=>t' = t∧AV.le v v'∧leR r r'
 | _,_=>False
def leLo:List (Nat×List AV)→List (Nat×List AV)→Prop
 | _,[]=>True
 | [],_::_=>False
 | (t,v)::r,(t',v')::r'=>(t' = t∧leL v v'∧leLo r r')∨(look t ((t',v')::r') = none∧leLo r ((t',v')::r'))
def Sf.le (sf sf':Sf):Prop:=leR sf.regs sf'.regs∧leLo sf.locs sf'.locs
theorem leR_refl:∀ l,leR l l
 | []=>trivial
 | (_,v)::r=>⟨rfl,.refl v,leR_refl r⟩
theorem qO:∀ l,leLo l l
 | []=>trivial
 | (_,v)::r=>.inl ⟨rfl,leL_refl v,qO r⟩
theorem Sf.le_refl (sf:Sf):Sf.le sf sf:=⟨leR_refl _,qO _⟩
theorem leR_get:∀ {l k:List (Nat×AV)},leR l k→∀ t,AV.le (getR l t) (getR k t)
 | [],[],_,t=>.refl _
 | [],_::_,h,_=>h.elim
 | _::_,[],h,_=>h.elim
 | (s, v) :: r, (s', v') :: r', ⟨h1, h2, h3⟩, t => by
   subst h1
   simp only [getR]
   split
   ·exact h2
   ·exact leR_get h3 t
theorem mN:∀ {l k:List (Nat×List AV)},leLo l k→∀ (t:Nat) (cs':List AV),look t k = some cs'→∃ cs,look t l = some cs∧leL cs cs'
 | _,[],_,t,cs',h=>by simp [look] at h
 | [],_::_,h,_,_,_=>by simp [leLo] at h
 | (s, v) :: r, (s', v') :: r', h0, t, cs', h => by
   simp only [leLo] at h0
   rcases h0 with ⟨h1,h2,h3⟩ | ⟨h1,h2⟩
   ·subst h1
    simp only [look] at h ⊢
    split at h
    ·rename_i e
     cases h
     rw [if_pos e]
     exact ⟨v,rfl,h2⟩
    ·rename_i e
     rw [if_neg e]
     exact mN h3 t cs' h
   ·have hne:s≠t:=by
     rintro rfl
     rw [h1] at h
     cases h
    rw [look,if_neg (by simpa using hne)]
    exact mN h2 t cs' h
theorem Ok.weakS {m:Bool} {E:Ent} {g:Gh} {w:World} {n:Nat} {sf sf':Sf} {st:St} {a:Act} (h:Ok m E g w (sp n sf) st a) (hs:Sf.le sf sf'):Ok m E g w (sp n sf') st a:=by
 refine ⟨by rw [h.size,cq,cq],fun s v u hv hu=>?_,⟨h.ctx.good,fun s cs' hc=>?_,h.ctx.box⟩,h.defers,h.mv,h.pst,h.hN,h.hm⟩
 ·rw [ci] at hv
  split at hv
  ·rename_i hl
   cases hv
   obtain ⟨h1,h2⟩:=h.slots s (sf.reg s) u (by rw [ci,if_pos hl]) hu
   have hle:=leR_get hs.1 s
   exact ⟨hle.rs h1,hle.ownV h1 h2⟩
  ·cases hv
 ·obtain ⟨cs,hc0,hle⟩:=mN hs.2 s cs' hc
  obtain ⟨b,us,T,a1,aN,a2,a3,a4,a5⟩:=h.ctx.loc s cs hc0
  obtain ⟨q1,q2⟩:=qH hle
  refine ⟨b,us,T,a1,aN,a2,a3,by omega,fun i c x hc hx=>?_⟩
  have hlt:i < cs.length:=by rw [← q1]; exact (List.getElem?_eq_some_iff.1 hc).1
  have e0:cs[i]? = some cs[i]:=by simp [hlt]
  obtain ⟨r1,r2⟩:=a5 i cs[i] x e0 hx
  exact ⟨(q2 i _ c e0 hc).r r1,(q2 i _ c e0 hc).own1c r1 r2⟩
end Go.Fx
namespace Go.Fx
open Go Go.RowKit Go.Lib
structure GI where
 g:Option (Nat×Bool)
 i:AI
def CallA (P:Program) (q:FuncId) (vs:List AV) (st:St) (K:AV→St→Prop):Prop:=bt P q = true∧∃ Q,aX P q vs st Q∧∀ v st',Q v st'→K v st'
def CallP (P:Program) (q:FuncId) (vs:List AV) (st:St) (K:AV→Prop):Prop:=bt P q = true∧∃ v,aF P q vs st v∧K v
def CallY (P:Program) (id:Nat) (vs:List AV) (st:St) (K:AV→St→Prop):Prop:=∃ Q,rG P id vs st Q∧∀ t st',Q t st'→K (.lit (.bool t)) st'
section
variable (P:Program) (F:Nat→FuncId) (m:Bool)
def ew (K:Sf→St→Prop) (q:Sf×St):Prop:=K q.1 q.2
def kF (p:Bool) (d:Option Nat) (f:AV) (args:List AV) (K:Sf→St→Prop) (sf:Sf) (st:St):Prop :=
 match f with
 | .fn (.func q) fs cs=>args.all AV.noL = true∧(if (p || m) = true then CallP P q (fs++args.map AV.dis++cs) st (putP K d sf st) else CallA P q (fs++args.map AV.dis++cs) st (putK K d sf))
 | .yld id=>args.all AV.noL = true∧(p || m) = false∧CallY P id (args.map AV.dis) st (putK K d sf)
 | _=>False
def oneI (i:AI) (K:Sf→St→Prop) (sf:Sf) (st:St):Prop :=
 match i with
 | .call d p f args=>kF P m p d (sf.ev F f) (args.map (sf.ev F)) K sf st
 | .x d i=>al F m i d K sf st
 | i=>(aW F m i sf st).wp (ew K)
def eo (t:Nat) (want:Bool) (v:AV) (Y N:Sf→St→Prop) (sf:Sf) (st:St):Prop :=
 match v with
 | .lit (.bool b)=>∀ c:Bool,b = c→if c = want then Y (sf.set t (.lit (.bool c))) st else N (sf.set t (.lit (.bool c))) st
 | .any=>Y sf st∧N sf st
 | .tup _=>N sf st
 | _=>False
def skipI (d:Option Nat) (K:Sf→St→Prop) (sf:Sf) (st:St):Prop:=K (sf.put d (.tup [])) st
def runI:List GI→(Sf→St→Prop)→Sf→St→Prop
 | [],K,sf,st=>K sf st
 | ⟨none,i⟩::r,K,sf,st=>oneI P F m i (runI r K) sf st
 | ⟨some (t,want),i⟩::r,K,sf,st=>eo t want (sf.reg t) (oneI P F m i (runI r K)) (skipI i.dst (runI r K)) sf st
end
section
variable (P:Program) (gOf:FuncId→Option Nat) (F:Nat→FuncId) (n:Nat) (heap mu:Nat→Bool)
def pH (p:Bool) (all:List Oper) (o:Oper):Option AI :=
 match o.op with
 | .call { callee := .value f, args, .. } => match opd gOf F n f, opds gOf F n args.toList with
   | some f,some args=>some (.call o.dst p f args)
   | _,_=>none
 | _ => match mM P gOf F n heap all o with
   | some (.call ..)=>none
   | some (.x ..)=>none
   | r=>r
def compC (p:Bool) (all:List Oper) (o:Oper):Option AI :=
 match compX P gOf F n mu o with
 | some i=>some (.x o.dst i)
 | none => match pH P gOf F n heap p all o with
   | some i=>some i
   | none=>some (.x o.dst .bad)
def compG (p:Bool) (all:List Oper) (o:Oper):Option GI :=
 match compC P gOf F n heap mu p all o with
 | some i=>if i.dst = o.dst then
   (match o.guard with
   | none=>some ⟨none,i⟩
   | some (j, want) => match (all.toArray[j]?).bind (·.dst) with
     | some t=>if t < n then some ⟨some (t,want),i⟩ else none
     | none=>none)
  else none
 | none=>none
def jC (p:Bool) (all:List Oper):List Oper→Option (List GI)
 | []=>some []
 | o :: r => match compG P gOf F n heap mu p all o, jC p all r with
   | some i,some l=>some (i::l)
   | _,_=>none
end
section
variable {P:Program} {gOf:FuncId→Option Nat} {F:Nat→FuncId} {n:Nat} {heap mu:Nat→Bool} {m:Bool} {E:Ent} {g:Gh} {w:World} {sf:Sf} {st:St} {a:Act} {p:Bool} {all:List Oper}
theorem kG (n:Nat) (sf:Sf) (t:Nat):sp n (sf.set t (sf.reg t)) = sp n sf:=by
 unfold sp
 simp only [Sf.set]
 congr 1
 refine List.map_congr_left fun q _=>?_
 simp only [Sf.reg,ku]
 split
 ·rename_i e; subst e; rfl
 ·rfl
theorem qr {o:Oper} {i:AI} (hc:pH P gOf F n heap p all o = some i):∀ c,o.op≠.defer c:=by
 intro c h
 unfold pH at hc
 rw [h] at hc
 simp only at hc
 have:mM P gOf F n heap all o = none:=by
  unfold mM
  rw [h]
  simp only
  cases o.dst <;> rfl
 rw [this] at hc
 cases hc
theorem qs {o:Oper} {i:XI} (hc:compX P gOf F n mu o = some i):∀ c,o.op≠.defer c:=by
 intro c h
 unfold compX at hc
 rw [h] at hc
 cases hc
theorem one_sound0 {rd:Option Nat} {o:Oper} {i:AI} (hc:pH P gOf F n heap p all o = some i) (h:Ok m E g w (sp n sf) st a) {K:Sf→St→Prop} (hK:oneI P F m i K sf st) {K':Act→World→Prop} {Q':Exit→Act→World→Prop}
  (hk:∀ sf' st' g' w' u,Ok m E g' w' (sp n sf') st' (a.put o.dst u)→K sf' st'→K' (a.put o.dst u) w'):o.wpIn (FW rd) 0 P a w K' Q':=by
 have hstep:mM P gOf F n heap all o = some i→(aW F m i sf st).wp (ew K)→o.wp P a w K' Q':=by
  intro h1 h2
  have h3:=comp_ref h1 m sf st (fun q=>∃ sf',q.1 = sp n sf'∧K sf' q.2) (by
   rw [Res.wp_bind]
   exact Res.wp_mono h2 fun q hq=>⟨q.1,rfl,hq⟩)
  obtain ⟨q,⟨sf',hq1,hq2⟩,u,g',w',hrun,hok⟩:=step_sound heap all h h3
  rw [hq1] at hok
  unfold Oper.wp
  rcases hrun with hr | ⟨hu,hr⟩
  ·rw [hr]; exact hk sf' q.2 g' w' u hok hq2
  ·rw [hr]; rw [hu] at hok; exact hk sf' q.2 g' w' undef hok hq2
 have hnd:=qr hc
 unfold pH at hc
 split at hc
 ·rename_i f args ts hop
  split at hc
  ·rename_i f' args' hf hargs
   cases hc
   simp only [oneI,kF] at hK
   split at hK
   ·rename_i q fs cs hfv
    obtain ⟨hnl,hK⟩:=hK
    have hmap:=d7 hargs sf
    have hca:dQ (sp n sf) ⟨.value f,args,ts⟩ = some (q,fs++(args'.map (sf.ev F)).map AV.dis++cs):=by
     unfold dQ
     simp only [af hf sf,hfv,hmap,hnl,if_true]
     congr 3
     rw [← hmap,List.map_map]
     rfl
    split at hK
    ·obtain ⟨hent,v,hP,hK⟩:=hK
     exact ko hnd <| rI h hop hca hent hP fun u g' w' hok=>hk (sf.put o.dst v) st g' w' u (by rw [aJ]; exact hok) hK
    ·rename_i hpm
     have hm:m = false:=by cases m <;> simp_all
     subst hm
     obtain ⟨hent,Q,hA,hK⟩:=hK
     exact ko hnd <| rH h hop hca hent hA fun v st' u g' w' hQ hok=>hk (sf.put o.dst v) st' g' w' u (by rw [aJ]; exact hok) (hK v st' hQ)
   ·rename_i id hfv
    obtain ⟨hnl,hpm,Q,hA,hK⟩:=hK
    have hm:m = false:=by cases m <;> simp_all
    subst hm
    have hmap:=d7 hargs sf
    refine qp h hop rfl (by rw [af hf sf]; exact hfv) (by rw [hmap]; exact hnl) (Q:=Q) ?_ fun t st' g' w' hQ hok=>hk (sf.put o.dst _) st' g' w' _ (by rw [aJ]; exact hok) (hK t st' hQ)
    have:(args.toList.map fun y=>((sp n sf).ev y).dis) = (args'.map (sf.ev F)).map AV.dis:=by rw [← hmap,List.map_map]; rfl
    rw [this]; exact hA
   ·exact hK.elim
  ·cases hc
 ·rename_i hno
  split at hc
  ·cases hc
  ·cases hc
  ·rename_i hnc hnx
   refine ko hnd <| hstep hc ?_
   unfold oneI at hK
   split at hK
   ·rename_i d p' f' args'
    exact absurd hc (hnc _ _ _ _)
   ·exact absurd hc (hnx _ _)
   ·exact hK
theorem mO {rd:Option Nat} {o:Oper} {i:AI} (hc:compC P gOf F n heap mu p all o = some i) (h:Ok m E g w (sp n sf) st a) {K:Sf→St→Prop} (hK:oneI P F m i K sf st) {K':Act→World→Prop} {Q':Exit→Act→World→Prop}
  (hk:∀ sf' st' g' w' u,Ok m E g' w' (sp n sf') st' (a.put o.dst u)→K sf' st'→K' (a.put o.dst u) w'):o.wpIn (FW rd) 0 P a w K' Q':=by
 unfold compC at hc
 split at hc
 ·rename_i xi hx
  cases hc
  exact ko (qs hx) (x_sound hx h hK hk)
 ·split at hc
  ·rename_i i' hi
   cases hc
   exact one_sound0 hi h hK hk
  ·cases hc
   exact hK.elim
theorem bG {rd:Option Nat}:∀ {l:List Oper} {gl:List GI} {sf:Sf} {st:St} {g:Gh} {w:World} {a:Act} {K:Sf→St→Prop} {Q:Exit→Act→World→Prop},jC P gOf F n heap mu p all l = some gl→Ok m E g w (sp n sf) st a→runI P F m gl K sf st →
  (∀ sf st g w a,Ok m E g w (sp n sf) st a→K sf st→Q .normal a w)→wpListIn (FW rd) 0 P all.toArray Q l a w
 | [], gl, sf, st, g, w, a, K, Q, hc, h, hK, hq => by
   simp only [jC] at hc
   cases hc
   exact hq sf st g w a h hK
 | o :: r, gl, sf, st, g, w, a, K, Q, hc, h, hK, hq => by
   simp only [jC] at hc
   split at hc
   case h_2=>cases hc
   rename_i gi gr hgi hgr
   cases hc
   unfold compG at hgi
   split at hgi
   case h_2=>cases hgi
   rename_i i hi
   split at hgi
   case isFalse=>cases hgi
   rename_i hd
   unfold wpListIn
   split at hgi
   ·rename_i hg
    cases hgi
    simp only [runI] at hK
    rw [if_pos (by simp [Region.wanted,hg])]
    exact (mO hi h hK fun sf' st' g' w' u hok hk=>bG hgr hok hk hq)
   ·rename_i j want hg
    split at hgi
    case h_2=>cases hgi
    rename_i t ht
    split at hgi
    case isFalse=>cases hgi
    rename_i htn
    cases hgi
    simp only [runI,eo] at hK
    split at hK
    case h_4=>exact hK.elim
    case h_3 =>
     rename_i cs hb
     have hw:Region.wanted o (yielded all.toArray a.tmps) = false:=by
      refine jt (ops:=all.toArray) h ?_
      unfold ao
      rw [hg]
      simp only [ht,ci,if_pos htn,hb]
     rw [hw,if_neg (by simp)]
     refine ⟨fun _ _=>trivial,bG (g:=g) (sf:=sf.put i.dst (.tup [])) hgr ?_ hK hq⟩
     rw [aJ,hd]
     exact h.put o.dst (v:=.tup []) (R.undef _) fun _ _ i c x hc _=>Own.of_no (ae (v:=.tup []) (fun _ e=>by cases e) trivial i c hc)
    case h_2 =>
     obtain ⟨hY,hN⟩:=hK
     cases hw:Region.wanted o (yielded all.toArray a.tmps) with
     | true =>
       rw [if_pos rfl]
       exact (mO hi h hY fun sf' st' g' w' u hok hk=>bG hgr hok hk hq)
     | false =>
       rw [if_neg (by simp)]
       refine ⟨fun _ _=>trivial,bG (g:=g) (sf:=sf.put i.dst (.tup [])) hgr ?_ hN hq⟩
       rw [aJ,hd]
       exact h.put o.dst (v:=.tup []) (R.undef _) fun _ _ i c x hc _=>Own.of_no (ae (v:=.tup []) (fun _ e=>by cases e) trivial i c hc)
    rename_i b hb
    have hw:Region.wanted o (yielded all.toArray a.tmps) = (b == want):=by
     refine jt (ops:=all.toArray) h ?_
     unfold ao
     rw [hg]
     simp only [ht,ci,if_pos htn,hb]
    have hsame:sp n (sf.set t (.lit (.bool b))) = sp n sf:=by rw [← hb]; exact kG n sf t
    have hK:=hK b rfl
    rw [hw]
    by_cases hbw:b = want
    ·rw [if_pos hbw] at hK
     rw [if_pos (by simp [hbw])]
     exact (mO hi (by rw [hsame]; exact h) hK fun sf' st' g' w' u hok hk=>bG hgr hok hk hq)
    ·rw [if_neg hbw] at hK
     rw [if_neg (by simp [hbw])]
     refine ⟨fun _ _=>trivial,bG (g:=g) (sf:=(sf.set t (.lit (.bool b))).put i.dst (.tup [])) hgr ?_ hK hq⟩
     rw [aJ,hsame,hd]
     exact h.put o.dst (v:=.tup []) (R.undef _) fun _ _ i c x hc _=>Own.of_no (ae (v:=.tup []) (fun _ e=>by cases e) trivial i c hc)
end
end Go.Fx
namespace Go.Fx
open Go Go.RowKit Go.Lib
section
variable (P:Program) (F:Nat→FuncId) (locs0:List (Nat×List AV)) (st:St)
def e9 (H:List PK→Sf→Prop) (ks:List PK) (k:PK) (sf:Sf):Prop:=H (ks++[k]) sf
def valH (C:PK→Sf→Prop) (d:Option Nat) (sf:Sf) (v:AV):Prop:=C (.val v) (sf.put d v)
def appH (C:PK→Sf→Prop) (d s:Nat) (sf:Sf) (v:AV):Prop:=C (.app s v) ((sf.disAt s).set d v)
def gU (H:List PK→Sf→Prop) (ks:List PK) (d:Option Nat) (sf:Sf):Prop:=H (ks++[.skip]) (sf.put d (.tup []))
def bu (t:Nat) (want:Bool) (v:AV) (Y N:Sf→Prop) (sf:Sf):Prop :=
 match v with
 | .lit (.bool b)=>∀ c:Bool,b = c→if c = want then Y (sf.set t (.lit (.bool c))) else N (sf.set t (.lit (.bool c)))
 | .tup _=>N sf
 | _=>False
def dx (x:AV) (k s:Nat) (C:PK→Sf→Prop) (sf:Sf):Option (List AV)→Prop
 | some cs0=>cs0.length = k∧x.dis.solid = true∧x.dis.cells.length = k∧C (.store s x.dis.cells) sf
 | none=>False
def cP (x:AV) (k s off:Nat) (C:PK→Sf→Prop) (sf:Sf):Option (List AV)→Prop
 | some cs0=>off + k≤cs0.length∧x.dis.solid = true∧x.dis.cells.length = k∧C (.store s (aG (cs0.map AV.own1) off x.dis.cells)) sf
 | none=>False
def fv (st:St) (d s k bytes:Nat) (y:AV) (C:PK→Sf→Prop) (sf:Sf) (v:AV):Prop :=
 match v with
 | .sl true k' es=>(cg st k bytes (.sl true k' es) y).wp (appH C d s sf)
 | x=>(bE st k bytes x y).wp (valH C (some d) sf)
def fS (d:Option Nat) (f:AV) (args:List AV) (C:PK→Sf→Prop) (sf:Sf):Prop :=
 match f with
 | .fn (.func q) fs cs=>args.all AV.noL = true∧CallP P q (fs++args.map AV.dis++cs) st (valH C d sf)
 | _=>False
def iJ (x:AV) (k:Nat) (C:PK→Sf→Prop) (sf:Sf):Opd→Prop
 | .r s=>x.dis.solid = true∧x.dis.cells.length = k∧C (.nst s x.dis.cells) sf
 | _=>False
def bK (a:Opd) (v x:AV) (k:Nat) (C:PK→Sf→Prop) (sf:Sf):Prop :=
 match v with
 | .lptr s 0=>dx x k s C sf (look s locs0)
 | .any=>iJ x k C sf a
 | .lptr s (o + 1)=>cP x k s (o + 1) C sf (look s locs0)
 | _=>False
def ah (i:AI) (C:PK→Sf→Prop) (sf:Sf):Prop :=
 match i with
 | .call d _ f args=>fS P st d (sf.ev F f) (args.map (sf.ev F)) C sf
 | .newL s cs=>C (.new s cs) (sf.set s .any)
 | .store k a x=>bK locs0 a (sf.ev F a) (sf.ev F x) k C sf
 | .appS d s k bytes y=>fv st d s k bytes (sf.ev F y) C sf (sf.reg s)
 | .x d (.ldF x k)=>(popI F (.load d x k) ⟨sf.regs,locs0⟩ st).wp (valH C d sf)
 | i=>(popI F i sf st).wp (valH C i.dst sf)
def ap:List GI→(List PK→Sf→Prop)→List PK→Sf→Prop
 | [],K,ks,sf=>K ks sf
 | ⟨none,i⟩::r,K,ks,sf=>ah P F locs0 st i (e9 (ap r K) ks) sf
 | ⟨some (t,want),i⟩::r,K,ks,sf=>bu t want (sf.reg t) (ah P F locs0 st i (e9 (ap r K) ks)) (gU (ap r K) ks i.dst) sf
end
def aM (drop:List Nat):List (Nat×List AV)→List (Nat×List AV)
 | []=>[]
 | (s,cs)::r=>if drop.contains s then aM drop r else (s,cs)::aM drop r
def aD:List PK→List Nat
 | []=>[]
 | .store s _::r=>s::aD r
 | _::r=>aD r
def bz:List PK→List Nat
 | []=>[]
 | .new s _::r=>s::bz r
 | _::r=>bz r
def bX:List PK→List Nat
 | []=>[]
 | .app t _::r=>t::bX r
 | _::r=>bX r
def bj:List Nat→Bool
 | []=>true
 | x::r=>!r.contains x && bj r
def nstB:List (Nat×Nat)→List PK→Bool
 | _,[]=>true
 | seen,.new s cs::r=>nstB ((s,cs.length)::seen) r
 | seen,.nst s cs::r=>seen.contains (s,cs.length) && nstB seen r
 | seen,_::r=>nstB seen r
def bY:List PK→List Nat
 | []=>[]
 | .nst s _::r=>s::bY r
 | _::r=>bY r
def ksB (drop:List Nat) (ks:List PK):Bool :=
 bj (bz ks) && bj (bY ks) && nstB [] ks && bj (aD ks) && bj (bX ks) && (aD ks).all (fun s=>drop.contains s && !(bz ks).contains s) && (bz ks).all (fun s=>drop.contains s)
def bP:List PK→Sf→Sf
 | [],sf=>sf
 | .store s cs::r,sf=>bP r (sf.setLoc s cs)
 | _::r,sf=>bP r sf
def bk (all:List PK):List PK→Sf→Sf
 | [],sf=>sf
 | .new s cs::r,sf=>bk all r (sf.newLoc s ((bD s all).getD cs))
 | _::r,sf=>bk all r sf
section
variable (P:Program) (gOf:FuncId→Option Nat) (F:Nat→FuncId) (n:Nat) (heap:Nat→Bool)
def jQ (o:Oper):Option AI :=
 match o.op,o.dst with
 | .call { callee := .value f, args, .. }, d => match opd gOf F n f, opds gOf F n args.toList with
   | some f,some args=>some (.call d true f args)
   | _,_=>none
 | .alloc t,some s=>if heap s = true then (cN P t).map fun z=>.newB s z.cells else (cN P t).map fun z=>.newL s z.cells
 | .box t x, some s => if heap s = true then (match opd gOf F n x, szT P t with
   | some x,some k=>some (.boxB s k x)
   | _,_=>none) else none
 | .store t a x, none => match opd gOf F n a, opd gOf F n x, szT P t with
   | some a,some x,some k=>some (.store k a x)
   | _,_,_=>none
 | .call { callee := .builtin .append, args, argTypes }, some sd => match args.toList, argTypes.toList with
   | [.tmp sx, y], [t, t2] => if sx ≠ sd ∧ sx < n then (match appK P t t2, opd gOf F n y with
     | some k,some y=>some (.appS sd sx k.1 k.2 y)
     | _,_=>none) else none
   | _,_=>popC P gOf F n (some sd) o.op
 | op,d=>popC P gOf F n d op
def kH (o:Oper):Option AI :=
 match jQ P gOf F n heap o with
 | some i=>some i
 | none=>some (.x o.dst .bad)
def mP (all:List Oper) (o:Oper):Option GI :=
 match kH P gOf F n heap o with
 | some i=>if i.dst = o.dst then
   (match o.guard with
   | none=>some ⟨none,i⟩
   | some (j, want) => match (all.toArray[j]?).bind (·.dst) with
     | some t=>if t < n then some ⟨some (t,want),i⟩ else none
     | none=>none)
  else none
 | none=>none
def ldG (drop:List Nat) (ops:Array Oper) (o:Oper) (i:AI):AI :=
 match o.op,i with
 | .load _ (.tmp s),.load d x k=>if drop.contains s = true∧ldB ops o = true then .x d (.ldF x k) else .load d x k
 | _,i=>i
def ldL (drop:List Nat) (ops:Array Oper):List Oper→List GI→List GI
 | o::r,⟨g,i⟩::l=>⟨g,ldG drop ops o i⟩::ldL drop ops r l
 | _,l=>l
theorem ldG_dst (drop:List Nat) (ops:Array Oper) (o:Oper) (i:AI):(ldG drop ops o i).dst = i.dst:=by
 unfold ldG
 split
 ·split <;> rfl
 ·rfl
def bM (all:List Oper):List Oper→Option (List GI)
 | []=>some []
 | o :: r => match mP P gOf F n heap all o, bM all r with
   | some i,some l=>some (i::l)
   | _,_=>none
end
theorem pI {A:Type} {r:Res A} {K:A→Prop} (h:r.wp K):∃ a,r.opt = some a∧K a:=by
 induction r with
 | ok a=>exact ⟨a,rfl,h⟩
 | fail=>exact h.elim
 | req b r ih =>
   obtain ⟨hb,h⟩:=h
   obtain ⟨a,ha,hk⟩:=ih h
   exact ⟨a,by simp [Res.opt,hb,ha],hk⟩
section
variable {P:Program} {gOf:FuncId→Option Nat} {F:Nat→FuncId} {n:Nat} {heap:Nat→Bool} {st:St} {locs0:List (Nat×List AV)} {all:List Oper} {ops:Array Oper}
theorem pop_dst {d:Option Nat} {op:Op} {i:AI} (h:popC P gOf F n d op = some i):i.dst = d∧(∀ (sf:Sf) (C:PK→Sf→Prop),ah P F locs0 st i C sf→(popI F i sf st).wp fun v=>C (.val v) (sf.put i.dst v)):=by
 unfold popC at h
 repeat' (split at h)
 all_goals first
  | (cases h; done)
  | (cases h; exact ⟨rfl,fun _ _ h=>h⟩)
  | (obtain ⟨_,_,rfl⟩:=map_some h; exact ⟨rfl,fun _ _ h=>h⟩)
theorem head_one0 {o:Oper} {i:AI} (hc:jQ P gOf F n heap o = some i) {sf:Sf} (hg:ao ops (sp n sf) o = some (.lit (.bool true))) {C:PK→Sf→Prop} (h:ah P F locs0 st i C sf) :
  ∃ k sf',C k sf'∧k.real = true∧PStep P ops st (fun s=>s = st) locs0 o (sp n sf) k (sp n sf'):=by
 have hpop:popC P gOf F n o.dst o.op = some i→∃ k sf',C k sf'∧k.real = true∧PStep P ops st (fun s=>s = st) locs0 o (sp n sf) k (sp n sf'):=by
  intro hp
  obtain ⟨hd,hh⟩:=pop_dst (st:=st) (locs0:=locs0) hp
  obtain ⟨v,hv,hC⟩:=pI (ej hp sf st _ (hh sf C h))
  refine ⟨_,_,hC,rfl,?_⟩
  rw [aJ,hd]
  exact .val v hg fun s e=>by rw [e]; exact hv
 obtain ⟨dst,op,ty,pos,after,gd⟩:=o
 unfold jQ at hc
 simp only at hc hpop
 split at hc
 ·rename_i f args ts
  split at hc
  ·rename_i f' args' hf hargs
   cases hc
   simp only [ah,fS] at h
   split at h
   ·rename_i q fs cs hfv
    obtain ⟨hnl,hent,v,hP,hC⟩:=h
    have hmap:=d7 hargs sf
    refine ⟨_,_,hC,rfl,?_⟩
    rw [aJ]
    refine .call v ⟨.value f,args,ts⟩ q (fs++(args'.map (sf.ev F)).map AV.dis++cs) hg rfl ?_ hent (fun s e=>by rw [e]; exact hP)
    unfold dQ
    simp only [af hf sf,hfv,hmap,hnl,if_true]
    congr 3
    rw [← hmap,List.map_map]
    rfl
   ·exact h.elim
  ·cases hc
 ·rename_i t s
  split at hc
  ·obtain ⟨z,hz,rfl⟩:=map_some hc
   exact False.elim h
  ·obtain ⟨z,hz,rfl⟩:=map_some hc
   simp only [ah] at h
   refine ⟨_,_,h,rfl,?_⟩
   rw [cO]
   exact .new t s z hg rfl rfl hz
 ·split at hc
  ·split at hc
   ·cases hc; exact False.elim h
   ·cases hc
  ·cases hc
 ·rename_i t a x
  split at hc
  ·rename_i a' x' k ha hx hk
   cases hc
   simp only [ah,bK] at h
   split at h
   ·rename_i s hav
    unfold dx at h
    split at h
    ·rename_i cs0 hl
     obtain ⟨h1,h2,h3,hC⟩:=h
     refine ⟨_,_,hC,rfl,?_⟩
     rw [← af hx sf] at h2 h3 ⊢
     exact .store t a x s cs0 hg rfl rfl (by rw [af ha sf]; exact hav) hl (by rw [h1,h3]) h2 (by rw [hk,h3])
    ·exact h.elim
   ·rename_i hav
    unfold iJ at h
    split at h
    ·rename_i a' s
     obtain ⟨h2,h3,hC⟩:=h
     have ha2:a = .tmp s:=by
      cases a with
      | tmp t=>simp only [opd] at ha; split at ha <;> cases ha; rfl
      | _ =>
        simp only [opd] at ha; repeat' (split at ha)
        all_goals cases ha
     refine ⟨_,_,hC,rfl,?_⟩
     rw [← af hx sf] at h2 h3 ⊢
     subst ha2
     exact .nst t x s hg rfl rfl h2 (by rw [hk,h3])
    ·exact h.elim
   ·rename_i s off hav
    unfold cP at h
    split at h
    ·rename_i cs0 hl
     obtain ⟨h1,h2,h3,hC⟩:=h
     refine ⟨_,_,hC,rfl,?_⟩
     rw [← af hx sf] at h2 h3 ⊢
     exact .storeA t a x s (off + 1) cs0 hg rfl rfl (by rw [af ha sf]; exact hav) hl (by rw [h3]; exact h1) h2 (by rw [hk,h3])
    ·exact h.elim
   ·exact h.elim
  ·cases hc
 ·rename_i args ts sd
  split at hc
  ·rename_i sx y t t2 hargs hts
   have ha':args = #[.tmp sx,y]:=by apply Array.ext'; simpa using hargs
   have ht':ts = #[t,t2]:=by apply Array.ext'; simpa using hts
   subst ha'; subst ht'
   split at hc
   ·rename_i hcc
    split at hc
    ·rename_i k y' hk hy
     have hck:=hc
     cases hc
     simp only [ah,fv] at h
     split at h
     ·rename_i k' es hreg
      obtain ⟨v,hv,hC⟩:=pI (pB (P:=P) hk st _ _ _ h)
      refine ⟨_,_,hC,rfl,?_⟩
      rw [cO,jP hcc.2]
      exact .app t t2 sx sd k' y es v hg rfl rfl hcc.1 (by rw [co hcc.2]; exact hreg) (fun s e=>by rw [e,af hy sf]; exact hv)
     ·rename_i v hreg
      have hsx:opd gOf F n (.tmp sx) = some (.r sx):=by simp only [opd,hcc.2,if_true]
      have hp:popC P gOf F n (some sd) (.call { callee:=.builtin .append,args:=#[.tmp sx,y],argTypes:=#[t,t2] }) = some (.app (some sd) k.1 k.2 (.r sx) y'):=by
       simp only [popC,hsx,hk,hy]
      obtain ⟨v,hv,hC⟩:=pI (ej hp sf st _ (show (popI F (.app (some sd) k.1 k.2 (.r sx) y') sf st).wp _ from h))
      refine ⟨_,_,hC,rfl,?_⟩
      rw [aJ]
      exact .val v hg fun s e=>by rw [e]; exact hv
    ·cases hc
   ·cases hc
  ·exact hpop hc
 ·exact hpop hc
theorem head_one {o:Oper} {i:AI} (hc:kH P gOf F n heap o = some i) {sf:Sf} (hg:ao ops (sp n sf) o = some (.lit (.bool true))) {C:PK→Sf→Prop} (h:ah P F locs0 st i C sf) :
  ∃ k sf',C k sf'∧k.real = true∧PStep P ops st (fun s=>s = st) locs0 o (sp n sf) k (sp n sf'):=by
 unfold kH at hc
 split at hc
 ·rename_i i' hi
  cases hc
  exact head_one0 hi hg h
 ·cases hc
  exact h.elim
theorem qP {drop:List Nat} {o:Oper} {i:AI} (hc:kH P gOf F n heap o = some i) {sf:Sf} (hg:ao ops (sp n sf) o = some (.lit (.bool true))) {C:PK→Sf→Prop} (h:ah P F locs0 st (ldG drop ops o i) C sf) :
  ∃ k sf',C k sf'∧k.real = true∧PStep P ops st (fun s=>s = st) locs0 o (sp n sf) k (sp n sf'):=by
 unfold ldG at h
 split at h
 ·rename_i t s d x k hop
  split at h
  ·rename_i hb
   have hp:popC P gOf F n o.dst o.op = some (.load d x k):=by
    unfold kH at hc
    unfold jQ at hc
    rw [hop] at hc ⊢
    split at hc
    ·rename_i i' hi
     cases hc
     exact hi
    ·cases hc
   have hd:=(pop_dst (st:=st) (locs0:=locs0) hp).1
   obtain ⟨v,hv,hC⟩:=pI (ej hp ⟨sf.regs,locs0⟩ st _ h)
   refine ⟨_,_,hC,rfl,?_⟩
   rw [aJ,show d = o.dst from hd]
   exact .ld v t s hg hop hb.2 fun s' e=>by rw [e]; exact hv
  ·exact head_one hc hg h
 ·exact head_one hc hg h
theorem il {drop:List Nat}:∀ {l:List Oper} {gl:List GI} {sf:Sf} {acc:List PK} {K:List PK→Sf→Prop},bM P gOf F n heap all l = some gl→ap P F locs0 st (ldL drop all.toArray l gl) K acc sf →
  ∃ ks sf',PRun P all.toArray st (fun _ s=>s = st) locs0 l (sp n sf) ks (sp n sf')∧(∀ k ∈ ks,k.real = true)∧K (acc++ks) sf'
 | [], gl, sf, acc, K, hc, h => by
   simp only [bM] at hc
   cases hc
   exact ⟨[],sf,.nil _,by simp,by simpa [ldL,ap] using h⟩
 | o :: r, gl, sf, acc, K, hc, h => by
   simp only [bM] at hc
   split at hc
   case h_2=>cases hc
   rename_i gi gr hgi hgr
   cases hc
   unfold mP at hgi
   split at hgi
   case h_2=>cases hgi
   rename_i i hi
   split at hgi
   case isFalse=>cases hgi
   rename_i hd
   split at hgi
   ·rename_i hg
    cases hgi
    simp only [ldL,ap] at h
    obtain ⟨k,sf',hC,hre,hps⟩:=qP (ops:=all.toArray) hi (by simp [ao,hg]) h
    obtain ⟨ks,sf2,hr,hre2,hK⟩:=il hgr hC
    exact ⟨k::ks,sf2,.cons hps hr,by simp only [List.mem_cons,forall_eq_or_imp]; exact ⟨hre,hre2⟩,by simpa using hK⟩
   ·rename_i j want hg
    split at hgi
    case h_2=>cases hgi
    rename_i t ht
    split at hgi
    case isFalse=>cases hgi
    rename_i htn
    cases hgi
    simp only [ldL,ap,bu,ldG_dst] at h
    split at h
    case h_3=>exact h.elim
    case h_2 =>
     rename_i cs hb
     have hga:ao all.toArray (sp n sf) o = some (.lit (.bool false)):=by
      unfold ao
      rw [hg]
      simp only [ht,ci,if_pos htn,hb]
     obtain ⟨ks,sf2,hr,hre2,hK⟩:=il hgr h
     rw [aJ,hd] at hr
     exact ⟨.skip::ks,sf2,.cons (.skip hga) hr,by simp only [List.mem_cons,forall_eq_or_imp]; exact ⟨rfl,hre2⟩,by simpa using hK⟩
    rename_i b hb
    have hga:ao all.toArray (sp n sf) o = some (.lit (.bool (b == want))):=by
     unfold ao
     rw [hg]
     simp only [ht,ci,if_pos htn,hb]
    have hsame:sp n (sf.set t (.lit (.bool b))) = sp n sf:=by rw [← hb]; exact kG n sf t
    have h:=h b rfl
    by_cases hbw:b = want
    ·rw [if_pos hbw] at h
     obtain ⟨k,sf',hC,hre,hps⟩:=qP (ops:=all.toArray) hi (by rw [hsame,hga]; simp [hbw]) h
     rw [hsame] at hps
     obtain ⟨ks,sf2,hr,hre2,hK⟩:=il hgr hC
     exact ⟨k::ks,sf2,.cons hps hr,by simp only [List.mem_cons,forall_eq_or_imp]; exact ⟨hre,hre2⟩,by simpa using hK⟩
    ·rw [if_neg hbw] at h
     obtain ⟨ks,sf2,hr,hre2,hK⟩:=il hgr h
     rw [aJ,hsame,hd] at hr
     exact ⟨.skip::ks,sf2,.cons (.skip (by rw [hga]; simp [hbw])) hr,by simp only [List.mem_cons,forall_eq_or_imp]; exact ⟨rfl,hre2⟩,by simpa using hK⟩
end
end Go.Fx
namespace Go.Fx
open Go Go.RowKit Go.Lib
def Grow (v:AV) (s:St) (v':AV) (s':St):Prop:=v' = v∧St.sub s s'∧s.boxes.length≤s'.boxes.length
section
variable {P:Program} {ops:Array Oper} {st:St} {SS:St→Prop} {locs0:List (Nat×List AV)} {X:Oper→Fr→PK→Prop} {l l':List Oper} {ks ks':List PK} {i:Nat} {fr0 fr fr1:Fr} {o:Oper} {v:AV} {kk:PK}
end
section
variable {P:Program} {m:Bool} {E:Ent} {g:Gh} {w:World} {fr:Fr} {st ρ:St} {SS:St→Prop} {a:Act} {l:List Oper} {n:Nat} {ks:List PK} {fr0 frn:Fr}
end
def mkN:PK→Nat
 | .mk _ _=>1
 | _=>0
def phK (ks:List PK) (i:Nat):Nat:=((ks.take i).map mkN).sum
theorem im {ks:List PK} {i:Nat} {k:PK} (h:ks[i]? = some k):phK ks (i + 1) = phK ks i + mkN k:=by
 obtain ⟨hi,he⟩:=List.getElem?_eq_some_iff.1 h
 unfold phK
 rw [List.take_succ_eq_append_getElem hi,he]
 simp
theorem phK_mono {ks:List PK} {i j:Nat} (h:i≤j):phK ks i≤phK ks j:=by
 induction j with
 | zero =>
   have:i = 0:=by omega
   subst this; exact Nat.le_refl _
 | succ j ih =>
   by_cases e:i = j + 1
   ·subst e; exact Nat.le_refl _
   ·have:=ih (by omega)
    cases hk:ks[j]? with
    | none =>
      have hl:=List.getElem?_eq_none_iff.1 hk
      unfold phK at *
      rw [List.take_of_length_le (i:=j + 1) (by omega)]
      rw [List.take_of_length_le (i:=j) hl] at this
      exact this
    | some k=>rw [im hk]; omega
theorem phK_lt {ks:List PK} {i j:Nat} {v:AV} {s:St} (h:ks[i]? = some (.mk v s)) (hij:i < j):phK ks i < phK ks j:=by
 have h1:=im h
 have h2:=phK_mono (ks:=ks) (show i + 1≤j by omega)
 simp only [mkN] at h1
 omega
theorem kI {ks:List PK}:∀ {i:Nat},0 < phK ks i→∃ i' v s,i' < i∧ks[i']? = some (.mk v s)∧phK ks i' + 1 = phK ks i
 | 0,h=>by simp [phK] at h
 | i + 1, h => by
   cases hk:ks[i]? with
   | none =>
     have hl:=List.getElem?_eq_none_iff.1 hk
     have e:phK ks (i + 1) = phK ks i:=by
      unfold phK
      rw [List.take_of_length_le (i:=i + 1) (by omega),List.take_of_length_le (i:=i) hl]
     rw [e] at h
     obtain ⟨i',v,s,h1,h2,h3⟩:=kI h
     exact ⟨i',v,s,by omega,h2,by omega⟩
   | some k =>
     have e:=im hk
     cases k with
     | mk v s=>exact ⟨i,v,s,by omega,hk,by rw [e]; rfl⟩
     | _ =>
       simp only [mkN,Nat.add_zero] at e
       rw [e] at h
       obtain ⟨i',v,s,h1,h2,h3⟩:=kI h
       exact ⟨i',v,s,by omega,h2,by omega⟩
inductive PRunB (P:Program) (ops:Array Oper) (st:St) (SS:St→Prop) (locs0:List (Nat×List AV)) (X:Nat→Oper→Fr→PK→Prop):Nat→List Oper→Fr→List PK→Fr→Prop
 | nil (j:Nat) (fr:Fr):PRunB P ops st SS locs0 X j [] fr [] fr
 | cons {j:Nat} {o:Oper} {l:List Oper} {fr fr1 fr2:Fr} {k:PK} {ks:List PK} (h:PStep P ops st SS locs0 o fr k fr1) (hx:X j o fr k) (r:PRunB P ops st SS locs0 X (j + mkN k) l fr1 ks fr2):PRunB P ops st SS locs0 X j (o::l) fr (k::ks) fr2
section
variable {P:Program} {ops:Array Oper} {st:St} {SS:St→Prop} {locs0:List (Nat×List AV)} {X:Nat→Oper→Fr→PK→Prop} {l l':List Oper} {ks ks':List PK} {j:Nat} {fr0 fr fr1:Fr} {o:Oper} {v:AV} {kk:PK}
theorem PRunB.run (h:PRunB P ops st SS locs0 X j l fr ks fr1):PRun P ops st (fun _=>SS) locs0 l fr ks fr1:=by
 induction h with
 | nil j fr=>exact .nil fr
 | cons h _ _ ih=>exact .cons h ih
theorem PRunB.at (hr:PRunB P ops st SS locs0 X j l' fr ks' fr1):∀ (pre:List Oper) (kpre:List PK),pre.length = kpre.length→l = pre++l'→ks = kpre++ks'→j = phK ks pre.length→Tr l ks pre.length fr0 fr →
  (∀ (a b t:Nat) (v v':AV),ks[a]? = some (PK.app t v)→ks[b]? = some (PK.app t v')→a = b) →
  (∀ (j k:Nat) (t:Nat) (v:AV) (o:Oper),ks[j]? = some (PK.app t v)→l[k]? = some o→o.dst = some t→k < j) →
  ∀ i o,l'[i]? = some o→∃ kk fri fri',ks[pre.length + i]? = some kk∧PStep P ops st SS locs0 o fri kk fri'∧X (phK ks (pre.length + i)) o fri kk∧Tr l ks (pre.length + i) fr0 fri:=by
 induction hr with
 | nil j fr=>intro pre kpre _ _ _ _ ht _ _ i o h; simp at h
 | cons h hx r ih =>
   rename_i jj o lr fra frb frc kk ksr
   intro pre kpre hlen hl hks hj ht hu hc i o' hi
   have ho:l[pre.length]? = some o:=by rw [hl]; simp
   have hk:ks[pre.length]? = some kk:=by rw [hks,hlen]; simp
   have ht':=h.tr ht ho hk hu hc
   have h2:=ih (pre++[o]) (kpre++[kk]) (by simp [hlen]) (by simp [hl]) (by simp [hks]) (by rw [hj,List.length_append,List.length_singleton,im hk]) (by simpa using ht') hu hc
   cases i with
   | zero =>
     simp at hi
     subst hi
     rw [hj] at hx
     exact ⟨kk,fra,frb,by simpa using hk,h,by simpa using hx,by simpa using ht⟩
   | succ i =>
     simp at hi
     obtain ⟨k',fri,fri',a1,a2,a2x,a3⟩:=h2 i o' hi
     simp only [List.length_append,List.length_cons,List.length_nil] at a1 a2x a3
     rw [show pre.length + (0 + 1) + i = pre.length + (i + 1) by omega] at a1 a2x a3
     exact ⟨k',fri,fri',a1,a2,a2x,a3⟩
end
section
variable {P:Program} {m:Bool} {E:Ent} {g:Gh} {w:World} {fr:Fr} {st ρ:St} {SS:Nat→St→Prop} {a:Act} {l:List Oper} {n:Nat} {ks:List PK} {fr0 frn:Fr}
def BoxK (SS:Nat→St→Prop) (ks:List PK) (q:GF) (w:World):Prop:=∃ s j,SS j s∧BoxR q.1 w s∧j≤phK ks ks.length∧∀ i v σ,ks[i]? = some (.mk v σ)→(q.2 i = true↔phK ks i < j)
def LeK (E:Ent) (SS:Nat→St→Prop) (ks:List PK) (q:GF) (w:World) (q':GF) (w':World):Prop:=LeD E.d E.N ks q w q' w'∧(BoxK SS ks q w→BoxK SS ks q' w')
theorem mk_sound {P:Program} {s0:St} {g1:Gh} {w1 w2:World} {cs:List AV} {us:Array Value} {T:TypeId} (d:Nat) (hg:Good g1 w1) (hb:BoxR g1 w1 s0) (hw:Nw w1 (.cells us T (0,0)) w2) (hr:RL g1 cs us.toList)
  (hn:∀ (i:Nat) (c:AV),cs[i]? = some c→c.noOwn) (h1c:∀ x ∈ us,x.oneCell' = true) :
  ∃ g2,Mv false 0 (d + 2) g1 w1 g2 w2∧BoxR g2 w2 (s0.push (.cells cs))∧R g2 (.ptr s0.boxes.length 0) (.pointer (some ⟨w1.heap.size,0,none⟩)):=by
 have hok:Ok false ⟨d + 2,0,g1,w1,s0,0⟩ g1 w1 (⟨[],[]⟩:Fr) s0 { tmps:=#[],defers:=[] }:=by
  refine ⟨rfl,fun s v u hv hu=>by simp at hv,⟨hg,fun s cs h=>by simp [look] at h,hb⟩,DefsR.nil _,Mv.refl hg,(fun e=>by cases e),Nat.zero_le _,fun _=>rfl⟩
 have h2:=hok.newB 0 hw hr (fun i c x hc _=>Own.of_no (hn i c hc)) h1c
 exact ⟨_,h2.mv,h2.ctx.box,R.ptr _ _ _ (by simp [Gh.newB])⟩
def GkJ (P:Program) (SS:Nat→St→Prop) (j:Nat) (o:Oper) (fr:Fr) (k:PK):Prop :=
 ∀ v s,k = .mk v s→(∃ c f vs,o.op = .call c∧dQ fr c = some (f,vs)∧bt P f = true∧∀ s,SS j s→aX P f vs s (fun v' s'=>v' = v∧SS (j + 1) s')) ∨
  (∃ t x,o.op = .box t x∧(fr.ev x).dis.solid = true∧∀ s,SS j s→v = .ptr s.boxes.length 0∧SS (j + 1) (s.push (.cells (fr.ev x).dis.cells))) ∨
  (∃ t z,o.op = .alloc t∧(eR P t).opt = some z∧∀ s,SS j s→v = .ptr s.boxes.length 0∧SS (j + 1) (s.push (.cells z.cells)))
theorem head_soundK {rd:Option Nat} {Q:Exit→Act→World→Prop} (hmf:m = false) (hstrict:dirB l.toArray n = true) (H:Head P m E g w fr st ρ (fun _ s=>∃ j,SS j s) a l n n ks fr0 frn)
  (hat:∀ i o,(l.take n)[i]? = some o→∃ kk fri fri',ks[i]? = some kk∧PStep P l.toArray ρ (fun s=>∃ j,SS j s) fr.locs o fri kk fri'∧GkJ P SS (phK ks i) o fri kk∧Tr (l.take n) ks i fr0 fri)
  (hSS:SS 0 st) (hln:ks.length = n) (hord:∀ i i' v σ v' σ',ks[i]? = some (PK.mk v σ)→ks[i']? = some (PK.mk v' σ')→i < i'→aI l.toArray n i' i = true) (hks:∀ (i:Nat) (k:PK),ks[i]? = some k→k.real = true∨∃ v,k = .mk v st)
  (hfin:∀ s g' w' a',SS (phK ks n) s→Ok m E g' w' (Fx.finN ks ks (Fx.finS ks frn)) s a'→wpListIn (FW rd) 0 P l.toArray Q (l.drop n) a' w'):cF rd P Q l.toArray a w:=by
 have hgood0:=H.ok.ctx.good
 have hN0:E.N = 0:=H.ok.hm hmf
 have hbx0:BoxK SS ks (g,fun _=>false) w:=⟨st,0,hSS,H.ok.ctx.box,Nat.zero_le _,fun i v σ _=>by simp⟩
 refine fI (n:=n) (Le:=LeK E SS ks) (g0:=(g,fun _=>false)) (F:=FH E l ks) (U:=UH) (a0:=a) (fun k v q w1 q' w2 h1 h2 hF=>?_) (fun _ _ _ _ _ _ h k=>⟨h.1.trans k.1,fun hb=>k.2 (h.2 hb)⟩) ⟨(mI (st:=st) g w).1,fun hb=>?_⟩ (lt:=false) (d6 hstrict false) (fun k o d hk ho hd=>?_) (fun e=>by cases e) (fun e=>by cases e) (fun _ _=>rfl) (fun i o hi ho a' q w' hle hs hU hW hwt=>?_) (fun a' q w' hle hF=>?_)
 ·unfold FH at hF ⊢
  split
  ·rename_i kk hkk
   rw [hkk] at hF
   exact hF.stable hkk H.ks h2.1 (h1.1.good hgood0)
  ·trivial
 ·obtain ⟨s,j,b1,⟨k1,k2,k3⟩,b2,b3⟩:=hb
  exact ⟨s,j,b1,⟨k1,k2,k3⟩,b2,b3⟩
 ·rw [H.ok.size]
  exact H.dst o (List.mem_of_getElem? (H.take hk ho)) d hd
 ·obtain ⟨sq,j,s1,hbox,s2,s3⟩:=hle.2 hbx0
  obtain ⟨kk,fri,fri',hkk,hps,hgx,htr⟩:=hat i o (H.take hi ho)
  rcases hks i kk hkk with hre | ⟨v,rfl⟩
  ·obtain ⟨h1,h2⟩:=H.stepN i o hi ho a' q w' hle.1 ⟨sq,⟨j,s1⟩,hbox⟩ hs hU hW (fun k hk=>by rw [hkk] at hk; cases hk; exact hre)
   refine ⟨fun e=>eZ (fun z=>z) (h1 e) fun u q' w2 k1 k2=>⟨⟨⟨k1.1.1,fun hb=>?_⟩,k1.2⟩,k2⟩,h2⟩
   obtain ⟨s,j,b1,b2,b3,b4⟩:=hb
   exact ⟨s,j,b1,b2.leD k1.1.1 k1.1.2.2 k1.1.2.1,b3,fun i v σ hi=>by rw [← k1.1.2.2 i v σ hi]; exact b4 i v σ hi⟩
  ·have hgv:=hgx v st rfl
   have hfl:q.2 i = false:=hU
   have hin:i < n:=hi
   have hj:j = phK ks i:=by
    have h1:¬ phK ks i < j:=fun h=>by
     have:=(s3 i v st hkk).2 h
     rw [hfl] at this; cases this
    by_cases h0:0 < phK ks i
    ·obtain ⟨i',v',σ',p1,p2,p3⟩:=kI h0
     have hl':i' < l.length:=by
      have hd:=H.dir
      unfold dirL at hd
      simp only [Bool.and_eq_true,decide_eq_true_eq] at hd
      have:=hd.1.1.1.1
      simp at this
      omega
     obtain ⟨u,hu⟩:=hwt i' l[i'] (by omega) (by simp [hl']) (hord i' i v' σ' v st p2 hkk p1)
     unfold FH at hu
     rw [p2] at hu
     have:=(s3 i' v' σ' p2).1 hu.1
     omega
    ·omega
   subst hj
   have hgq:=hle.1.good hgood0
   have hslot:=fun d (hd:d ∈ o.looksAt l.toArray)=>H.slot hi ho htr hle.1 hs hd
   have hsz:a'.tmps.size = fri.slots.length:=by rw [hs.2.1,H.ok.size,htr.len,H.slots]
   have hev:∀ x ∈ o.op.operands,RS q.1 E.d (fri.ev x) (a'.eval x):=by
    intro x hx
    cases x with
    | tmp t=>exact (hslot t (cM hx)).1
    | const v =>
      simp only [Fr.ev,Act.eval]
      split
      ·rename_i hf; exact R.lit v hf
      ·exact R.any _
    | global q=>exact R.any _
    | func f=>exact R.fn _ [] [] #[] #[] rfl rfl (fun i x u h=>by simp at h) (fun i x u h=>by simp at h)
   have hg:ao l.toArray fri o = some (.lit (.bool true)):=by
    cases hps with
    | mk v s hg=>exact hg
   have hgw:Region.wanted o (yielded l.toArray a'.tmps) = true:=go (fun t ht=>(hslot t ht).1) hsz hg
   refine ⟨fun _=>?_,fun e=>by rw [hgw] at e; cases e⟩
   have hafter:∀ (u:Value) (st':St) (g2:Gh) (w2:World),Mv false 0 (E.d + 2) q.1 w' g2 w2→BoxR g2 w2 st'→R g2 v u→(∀ s,o.dst = some s→OwnV g2 w2 0 (Loc.slot E.d s) v u)→SS (phK ks i + 1) st' →
     LeU n (LeK E SS ks) UH i q w' (g2,fun j=>if j = i then true else q.2 j) w2∧FH E l ks i u (g2,fun j=>if j = i then true else q.2 j) w2:=by
    intro u st' g2 w2 hmv hb2 hr hown g1
    have hil:=(List.getElem?_eq_some_iff.1 hkk).1
    have hLe:LeD E.d E.N ks q w' (g2,fun j=>if j = i then true else q.2 j) w2:=by
     refine ⟨hmv.os,hmv.tape,hmv.output,hmv.size,hmv.base,hmv.bx,fun h=>?_,fun d' hd=>hmv.lb d' (by omega),fun k s cs _ _=>by show g2.lb (E.d + 1) s = q.1.lb (E.d + 1) s; rw [hmv.lb (E.d + 1) (by omega)],hmv.imm,fun j hj=>?_,fun j hj=>if_neg ?_,fun b hb hT=>?_,hmv.low,fun b hb=>?_,fun _=>hmv.good,fun b s hb hc=>(hmv.outer b (.loc E.d s) hc (show E.d < E.d + 2 by omega)).1⟩
     ·have:=h i _ _ hkk
      rw [hfl] at this
      simp at this
     ·simp only; split
      ·rfl
      ·exact hj
     ·omega
     ·have hcontra:¬ Tch E.d ks i (q.1.cls b):=fun ht=>by
       have:=hT i ht
       rw [hfl] at this
       simp at this
      have htt:Tch E.d ks i (q.1.cls b) = ∀ c',q.1.cls b = some c'→¬ ft (E.d + 1) c':=by
       simp only [Tch,hkk]
      rw [htt] at hcontra
      simp only [Classical.not_forall,Classical.not_not] at hcontra
      obtain ⟨c',hc,ho⟩:=hcontra
      obtain ⟨k1,k2,k3⟩:=hmv.outer b c' hc (ho.mono (Nat.le_succ _))
      exact ⟨k2,k3,by rw [k1,hc]⟩
     ·rw [hN0] at hb; omega
    refine ⟨⟨⟨hLe,fun _=>⟨st',phK ks i + 1,g1,hb2,by rw [← show phK ks (i + 1) = phK ks i + 1 from im hkk]; exact phK_mono (by omega),fun i0 v0 σ0 h0=>?_⟩⟩,fun k hk hki h=>?_⟩,?_⟩
    ·show (if i0 = i then true else q.2 i0) = true↔_
     by_cases e0:i0 = i
     ·subst e0; simp
     ·rw [if_neg e0]
      have hq0:=s3 i0 v0 σ0 h0
      rcases Nat.lt_or_gt_of_ne e0 with hlt | hgt
      ·have:=phK_lt h0 hlt
       exact ⟨fun h=>by have:=hq0.1 h; omega,fun _=>hq0.2 this⟩
      ·have:=phK_lt hkk hgt
       exact ⟨fun h=>by have:=hq0.1 h; omega,fun h=>by omega⟩
    ·show (if k = i then true else q.2 k) = false
     rw [if_neg hki]; exact h
    ·unfold FH
     rw [hkk]
     have hdst:(l[i]?).bind (·.dst) = o.dst:=by
      have hli:l[i]? = some o:=by simpa using ho
      rw [hli]; rfl
     simp only [hdst]
     refine ⟨by simp,RS.of hr,fun s hs' _=>?_⟩
     rw [hN0]
     exact hown s hs'
   rcases hgv with ⟨c,f,vs,hoc,hca,hent,hA⟩ | ⟨t,x,hob,hsol,hS⟩ | ⟨t,z,hob,hz,hS⟩
   ·obtain ⟨us,hrun,hargs⟩:=ii (P:=P) (w:=w') (a:=a') hoc (fun x hx=>hev x (by rw [hoc]; exact hx)) hca hent
    unfold aQ
    rw [hrun]
    refine (hA sq s1 (E.d + 2) q.1 w' us (fun k=>match o.dst with | some s=>Loc.slot E.d s k | none=>Loc.slot E.d 0 k) hgq hbox hargs).mono fun e w2 ⟨u,v',st',g2,he,hQ,hmv,hb2,hr,hown⟩=>?_
    obtain ⟨rfl,g1⟩:=hQ
    obtain ⟨r1,r2⟩:=hafter u st' g2 w2 hmv hb2 hr (fun s hs'=>by rw [hs'] at hown; exact hown) g1
    exact ⟨u,_,he,r1,r2⟩
   ·obtain ⟨rfl,hS2⟩:=hS sq s1
    have hrx:=(hev x (by rw [hob]; simp [Op.operands])).dis
    obtain ⟨hrl,hz1⟩:=ba hsol (hrx.r (cW hsol))
    have hrun:(execOp a'.eval o).run P w' = .ok (.value (.pointer (some ⟨w'.heap.size,0,none⟩))) (w'.alloc (.cells (a'.eval x).cells t)):=by
     simp only [execOp,hob]
     exact aA (by simp [Instr.box,newVar,newRow])
    obtain ⟨g2,hmv,hb2,hr⟩:=mk_sound (P:=P) E.d hgq hbox (bW w' _) hrl (fun i c hc=>aq _ i c hc) hz1
    unfold aQ
    rw [hrun]
    obtain ⟨r1,r2⟩:=hafter _ _ g2 _ hmv hb2 hr (fun s _ i c x hc _=>Own.of_no (ae (v:=.ptr sq.boxes.length 0) (fun _ e=>by cases e) trivial i c hc)) hS2
    exact ⟨_,r1,r2⟩
   ·obtain ⟨rfl,hS2⟩:=hS sq s1
    obtain ⟨z',hz',ti,zv,hti,htz,hzr,hzs,hzn⟩:=bC (P:=P) (g:=q.1) (Res.wp_of_opt hz (K:=fun x=>x = z) rfl)
    subst hz'
    obtain ⟨hrl,hz1⟩:=ba hzs hzr
    have hrun:(execOp a'.eval o).run P w' = .ok (.value (.pointer (some ⟨w'.heap.size,0,none⟩))) (w'.alloc (.cells zv.cells t)):=by
     simp only [execOp,hob]
     exact aA (by simp [Instr.alloc,zeroValue,typeInfo,hti,htz,newVar,newRow])
    obtain ⟨g2,hmv,hb2,hr⟩:=mk_sound (P:=P) E.d hgq hbox (bW w' _) hrl (fun i c hc=>hzn i c hc) hz1
    unfold aQ
    rw [hrun]
    obtain ⟨r1,r2⟩:=hafter _ _ g2 _ hmv hb2 hr (fun s _ i c x hc _=>Own.of_no (ae (v:=.ptr sq.boxes.length 0) (fun _ e=>by cases e) trivial i c hc)) hS2
    exact ⟨_,r1,r2⟩
 ·obtain ⟨s,j,b1,hbox,b2,b3⟩:=hle.2 hbx0
  have hj:j = phK ks n:=by
   have h1:j≤phK ks n:=by rw [← hln]; exact b2
   by_cases h0:0 < phK ks n
   ·obtain ⟨i',v',σ',p1,p2,p3⟩:=kI h0
    have hl':i' < l.length:=by
     have hd:=H.dir
     unfold dirL at hd
     simp only [Bool.and_eq_true,decide_eq_true_eq] at hd
     have:=hd.1.1.1.1
     simp at this
     omega
    obtain ⟨u,hu,_⟩:=hF.2.2.1 i' l[i'] p1 (by simp [hl'])
    unfold FH at hu
    rw [p2] at hu
    have:=(b3 i' v' σ' p2).1 hu.1
    omega
   ·omega
  obtain ⟨g',hok⟩:=H.fin' hle.1 hbox (fun e=>by rw [hmf] at e; cases e) hF
  exact hfin s g' w' a' (hj ▸ b1) hok
end
end Go.Fx
