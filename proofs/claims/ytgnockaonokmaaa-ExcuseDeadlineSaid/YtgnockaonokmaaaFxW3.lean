/- What the functions that the statement reaches compute: part 3. -/
import Derived.Test.YtgnockaonokmaaaFxW2
namespace Go.Fx.YtgnockaonokmaaaFx
open Go Go.Fx
attribute [local irreducible] aC runI az bj

set_option maxRecDepth 100000
set_option maxHeartbeats 4000000

abbrev K3:=Int×Int×Int
def kA (q:K3):AV:=.agg [.lit (.int .i64 q.1),.lit (.int .i64 q.2.1),.lit (.int .i64 q.2.2)]
theorem kA_eq (q p:K3):bK (kA q) (kA p) = some (decide (q = p)):=by
 obtain ⟨a,b,c⟩:=q
 obtain ⟨x,y,z⟩:=p
 have h:((a == x) && ((b == y) && ((c == z) && true))) = decide ((a,b,c) = (x,y,z)):=Bool.eq_iff_iff.2 (by simp)
 rw [← h]
 show aU _ _ = _
 simp only [aU,bK]
 cases a == x <;> cases b == y <;> cases c == z <;> rfl
section
variable {β:Type}
def fnd3 (q:K3):List (K3×β)→Nat→Option (Nat×β)
 | [],_=>none
 | (p,v)::r,i=>if q = p then some (i,v) else fnd3 q r (i + 1)
def lk3 (q:K3):List (K3×β)→Option β
 | []=>none
 | (p,v)::r=>if q = p then some v else lk3 q r
def up3 (q:K3) (v:β):List (K3×β)→List (K3×β)
 | []=>[(q,v)]
 | (p,w)::r=>if q = p then (q,v)::r else (p,w)::up3 q v r
def en3 (ev:β→AV) (m:List (K3×β)):List (AV×AV):=m.map fun p=>(kA p.1,ev p.2)
theorem fnd_lk (q:K3):∀ (m:List (K3×β)) (i:Nat),(fnd3 q m i).map Prod.snd = lk3 q m
 | [],_=>rfl
 | (p, v) :: r, i => by
   unfold fnd3 lk3
   split
   ·rfl
   ·exact fnd_lk q r (i + 1)
theorem oo (ev:β→AV) (q:K3):∀ (m:List (K3×β)) (i:Nat),bU (kA q) (en3 ev m) i = .ok ((fnd3 q m i).map fun p=>(p.1,ev p.2))
 | [],_=>rfl
 | (p, v) :: r, i => by
   have ih:=oo ev q r (i + 1)
   unfold en3 at ih ⊢
   rw [List.map_cons]
   unfold bU fnd3
   rw [kA_eq]
   by_cases h:q = p
   ·simp [h]
   ·simpa [h] using ih
theorem lk_up (q q':K3) (v:β):∀ m:List (K3×β),lk3 q' (up3 q v m) = if q' = q then some v else lk3 q' m
 | []=>by simp [up3,lk3]
 | (p, w) :: r => by
   have ih:=lk_up q q' v r
   unfold up3
   by_cases h:q = p
   ·subst h
    rw [if_pos rfl]
    simp only [lk3]
    split <;> rfl
   ·rw [if_neg h]
    simp only [lk3,ih]
    by_cases h1:q' = p
    ·subst h1
     have:¬ q' = q:=fun e=>h e.symm
     simp [this]
    ·simp [h1]
theorem upd_en (ev:β→AV) (q:K3) (v:β):∀ (m:List (K3×β)) (i:Nat),match fnd3 q m i with
  | some (j,_)=>i≤j∧(en3 ev m).set (j - i) (kA q,ev v) = en3 ev (up3 q v m)
  | none=>en3 ev m++[(kA q,ev v)] = en3 ev (up3 q v m)
 | [],_=>rfl
 | (p, w) :: r, i => by
   have ih:=upd_en ev q v r (i + 1)
   unfold fnd3 up3
   by_cases h:q = p
   ·subst h; simp [en3]
   ·rw [if_neg h,if_neg h]
    cases hf:fnd3 q r (i + 1) with
    | none=>rw [hf] at ih; unfold en3 at ih ⊢; simp only at ih ⊢; rw [List.map_cons,List.map_cons,List.cons_append,ih]
    | some x =>
      obtain ⟨j,y⟩:=x
      rw [hf] at ih
      simp only at ih ⊢
      obtain ⟨h1,h2⟩:=ih
      obtain ⟨d,rfl⟩:∃ d,j = i + 1 + d:=⟨j - (i + 1),by omega⟩
      refine ⟨by omega,?_⟩
      rw [show i + 1 + d - (i + 1) = d by omega] at h2
      rw [show i + 1 + d - i = d + 1 by omega]
      unfold en3 at h2 ⊢
      rw [List.map_cons,List.map_cons,List.set_cons_succ,h2]
def Map3 (st:St) (id:Nat) (ev:β→AV) (m:List (K3×β)):Prop:=st.getM id = some (en3 ev m)
variable {st st':St} {id:Nat} {ev:β→AV} {m:List (K3×β)}
theorem Map3.lt (h:Map3 st id ev m):id < st.boxes.length:=getM_lt h
theorem Map3.at (h:Map3 st id ev m) (hb:st'.boxes[id]? = st.boxes[id]?):Map3 st' id ev m:=(getM_at hb).trans h
theorem Map3.new (st:St) (ev:β→AV):Map3 (st.push (.mp [] [] 0)) st.boxes.length ev []:=by
 unfold Map3 St.getM St.push; simp [en3]
theorem look_3 (h:Map3 st id ev m) (z:AV) (q:K3):dZ (.agg 3) z true st (.map id) (kA q) = .ok (match lk3 q m with
  | some b=>.tup [(ev b).dis,.lit (.bool true)]
  | none=>.tup [z,.lit (.bool false)]):=by
 have hk:keyI (.agg 3) (kA q) = true:=rfl
 unfold dZ
 unfold Map3 at h
 rw [if_pos hk]
 simp only [h,Res.ofOpt,Res.bind,oo]
 rw [← fnd_lk q m 0]
 cases fnd3 q m 0 <;> rfl
theorem upd_3 (h:Map3 st id ev m) {q:K3} {b:β} {x:AV} (hx:x.solid = true) (hd:x.dis = ev b) {K:Sf→St→Prop} {sf:Sf}
  (hK:∀ st',Map3 st' id ev (up3 q b m)→Oth st st' [id]→K sf st'):updX false (.agg 3) (.map id) (kA q) x K sf st:=by
 refine ⟨rfl,rfl,hx,?_⟩
 have hlt:=h.lt
 unfold Map3 at h
 simp only [h,Res.ofOpt,Res.wp,oo,hd]
 have hu:=upd_en ev q b m 0
 cases hf:fnd3 q m 0 with
 | none =>
   rw [hf] at hu
   simp only [Option.map_none,St.updM,updA]
   refine hK _ ?_ ⟨by simp [St.setM],fun p hp=>jq (by simpa using hp)⟩
   unfold Map3
   rw [fE hlt]; exact congrArg some hu
 | some p =>
   obtain ⟨j,c⟩:=p
   rw [hf] at hu
   simp only [Nat.sub_zero] at hu
   simp only [Option.map_some,St.updM,updA]
   refine hK _ ?_ ⟨by simp [St.setM],fun p hp=>jq (by simpa using hp)⟩
   unfold Map3
   rw [fE hlt]; exact congrArg some hu.2
end

structure PS where
 calls:List (Int×Cl)
 pend:List (Int×Bool)
 files:List Fl
 opened:Int
 dl:List (K3×Nat)
 bound:List En
 lis:Bool
def clA (c:Cl):AV:=.agg (clC c)
def blA (b:Bool):AV:=.lit (.bool b)
def nAV (n:Nat):AV:=.lit (.int .u64 (n:Nat))
theorem js (c:Cl):(clA c).dis = clA c:=by unfold clA; rw [gV,cl_own]
structure PastIs (st:St) (p m1 m2 m3 m4:Nat) (fv bv tr:AV) (P:PS):Prop where
 get:st.get p = some [tr,.map m1,.map m2,fv,.lit (.int .i64 P.opened),.map m3,.map m4,bv,.lit (.bool P.lis)]
 cm:MapIs st m1 .i64 clA P.calls
 pm:MapIs st m2 .i64 blA P.pend
 dm:Map3 st m3 nAV P.dl
 sm:∃ l,Map3 st m4 blA l
 fb:RB flC 4 fv st P.files
 bb:RB enC 12 bv st P.bound
 sep:∃ o:Nat→Nat,o p = 0∧o m1 = 1∧o m2 = 2∧o m3 = 3∧o m4 = 4∧(∀ b ∈ ae fv,o b = 5)∧∀ b ∈ ae bv,o b = 6
def pIds (p m1 m2 m3 m4:Nat) (fv bv:AV):List Nat:=[p,m1,m2,m3,m4]++(ae fv++ae bv)
section
variable {st st':St} {p m1 m2 m3 m4:Nat} {fv bv tr:AV} {P:PS}
theorem PastIs.lts (h:PastIs st p m1 m2 m3 m4 fv bv tr P):∀ b ∈ pIds p m1 m2 m3 m4 fv bv,b < st.boxes.length:=fun b hb=>by
 simp only [pIds,List.cons_append,List.nil_append,List.mem_cons,List.mem_append] at hb
 obtain ⟨l,hl⟩:=h.sm
 rcases hb with rfl | rfl | rfl | rfl | rfl | hb | hb
 ·exact bP h.get
 ·exact h.cm.lt
 ·exact h.pm.lt
 ·exact h.dm.lt
 ·exact hl.lt
 ·exact h.fb.lt b hb
 ·exact h.bb.lt b hb
theorem PastIs.at (h:PastIs st p m1 m2 m3 m4 fv bv tr P) (hb:∀ b ∈ pIds p m1 m2 m3 m4 fv bv,st'.boxes[b]? = st.boxes[b]?):PastIs st' p m1 m2 m3 m4 fv bv tr P:=by
 obtain ⟨l,hl⟩:=h.sm
 have hm:∀ b,b ∈ pIds p m1 m2 m3 m4 fv bv↔b = p∨b = m1∨b = m2∨b = m3∨b = m4∨b ∈ ae fv∨b ∈ ae bv:=fun b=>by simp [pIds]
 exact ⟨(cb (hb p ((hm p).2 (by simp)))).trans h.get,h.cm.at (hb m1 ((hm m1).2 (by simp))),h.pm.at (hb m2 ((hm m2).2 (by simp))),h.dm.at (hb m3 ((hm m3).2 (by simp))),⟨l,hl.at (hb m4 ((hm m4).2 (by simp)))⟩,
  h.fb.at (fun b q=>hb b ((hm b).2 (by simp [q]))),h.bb.at (fun b q=>hb b ((hm b).2 (by simp [q]))),h.sep⟩
theorem PastIs.kp (h:PastIs st p m1 m2 m3 m4 fv bv tr P) (hk:Kp st st' []):PastIs st' p m1 m2 m3 m4 fv bv tr P:=h.at fun b hb=>hk.2 b (h.lts b hb) (by simp)
theorem PastIs.cells (h:PastIs st p m1 m2 m3 m4 fv bv tr P) (tr':AV) (op:Int) (li:Bool):PastIs (st.set p [tr',.map m1,.map m2,fv,.lit (.int .i64 op),.map m3,.map m4,bv,.lit (.bool li)]) p m1 m2 m3 m4 fv bv tr' { P with opened:=op,lis:=li }:=by
 obtain ⟨o,o0,o1,o2,o3,o4,o5,o6⟩:=h.sep
 obtain ⟨l,hl⟩:=h.sm
 exact ⟨cr (bP h.get),h.cm.at (cu fun e=>by subst e; omega),h.pm.at (cu fun e=>by subst e; omega),h.dm.at (cu fun e=>by subst e; omega),⟨l,hl.at (cu fun e=>by subst e; omega)⟩,
  h.fb.at (fun b q=>cu fun e=>by have:=o5 b q; subst e; omega),h.bb.at (fun b q=>cu fun e=>by have:=o6 b q; subst e; omega),h.sep⟩
theorem PastIs.setC (h:PastIs st p m1 m2 m3 m4 fv bv tr P) {l':List (Int×Cl)} (ho:Oth st st' [m1]) (hm:MapIs st' m1 .i64 clA l'):PastIs st' p m1 m2 m3 m4 fv bv tr { P with calls:=l' }:=by
 obtain ⟨o,o0,o1,o2,o3,o4,o5,o6⟩:=h.sep
 obtain ⟨l,hl⟩:=h.sm
 have ha:∀ b,b≠m1→st'.boxes[b]? = st.boxes[b]?:=fun b q=>ho.2 b (by simpa using q)
 exact ⟨(cb (ha p fun e=>by subst e; omega)).trans h.get,hm,h.pm.at (ha _ fun e=>by subst e; omega),h.dm.at (ha _ fun e=>by subst e; omega),⟨l,hl.at (ha _ fun e=>by subst e; omega)⟩,
  h.fb.at (fun b q=>ha b fun e=>by have:=o5 b q; subst e; omega),h.bb.at (fun b q=>ha b fun e=>by have:=o6 b q; subst e; omega),h.sep⟩
theorem PastIs.setP (h:PastIs st p m1 m2 m3 m4 fv bv tr P) {l':List (Int×Bool)} (ho:Oth st st' [m2]) (hm:MapIs st' m2 .i64 blA l'):PastIs st' p m1 m2 m3 m4 fv bv tr { P with pend:=l' }:=by
 obtain ⟨o,o0,o1,o2,o3,o4,o5,o6⟩:=h.sep
 obtain ⟨l,hl⟩:=h.sm
 have ha:∀ b,b≠m2→st'.boxes[b]? = st.boxes[b]?:=fun b q=>ho.2 b (by simpa using q)
 exact ⟨(cb (ha p fun e=>by subst e; omega)).trans h.get,h.cm.at (ha _ fun e=>by subst e; omega),hm,h.dm.at (ha _ fun e=>by subst e; omega),⟨l,hl.at (ha _ fun e=>by subst e; omega)⟩,
  h.fb.at (fun b q=>ha b fun e=>by have:=o5 b q; subst e; omega),h.bb.at (fun b q=>ha b fun e=>by have:=o6 b q; subst e; omega),h.sep⟩
theorem PastIs.setD (h:PastIs st p m1 m2 m3 m4 fv bv tr P) {l':List (K3×Nat)} (ho:Oth st st' [m3]) (hm:Map3 st' m3 nAV l'):PastIs st' p m1 m2 m3 m4 fv bv tr { P with dl:=l' }:=by
 obtain ⟨o,o0,o1,o2,o3,o4,o5,o6⟩:=h.sep
 obtain ⟨l,hl⟩:=h.sm
 have ha:∀ b,b≠m3→st'.boxes[b]? = st.boxes[b]?:=fun b q=>ho.2 b (by simpa using q)
 exact ⟨(cb (ha p fun e=>by subst e; omega)).trans h.get,h.cm.at (ha _ fun e=>by subst e; omega),h.pm.at (ha _ fun e=>by subst e; omega),hm,⟨l,hl.at (ha _ fun e=>by subst e; omega)⟩,
  h.fb.at (fun b q=>ha b fun e=>by have:=o5 b q; subst e; omega),h.bb.at (fun b q=>ha b fun e=>by have:=o6 b q; subst e; omega),h.sep⟩
theorem PastIs.setS (h:PastIs st p m1 m2 m3 m4 fv bv tr P) {l':List (K3×Bool)} (ho:Oth st st' [m4]) (hm:Map3 st' m4 blA l'):PastIs st' p m1 m2 m3 m4 fv bv tr P:=by
 obtain ⟨o,o0,o1,o2,o3,o4,o5,o6⟩:=h.sep
 have ha:∀ b,b≠m4→st'.boxes[b]? = st.boxes[b]?:=fun b q=>ho.2 b (by simpa using q)
 exact ⟨(cb (ha p fun e=>by subst e; omega)).trans h.get,h.cm.at (ha _ fun e=>by subst e; omega),h.pm.at (ha _ fun e=>by subst e; omega),h.dm.at (ha _ fun e=>by subst e; omega),⟨l',hm⟩,
  h.fb.at (fun b q=>ha b fun e=>by have:=o5 b q; subst e; omega),h.bb.at (fun b q=>ha b fun e=>by have:=o6 b q; subst e; omega),h.sep⟩
theorem PastIs.setF (h:PastIs st p m1 m2 m3 m4 fv bv tr P) {fv':AV} {l':List Fl} {st1:St} (hk:Kp st st1 (ae fv)) (hf:RB flC 4 fv' st1 l') (hb:∀ b ∈ ae fv',b ∈ ae fv∨st.boxes.length≤b) :
  PastIs (st1.set p [tr,.map m1,.map m2,fv',.lit (.int .i64 P.opened),.map m3,.map m4,bv,.lit (.bool P.lis)]) p m1 m2 m3 m4 fv' bv tr { P with files:=l' }:=by
 obtain ⟨o,o0,o1,o2,o3,o4,o5,o6⟩:=h.sep
 obtain ⟨l,hl⟩:=h.sm
 have lp:=bP h.get
 have l1:=h.cm.lt
 have l2:=h.pm.lt
 have l3:=h.dm.lt
 have l4:=hl.lt
 have l6:=h.bb.lt
 have l5:=h.fb.lt
 have ha:∀ b,b < st.boxes.length→b≠p→b ∉ ae fv→(st1.set p [tr,.map m1,.map m2,fv',.lit (.int .i64 P.opened),.map m3,.map m4,bv,.lit (.bool P.lis)]).boxes[b]? = st.boxes[b]?:=fun b q1 q2 q3=>(cu q2).trans (hk.2 b q1 q3)
 have hn:∀ b,o b≠5→b ∉ ae fv:=fun b q e=>q (o5 b e)
 have hnf:∀ b ∈ ae fv',b≠p:=fun b q e=>by
  rcases hb b q with q | q
  ·have:=o5 b q; subst e; omega
  ·omega
 refine ⟨cr (by have:=hk.1; omega),h.cm.at (ha _ l1 (fun e=>by subst e; omega) (hn _ (by omega))),h.pm.at (ha _ l2 (fun e=>by subst e; omega) (hn _ (by omega))),h.dm.at (ha _ l3 (fun e=>by subst e; omega) (hn _ (by omega))),⟨l,hl.at (ha _ l4 (fun e=>by subst e; omega) (hn _ (by omega)))⟩,
  hf.at (fun b q=>cu (hnf b q)),h.bb.at (fun b q=>ha b (l6 b q) (fun e=>by have:=o6 b q; subst e; omega) (hn b (by have:=o6 b q; omega))),fun b=>if b < st.boxes.length then o b else 5,?_,?_,?_,?_,?_,fun b q=>?_,fun b q=>?_⟩
 ·simp only [if_pos lp]; exact o0
 ·simp only [if_pos l1]; exact o1
 ·simp only [if_pos l2]; exact o2
 ·simp only [if_pos l3]; exact o3
 ·simp only [if_pos l4]; exact o4
 ·rcases hb b q with q | q
  ·simp only [if_pos (l5 b q)]; exact o5 b q
  ·exact if_neg (by omega)
 ·simp only [if_pos (l6 b q)]; exact o6 b q
theorem PastIs.setB (h:PastIs st p m1 m2 m3 m4 fv bv tr P) {bv':AV} {l':List En} {st1:St} (hk:Kp st st1 (ae bv)) (hf:RB enC 12 bv' st1 l') (hb:∀ b ∈ ae bv',b ∈ ae bv∨st.boxes.length≤b) :
  PastIs (st1.set p [tr,.map m1,.map m2,fv,.lit (.int .i64 P.opened),.map m3,.map m4,bv',.lit (.bool P.lis)]) p m1 m2 m3 m4 fv bv' tr { P with bound:=l' }:=by
 obtain ⟨o,o0,o1,o2,o3,o4,o5,o6⟩:=h.sep
 obtain ⟨l,hl⟩:=h.sm
 have lp:=bP h.get
 have l1:=h.cm.lt
 have l2:=h.pm.lt
 have l3:=h.dm.lt
 have l4:=hl.lt
 have l6:=h.bb.lt
 have l5:=h.fb.lt
 have ha:∀ b,b < st.boxes.length→b≠p→b ∉ ae bv→(st1.set p [tr,.map m1,.map m2,fv,.lit (.int .i64 P.opened),.map m3,.map m4,bv',.lit (.bool P.lis)]).boxes[b]? = st.boxes[b]?:=fun b q1 q2 q3=>(cu q2).trans (hk.2 b q1 q3)
 have hn:∀ b,o b≠6→b ∉ ae bv:=fun b q e=>q (o6 b e)
 have hnf:∀ b ∈ ae bv',b≠p:=fun b q e=>by
  rcases hb b q with q | q
  ·have:=o6 b q; subst e; omega
  ·omega
 refine ⟨cr (by have:=hk.1; omega),h.cm.at (ha _ l1 (fun e=>by subst e; omega) (hn _ (by omega))),h.pm.at (ha _ l2 (fun e=>by subst e; omega) (hn _ (by omega))),h.dm.at (ha _ l3 (fun e=>by subst e; omega) (hn _ (by omega))),⟨l,hl.at (ha _ l4 (fun e=>by subst e; omega) (hn _ (by omega)))⟩,
  h.fb.at (fun b q=>ha b (l5 b q) (fun e=>by have:=o5 b q; subst e; omega) (hn b (by have:=o5 b q; omega))),hf.at (fun b q=>cu (hnf b q)),fun b=>if b < st.boxes.length then o b else 6,?_,?_,?_,?_,?_,fun b q=>?_,fun b q=>?_⟩
 ·simp only [if_pos lp]; exact o0
 ·simp only [if_pos l1]; exact o1
 ·simp only [if_pos l2]; exact o2
 ·simp only [if_pos l3]; exact o3
 ·simp only [if_pos l4]; exact o4
 ·simp only [if_pos (l5 b q)]; exact o5 b q
 ·rcases hb b q with q | q
  ·simp only [if_pos (l6 b q)]; exact o6 b q
  ·exact if_neg (by omega)
end
end Go.Fx.YtgnockaonokmaaaFx

namespace Go.Fx.YtgnockaonokmaaaFx
open Go Go.Fx
attribute [local irreducible] aC runI az bj

set_option maxRecDepth 100000
set_option maxHeartbeats 4000000

def St.only (st:St) (G:List Nat):St:=⟨st.boxes.mapIdx fun i b=>if i ∈ G then b else none⟩
theorem only_at (st:St) {G:List Nat} {x:Nat} (h:x ∈ G):(St.only st G).boxes[x]? = st.boxes[x]?:=by
 unfold St.only
 rw [List.getElem?_mapIdx]
 simp only [h,if_true]
 cases st.boxes[x]? <;> rfl
theorem only_sub {st st':St} {G:List Nat} (h:∀ x ∈ G,x < st.boxes.length→st'.boxes[x]? = st.boxes[x]?):St.sub (St.only st G) st':=fun id b hb=>by
 unfold St.only at hb
 rw [List.getElem?_mapIdx] at hb
 obtain ⟨c,hc,hd⟩:=Option.map_eq_some_iff.1 hb
 by_cases hg:id ∈ G
 ·rw [if_pos hg] at hd
  subst hd
  rw [h id hg (List.getElem?_eq_some_iff.1 hc).1]
  exact hc
 ·rw [if_neg hg] at hd
  cases hd

theorem Kp.wide {st st':St} {F F':List Nat} (h:Kp st st' F) (hf:∀ x ∈ F,x ∈ F'):Kp st st' F':=⟨h.1,fun i hi hn=>h.2 i hi fun e=>hn (hf i e)⟩
structure PastK (B:Nat→Prop) (st:St) (p:Nat) (tr:AV) (P:PS):Prop where
 ex:∃ m1 m2 m3 m4 fv bv,PastIs st p m1 m2 m3 m4 fv bv tr P∧∀ b ∈ pIds p m1 m2 m3 m4 fv bv,B b
def Lo (B:Nat→Prop) (st st':St):Prop:=st.boxes.length≤st'.boxes.length∧∀ b,b < st.boxes.length→¬ B b→st'.boxes[b]? = st.boxes[b]?
theorem Lo.refl (B:Nat→Prop) (st:St):Lo B st st:=⟨Nat.le_refl _,fun _ _ _=>rfl⟩
theorem Lo.trans {B:Nat→Prop} {a b c:St} (h:Lo B a b) (k:Lo B b c):Lo B a c:=⟨Nat.le_trans h.1 k.1,fun x hx hn=>(k.2 x (Nat.lt_of_lt_of_le hx h.1) hn).trans (h.2 x hx hn)⟩
theorem Lo.kp {B:Nat→Prop} {st st':St} {F:List Nat} (h:Kp st st' F) (hf:∀ b ∈ F,B b):Lo B st st':=⟨h.1,fun b hb hn=>h.2 b hb fun q=>hn (hf b q)⟩
theorem Lo.oth {B:Nat→Prop} {st st':St} {F:List Nat} (h:Oth st st' F) (hf:∀ b ∈ F,B b):Lo B st st':=⟨Nat.le_of_eq h.1.symm,fun b _ hn=>h.2 b fun q=>hn (hf b q)⟩
theorem Lo.set {B:Nat→Prop} (st:St) {p:Nat} (cs:List AV) (h:B p):Lo B st (st.set p cs):=Lo.oth (Oth.set st p cs (S:=[p]) (by simp)) (by simpa using h)
theorem Lo.push {B:Nat→Prop} (st:St) (b:Box):Lo B st (st.push b):=⟨by rw [am]; omega,fun x hx _=>bp hx⟩

def gH (f1 f2:Int) (l:List Fl):Option Fl:=l.find? (bJ f1 f2)
def findR:Option Fl→List AV
 | some x=>[.lit (.int .i64 x.kind),.lit (.bool x.on)]
 | none=>[.lit (.int .i64 0),.lit (.bool false)]
section
variable {st:St} {p m1 m2 m3 m4:Nat} {fv bv tr:AV} {P:PS}
theorem nA (h:PastIs st p m1 m2 m3 m4 fv bv tr P) (hl:P.files.length < 100000) (f1 f2:Int) :
  aI Go.Proofs.Try.prog n_f60 [.ptr p 0,.agg [.lit (.int .i64 f1),.lit (.int .i64 f2)]] st (.tup (findR (gH f1 f2 P.files))):=by
 refine aP hmix k_f60 rfl rfl fun Q hQ=>?_
 unfold aFun c_f60
 have hg:=h.get
 obtain ⟨v1,v2,v3,v4,v5,v6,v7,v8⟩:=h.fb.facts
 simp (config:=KF) (disch:=omega) only [bZ,bN,aJ,addA,aa,↓reduceIte,Nat.reduceEqDiff,Nat.reduceAdd,reduceCtorEq,hg,v1,v8]
 rw [f60_7w]
 refine cJ (A:=Nat) (fun k=>P.files.length - k) (fun k=>⟨[(3,.lptr 3 0),(11,fv),(12,.lit (.int .i64 (P.files.length:Nat))),(13,.lit (.int .i64 (k:Nat)))],[(3,[.lit (.int .i64 f1),.lit (.int .i64 f2)])]⟩) (fun _=>st)
  (fun k=>k≤P.files.length∧∀ j (h:j < P.files.length),j < k→bJ f1 f2 P.files[j] = false) 0 ⟨Nat.zero_le _,fun _ _ h=>by omega⟩ (Sf.le_refl _) rfl ?_
 rintro k ⟨h1,h2⟩ K hK hKe hKr
 try dsimp only
 by_cases hk:k < P.files.length
 ·rcases h.fb with ⟨_,e⟩ | ⟨bi,cap,r,rfl,hgb,h3,h4⟩
  ·rw [e] at hk; simp at hk
  obtain ⟨t,hd⟩:=eF dR hk r
  have hf:bJ f1 f2 P.files[k] = true→gH f1 f2 P.files = some P.files[k]:=fun q=>by
   unfold gH
   rw [List.find?_eq_some_iff_getElem]
   exact ⟨q,k,hk,rfl,fun j hj=>by simp [h2 j (by omega) hj]⟩
  have hnx:bJ f1 f2 P.files[k] = false→∀ j (h:j < P.files.length),j < k + 1→bJ f1 f2 P.files[j] = false:=fun q j hj hjk=>by
   by_cases e:j = k
   ·subst e; exact q
   ·exact h2 j hj (by omega)
  generalize P.files[k] = x at hd hf hnx
  simp only [gG,List.cons_append,List.nil_append] at hd
  have he:=om x.f1 x.f2 f1 f2
  simp (config:=KF) (disch:=omega) only [bZ,b9,bw,ixSV,aw,addA,aa,bD,gW,↓reduceIte,Nat.reduceEqDiff,Nat.reduceAdd,Nat.reduceLeDiff,ai,hgb,hd,he]
  refine lV (fun c=>?_) (fun c=>?_)
  ·have hx:bJ f1 f2 x = true:=decide_eq_true c
   rw [hf hx] at hQ
   simp (config:=KF) (disch:=omega) only [bZ,bk,aZ,aD,addA,aa,↓reduceIte,Nat.reduceEqDiff]
   refine hKr _ _ ?_
   simp (config:=KF) (disch:=omega) only [bZ,aD,retI,resI,↓reduceIte,Nat.reduceEqDiff]
   exact hQ _
  ·simp (config:=KF) (disch:=omega) only [bZ,↓reduceIte,Nat.reduceEqDiff,aR]
   exact hK (k + 1) _ ⟨by omega,hnx (decide_eq_false c)⟩ (by omega) (Sf.le_refl _)
 ·simp (config:=KF) (disch:=omega) only [bZ,↓reduceIte,Nat.reduceEqDiff]
  refine hKe _ _ _ ?_
  simp (config:=KF) (disch:=omega) only [bZ,retI,resI,↓reduceIte,Nat.reduceEqDiff]
  have:gH f1 f2 P.files = none:=by
   unfold gH
   rw [List.find?_eq_none]
   intro x hx
   obtain ⟨j,hj,rfl⟩:=List.getElem_of_mem hx
   simp [h2 j hj (by omega)]
  rw [this] at hQ
  exact hQ _
end

def f0 (f1 f2 kind:Int) (P:PS):PS:={ P with files:=P.files.filter (fun x=>!bJ f1 f2 x)++[⟨f1,f2,kind,true⟩] }
theorem fW {st:St} {p m1 m2 m3 m4:Nat} {fv bv tr:AV} {P:PS} (h1:PastIs st p m1 m2 m3 m4 fv bv tr P) (hl:P.files.length < 99999) (f1 f2 kind:Int) :
  aF Go.Proofs.Try.prog n_f68 [.ptr p 0,.agg [.lit (.int .i64 f1),.lit (.int .i64 f2)],.lit (.int .i64 kind)] st (fun _ st'=>∃ fv',PastIs st' p m1 m2 m3 m4 fv' bv tr (f0 f1 f2 kind P)∧Kp st st' (p::ae fv)∧∀ b ∈ ae fv',b ∈ ae fv∨st.boxes.length≤b):=by
 refine a8 hmix k_f68 rfl rfl fun Q hQ=>?_
 unfold aFun c_f68
 have hp0:=h1.kp (st':=st.push (.cells [.lit (.int .i64 f1),.lit (.int .i64 f2)])) ⟨by rw [am]; omega,fun b hb _=>bp hb⟩
 have hlt:=h1.lts
 have hm:∀ b,b ∈ pIds p m1 m2 m3 m4 fv bv↔b = p∨b = m1∨b = m2∨b = m3∨b = m4∨b ∈ ae fv∨b ∈ ae bv:=fun b=>by simp [pIds]
 have hg:=hp0.get
 have htb:=cQ st [.lit (.int .i64 f1),.lit (.int .i64 f2)]
 obtain ⟨v1,v2,v3,v4,v5,v6,v7,v8⟩:=h1.fb.facts
 simp (config:=KF) (disch:=omega) only [bZ,dU,↓reduceIte,Nat.reduceEqDiff,Nat.reduceAdd,reduceCtorEq,f68_1e]
 obtain ⟨s0,hs0⟩:∃ s0,s0 = st.push (.cells [.lit (.int .i64 f1),.lit (.int .i64 f2)]):=⟨_,rfl⟩
 rw [← hs0] at hp0 hg htb ⊢
 have hl0:s0.boxes.length = st.boxes.length + 1:=by rw [hs0,am]
 have hgr:=(cb (only_at s0 (G:=[p,st.boxes.length]) (x:=p) (by simp))).trans hg
 have htr':=(cb (only_at s0 (G:=[p,st.boxes.length]) (x:=st.boxes.length) (by simp))).trans htb
 have hsub:St.sub (St.only s0 [p,st.boxes.length]) s0:=only_sub fun _ _ _=>rfl
 simp (config:=KF) (disch:=omega) only [bZ,f68_3e,f68_3h,f68_3p,f68_3l]
 refine draw_m (St.only s0 [p,st.boxes.length]) hsub ?_
 simp (config:=KF) (disch:=omega) only [bZ,nu,j4,nv,il,mm_addr,eY,mm_nilck,mm_mkfn,atM_eq,ft,dropP,dropQ,lH,aJ,ni,addA,aa,id,fS,List.append_nil,List.nil_append,List.cons_append,↓reduceIte,Nat.reduceEqDiff,reduceCtorEq,hgr,v1]
 refine call_m (vs:=[fv,.fn (.func n_f79) [] [.ptr st.boxes.length 0]]) (by simp [v1]; rfl) e_f78 (delFF_calls hp0.fb htb (fun q=>by have:=h1.fb.lt _ q; omega) (by omega)) (by simp [v5]; rfl) ?_
 simp (config:=KF) (disch:=omega) only [bZ,ksB,au,aT,br,aE,nstB,bt,il,eY,mm_bsl,mm_bst,hm_nil,oc,hm_val,l9,and_self,bslV,bstV,List.reduceReplicate,aa,dM,bg,fB,aL,List.nil_append,List.cons_append,↓reduceIte,Nat.reduceEqDiff,Nat.reduceAdd,Nat.reduceLT,Nat.reduceLeDiff,reduceCtorEq,ai,htr']
 rintro w s1 ⟨w1,w2,w3⟩
 have hpn:∀ b ∈ [p,st.boxes.length],b ∉ ae fv:=fun b hb q=>by
  obtain ⟨o,o0,_,_,_,_,o5,_⟩:=h1.sep
  have:=o5 b q
  have:=h1.fb.lt b q
  simp only [List.mem_cons,List.not_mem_nil,or_false] at hb
  rcases hb with e | e
  ·subst e; omega
  ·omega
 refine ⟨only_sub fun b hb hl=>w3.2 b (hpn b hb),?_⟩
 obtain ⟨u1,u2,u3,u4,u5,u6,u7,u8⟩:=w1.facts
 simp (config:=KF) (disch:=omega) only [bZ,ksB,au,aT,br,aE,bH,bq,nstB,bt,nu,j4,nv,il,eY,mm_bsl,mm_bst,l8,j5,og,ma,od,and_self,o_x,bslV,bstV,ar,List.reduceReplicate,aa,srcA,dM,bg,fB,aL,List.nil_append,List.cons_append,↓reduceIte,Nat.reduceEqDiff,Nat.reduceAdd,Nat.reduceLT,Nat.reduceLeDiff,reduceCtorEq,ai,htr']
 have hfl:(P.files.filter fun x=>!bJ f1 f2 x).length≤P.files.length:=List.length_filter_le ..
 refine RB.app dR w1 (new:=[⟨f1,f2,kind,true⟩]) (jl (by simp only [List.length_cons,List.length_nil]; omega)) fun w' s2 g1 g2 g3=>?_
 obtain ⟨y1,y2,y3,y4,y5,y6,y7,y8⟩:=g1.facts
 have hk02:Kp s0 s2 (ae fv):=(w3.kp fun _ q=>q).trans g2 fun x hx=>.inl (by rw [← w2]; exact hx)
 have hg2:=(cb (hk02.2 p (bP hg) (hpn p (by simp)))).trans hg
 simp (config:=KF) (disch:=omega) only [bZ,aA,retI,gU,bN,aJ,aw,addA,↓reduceIte,Nat.reduceEqDiff,Nat.reduceAdd,Nat.reduceLeDiff,reduceCtorEq,ai,hg2,y1,y4,y6]
 refine hQ _ _ ⟨w',hp0.setF hk02 g1 fun b hb=>?_,?_,fun b hb=>?_⟩
 ·rcases g3 b hb with q | q
  ·rw [w2] at q; exact .inl q
  ·have:=w3.1; exact .inr (by omega)
 ·have h01:Kp st s0 []:=by rw [hs0]; exact ⟨by rw [am]; omega,fun b hb _=>bp hb⟩
  exact Kp.trans (Kp.wide (F':=p::ae fv) h01 (by simp)) (Kp.trans (Kp.wide (F':=p::ae fv) hk02 (fun _ q=>by simp [q])) ((Oth.set s2 p _ (S:=[p]) (by simp)).kp (F:=p::ae fv) (by simp)) (fun _ q=>.inl q)) (fun _ q=>.inl q)
 ·rcases g3 b hb with q | q
  ·rw [w2] at q; exact .inl q
  ·have:=w3.1; exact .inr (by omega)
end Go.Fx.YtgnockaonokmaaaFx

