/- What the functions that the statement reaches compute: part 1. -/
import Derived.Test.YtgnockaonokmaaaFxT
namespace Go.Fx.YtgnockaonokmaaaFx
open Go Go.Fx
attribute [local irreducible] aC runI az bj

set_option maxRecDepth 100000
set_option maxHeartbeats 4000000

theorem cellsD_cons (x:AV) (l:List AV):cellsD (x::l) = x.dis.cells++cellsD l:=by
 unfold cellsD; rw [List.map_cons,List.flatMap_cons]
section
variable {α:Type} {c:α→List AV} {k:Nat}
structure RC (c:α→List AV) (k:Nat):Prop where
 len:∀ a,(c a).length = k
 own:∀ a,(c a).map AV.own1 = c a
def rcs (c:α→List AV) (l:List α):List AV:=l.flatMap c
def rcA (c:α→List AV) (a:α):AV:=.agg (c a)
theorem aV (hc:RC c k):∀ l:List α,(rcs c l).length = l.length * k
 | []=>by simp [rcs]
 | a :: l => by
   have:=aV hc l
   unfold rcs at this ⊢
   rw [List.flatMap_cons,List.length_append,this,hc.len,List.length_cons,Nat.succ_mul]; omega
theorem e6 (c:α→List AV) (a b:List α):rcs c (a++b) = rcs c a++rcs c b:=List.flatMap_append
theorem rcs_own (hc:RC c k):∀ l:List α,(rcs c l).map AV.own1 = rcs c l
 | []=>rfl
 | a :: l => by
   have:=rcs_own hc l
   unfold rcs at this ⊢
   rw [List.flatMap_cons,List.map_append,this,hc.own]
theorem e7 (hc:RC c k) (a:α):(rcA c a).dis = rcA c a:=by
 unfold rcA; rw [gV,hc.own]
theorem j7 (hc:RC c k):∀ l:List α,cellsD (l.map (rcA c)) = rcs c l
 | []=>rfl
 | a :: l => by
   have:=j7 hc l
   rw [List.map_cons,cellsD_cons,this,e7 hc]
   rfl
theorem eF (hc:RC c k) {l:List α} {j:Nat} (hj:j < l.length) (r:List AV):∃ t,(rcs c l++r).drop (j * k) = c l[j]++t:=by
 refine ⟨rcs c (l.drop (j + 1))++r,?_⟩
 have h1:l = l.take j++l[j]::l.drop (j + 1):=by
  conv=>lhs; rw [← List.take_append_drop j l,List.drop_eq_getElem_cons hj]
 have h2:(rcs c (l.take j)).length = j * k:=by rw [aV hc,List.length_take,Nat.min_eq_left (by omega)]
 have h3:rcs c l++r = rcs c (l.take j)++(c l[j]++(rcs c (l.drop (j + 1))++r)):=by
  conv=>lhs; rw [h1]
  rw [e6]
  unfold rcs
  rw [List.flatMap_cons]
  simp only [List.append_assoc]
 rw [h3,List.drop_left' h2]
theorem rcs_set (hc:RC c k) {l:List α} {j:Nat} (hj:j < l.length) (x:α) (r:List AV):aS (rcs c l++r) (j * k) (c x) = rcs c (l.set j x)++r:=by
 have h1:l = l.take j++l[j]::l.drop (j + 1):=by
  conv=>lhs; rw [← List.take_append_drop j l,List.drop_eq_getElem_cons hj]
 have h2:(rcs c (l.take j)).length = j * k:=by rw [aV hc,List.length_take,Nat.min_eq_left (by omega)]
 have h3:rcs c l++r = rcs c (l.take j)++(c l[j]++(rcs c (l.drop (j + 1))++r)):=by
  conv=>lhs; rw [h1]
  rw [e6]
  unfold rcs
  rw [List.flatMap_cons]
  simp only [List.append_assoc]
 have h4:rcs c (l.set j x)++r = rcs c (l.take j)++(c x++(rcs c (l.drop (j + 1))++r)):=by
  rw [List.set_eq_take_append_cons_drop,if_pos hj,e6]
  unfold rcs
  rw [List.flatMap_cons]
  simp only [List.append_assoc]
 rw [h3,h4,gE h2.symm (by rw [List.length_append,hc.len,hc.len]; omega),List.drop_left' (by rw [hc.len,hc.len])]

theorem ol (a:α):∀ n:Nat,(List.replicate n (rcA c a)).flatMap AV.cells = rcs c (List.replicate n a)
 | 0=>rfl
 | n + 1 => by
   rw [List.replicate_succ,List.replicate_succ,List.flatMap_cons,ol a n]
   rfl
theorem rcs_clr (hc:RC c k) {cur new:List α} {i:Nat} (hi:i≤cur.length) (hn:i + new.length = cur.length) (r:List AV):aS (rcs c cur++r) (i * k) (rcs c new) = rcs c (cur.take i)++(rcs c new++r):=by
 have h1:rcs c cur++r = rcs c (cur.take i)++(rcs c (cur.drop i)++r):=by
  rw [← List.append_assoc,← e6,List.take_append_drop]
 have h2:(rcs c (cur.take i)).length = i * k:=by rw [aV hc,List.length_take,Nat.min_eq_left hi]
 have h3:(rcs c new).length = (rcs c (cur.drop i)).length:=by rw [aV hc,aV hc,List.length_drop]; congr 1; omega
 rw [h1,gE h2.symm (by rw [List.length_append,h3]; omega),List.drop_left' h3.symm]

def RB (c:α→List AV) (k:Nat) (v:AV) (st:St) (l:List α):Prop:=(v = .lit (.slice none 0 0)∧l = [])∨∃ id cap r,v = .bs id k 0 l.length cap∧st.get id = some (rcs c l++r)∧l.length≤cap∧cap * k≤(rcs c l++r).length
variable {v:AV} {st st':St} {l:List α}
theorem RB.facts (h:RB c k v st l):v.dis = v∧v.own1 = v∧v.own2 = v∧v.solid1 = true∧v.noL = true∧v.cells = [v]∧(∀ s,kill s v = v)∧∀ st',lenI .sl st' v = .ok (.lit (.int .i64 (l.length:Nat))):=by
 rcases h with ⟨rfl,rfl⟩ | ⟨id,cap,r,rfl,_⟩
 ·exact ⟨rfl,rfl,rfl,rfl,rfl,rfl,fun _=>rfl,fun _=>rfl⟩
 ·exact ⟨rfl,rfl,rfl,rfl,rfl,rfl,fun _=>rfl,fun _=>rfl⟩
theorem RB.at (h:RB c k v st l) (hb:∀ x ∈ ae v,st'.boxes[x]? = st.boxes[x]?):RB c k v st' l:=by
 rcases h with h | ⟨id,cap,r,rfl,hg,h1,h2⟩
 ·exact .inl h
 ·exact .inr ⟨id,cap,r,rfl,(cb (hb id (by simp [ae]))).trans hg,h1,h2⟩
theorem RB.lt (h:RB c k v st l):∀ x ∈ ae v,x < st.boxes.length:=by
 rcases h with ⟨rfl,_⟩ | ⟨id,cap,r,rfl,hg,_⟩
 ·simp [ae]
 ·intro x hx; simp only [ae,List.mem_singleton] at hx; subst hx; exact bP hg
theorem RB.nil (c:α→List AV) (k:Nat) (st:St):RB c k (.lit (.slice none 0 0)) st []:=.inl ⟨rfl,rfl⟩
theorem RB.app (hc:RC c k) (h:RB c k v st l) {bytes:Nat} {new:List α} (hr:gc (l.length + new.length) bytes = true) {C:AV→St→Prop} (hC:∀ v' st',RB c k v' st' (l++new)→Kp st st' (ae v)→(∀ x ∈ ae v',x ∈ ae v∨st.boxes.length≤x)→C v' st'):appX false k bytes v C st (new.map (rcA c)):=by
 rcases h with ⟨rfl,rfl⟩ | ⟨id,cap,r,rfl,hg,h1,h2⟩
 ·refine ⟨rfl,by rw [List.length_map]; simpa using hr,?_⟩
  cases new with
  | nil=>exact hC _ _ (RB.nil c k _) (Kp.refl _ _) (by simp [ae])
  | cons p r =>
    refine fun cc hcc=>hC _ _ (.inr ⟨st.boxes.length,cc,List.replicate ((cc - (p::r).length) * k) .any,by simp,?_,by simpa using hcc,?_⟩) ⟨by rw [am]; omega,fun i hi _=>bp hi⟩ (by simp [ae])
    ·rw [j7 hc,List.length_map]
     simp only [List.nil_append]
     exact cQ _ _
    ·rw [List.nil_append,List.length_append,aV hc,List.length_replicate,← Nat.add_mul]
     rw [List.length_map] at hcc
     exact Nat.mul_le_mul_right k (by omega)
 ·have hid:=bP hg
  refine ⟨rfl,rfl,by rw [List.length_map]; exact hr,?_⟩
  rw [hg]
  show (Res.ok _).wp _
  rw [wp_ok,j7 hc,List.length_map]
  rw [List.length_append,aV hc] at h2
  split
  ·rename_i hcc
   have hmul:(l.length + new.length) * k≤cap * k:=Nat.mul_le_mul_right k hcc
   rw [Nat.add_mul] at hmul
   have hsa:aS (rcs c l++r) (0 + l.length * k) (rcs c new) = rcs c (l++new)++r.drop (new.length * k):=by
    rw [Nat.zero_add,gE (aV hc l).symm (by rw [aV hc]; omega),aV hc,e6]
    simp
   refine ⟨by simp only [List.length_append,aV hc,Nat.add_mul]; omega,hC _ _ (.inr ⟨id,cap,r.drop (new.length * k),by simp,?_,by simpa using hcc,?_⟩) ((Oth.set st id _ (S:=[id]) (by simp)).kp (by simp [ae])) (by simp [ae])⟩
   ·rw [cr hid,hsa]
   ·simp only [List.length_append,aV hc,List.length_drop,Nat.add_mul]; omega
  ·rename_i hcc
   refine ⟨by rw [List.length_append,aV hc]; omega,fun cc hcc=>hC _ _ (.inr ⟨st.boxes.length,cc,List.replicate ((cc - (l.length + new.length)) * k) .any,by simp,?_,by simpa using hcc,?_⟩) ⟨by rw [am]; omega,fun i hi _=>bp hi⟩ (by simp [ae])⟩
   ·rw [List.drop_zero,List.take_left' (aV hc l),rcs_own hc,← e6]
    exact cQ _ _
   ·rw [List.length_append,aV hc,List.length_replicate,List.length_append,← Nat.add_mul]
    exact Nat.mul_le_mul_right k (by omega)
end

def Fz (v:AV):Prop:=v = .lit (.slice none 0 0)∨∃ k es,v = .sl false k es
structure FV where
 v:AV
 h:Fz v
section
variable (x:FV)
theorem ak:x.v.own1 = x.v:=by rcases x.h with h | ⟨k,es,h⟩ <;> rw [h] <;> rfl
theorem al:x.v.solid1 = true:=by rcases x.h with h | ⟨k,es,h⟩ <;> rw [h] <;> rfl
theorem eG:x.v.noL = true:=by rcases x.h with h | ⟨k,es,h⟩ <;> rw [h] <;> rfl
end
def fv0:FV:=⟨.lit (.slice none 0 0),.inl rfl⟩

structure Cl where
 kind:Int
 f1:Int
 f2:Int
 t1:Int
 t2:Int
 nm:ByteArray
 port:Int
 data:FV
 most:Int
 n:Int
 dir:Int
 at_:Nat
structure En where
 task:Int
 kind:Int
 err:Int
 n:Int
 data:FV
 f1:Int
 f2:Int
 t1:Int
 t2:Int
 nm:ByteArray
 port:Int
 at_:Nat
structure Ev where
 kind:Int
 task:Int
 call:Cl
 err:Int
 done:Bool
 en:En
 woke:FV
 now:Nat
def clC (c:Cl):List AV:=[.lit (.int .i64 c.kind),.lit (.int .i64 c.f1),.lit (.int .i64 c.f2),.lit (.int .i64 c.t1),.lit (.int .i64 c.t2),.lit (.string c.nm),.lit (.int .i64 c.port),c.data.v,.lit (.int .i64 c.most),.lit (.int .i64 c.n),.lit (.int .i64 c.dir),.lit (.int .u64 (c.at_:Nat))]
def enC (e:En):List AV:=[.lit (.int .i64 e.task),.lit (.int .i64 e.kind),.lit (.int .i64 e.err),.lit (.int .i64 e.n),e.data.v,.lit (.int .i64 e.f1),.lit (.int .i64 e.f2),.lit (.int .i64 e.t1),.lit (.int .i64 e.t2),.lit (.string e.nm),.lit (.int .i64 e.port),.lit (.int .u64 (e.at_:Nat))]
def evC (e:Ev):List AV:=.lit (.int .i64 e.kind)::.lit (.int .i64 e.task)::(clC e.call++(.lit (.int .i64 e.err)::.lit (.bool e.done)::(enC e.en++[e.woke.v,.lit (.int .u64 (e.now:Nat))])))
def evA (e:Ev):AV:=.agg (evC e)
structure Fl where
 f1:Int
 f2:Int
 kind:Int
 on:Bool
def flC (f:Fl):List AV:=[.lit (.int .i64 f.f1),.lit (.int .i64 f.f2),.lit (.int .i64 f.kind),.lit (.bool f.on)]
theorem gG (f:Fl):flC f = [.lit (.int .i64 f.f1),.lit (.int .i64 f.f2),.lit (.int .i64 f.kind),.lit (.bool f.on)]:=rfl
theorem df (c:Cl):clC c = [.lit (.int .i64 c.kind),.lit (.int .i64 c.f1),.lit (.int .i64 c.f2),.lit (.int .i64 c.t1),.lit (.int .i64 c.t2),.lit (.string c.nm),.lit (.int .i64 c.port),c.data.v,.lit (.int .i64 c.most),.lit (.int .i64 c.n),.lit (.int .i64 c.dir),.lit (.int .u64 (c.at_:Nat))]:=rfl
theorem j8 (e:En):enC e = [.lit (.int .i64 e.task),.lit (.int .i64 e.kind),.lit (.int .i64 e.err),.lit (.int .i64 e.n),e.data.v,.lit (.int .i64 e.f1),.lit (.int .i64 e.f2),.lit (.int .i64 e.t1),.lit (.int .i64 e.t2),.lit (.string e.nm),.lit (.int .i64 e.port),.lit (.int .u64 (e.at_:Nat))]:=rfl
theorem dR:RC flC 4:=⟨fun _=>rfl,fun _=>rfl⟩
theorem fF:RC enC 12:=⟨fun _=>rfl,fun e=>by unfold enC; simp only [List.map_cons,List.map_nil,eC,ak]⟩
theorem cl_own (c:Cl):(clC c).map AV.own1 = clC c:=by unfold clC; simp only [List.map_cons,List.map_nil,eC,ak]
theorem ev_own (e:Ev):(evC e).map AV.own1 = evC e:=by
 have h1:=cl_own e.call
 have h2:=fF.own e.en
 unfold evC
 simp only [List.map_cons,List.map_nil,List.map_append,eC,ak,h1,h2]
theorem ev_dis (e:Ev):(evA e).dis = evA e:=by unfold evA; rw [gV,ev_own]
theorem eH {l:List Ev} {j:Nat} (hj:j < l.length):(l.map evA).getD j .any = .agg (evC l[j]):=by simp [hj,evA]
end Go.Fx.YtgnockaonokmaaaFx

namespace Go.Fx.YtgnockaonokmaaaFx
open Go Go.Fx
attribute [local irreducible] aC runI az bj

set_option maxRecDepth 100000
set_option maxHeartbeats 4000000

def ixI (o:Option Nat):Int:=match o with | some k=>(k:Int) | none=>-1
theorem om (a b c d:Int):binI (.agg (.field 0 1 .int (.field 1 1 .int .tt))) .eql (.agg [.lit (.int .i64 a),.lit (.int .i64 b)]) (.agg [.lit (.int .i64 c),.lit (.int .i64 d)]) = .ok (.lit (.bool (decide (a = c∧b = d)))):=by
 have h:((a == c) && ((b == d) && true)) = decide (a = c∧b = d):=Bool.eq_iff_iff.2 (by simp)
 rw [← h]
 rfl
theorem fd_neq (a b c d:Int):binI (.agg (.field 0 1 .int (.field 1 1 .int .tt))) .neq (.agg [.lit (.int .i64 a),.lit (.int .i64 b)]) (.agg [.lit (.int .i64 c),.lit (.int .i64 d)]) = .ok (.lit (.bool (decide (¬ (a = c∧b = d))))):=by
 have h:(!((a == c) && ((b == d) && true))) = decide (¬ (a = c∧b = d)):=Bool.eq_iff_iff.2 (by simp)
 rw [← h]
 rfl

def bJ (f1 f2:Int) (x:Fl):Bool:=decide (x.f1 = f1∧x.f2 = f2)
def c9 (f1 f2:Int) (x:En):Bool:=decide (x.f1 = f1∧x.f2 = f2)
theorem me {st:St} {tb:Nat} {f1 f2:Int} {r:List AV} (h:st.get tb = some (.lit (.int .i64 f1)::.lit (.int .i64 f2)::r)) (x:Fl):aI Go.Proofs.Try.prog n_f79 [rcA flC x,.ptr tb 0] st (.lit (.bool (bJ f1 f2 x))):=by
 refine aP hmix k_f79 rfl rfl fun Q hQ=>?_
 unfold aFun c_f79 rcA flC
 have he:=om x.f1 x.f2 f1 f2
 simp (config:=KF) (disch:=omega) only [bZ,retI,addA,aa,↓reduceIte,Nat.reduceEqDiff,Nat.reduceAdd,Nat.reduceLeDiff,reduceCtorEq,h,he]
 exact hQ _
theorem mf {st:St} {tb:Nat} {k:AV} {f1 f2:Int} {r:List AV} (h:st.get tb = some (k::.lit (.int .i64 f1)::.lit (.int .i64 f2)::r)) (x:En):aI Go.Proofs.Try.prog n_f70 [rcA enC x,.ptr tb 0] st (.lit (.bool (c9 f1 f2 x))):=by
 refine aP hmix k_f70 rfl rfl fun Q hQ=>?_
 unfold aFun c_f70 rcA enC
 have he:=om x.f1 x.f2 f1 f2
 simp (config:=KF) (disch:=omega) only [bZ,retI,addA,aa,↓reduceIte,Nat.reduceEqDiff,Nat.reduceAdd,Nat.reduceLeDiff,reduceCtorEq,h,he,ak,al]
 exact hQ _
end Go.Fx.YtgnockaonokmaaaFx

