/- What the functions that the statement reaches compute: part 1. -/
import Derived.Test.YtoiokbmgdcaaoaaFxT
namespace Go.Fx.YtoiokbmgdcaaoaaFx
open Go Go.Fx
attribute [local irreducible] aC runI bL aq

set_option maxRecDepth 100000
set_option maxHeartbeats 4000000

theorem cellsD_cons (x:AV) (l:List AV):cellsD (x::l) = x.dis.cells++cellsD l:=by
 unfold cellsD; rw [List.map_cons,List.flatMap_cons]
section
variable {α:Type} {c:α→List AV} {k:Nat}
structure RC (c:α→List AV) (k:Nat):Prop where
 len:∀ a,(c a).length = k
 own:∀ a,(c a).map AV.own1 = c a
def rcs (c:α→List AV) (l:List α):List AV:=l.flatMap c
def rcA (c:α→List AV) (a:α):AV:=.agg (c a)
theorem dm (hc:RC c k):∀ l:List α,(rcs c l).length = l.length * k
 | []=>by simp [rcs]
 | a :: l => by
   have:=dm hc l
   unfold rcs at this ⊢
   rw [List.flatMap_cons,List.length_append,this,hc.len,List.length_cons,Nat.succ_mul]; omega
theorem rcs_app (c:α→List AV) (a b:List α):rcs c (a++b) = rcs c a++rcs c b:=List.flatMap_append
theorem rcs_own (hc:RC c k):∀ l:List α,(rcs c l).map AV.own1 = rcs c l
 | []=>rfl
 | a :: l => by
   have:=rcs_own hc l
   unfold rcs at this ⊢
   rw [List.flatMap_cons,List.map_append,this,hc.own]
theorem rcA_dis (hc:RC c k) (a:α):(rcA c a).dis = rcA c a:=by
 unfold rcA; rw [ao,hc.own]
theorem iP (hc:RC c k):∀ l:List α,cellsD (l.map (rcA c)) = rcs c l
 | []=>rfl
 | a :: l => by
   have:=iP hc l
   rw [List.map_cons,cellsD_cons,this,rcA_dis hc]
   rfl
def RB (c:α→List AV) (k:Nat) (v:AV) (st:St) (l:List α):Prop:=(v = .lit (.slice none 0 0)∧l = [])∨∃ id cap r,v = .bs id k 0 l.length cap∧st.get id = some (rcs c l++r)∧l.length≤cap∧cap * k≤(rcs c l++r).length
variable {v:AV} {st st':St} {l:List α}
theorem RB.nil (c:α→List AV) (k:Nat) (st:St):RB c k (.lit (.slice none 0 0)) st []:=.inl ⟨rfl,rfl⟩
theorem RB.app (hc:RC c k) (h:RB c k v st l) {bytes:Nat} {new:List α} (hr:e9 (l.length + new.length) bytes = true) {C:AV→St→Prop} (hC:∀ v' st',RB c k v' st' (l++new)→Kp st st' (bD v)→(∀ x ∈ bD v',x ∈ bD v∨st.boxes.length≤x)→C v' st'):appX false k bytes v C st (new.map (rcA c)):=by
 rcases h with ⟨rfl,rfl⟩ | ⟨id,cap,r,rfl,hg,h1,h2⟩
 ·refine ⟨rfl,by rw [List.length_map]; simpa using hr,?_⟩
  cases new with
  | nil=>exact hC _ _ (RB.nil c k _) (Kp.refl _ _) (by simp [bD])
  | cons p r =>
    refine fun cc hcc=>hC _ _ (.inr ⟨st.boxes.length,cc,List.replicate ((cc - (p::r).length) * k) .any,by simp,?_,by simpa using hcc,?_⟩) ⟨by rw [j8]; omega,fun i hi _=>push_at hi⟩ (by simp [bD])
    ·rw [iP hc,List.length_map]
     simp only [List.nil_append]
     exact dk _ _
    ·rw [List.nil_append,List.length_append,dm hc,List.length_replicate,← Nat.add_mul]
     rw [List.length_map] at hcc
     exact Nat.mul_le_mul_right k (by omega)
 ·have hid:=eR hg
  refine ⟨rfl,rfl,by rw [List.length_map]; exact hr,?_⟩
  rw [hg]
  show (Res.ok _).wp _
  rw [wp_ok,iP hc,List.length_map]
  rw [List.length_append,dm hc] at h2
  split
  ·rename_i hcc
   have hmul:(l.length + new.length) * k≤cap * k:=Nat.mul_le_mul_right k hcc
   rw [Nat.add_mul] at hmul
   have hsa:aU (rcs c l++r) (0 + l.length * k) (rcs c new) = rcs c (l++new)++r.drop (new.length * k):=by
    rw [Nat.zero_add,j7 (dm hc l).symm (by rw [dm hc]; omega),dm hc,rcs_app]
    simp
   refine ⟨by simp only [List.length_append,dm hc,Nat.add_mul]; omega,hC _ _ (.inr ⟨id,cap,r.drop (new.length * k),by simp,?_,by simpa using hcc,?_⟩) ((Oth.set st id _ (S:=[id]) (by simp)).kp (by simp [bD])) (by simp [bD])⟩
   ·rw [ia hid,hsa]
   ·simp only [List.length_append,dm hc,List.length_drop,Nat.add_mul]; omega
  ·rename_i hcc
   refine ⟨by rw [List.length_append,dm hc]; omega,fun cc hcc=>hC _ _ (.inr ⟨st.boxes.length,cc,List.replicate ((cc - (l.length + new.length)) * k) .any,by simp,?_,by simpa using hcc,?_⟩) ⟨by rw [j8]; omega,fun i hi _=>push_at hi⟩ (by simp [bD])⟩
   ·rw [List.drop_zero,List.take_left' (dm hc l),rcs_own hc,← rcs_app]
    exact dk _ _
   ·rw [List.length_append,dm hc,List.length_replicate,List.length_append,← Nat.add_mul]
    exact Nat.mul_le_mul_right k (by omega)
end

def Fz (v:AV):Prop:=v = .lit (.slice none 0 0)∨∃ k es,v = .sl false k es
structure FV where
 v:AV
 h:Fz v
section
variable (x:FV)
theorem cN:x.v.own1 = x.v:=by rcases x.h with h | ⟨k,es,h⟩ <;> rw [h] <;> rfl
theorem cK:x.v.solid1 = true:=by rcases x.h with h | ⟨k,es,h⟩ <;> rw [h] <;> rfl
end
def fv0:FV:=⟨.lit (.slice none 0 0),.inl rfl⟩

structure Cl where
 kind:Int
 f1:Int
 f2:Int
 t1:Int
 t2:Int
 nm:ByteArray
 port:Int
 data:FV
 most:Int
 n:Int
 dir:Int
 at_:Nat
structure En where
 task:Int
 kind:Int
 err:Int
 n:Int
 data:FV
 f1:Int
 f2:Int
 t1:Int
 t2:Int
 nm:ByteArray
 port:Int
 at_:Nat
structure Ev where
 kind:Int
 task:Int
 call:Cl
 err:Int
 done:Bool
 en:En
 woke:FV
 now:Nat
def clC (c:Cl):List AV:=[.lit (.int .i64 c.kind),.lit (.int .i64 c.f1),.lit (.int .i64 c.f2),.lit (.int .i64 c.t1),.lit (.int .i64 c.t2),.lit (.string c.nm),.lit (.int .i64 c.port),c.data.v,.lit (.int .i64 c.most),.lit (.int .i64 c.n),.lit (.int .i64 c.dir),.lit (.int .u64 (c.at_:Nat))]
def enC (e:En):List AV:=[.lit (.int .i64 e.task),.lit (.int .i64 e.kind),.lit (.int .i64 e.err),.lit (.int .i64 e.n),e.data.v,.lit (.int .i64 e.f1),.lit (.int .i64 e.f2),.lit (.int .i64 e.t1),.lit (.int .i64 e.t2),.lit (.string e.nm),.lit (.int .i64 e.port),.lit (.int .u64 (e.at_:Nat))]
def evC (e:Ev):List AV:=.lit (.int .i64 e.kind)::.lit (.int .i64 e.task)::(clC e.call++(.lit (.int .i64 e.err)::.lit (.bool e.done)::(enC e.en++[e.woke.v,.lit (.int .u64 (e.now:Nat))])))
def evA (e:Ev):AV:=.agg (evC e)
theorem clC_ap (c:Cl):clC c = [.lit (.int .i64 c.kind),.lit (.int .i64 c.f1),.lit (.int .i64 c.f2),.lit (.int .i64 c.t1),.lit (.int .i64 c.t2),.lit (.string c.nm),.lit (.int .i64 c.port),c.data.v,.lit (.int .i64 c.most),.lit (.int .i64 c.n),.lit (.int .i64 c.dir),.lit (.int .u64 (c.at_:Nat))]:=rfl
theorem cl_own (c:Cl):(clC c).map AV.own1 = clC c:=by unfold clC; simp only [List.map_cons,List.map_nil,dh,cN]
theorem evs_getD {l:List Ev} {j:Nat} (hj:j < l.length):(l.map evA).getD j .any = .agg (evC l[j]):=by simp [hj,evA]
end Go.Fx.YtoiokbmgdcaaoaaFx

namespace Go.Fx.YtoiokbmgdcaaoaaFx
open Go Go.Fx
attribute [local irreducible] aC runI bL aq

set_option maxRecDepth 100000
set_option maxHeartbeats 4000000

def clA (c:Cl):AV:=.agg (clC c)
theorem evC_ap (e:Ev):evC e = [.lit (.int .i64 e.kind),.lit (.int .i64 e.task),.lit (.int .i64 e.call.kind),.lit (.int .i64 e.call.f1),.lit (.int .i64 e.call.f2),.lit (.int .i64 e.call.t1),.lit (.int .i64 e.call.t2),.lit (.string e.call.nm),.lit (.int .i64 e.call.port),e.call.data.v,.lit (.int .i64 e.call.most),.lit (.int .i64 e.call.n),.lit (.int .i64 e.call.dir),.lit (.int .u64 (e.call.at_:Nat)),.lit (.int .i64 e.err),.lit (.bool e.done),.lit (.int .i64 e.en.task),.lit (.int .i64 e.en.kind),.lit (.int .i64 e.en.err),.lit (.int .i64 e.en.n),e.en.data.v,.lit (.int .i64 e.en.f1),.lit (.int .i64 e.en.f2),.lit (.int .i64 e.en.t1),.lit (.int .i64 e.en.t2),.lit (.string e.en.nm),.lit (.int .i64 e.en.port),.lit (.int .u64 (e.en.at_:Nat)),e.woke.v,.lit (.int .u64 (e.now:Nat))]:=rfl
def cl0:Cl:=⟨0,0,0,0,0,⟨#[]⟩,0,fv0,0,0,0,0⟩
def lE (t:Int) (e:Ev):Bool:=decide (e.kind = 1∧e.task = t∧e.err = 0)
def subC (t:Int) (l:List Ev):Option Cl:=l.foldl (fun o e=>if lE t e = true then some e.call else o) none
theorem subC_snoc (t:Int) (l:List Ev) (e:Ev):subC t (l++[e]) = if lE t e = true then some e.call else subC t l:=by
 unfold subC
 rw [List.foldl_append]
 rfl
theorem subC_take (t:Int) {l:List Ev} {k:Nat} (hk:k < l.length):subC t (l.take (k + 1)) = if lE t l[k] = true then some l[k].call else subC t (l.take k):=by
 rw [List.take_succ_eq_append_getElem hk,subC_snoc]
def endC (pre:List Ev) (e:Ev):Cl:=if e.kind = 2∧e.done = true then (subC e.task pre).getD cl0 else cl0
def endB (pre:List Ev) (e:Ev):Bool:=decide (e.kind = 2∧e.done = true) && (match subC e.task pre with | some c=>decide (c.kind = e.en.kind) | none=>false)
end Go.Fx.YtoiokbmgdcaaoaaFx

namespace Go.Fx.YtoiokbmgdcaaoaaFx
open Go Go.Fx
attribute [local irreducible] aC runI bL aq

set_option maxRecDepth 100000
set_option maxHeartbeats 4000000

def rowG (k:Nat) (vs:List AV):AV:=if vs = [] then .lit (.slice none 0 0) else .sl true k vs
theorem rowG_nil (k:Nat):rowG k [] = .lit (.slice none 0 0):=rfl
theorem mj {k:Nat} {vs:List AV} (h:vs≠[]):rowG k vs = .sl true k vs:=if_neg h
theorem ka (k:Nat) (vs:List AV):(∀ s,kill s (rowG k vs) = rowG k vs)∧(rowG k vs).noL = true∧(rowG k vs).solid1 = true∧∀ st,lenI .sl st (rowG k vs).dis = .ok (.lit (.int .i64 (vs.length:Nat))):=by
 unfold rowG; split
 ·rename_i h; rw [h]; exact ⟨fun _=>rfl,rfl,rfl,fun _=>rfl⟩
 ·exact ⟨fun _=>rfl,rfl,rfl,fun _=>rfl⟩
theorem rowG_dd (k:Nat) (vs:List AV):(rowG k vs).dis.dis = (rowG k vs).dis∧(rowG k vs).dis.noL = true∧∀ s,kill s (rowG k vs).dis = (rowG k vs).dis:=by
 unfold rowG; split <;> exact ⟨rfl,rfl,fun _=>rfl⟩
theorem fd_eql (a b c d:Int):binI (.agg (.field 0 1 .int (.field 1 1 .int .tt))) .eql (.agg [.lit (.int .i64 a),.lit (.int .i64 b)]) (.agg [.lit (.int .i64 c),.lit (.int .i64 d)]) = .ok (.lit (.bool (decide (a = c∧b = d)))):=by
 have h:((a == c) && ((b == d) && true)) = decide (a = c∧b = d):=Bool.eq_iff_iff.2 (by simp)
 rw [← h]
 rfl

structure Ex where
 at_:Nat
 c:Cl
 x:En
def exC (e:Ex):List AV:=.lit (.int .i64 (e.at_:Nat))::(clC e.c++enC e.x)
def exA (e:Ex):AV:=.agg (exC e)
theorem exC_ap (e:Ex):exC e = [.lit (.int .i64 (e.at_:Nat)),.lit (.int .i64 e.c.kind),.lit (.int .i64 e.c.f1),.lit (.int .i64 e.c.f2),.lit (.int .i64 e.c.t1),.lit (.int .i64 e.c.t2),.lit (.string e.c.nm),.lit (.int .i64 e.c.port),e.c.data.v,.lit (.int .i64 e.c.most),.lit (.int .i64 e.c.n),.lit (.int .i64 e.c.dir),.lit (.int .u64 (e.c.at_:Nat)),.lit (.int .i64 e.x.task),.lit (.int .i64 e.x.kind),.lit (.int .i64 e.x.err),.lit (.int .i64 e.x.n),e.x.data.v,.lit (.int .i64 e.x.f1),.lit (.int .i64 e.x.f2),.lit (.int .i64 e.x.t1),.lit (.int .i64 e.x.t2),.lit (.string e.x.nm),.lit (.int .i64 e.x.port),.lit (.int .u64 (e.x.at_:Nat))]:=rfl
theorem ex_own (e:Ex):(exC e).map AV.own1 = exC e:=by
 rw [exC_ap]
 simp only [List.map_cons,List.map_nil,dh,cN]
theorem ex_dis (l:List Ex):(l.map exA).map AV.dis = l.map exA:=by
 rw [List.map_map]
 exact List.map_congr_left fun e _=>by
  show (exA e).dis = exA e
  unfold exA; rw [ao,ex_own]
def exAt (l:List Ev) (i:Nat):Option Ex:=match l[i]? with | some e=>if endB (l.take i) e = true then some ⟨i,endC (l.take i) e,e.en⟩ else none | none=>none
def exsT (l:List Ev) (k:Nat):List Ex:=(List.range k).filterMap (exAt l)
theorem exsT_succ (l:List Ev) {k:Nat} (hk:k < l.length):exsT l (k + 1) = exsT l k++if endB (l.take k) l[k] = true then [⟨k,endC (l.take k) l[k],l[k].en⟩] else []:=by
 unfold exsT
 rw [List.range_succ,List.filterMap_append]
 congr 1
 have:exAt l k = if endB (l.take k) l[k] = true then some ⟨k,endC (l.take k) l[k],l[k].en⟩ else none:=by
  unfold exAt
  rw [List.getElem?_eq_getElem hk]
 rw [List.filterMap_cons,this]
 split
 ·rename_i h; split at h
  ·cases h
  ·rename_i c; rw [if_neg c]; rfl
 ·rename_i b h; split at h
  ·rename_i c; rw [if_pos c]; cases h; rfl
  ·cases h
theorem exsT_len (l:List Ev) (k:Nat):(exsT l k).length≤k:=by
 have:=List.length_filterMap_le (exAt l) (List.range k)
 rw [List.length_range] at this
 exact this
theorem kg (st:St) {l:List Ev} (hl:l.length≤10000) :
  aI Go.Proofs.Try.prog n_f20 [.sl false 30 (l.map evA)] st (fun v _=>v = (rowG 25 ((exsT l l.length).map exA)).dis):=by
 have hll:(l.map evA).length = l.length:=List.length_map ..
 refine bU hmix k_f20 rfl rfl fun Q hQ=>?_
 unfold aFun c_f20
 simp (config:=KF) (disch:=omega) only [bZ,o_mkmap,lenI,ej,↓reduceIte,Nat.reduceEqDiff,reduceCtorEq,hll]
 rw [f20_11w]
 refine dO (A:=Nat×List (Int×Cl)×St) (fun a=>l.length - a.1) (fun a=>⟨[(3,.map st.boxes.length),(4,rowG 25 ((exsT l a.1).map exA)),(10,.sl false 30 (l.map evA)),(11,.lit (.int .i64 (l.length:Nat))),(12,.lit (.int .i64 (a.1:Nat)))],[]⟩) (fun a=>a.2.2)
  (fun a=>a.1≤l.length∧MapIs a.2.2 st.boxes.length .i64 clA a.2.1∧∀ t,bW t a.2.1 = subC t (l.take a.1)) (0,[],st.push (.mp [] [] 0)) ⟨Nat.zero_le _,MapIs.new st .i64 clA,fun _=>rfl⟩ (Sf.le_refl _) rfl ?_
 rintro ⟨k,M,s⟩ ⟨h1,h2,h3⟩ K hK hKe hKr
 simp only at h1 h2 h3
 dsimp only
 obtain ⟨g1,g2,g3,g4⟩:=ka 25 ((exsT l k).map exA)
 by_cases hk:k < l.length
 ·have hgd:=evs_getD hk
  rw [evC_ap] at hgd
  have hle:=exsT_len l k
  have hsb:=fun t=>subC_take t hk
  have hK:=fun M' s'=>hK (k + 1,M',s')
  simp only [exsT_succ l hk] at hK
  have hlk:=fun z=>lookI_enc h2 (z:=z) (ok:=true) (t:=l[k].task)
  have h3k:=h3 l[k].task
  unfold endB endC at hK
  rw [← h3k] at hK
  generalize exsT l k = acc at *
  generalize l[k] = e at *
  by_cases k1:e.kind = 1∧e.err = 0
  ·obtain ⟨k1,k0⟩:=k1
   rw [if_neg (by simp; omega),List.append_nil] at hK
   simp (config:=KF) (disch:=omega) only [bZ,AI.dst,aF,cv,cg,bp,o_upd,aS,ixSV,boxX,bB,ixA,addA,aw,am,cD,bk,aJ,bq,bC,ej,ao,al,ar,bd,aK,ba,di,aE,↓reduceIte,Nat.reduceEqDiff,Nat.reduceAdd,Nat.reduceLeDiff,aR,aQ,aG,au,cN,cK,hgd,hll,g1]
   refine upd_step h2 (b:=e.call) (by simp [ar,al,cK,go]) (by unfold clA; rw [clC_ap]; simp [ao,dh,cN]) fun s1 hm1 ho1=>?_
   simp (config:=KF) (disch:=omega) only [bZ,ah,dj,↓reduceIte,Nat.reduceEqDiff,bP]
   refine hK _ _ _ ⟨by omega,hm1,fun t=>?_⟩ (by omega) (Sf.le_refl _)
   rw [hsb,look_upd,h3]
   unfold lE
   by_cases q:t = e.task
   ·rw [if_pos q,if_pos (decide_eq_true ⟨k1,q.symm,k0⟩)]
   ·rw [if_neg q,if_neg (by simp; intro _ a; exact absurd a.symm q)]
  have hno:∀ t,lE t e = false:=fun t=>decide_eq_false fun q=>k1 ⟨q.1,q.2.2⟩
  have hM:∀ t,bW t M = subC t (l.take (k + 1)):=fun t=>by rw [hsb,if_neg (by rw [hno]; simp),h3]
  have hK:=fun sf h=>hK M s sf ⟨by omega,h2,hM⟩ (by omega) h
  by_cases k2:e.kind = 2
  ·have k1':¬ e.kind = 1:=by omega
   cases hd:e.done with
   | false =>
     rw [hd] at hgd hK
     rw [if_neg (by simp),List.append_nil] at hK
     simp (config:=KF) (disch:=omega) only [bZ,ah,aD,AI.dst,aF,az,cv,cg,bp,aS,aT,ixSV,boxX,bB,ixA,addA,aw,am,dj,cD,bk,aJ,bq,bC,ao,al,ar,bd,aK,ba,di,aE,↓reduceIte,Nat.reduceEqDiff,Nat.reduceAdd,Nat.reduceLeDiff,aR,aQ,aL,bP,aG,au,cN,cK,hgd,hll,g1]
     exact hK _ (Sf.le_refl _)
   | true =>
     rw [hd] at hgd hK
     rw [decide_eq_true (show e.kind = 2∧true = true from ⟨k2,rfl⟩),if_pos (show e.kind = 2∧true = true from ⟨k2,rfl⟩),Bool.true_and] at hK
     cases hc:bW e.task M with
     | none =>
       rw [hc] at hK
       rw [if_neg (by simp),List.append_nil] at hK
       simp only [hc,if_true] at hlk
       simp (config:=KF) (disch:=omega) only [bZ,ah,aD,AI.dst,aF,az,dF,cv,gT,cg,bp,aS,aT,extV,ixSV,boxX,bB,ixA,addA,aw,am,dj,cD,bk,aJ,bq,bC,ej,ao,bO,g8,al,ar,bd,bz,aK,ba,di,aE,hH,↓reduceIte,Nat.reduceEqDiff,Nat.reduceAdd,Nat.reduceLeDiff,aR,aQ,aL,bP,aG,au,cN,cK,hgd,hll,g1,hlk]
       exact hK _ (Sf.le_refl _)
     | some c =>
       rw [hc] at hK
       have hcd:(clA c).dis = clA c:=by unfold clA; rw [ao,cl_own]
       simp only [hc,if_true,hcd] at hlk
       unfold clA at hlk
       rw [clC_ap] at hlk
       simp only [Option.getD_some] at hK
       by_cases kc:c.kind = e.en.kind
       ·rw [if_pos (decide_eq_true kc)] at hK
        have hr2:rowG 25 ((acc++[(⟨k,c,e.en⟩:Ex)]).map exA) = .sl true 25 (acc.map exA++[exA (⟨k,c,e.en⟩:Ex)]):=by
         rw [List.map_append,mj (by simp)]; rfl
        have hex:exA (⟨k,c,e.en⟩:Ex) = .agg [.lit (.int .i64 (k:Nat)),.lit (.int .i64 c.kind),.lit (.int .i64 c.f1),.lit (.int .i64 c.f2),.lit (.int .i64 c.t1),.lit (.int .i64 c.t2),.lit (.string c.nm),.lit (.int .i64 c.port),c.data.v,.lit (.int .i64 c.most),.lit (.int .i64 c.n),.lit (.int .i64 c.dir),.lit (.int .u64 (c.at_:Nat)),.lit (.int .i64 e.en.task),.lit (.int .i64 e.en.kind),.lit (.int .i64 e.en.err),.lit (.int .i64 e.en.n),e.en.data.v,.lit (.int .i64 e.en.f1),.lit (.int .i64 e.en.f2),.lit (.int .i64 e.en.t1),.lit (.int .i64 e.en.t2),.lit (.string e.en.nm),.lit (.int .i64 e.en.port),.lit (.int .u64 (e.en.at_:Nat))]:=rfl
        rw [hex] at hr2
        have hml:(acc.map exA).length = acc.length:=List.length_map ..
        have hdi:=ex_dis acc
        rw [hr2] at hK
        by_cases ha:acc = []
        ·subst ha
         rw [List.map_nil,rowG_nil] at *
         simp (config:=KF) (disch:=omega) only [bZ,and_self,ah,aD,AI.dst,aF,az,dF,cv,o_bsl,o_bst,gT,o_appS,cg,bp,aS,aT,extV,ixSV,bslV,bstV,appSX,boxX,bB,List.isEmpty_cons,List.reduceReplicate,ixA,addA,aw,am,ei,srcA,e8,bX,dj,cD,bk,aJ,bq,bC,mkSl_agg,ej,ao,bO,g8,iL,al,ar,bd,bz,aK,ba,di,aE,hH,↓reduceIte,Nat.reduceEqDiff,Nat.reduceAdd,Nat.reduceLT,Nat.reduceLeDiff,Bool.false_eq_true,aR,mf,aQ,aL,bP,aG,au,cN,cK,hgd,hll,hlk]
         exact hK _ (Sf.le_refl _)
        ·have hr1:rowG 25 (acc.map exA) = .sl true 25 (acc.map exA):=mj (by simpa using ha)
         rw [hr1]
         simp (config:=KF) (disch:=omega) only [bZ,and_self,ah,aD,AI.dst,aF,az,dF,cv,o_bsl,o_bst,gT,o_appS,cg,bp,aS,aT,extV,ixSV,bslV,bstV,appSX,boxX,bB,List.reduceReplicate,ixA,addA,aw,am,eJ,srcA,e8,bX,dj,cD,bk,aJ,bq,bC,mkSl_agg,ej,ao,bO,g8,iL,al,ar,bd,bz,aK,ba,di,aE,hH,↓reduceIte,Nat.reduceEqDiff,Nat.reduceAdd,Nat.reduceLT,Nat.reduceLeDiff,aR,mf,aQ,aL,bP,aG,au,cN,cK,hgd,hll,hlk,hml]
         exact hK _ (Sf.le_refl _)
       ·rw [if_neg (by simp [kc]),List.append_nil] at hK
        simp (config:=KF) (disch:=omega) only [bZ,ah,aD,AI.dst,aF,az,dF,cv,gT,cg,bp,aS,aT,extV,ixSV,boxX,bB,ixA,addA,aw,am,dj,cD,bk,aJ,bq,bC,ej,ao,bO,g8,al,ar,bd,bz,aK,ba,di,aE,hH,↓reduceIte,Nat.reduceEqDiff,Nat.reduceAdd,Nat.reduceLeDiff,aR,br,aQ,aL,bP,aG,au,cN,cK,hgd,hll,g1,hlk]
        exact hK _ (Sf.le_refl _)
  ·rw [if_neg (by simp [k2]),List.append_nil] at hK
   by_cases q1:e.kind = 1
   ·have q0:¬ e.err = 0:=fun q=>k1 ⟨q1,q⟩
    simp (config:=KF) (disch:=omega) only [bZ,ah,aD,AI.dst,aF,az,cv,cg,bp,aS,aT,ixSV,boxX,bB,ixA,addA,aw,am,dj,cD,bk,aJ,bq,bC,ao,al,ar,bd,aK,ba,di,aE,↓reduceIte,Nat.reduceEqDiff,Nat.reduceAdd,Nat.reduceLeDiff,aR,br,aQ,aL,bP,aG,au,cN,cK,hgd,hll,g1]
    exact hK _ (Sf.le_refl _)
   ·simp (config:=KF) (disch:=omega) only [bZ,ah,aD,AI.dst,az,cv,cg,bp,aT,ixSV,boxX,bB,ixA,addA,aw,am,dj,cD,bk,aJ,bq,bC,ao,al,ar,bd,aK,ba,di,aE,↓reduceIte,Nat.reduceEqDiff,Nat.reduceAdd,Nat.reduceLeDiff,aR,aL,bP,aG,au,cN,cK,hgd,hll,g1]
    exact hK _ (Sf.le_refl _)
 ·have hjl:k = l.length:=by omega
  subst hjl
  obtain ⟨d1,d2,d3⟩:=rowG_dd 25 ((exsT l l.length).map exA)
  simp (config:=KF) (disch:=omega) only [bZ,bS,dg,↓reduceIte,Nat.reduceEqDiff,br]
  refine hKe _ _ _ ?_
  simp (config:=KF) (disch:=omega) only [bZ,aP,retI,↓reduceIte,Nat.reduceEqDiff,d1,d2]
  exact hQ _ _ rfl
end Go.Fx.YtoiokbmgdcaaoaaFx

namespace Go.Fx.YtoiokbmgdcaaoaaFx
open Go Go.Fx
attribute [local irreducible] aC runI bL aq

set_option maxRecDepth 100000
set_option maxHeartbeats 4000000

def BV (v:AV) (l:List UInt8):Prop:=(v = .lit (.slice none 0 0)∧l = [])∨v = .sl false 1 (BB l)
theorem BV.facts {v:AV} {l:List UInt8} (h:BV v l):v.dis = v∧v.own1 = v∧v.own2 = v∧v.solid1 = true∧v.noL = true∧v.cells = [v]∧(∀ s,kill s v = v)∧(∀ st',lenI .sl st' v = .ok (.lit (.int .i64 (l.length:Nat))))∧(∀ st',kR st' .bs v = .ok (.lit (.string (str l)))):=by
 rcases h with ⟨rfl,rfl⟩ | rfl
 ·exact ⟨rfl,rfl,rfl,rfl,rfl,rfl,fun _=>rfl,fun _=>rfl,fun _=>rfl⟩
 ·refine ⟨rfl,rfl,rfl,rfl,rfl,rfl,fun _=>rfl,fun _=>by rw [len_sl,mg],fun _=>?_⟩
  simp only [kR,if_true,strOf_BB,gm,l5]
theorem beq_pure (st:St) {v w:AV} {a b:List UInt8} (hv:BV v a) (hw:BV w b) :
  bu Go.Proofs.Try.prog n_f52 [v,w] st (.lit (.bool (decide (a = b)))):=by
 refine cW hmix k_f52 rfl rfl fun Q hQ=>?_
 unfold aFun c_f52
 obtain ⟨v1,v2,v3,v4,v5,v6,v7,v8,v9⟩:=hv.facts
 obtain ⟨w1,w2,w3,w4,w5,w6,w7,w8,w9⟩:=hw.facts
 simp (config:=KF) (disch:=omega) only [bZ,retI,o_conv,↓reduceIte,Nat.reduceEqDiff,reduceCtorEq,str_eql,v1,w1,v9,w9]
 exact hQ _
theorem pre_dec (a b:List UInt8):decide (b <+: a) = decide (a.take b.length = b):=decide_eq_decide.2 (List.prefix_iff_eq_take.trans eq_comm)
theorem ek (st:St) {v w:AV} {a b:List UInt8} (hv:BV v a) (hw:BV w b) (ha:a.length < 1000000) (hb:b.length < 1000000) :
  bu Go.Proofs.Try.prog n_f29 [v,w] st (.lit (.bool (decide (b <+: a)))):=by
 refine cW hmix k_f29 rfl rfl fun Q hQ=>?_
 unfold aFun c_f29
 obtain ⟨w1,w2,w3,w4,w5,w6,w7,w8,w9⟩:=hw.facts
 by_cases h:b.length≤a.length
 ·rw [pre_dec] at hQ
  rcases hv with ⟨rfl,rfl⟩ | rfl
  ·have hb0:b = []:=List.eq_nil_of_length_eq_zero (by simpa using h)
   subst hb0
   have he:=beq_pure st (.inl ⟨rfl,rfl⟩) hw
   simp (config:=KF) (disch:=omega) only [bZ,and_self,len_nil,AI.dst,aF,o_sliS,jc,ixTo,n_geq,bk,id,Option.map_some,Option.map_none,Int.toNat_zero,↓reduceIte,Nat.reduceEqDiff,Int.reduceLE,reduceCtorEq,aQ,w1,w8]
   refine bT (vs:=[_,w]) (by simp [w1]; rfl) e_f52 he (by simp [w5]; rfl) ?_
   simp (config:=KF) (disch:=omega) only [bZ,retI,aS,↓reduceIte,Nat.reduceEqDiff,reduceCtorEq]
   exact hQ _
  ·have he:=beq_pure st (v:=.sl false 1 (BB (a.take b.length))) (.inr rfl) hw
   have hal:=mg a
   simp (config:=KF) (disch:=omega) only [bZ,len_sl,AI.dst,aF,o_sliS,jc,ixTo,n_geq,id,Option.map_some,Option.map_none,↓reduceIte,Nat.reduceEqDiff,reduceCtorEq,BB_take,BB_drop,aR,aQ,w1,w8,hal]
   refine bT (vs:=[_,w]) (by simp [w1]; rfl) e_f52 he (by simp [w5]; rfl) ?_
   simp (config:=KF) (disch:=omega) only [bZ,retI,aS,↓reduceIte,Nat.reduceEqDiff,reduceCtorEq]
   exact hQ _
 ·obtain ⟨v1,v2,v3,v4,v5,v6,v7,v8,v9⟩:=hv.facts
  rw [decide_eq_false (fun q=>h q.length_le)] at hQ
  simp (config:=KF) (disch:=omega) only [bZ,retI,aD,AI.dst,az,aT,n_geq,↓reduceIte,Nat.reduceEqDiff,reduceCtorEq,aL,v1,w1,v8,w8]
  exact hQ _
theorem cut_pure {v w:AV} {a b:List UInt8} (hv:BV v a) (hw:BV w b) (ha:a.length < 1000000) (hb:b.length < 1000000) :
  ∃ x,BV x (if b <+: a then a.drop b.length else a)∧∀ st,bu Go.Proofs.Try.prog n_f49 [v,w] st (.tup [x,.lit (.bool (decide (b <+: a)))]):=by
 obtain ⟨w1,w2,w3,w4,w5,w6,w7,w8,w9⟩:=hw.facts
 obtain ⟨v1,v2,v3,v4,v5,v6,v7,v8,v9⟩:=hv.facts
 have hp:=fun st=>ek st hv hw ha hb
 by_cases h:b <+: a
 ·rw [if_pos h]
  have hle:=h.length_le
  rw [decide_eq_true h] at hp ⊢
  rcases hv with ⟨rfl,rfl⟩ | rfl
  ·have hb0:b = []:=List.eq_nil_of_length_eq_zero (by simpa using hle)
   subst hb0
   refine ⟨_,.inl ⟨rfl,rfl⟩,fun st=>cW hmix k_f49 rfl rfl fun Q hQ=>?_⟩
   unfold aFun c_f49
   simp (config:=KF) (disch:=omega) only [bZ,id,↓reduceIte,Nat.reduceEqDiff,reduceCtorEq,w1]
   refine bT (vs:=[_,w]) (by simp [w1]; rfl) e_f29 (hp st) (by simp [w5]; rfl) ?_
   simp (config:=KF) (disch:=omega) only [bZ,retI,resI,resL,o_un,o_sliOwn,jc,jm,ixTo,unA,bk,bJ,Int.toNat_zero,↓reduceIte,Nat.reduceEqDiff,Int.reduceLE,reduceCtorEq,Bool.not_true,w1,w8]
   exact hQ _
  ·refine ⟨.sl false 1 (BB (a.drop b.length)),.inr rfl,fun st=>cW hmix k_f49 rfl rfl fun Q hQ=>?_⟩
   unfold aFun c_f49
   have hal:=mg a
   simp (config:=KF) (disch:=omega) only [bZ,id,↓reduceIte,Nat.reduceEqDiff,reduceCtorEq,w1]
   refine bT (vs:=[_,w]) (by simp [w1]; rfl) e_f29 (hp st) (by simp [w5]; rfl) ?_
   simp (config:=KF) (disch:=omega) only [bZ,retI,resI,resL,o_un,o_sliOwn,jc,jm,ixTo,unA,noL_sl,bJ,↓reduceIte,Nat.reduceEqDiff,reduceCtorEq,Bool.not_true,List.take_length,BB_take,BB_drop,aR,w1,w8,hal]
   exact hQ _
 ·rw [if_neg h]
  rw [decide_eq_false h] at hp ⊢
  refine ⟨v,hv,fun st=>cW hmix k_f49 rfl rfl fun Q hQ=>?_⟩
  unfold aFun c_f49
  simp (config:=KF) (disch:=omega) only [bZ,id,↓reduceIte,Nat.reduceEqDiff,reduceCtorEq,v1,w1]
  refine bT (vs:=[v,w]) (by simp [v1,w1]) e_f29 (hp st) (by simp [v5,w5]) ?_
  simp (config:=KF) (disch:=omega) only [bZ,retI,resI,resL,o_un,unA,bJ,↓reduceIte,Nat.reduceEqDiff,reduceCtorEq,Bool.not_false,v1,v5]
  exact hQ _
end Go.Fx.YtoiokbmgdcaaoaaFx

