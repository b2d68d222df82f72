/- What the functions that the statement reaches compute: part 2. -/
import Derived.Test.YtoiokbmgdcaaoaaFxW1
namespace Go.Fx.YtoiokbmgdcaaoaaFx
open Go Go.Fx
attribute [local irreducible] aC runI ap am

set_option maxRecDepth 100000
set_option maxHeartbeats 4000000

def rowG (k:Nat) (vs:List AV):AV:=if vs = [] then .lit (.slice none 0 0) else .sl true k vs
theorem rowG_nil (k:Nat):rowG k [] = .lit (.slice none 0 0):=rfl
theorem dk {k:Nat} {vs:List AV} (h:vs≠[]):rowG k vs = .sl true k vs:=if_neg h
theorem cU (k:Nat) (vs:List AV):(∀ s,kill s (rowG k vs) = rowG k vs)∧(rowG k vs).noL = true∧(rowG k vs).solid1 = true∧∀ st,lenI .sl st (rowG k vs).dis = .ok (.lit (.int .i64 (vs.length:Nat))):=by
 unfold rowG; split
 ·rename_i h; rw [h]; exact ⟨fun _=>rfl,rfl,rfl,fun _=>rfl⟩
 ·exact ⟨fun _=>rfl,rfl,rfl,fun _=>rfl⟩
theorem mq (k:Nat) (vs:List AV):(rowG k vs).dis.dis = (rowG k vs).dis∧(rowG k vs).dis.noL = true∧∀ s,kill s (rowG k vs).dis = (rowG k vs).dis:=by
 unfold rowG; split <;> exact ⟨rfl,rfl,fun _=>rfl⟩
abbrev FD:=Int×Int
theorem tj (a b c d:Int):binI (.agg (.field 0 1 .int (.field 1 1 .int .tt))) .eql (.agg [.lit (.int .i64 a),.lit (.int .i64 b)]) (.agg [.lit (.int .i64 c),.lit (.int .i64 d)]) = .ok (.lit (.bool (decide (a = c∧b = d)))):=by
 have h:((a == c) && ((b == d) && true)) = decide (a = c∧b = d):=Bool.eq_iff_iff.2 (by simp)
 rw [← h]
 rfl

structure Ex where
 at_:Nat
 c:Cl
 x:En
def exC (e:Ex):List AV:=.lit (.int .i64 (e.at_:Nat))::(clC e.c++enC e.x)
def exA (e:Ex):AV:=.agg (exC e)
theorem exC_ap (e:Ex):exC e = [.lit (.int .i64 (e.at_:Nat)),.lit (.int .i64 e.c.kind),.lit (.int .i64 e.c.f1),.lit (.int .i64 e.c.f2),.lit (.int .i64 e.c.t1),.lit (.int .i64 e.c.t2),.lit (.string e.c.nm),.lit (.int .i64 e.c.port),e.c.data.v,.lit (.int .i64 e.c.most),.lit (.int .i64 e.c.n),.lit (.int .i64 e.c.dir),.lit (.int .u64 (e.c.at_:Nat)),.lit (.int .i64 e.x.task),.lit (.int .i64 e.x.kind),.lit (.int .i64 e.x.err),.lit (.int .i64 e.x.n),e.x.data.v,.lit (.int .i64 e.x.f1),.lit (.int .i64 e.x.f2),.lit (.int .i64 e.x.t1),.lit (.int .i64 e.x.t2),.lit (.string e.x.nm),.lit (.int .i64 e.x.port),.lit (.int .u64 (e.x.at_:Nat))]:=rfl
theorem ex_own (e:Ex):(exC e).map AV.own1 = exC e:=by
 rw [exC_ap]
 simp only [List.map_cons,List.map_nil,cR,aU]
theorem ex_dis (l:List Ex):(l.map exA).map AV.dis = l.map exA:=by
 rw [List.map_map]
 exact List.map_congr_left fun e _=>by
  show (exA e).dis = exA e
  unfold exA; rw [dK,ex_own]
def exAt (l:List Ev) (i:Nat):Option Ex:=match l[i]? with | some e=>if endB (l.take i) e = true then some ⟨i,endC (l.take i) e,e.en⟩ else none | none=>none
def exsT (l:List Ev) (k:Nat):List Ex:=(List.range k).filterMap (exAt l)
theorem jn (l:List Ev) {k:Nat} (hk:k < l.length):exsT l (k + 1) = exsT l k++if endB (l.take k) l[k] = true then [⟨k,endC (l.take k) l[k],l[k].en⟩] else []:=by
 unfold exsT
 rw [List.range_succ,List.filterMap_append]
 congr 1
 have:exAt l k = if endB (l.take k) l[k] = true then some ⟨k,endC (l.take k) l[k],l[k].en⟩ else none:=by
  unfold exAt
  rw [List.getElem?_eq_getElem hk]
 rw [List.filterMap_cons,this]
 split
 ·rename_i h; split at h
  ·cases h
  ·rename_i c; rw [if_neg c]; rfl
 ·rename_i b h; split at h
  ·rename_i c; rw [if_pos c]; cases h; rfl
  ·cases h
theorem mr (l:List Ev) (k:Nat):(exsT l k).length≤k:=by
 have:=List.length_filterMap_le (exAt l) (List.range k)
 rw [List.length_range] at this
 exact this
theorem ends_calls (st:St) {l:List Ev} (hl:l.length≤10000) :
  aX Go.Proofs.Try.prog n_f20 [.sl false 30 (l.map evA)] st (fun v _=>v = (rowG 25 ((exsT l l.length).map exA)).dis):=by
 have hll:(l.map evA).length = l.length:=List.length_map ..
 refine d5 hmix k_f20 rfl rfl fun Q hQ=>?_
 unfold aFun c_f20
 simp (config:=KF) (disch:=omega) only [bZ,kR,lenI,d9,↓reduceIte,Nat.reduceEqDiff,reduceCtorEq,hll]
 rw [f20_11w]
 refine da (A:=Nat×List (Int×Cl)×St) (fun a=>l.length - a.1) (fun a=>⟨[(3,.map st.boxes.length),(4,rowG 25 ((exsT l a.1).map exA)),(10,.sl false 30 (l.map evA)),(11,.lit (.int .i64 (l.length:Nat))),(12,.lit (.int .i64 (a.1:Nat)))],[]⟩) (fun a=>a.2.2)
  (fun a=>a.1≤l.length∧MapIs a.2.2 st.boxes.length .i64 clA a.2.1∧∀ t,ce t a.2.1 = subC t (l.take a.1)) (0,[],st.push (.mp [] [] 0)) ⟨Nat.zero_le _,MapIs.new st .i64 clA,fun _=>rfl⟩ (Sf.le_refl _) rfl ?_
 rintro ⟨k,M,s⟩ ⟨h1,h2,h3⟩ K hK hKe hKr
 simp only at h1 h2 h3
 dsimp only
 obtain ⟨g1,g2,g3,g4⟩:=cU 25 ((exsT l k).map exA)
 by_cases hk:k < l.length
 ·have hgd:=fm hk
  rw [iD] at hgd
  have hle:=mr l k
  have hsb:=fun t=>rq t hk
  have hK:=fun M' s'=>hK (k + 1,M',s')
  simp only [jn l hk] at hK
  have hlk:=fun z=>lookI_enc h2 (z:=z) (ok:=true) (t:=l[k].task)
  have h3k:=h3 l[k].task
  unfold endB endC at hK
  rw [← h3k] at hK
  generalize exsT l k = acc at *
  generalize l[k] = e at *
  by_cases k1:e.kind = 1∧e.err = 0
  ·obtain ⟨k1,k0⟩:=k1
   rw [if_neg (by simp; omega),List.append_nil] at hK
   simp (config:=KF) (disch:=omega) only [bZ,AI.dst,o_upd,ixSV,ar,addA,ag,d9,au,cw,↓reduceIte,Nat.reduceEqDiff,Nat.reduceAdd,Nat.reduceLeDiff,aU,aL,hgd,hll,g1]
   refine upd_step h2 (b:=e.call) (by simp [pX,m4,aL,jZ]) (by unfold clA; rw [qi]; simp [dK,cR,aU]) fun s1 hm1 ho1=>?_
   simp (config:=KF) (disch:=omega) only [bZ,↓reduceIte,Nat.reduceEqDiff]
   refine hK _ _ _ ⟨by omega,hm1,fun t=>?_⟩ (by omega) (Sf.le_refl _)
   rw [hsb,look_upd,h3]
   unfold mo
   by_cases q:t = e.task
   ·rw [if_pos q,if_pos (decide_eq_true ⟨k1,q.symm,k0⟩)]
   ·rw [if_neg q,if_neg (by simp; intro _ a; exact absurd a.symm q)]
  have hno:∀ t,mo t e = false:=fun t=>decide_eq_false fun q=>k1 ⟨q.1,q.2.2⟩
  have hM:∀ t,ce t M = subC t (l.take (k + 1)):=fun t=>by rw [hsb,if_neg (by rw [hno]; simp),h3]
  have hK:=fun sf h=>hK M s sf ⟨by omega,h2,hM⟩ (by omega) h
  by_cases k2:e.kind = 2
  ·have k1':¬ e.kind = 1:=by omega
   cases hd:e.done with
   | false =>
     rw [hd] at hgd hK
     rw [if_neg (by simp),List.append_nil] at hK
     simp (config:=KF) (disch:=omega) only [bZ,AI.dst,ixSV,ar,addA,ag,au,cw,↓reduceIte,Nat.reduceEqDiff,Nat.reduceAdd,Nat.reduceLeDiff,aU,aL,hgd,hll,g1]
     exact hK _ (Sf.le_refl _)
   | true =>
     rw [hd] at hgd hK
     rw [decide_eq_true (show e.kind = 2∧true = true from ⟨k2,rfl⟩),if_pos (show e.kind = 2∧true = true from ⟨k2,rfl⟩),Bool.true_and] at hK
     cases hc:ce e.task M with
     | none =>
       rw [hc] at hK
       rw [if_neg (by simp),List.append_nil] at hK
       simp only [hc,if_true] at hlk
       simp (config:=KF) (disch:=omega) only [bZ,AI.dst,de,el,extV,ixSV,ar,addA,ag,d9,aY,au,cw,aT,↓reduceIte,Nat.reduceEqDiff,Nat.reduceAdd,Nat.reduceLeDiff,aU,aL,hgd,hll,g1,hlk]
       exact hK _ (Sf.le_refl _)
     | some c =>
       rw [hc] at hK
       have hcd:(clA c).dis = clA c:=by unfold clA; rw [dK,cl_own]
       simp only [hc,if_true,hcd] at hlk
       unfold clA at hlk
       rw [qi] at hlk
       simp only [Option.getD_some] at hK
       by_cases kc:c.kind = e.en.kind
       ·rw [if_pos (decide_eq_true kc)] at hK
        have hr2:rowG 25 ((acc++[(⟨k,c,e.en⟩:Ex)]).map exA) = .sl true 25 (acc.map exA++[exA (⟨k,c,e.en⟩:Ex)]):=by
         rw [List.map_append,dk (by simp)]; rfl
        have hex:exA (⟨k,c,e.en⟩:Ex) = .agg [.lit (.int .i64 (k:Nat)),.lit (.int .i64 c.kind),.lit (.int .i64 c.f1),.lit (.int .i64 c.f2),.lit (.int .i64 c.t1),.lit (.int .i64 c.t2),.lit (.string c.nm),.lit (.int .i64 c.port),c.data.v,.lit (.int .i64 c.most),.lit (.int .i64 c.n),.lit (.int .i64 c.dir),.lit (.int .u64 (c.at_:Nat)),.lit (.int .i64 e.en.task),.lit (.int .i64 e.en.kind),.lit (.int .i64 e.en.err),.lit (.int .i64 e.en.n),e.en.data.v,.lit (.int .i64 e.en.f1),.lit (.int .i64 e.en.f2),.lit (.int .i64 e.en.t1),.lit (.int .i64 e.en.t2),.lit (.string e.en.nm),.lit (.int .i64 e.en.port),.lit (.int .u64 (e.en.at_:Nat))]:=rfl
        rw [hex] at hr2
        have hml:(acc.map exA).length = acc.length:=List.length_map ..
        have hdi:=ex_dis acc
        rw [hr2] at hK
        by_cases ha:acc = []
        ·subst ha
         rw [List.map_nil,rowG_nil] at *
         simp (config:=KF) (disch:=omega) only [bZ,and_self,AI.dst,de,rf,kQ,el,dJ,extV,ixSV,bslV,bstV,ey,ar,List.isEmpty_cons,List.reduceReplicate,addA,ag,bE,srcA,eT,br,fY,d9,aY,dX,au,cw,aT,↓reduceIte,Nat.reduceEqDiff,Nat.reduceAdd,Nat.reduceLT,Nat.reduceLeDiff,eE,aU,aL,hgd,hll,hlk]
         exact hK _ (Sf.le_refl _)
        ·have hr1:rowG 25 (acc.map exA) = .sl true 25 (acc.map exA):=dk (by simpa using ha)
         rw [hr1]
         simp (config:=KF) (disch:=omega) only [bZ,and_self,AI.dst,de,rf,kQ,el,dJ,extV,ixSV,bslV,bstV,ey,ar,List.reduceReplicate,addA,ag,cg,srcA,eT,br,fY,d9,aY,dX,au,cw,aT,↓reduceIte,Nat.reduceEqDiff,Nat.reduceAdd,Nat.reduceLT,Nat.reduceLeDiff,eE,aU,aL,hgd,hll,hlk,hml]
         exact hK _ (Sf.le_refl _)
       ·rw [if_neg (by simp [kc]),List.append_nil] at hK
        simp (config:=KF) (disch:=omega) only [bZ,AI.dst,de,el,extV,ixSV,ar,addA,ag,d9,aY,au,cw,aT,↓reduceIte,Nat.reduceEqDiff,Nat.reduceAdd,Nat.reduceLeDiff,aU,aL,hgd,hll,g1,hlk]
        exact hK _ (Sf.le_refl _)
  ·rw [if_neg (by simp [k2]),List.append_nil] at hK
   by_cases q1:e.kind = 1
   ·have q0:¬ e.err = 0:=fun q=>k1 ⟨q1,q⟩
    simp (config:=KF) (disch:=omega) only [bZ,AI.dst,ixSV,ar,addA,ag,au,cw,↓reduceIte,Nat.reduceEqDiff,Nat.reduceAdd,Nat.reduceLeDiff,aU,aL,hgd,hll,g1]
    exact hK _ (Sf.le_refl _)
   ·simp (config:=KF) (disch:=omega) only [bZ,AI.dst,ixSV,ar,addA,ag,au,cw,↓reduceIte,Nat.reduceEqDiff,Nat.reduceAdd,Nat.reduceLeDiff,aU,aL,hgd,hll,g1]
    exact hK _ (Sf.le_refl _)
 ·have hjl:k = l.length:=by omega
  subst hjl
  obtain ⟨d1,d2,d3⟩:=mq 25 ((exsT l l.length).map exA)
  simp (config:=KF) (disch:=omega) only [bZ,az,bp,↓reduceIte,Nat.reduceEqDiff]
  refine hKe _ _ _ ?_
  simp (config:=KF) (disch:=omega) only [bZ,aj,retI,↓reduceIte,Nat.reduceEqDiff,d1,d2]
  exact hQ _ _ rfl
end Go.Fx.YtoiokbmgdcaaoaaFx

namespace Go.Fx.YtoiokbmgdcaaoaaFx
open Go Go.Fx
attribute [local irreducible] aC runI ap am

set_option maxRecDepth 100000
set_option maxHeartbeats 4000000

def BV (v:AV) (l:List UInt8):Prop:=(v = .lit (.slice none 0 0)∧l = [])∨v = .sl false 1 (BB l)
theorem BV.facts {v:AV} {l:List UInt8} (h:BV v l):v.dis = v∧v.own1 = v∧v.own2 = v∧v.solid1 = true∧v.noL = true∧v.cells = [v]∧(∀ s,kill s v = v)∧(∀ st',lenI .sl st' v = .ok (.lit (.int .i64 (l.length:Nat))))∧(∀ st',e7 st' .bs v = .ok (.lit (.string (str l)))):=by
 rcases h with ⟨rfl,rfl⟩ | rfl
 ·exact ⟨rfl,rfl,rfl,rfl,rfl,rfl,fun _=>rfl,fun _=>rfl,fun _=>rfl⟩
 ·refine ⟨rfl,rfl,rfl,rfl,rfl,rfl,fun _=>rfl,fun _=>by rw [gS,bN],fun _=>?_⟩
  simp only [e7,if_true,gc,gz,gy]
theorem beq_pure (st:St) {v w:AV} {a b:List UInt8} (hv:BV v a) (hw:BV w b) :
  aF Go.Proofs.Try.prog n_f52 [v,w] st (.lit (.bool (decide (a = b)))):=by
 refine aV hmix k_f52 rfl rfl fun Q hQ=>?_
 unfold aFun c_f52
 obtain ⟨v1,v2,v3,v4,v5,v6,v7,v8,v9⟩:=hv.facts
 obtain ⟨w1,w2,w3,w4,w5,w6,w7,w8,w9⟩:=hw.facts
 simp (config:=KF) (disch:=omega) only [bZ,retI,pS,↓reduceIte,Nat.reduceEqDiff,reduceCtorEq,gP,v1,w1,v9,w9]
 exact hQ _
theorem pre_dec (a b:List UInt8):decide (b <+: a) = decide (a.take b.length = b):=decide_eq_decide.2 (List.prefix_iff_eq_take.trans eq_comm)
theorem fH (st:St) {v w:AV} {a b:List UInt8} (hv:BV v a) (hw:BV w b) (ha:a.length < 1000000) (hb:b.length < 1000000) :
  aF Go.Proofs.Try.prog n_f29 [v,w] st (.lit (.bool (decide (b <+: a)))):=by
 refine aV hmix k_f29 rfl rfl fun Q hQ=>?_
 unfold aFun c_f29
 obtain ⟨w1,w2,w3,w4,w5,w6,w7,w8,w9⟩:=hw.facts
 by_cases h:b.length≤a.length
 ·rw [pre_dec] at hQ
  rcases hv with ⟨rfl,rfl⟩ | rfl
  ·have hb0:b = []:=List.eq_nil_of_length_eq_zero (by simpa using h)
   subst hb0
   have he:=beq_pure st (.inl ⟨rfl,rfl⟩) hw
   simp (config:=KF) (disch:=omega) only [bZ,and_self,jm,AI.dst,fc,cK,ixTo,f0,id,↓reduceIte,Nat.reduceEqDiff,Int.reduceLE,reduceCtorEq,w1,w8]
   refine aK (vs:=[_,w]) (by simp [w1]; rfl) e_f52 he (by simp [w5]; rfl) ?_
   simp (config:=KF) (disch:=omega) only [bZ,retI,↓reduceIte,Nat.reduceEqDiff,reduceCtorEq]
   exact hQ _
  ·have he:=beq_pure st (v:=.sl false 1 (BB (a.take b.length))) (.inr rfl) hw
   have hal:=bN a
   simp (config:=KF) (disch:=omega) only [bZ,gS,AI.dst,fc,cK,ixTo,f0,id,↓reduceIte,Nat.reduceEqDiff,reduceCtorEq,ea,ec,w1,w8,hal]
   refine aK (vs:=[_,w]) (by simp [w1]; rfl) e_f52 he (by simp [w5]; rfl) ?_
   simp (config:=KF) (disch:=omega) only [bZ,retI,↓reduceIte,Nat.reduceEqDiff,reduceCtorEq]
   exact hQ _
 ·obtain ⟨v1,v2,v3,v4,v5,v6,v7,v8,v9⟩:=hv.facts
  rw [decide_eq_false (fun q=>h q.length_le)] at hQ
  simp (config:=KF) (disch:=omega) only [bZ,retI,AI.dst,f0,↓reduceIte,Nat.reduceEqDiff,reduceCtorEq,v1,w1,v8,w8]
  exact hQ _
theorem cut_pure {v w:AV} {a b:List UInt8} (hv:BV v a) (hw:BV w b) (ha:a.length < 1000000) (hb:b.length < 1000000) :
  ∃ x,BV x (if b <+: a then a.drop b.length else a)∧∀ st,aF Go.Proofs.Try.prog n_f49 [v,w] st (.tup [x,.lit (.bool (decide (b <+: a)))]):=by
 obtain ⟨w1,w2,w3,w4,w5,w6,w7,w8,w9⟩:=hw.facts
 obtain ⟨v1,v2,v3,v4,v5,v6,v7,v8,v9⟩:=hv.facts
 have hp:=fun st=>fH st hv hw ha hb
 by_cases h:b <+: a
 ·rw [if_pos h]
  have hle:=h.length_le
  rw [decide_eq_true h] at hp ⊢
  rcases hv with ⟨rfl,rfl⟩ | rfl
  ·have hb0:b = []:=List.eq_nil_of_length_eq_zero (by simpa using hle)
   subst hb0
   refine ⟨_,.inl ⟨rfl,rfl⟩,fun st=>aV hmix k_f49 rfl rfl fun Q hQ=>?_⟩
   unfold aFun c_f49
   simp (config:=KF) (disch:=omega) only [bZ,id,↓reduceIte,Nat.reduceEqDiff,reduceCtorEq,w1]
   refine aK (vs:=[_,w]) (by simp [w1]; rfl) e_f29 (hp st) (by simp [w5]; rfl) ?_
   simp (config:=KF) (disch:=omega) only [bZ,retI,resI,resL,o_un,fW,cK,fC,ixTo,unA,bd,↓reduceIte,Nat.reduceEqDiff,Int.reduceLE,reduceCtorEq,w1,w8]
   exact hQ _
  ·refine ⟨.sl false 1 (BB (a.drop b.length)),.inr rfl,fun st=>aV hmix k_f49 rfl rfl fun Q hQ=>?_⟩
   unfold aFun c_f49
   have hal:=bN a
   simp (config:=KF) (disch:=omega) only [bZ,id,↓reduceIte,Nat.reduceEqDiff,reduceCtorEq,w1]
   refine aK (vs:=[_,w]) (by simp [w1]; rfl) e_f29 (hp st) (by simp [w5]; rfl) ?_
   simp (config:=KF) (disch:=omega) only [bZ,retI,resI,resL,o_un,fW,cK,fC,ixTo,unA,gH,bd,↓reduceIte,Nat.reduceEqDiff,reduceCtorEq,List.take_length,ea,ec,w1,w8,hal]
   exact hQ _
 ·rw [if_neg h]
  rw [decide_eq_false h] at hp ⊢
  refine ⟨v,hv,fun st=>aV hmix k_f49 rfl rfl fun Q hQ=>?_⟩
  unfold aFun c_f49
  simp (config:=KF) (disch:=omega) only [bZ,id,↓reduceIte,Nat.reduceEqDiff,reduceCtorEq,v1,w1]
  refine aK (vs:=[v,w]) (by simp [v1,w1]) e_f29 (hp st) (by simp [v5,w5]) ?_
  simp (config:=KF) (disch:=omega) only [bZ,retI,resI,resL,o_un,unA,bd,↓reduceIte,Nat.reduceEqDiff,reduceCtorEq,v1,v5]
  exact hQ _
theorem iE (st:St) {v w:AV} {a b:List UInt8} (hv:BV v a) (hw:BV w b) (ha:a.length < 1000000) (hb:b.length < 1000000) :
  aF Go.Proofs.Try.prog n_f31 [v,w] st (.lit (.bool (decide (a <+: b)))):=by
 refine aV hmix k_f31 rfl rfl fun Q hQ=>?_
 unfold aFun c_f31
 obtain ⟨v1,v2,v3,v4,v5,v6,v7,v8,v9⟩:=hv.facts
 by_cases h:a.length≤b.length
 ·rw [pre_dec] at hQ
  have hsw:decide (b.take a.length = a) = decide (a = b.take a.length):=decide_eq_decide.2 eq_comm
  rw [hsw] at hQ
  rcases hw with ⟨rfl,rfl⟩ | rfl
  ·have ha0:a = []:=List.eq_nil_of_length_eq_zero (by simpa using h)
   subst ha0
   have hn:∀ st,e7 st .bs (.lit (.slice none 0 0)) = .ok (.lit (.string (str []))):=fun _=>rfl
   simp (config:=KF) (disch:=omega) only [bZ,dM,cv,cG,dz,dN,jd,eg,eu,bq,aE,bg,and_self,jm,retI,AI.dst,cK,ixTo,lL,aM,↓reduceIte,Nat.reduceEqDiff,Int.reduceLE,reduceCtorEq,gP,v1,v8,v9,hn]
   exact hQ _
  ·have hc:∀ st,e7 st .bs (.sl false 1 (BB (b.take a.length))) = .ok (.lit (.string (str (b.take a.length)))):=fun st=>by
    simp only [e7,if_true,gc,gz,gy]
   have hbl:=bN b
   simp (config:=KF) (disch:=omega) only [bZ,dM,cv,cG,dz,dN,jd,eg,eu,bq,aE,bg,gS,retI,AI.dst,cK,ixTo,lL,aM,↓reduceIte,Nat.reduceEqDiff,reduceCtorEq,ea,ec,gP,cT,v1,v8,hbl,v9,hc]
   exact hQ _
 ·obtain ⟨w1,w2,w3,w4,w5,w6,w7,w8,w9⟩:=hw.facts
  rw [decide_eq_false (fun q=>h q.length_le)] at hQ
  simp (config:=KF) (disch:=omega) only [bZ,dM,cv,cG,dz,dN,eu,bB,cE,aE,bg,retI,AI.dst,lL,aM,↓reduceIte,Nat.reduceEqDiff,reduceCtorEq,d4,v1,w1,v8,w8]
  exact hQ _
end Go.Fx.YtoiokbmgdcaaoaaFx

