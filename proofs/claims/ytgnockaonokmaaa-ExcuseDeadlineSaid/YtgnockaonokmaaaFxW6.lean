/- What the functions that the statement reaches compute: part 6. -/
import Derived.Test.YtgnockaonokmaaaFxW5
namespace Go.Fx.YtgnockaonokmaaaFx
open Go Go.Fx
attribute [local irreducible] aC runI az bj

set_option maxRecDepth 100000
set_option maxHeartbeats 4000000

def rowG (k:Nat) (vs:List AV):AV:=if vs = [] then .lit (.slice none 0 0) else .sl true k vs
theorem rowG_nil (k:Nat):rowG k [] = .lit (.slice none 0 0):=rfl
theorem rowG_sl {k:Nat} {vs:List AV} (h:vs≠[]):rowG k vs = .sl true k vs:=if_neg h
theorem rowG_facts (k:Nat) (vs:List AV):(∀ s,kill s (rowG k vs) = rowG k vs)∧(rowG k vs).noL = true∧(rowG k vs).solid1 = true∧∀ st,lenI .sl st (rowG k vs).dis = .ok (.lit (.int .i64 (vs.length:Nat))):=by
 unfold rowG; split
 ·rename_i h; rw [h]; exact ⟨fun _=>rfl,rfl,rfl,fun _=>rfl⟩
 ·exact ⟨fun _=>rfl,rfl,rfl,fun _=>rfl⟩
theorem rowG_dd (k:Nat) (vs:List AV):(rowG k vs).dis.dis = (rowG k vs).dis∧(rowG k vs).dis.noL = true:=by
 unfold rowG; split <;> exact ⟨rfl,rfl⟩
abbrev FD:=Int×Int
def fdA (f:FD):AV:=.agg [.lit (.int .i64 f.1),.lit (.int .i64 f.2)]
def fdV (l:List FD):AV:=(rowG 2 (l.map fdA)).dis
theorem fd_dis (l:List FD):(l.map fdA).map AV.dis = l.map fdA:=by rw [List.map_map]; exact List.map_congr_left fun _ _=>rfl
def eI (l:List Fl):List FD:=(l.filter Fl.on).map fun f=>(f.f1,f.f2)
theorem gI {st:St} {p m1 m2 m3 m4:Nat} {fv bv tr:AV} {P:PS} (h:PastIs st p m1 m2 m3 m4 fv bv tr P) (f1 f2 dir:Int) :
  aI Go.Proofs.Try.prog n_f24 [.ptr p 0,.agg [.lit (.int .i64 f1),.lit (.int .i64 f2)],.lit (.int .i64 dir)] st (.lit (.int .u64 (((lk3 (f1,f2,dir) P.dl).getD 18446744073709551615:Nat):Int))):=by
 refine aP hmix k_f24 rfl rfl fun Q hQ=>?_
 unfold aFun c_f24
 have hg:=h.get
 have hlk:=fun z=>look_3 h.dm z (f1,f2,dir)
 unfold kA nAV at hlk
 simp only at hlk
 cases hc:lk3 (f1,f2,dir) P.dl with
 | none =>
   rw [hc] at hQ
   simp only [hc] at hlk
   simp (config:=KF) (disch:=omega) only [bZ,jZ,bk,bE,j0,ec,aZ,and_self,retI,aJ,bstV,addA,aa,bg,cq,aL,↓reduceIte,Nat.reduceEqDiff,Nat.reduceAdd,Nat.reduceLeDiff,reduceCtorEq,ai,hg,hlk]
   exact hQ _
 | some t =>
   rw [hc] at hQ
   simp only [hc,jh] at hlk
   simp (config:=KF) (disch:=omega) only [bZ,jZ,bk,bE,j0,ec,aZ,and_self,retI,aJ,bstV,addA,aa,bg,cq,aL,↓reduceIte,Nat.reduceEqDiff,Nat.reduceAdd,Nat.reduceLeDiff,reduceCtorEq,ai,hg,hlk]
   exact hQ _

theorem xopen_calls (st:St) {l:List Ev} (at_:Int) (hl:l.length≤10000) :
  aF Go.Proofs.Try.prog n_f8 [.sl false 30 (l.map evA),.lit (.int .i64 at_)] st (fun v _=>v = if 5000 < l.length then .tup [.lit (.slice none 0 0),.lit (.int .i64 7)] else if at_ < 0∨(l.length:Int) < at_ then .tup [.lit (.slice none 0 0),.lit (.int .i64 3)] else .tup [fdV (eI (pAll (l.take at_.toNat)).files),.lit (.int .i64 0)]):=by
 have hll:(l.map evA).length = l.length:=List.length_map ..
 refine a8 hmix k_f8 rfl rfl fun Q hQ=>?_
 unfold aFun c_f8
 have hr:=e8 st l at_ l.length (by omega)
 simp (config:=KF) (disch:=omega) only [bZ,lenI,id,↓reduceIte,Nat.reduceEqDiff,reduceCtorEq,hll]
 refine aQ rfl e_f19 hr rfl ?_
 by_cases c1:5000 < l.length
 ·rw [if_pos c1] at hQ ⊢
  simp (config:=KF) (disch:=omega) only [bZ,retI,resI,↓reduceIte,Nat.reduceEqDiff,Int.reduceEq,reduceCtorEq,not_false_eq_true]
  exact hQ _ _ rfl
 by_cases c2:at_ < 0∨(l.length:Int) < at_
 ·rw [if_neg c1,if_pos c2] at hQ ⊢
  simp (config:=KF) (disch:=omega) only [bZ,retI,resI,↓reduceIte,Nat.reduceEqDiff,Int.reduceEq,reduceCtorEq,not_false_eq_true]
  exact hQ _ _ rfl
 rw [if_neg c1,if_neg c2] at hQ ⊢
 obtain ⟨k,rfl⟩:∃ k:Nat,at_ = (k:Int):=⟨at_.toNat,by omega⟩
 rw [Int.toNat_natCast] at hQ
 simp (config:=KF) (disch:=omega) only [bZ,id,↓reduceIte,Nat.reduceEqDiff,reduceCtorEq,not_true_eq_false,decide_false]
 refine aK rfl e_f20 (fX st (show k≤l.length by omega) hl) rfl fun v s1 hr=>?_
 obtain ⟨p,tr,rfl,⟨m1,m2,m3,m4,fv,bv,h1,_⟩,_⟩:=hr
 have hn:=PSn.all (l.take k) 0 P0 PSn.zero
 rw [Nat.zero_add,List.length_take,Nat.min_eq_left (by omega)] at hn
 have hfl:=hn.fl
 change (pAll (l.take k)).files.length≤2 * k at hfl
 generalize pAll (l.take k) = P at h1 hQ hfl
 have hg:=h1.get
 obtain ⟨v1,v2,v3,v4,v5,v6,v7,v8⟩:=h1.fb.facts
 simp (config:=KF) (disch:=omega) only [bZ,bN,aJ,addA,aa,↓reduceIte,Nat.reduceEqDiff,reduceCtorEq,hg,v1,v8]
 rw [f8_17w]
 refine cJ (A:=Nat) (fun j=>P.files.length - j) (fun j=>⟨[(7,rowG 2 ((eI (P.files.take j)).map fdA)),(23,fv),(24,.lit (.int .i64 (P.files.length:Nat))),(25,.lit (.int .i64 (j:Nat)))],[]⟩) (fun _=>s1)
  (fun j=>j≤P.files.length) 0 (Nat.zero_le _) (Sf.le_refl _) rfl ?_
 rintro j h2 K hK hKe hKr
 try dsimp only
 obtain ⟨g1,g2,g3,g4⟩:=rowG_facts 2 ((eI (P.files.take j)).map fdA)
 by_cases hj:j < P.files.length
 ·have hnx:eI (P.files.take (j + 1)) = eI (P.files.take j)++if P.files[j].on = true then [(P.files[j].f1,P.files[j].f2)] else []:=by
   unfold eI
   rw [List.take_succ_eq_append_getElem hj,List.filter_append,List.map_append,List.filter_cons]
   split <;> rfl
  have hle:(eI (P.files.take j)).length≤j:=by
   unfold eI
   rw [List.length_map]
   have:=List.length_filter_le Fl.on (P.files.take j)
   rw [List.length_take] at this
   omega
  have hK:=hK (j + 1)
  rw [hnx] at hK
  generalize eI (P.files.take j) = acc at *
  rcases h1.fb with ⟨_,e⟩ | ⟨bi,cap,r,rfl,hgb,q3,q4⟩
  ·rw [e] at hj; simp at hj
  obtain ⟨t,hd⟩:=eF dR hj r
  generalize P.files[j] = x at hd hK
  simp only [gG,List.cons_append,List.nil_append] at hd
  cases hon:x.on with
  | false =>
    rw [hon] at hd
    rw [if_neg (by rw [hon]; simp),List.append_nil] at hK
    simp (config:=KF) (disch:=omega) only [bZ,b9,bw,ixSV,aw,addA,aa,gW,↓reduceIte,Nat.reduceEqDiff,Nat.reduceAdd,Nat.reduceLeDiff,aR,ai,hgb,hd,g1]
    exact hK _ (by omega) (by omega) (Sf.le_refl _)
  | true =>
    rw [hon] at hd
    rw [if_pos hon] at hK
    have hr2:rowG 2 ((acc++[(x.f1,x.f2)]).map fdA) = .sl true 2 (acc.map fdA++[.agg [.lit (.int .i64 x.f1),.lit (.int .i64 x.f2)]]):=by
     rw [List.map_append,rowG_sl (by simp)]; rfl
    have hml:(acc.map fdA).length = acc.length:=List.length_map ..
    have hdi:=fd_dis acc
    rw [hr2] at hK
    by_cases ha:acc = []
    ·subst ha
     rw [List.map_nil,rowG_nil] at *
     simp (config:=KF) (disch:=omega) only [bZ,and_self,b9,o_bsl,o_appS,bw,ixSV,bslV,appSX,aw,List.isEmpty_cons,List.reduceReplicate,addA,aa,eN,srcA,dM,fB,gW,↓reduceIte,Nat.reduceEqDiff,Nat.reduceAdd,Nat.reduceLT,Nat.reduceLeDiff,jl,aR,ai,hgb,hd]
     exact hK _ (by omega) (by omega) (Sf.le_refl _)
    ·have hr1:rowG 2 (acc.map fdA) = .sl true 2 (acc.map fdA):=rowG_sl (by simpa using ha)
     rw [hr1]
     simp (config:=KF) (disch:=omega) only [bZ,and_self,b9,o_bsl,o_appS,bw,ixSV,bslV,appSX,aw,List.reduceReplicate,addA,aa,fP,srcA,dM,fB,gW,↓reduceIte,Nat.reduceEqDiff,Nat.reduceAdd,Nat.reduceLT,Nat.reduceLeDiff,jl,aR,ai,hgb,hd,hml]
     exact hK _ (by omega) (by omega) (Sf.le_refl _)
 ·have hjl:j = P.files.length:=by omega
  subst hjl
  rw [List.take_length] at *
  obtain ⟨d1,d2⟩:=rowG_dd 2 ((eI P.files).map fdA)
  simp (config:=KF) (disch:=omega) only [bZ,↓reduceIte,Nat.reduceEqDiff]
  refine hKe _ _ _ ?_
  simp (config:=KF) (disch:=omega) only [bZ,retI,resI,↓reduceIte,Nat.reduceEqDiff,d1,d2]
  exact hQ _ _ rfl

theorem gJ (st:St) {l:List Ev} (at_ f1 f2 dir:Int) (hl:l.length≤10000) :
  aF Go.Proofs.Try.prog n_f11 [.sl false 30 (l.map evA),.lit (.int .i64 at_),.agg [.lit (.int .i64 f1),.lit (.int .i64 f2)],.lit (.int .i64 dir)] st (fun v _=>v = if 5000 < l.length then .tup [.lit (.int .u64 0),.lit (.int .i64 7)] else if at_ < 0∨(l.length:Int) < at_ then .tup [.lit (.int .u64 0),.lit (.int .i64 3)] else if dir≠0∧dir≠1 then .tup [.lit (.int .u64 0),.lit (.int .i64 2)] else .tup [.lit (.int .u64 (((lk3 (f1,f2,dir) (pAll (l.take at_.toNat)).dl).getD 18446744073709551615:Nat):Int)),.lit (.int .i64 0)]):=by
 have hll:(l.map evA).length = l.length:=List.length_map ..
 refine a8 hmix k_f11 rfl rfl fun Q hQ=>?_
 unfold aFun c_f11
 have hr:=e8 st l at_ l.length (by omega)
 simp (config:=KF) (disch:=omega) only [bZ,lenI,id,↓reduceIte,Nat.reduceEqDiff,Nat.reduceAdd,reduceCtorEq,hll]
 refine aQ rfl e_f19 hr rfl ?_
 by_cases c1:5000 < l.length
 ·rw [if_pos c1] at hQ ⊢
  simp (config:=KF) (disch:=omega) only [bZ,retI,resI,↓reduceIte,Nat.reduceEqDiff,Int.reduceEq,reduceCtorEq,not_false_eq_true]
  exact hQ _ _ rfl
 by_cases c2:at_ < 0∨(l.length:Int) < at_
 ·rw [if_neg c1,if_pos c2] at hQ ⊢
  simp (config:=KF) (disch:=omega) only [bZ,retI,resI,↓reduceIte,Nat.reduceEqDiff,Int.reduceEq,reduceCtorEq,not_false_eq_true]
  exact hQ _ _ rfl
 rw [if_neg c1,if_neg c2] at hQ ⊢
 by_cases c3:dir≠0∧dir≠1
 ·rw [if_pos c3] at hQ
  obtain ⟨d0,d1⟩:=c3
  simp (config:=KF) (disch:=omega) only [bZ,retI,resI,AI.dst,↓reduceIte,Nat.reduceEqDiff,reduceCtorEq,not_true_eq_false,decide_false,aM]
  exact hQ _ _ rfl
 rw [if_neg c3] at hQ
 obtain ⟨k,rfl⟩:∃ k:Nat,at_ = (k:Int):=⟨at_.toNat,by omega⟩
 rw [Int.toNat_natCast] at hQ
 have go:aC Go.Proofs.Try.prog id false f11_17 ⟨[(0,.sl false 30 (l.map evA)),(1,.lit (.int .i64 (k:Nat))),(3,.lit (.int .i64 dir)),(6,.lptr 6 0),(24,.lit (.bool false))],[(6,[.lit (.int .i64 f1),.lit (.int .i64 f2)])]⟩ st (retQ [RI.tmp 8,RI.tmp 9] Q):=by
  simp (config:=KF) (disch:=omega) only [bZ,f11_17e]
  refine draw_m ⟨[]⟩ (St.sub_nil _) ?_
  simp (config:=KF) (disch:=omega) only [bZ,nu,j4,nv,il,atM_eq,ft,dropP,dropQ,lH,id,List.append_nil,List.nil_append,List.cons_append,↓reduceIte,Nat.reduceEqDiff,reduceCtorEq]
  refine call_m rfl e_f20 (fX st (show k≤l.length by omega) hl) rfl ?_
  simp (config:=KF) (disch:=omega) only [bZ,ksB,au,aT,br,aE,nstB,bt,il,eY,hm_nil,oc,hm_val,l9,aa,List.nil_append,List.cons_append,↓reduceIte,Nat.reduceEqDiff,Nat.reduceAdd,Nat.reduceLeDiff,reduceCtorEq]
  rintro v s1 ⟨p,tr,rfl,⟨m1,m2,m3,m4,fv,bv,h1,_⟩,_⟩
  refine ⟨St.sub_nil _,?_⟩
  simp (config:=KF) (disch:=omega) only [bZ,ksB,au,aT,br,aE,bH,bq,nstB,bt,nu,j4,nv,il,eY,l8,j5,og,ma,od,and_self,aa,id,List.nil_append,List.cons_append,↓reduceIte,Nat.reduceEqDiff,Nat.reduceAdd,Nat.reduceLeDiff,reduceCtorEq]
  refine aQ rfl e_f24 (gI h1 f1 f2 dir) rfl ?_
  simp (config:=KF) (disch:=omega) only [bZ,retI,resI,↓reduceIte,Nat.reduceEqDiff,reduceCtorEq]
  exact hQ _ _ rfl
 by_cases d0:dir = 0
 ·simp (config:=KF) (disch:=omega) only [bZ,aG,AI.dst,↓reduceIte,Nat.reduceEqDiff,reduceCtorEq,not_true_eq_false,decide_false,aY]
  exact go
 ·have d1:dir = 1:=by omega
  simp (config:=KF) (disch:=omega) only [bZ,AI.dst,↓reduceIte,Nat.reduceEqDiff,reduceCtorEq,not_true_eq_false,decide_false,aM]
  exact go
end Go.Fx.YtgnockaonokmaaaFx

