/- What the functions that the statement reaches compute: part 8. -/
import Derived.Test.YtoiokbmgdcaaoaaFxW7
namespace Go.Fx.YtoiokbmgdcaaoaaFx
open Go Go.Fx
attribute [local irreducible] aC runI ap am

set_option maxRecDepth 100000
set_option maxHeartbeats 4000000

def RB0:Nat:=140737488351232
structure EvW (e:Ev):Prop where
 p:PV e.call.data.v (prt e.call.data.v)
 b:BV e.en.data.v (byt e.en.data.v)
 pl:(prt e.call.data.v).length≤RB0
 dl:∀ d ∈ prt e.call.data.v,d.length≤RB0
 bl:(byt e.en.data.v).length≤RB0
noncomputable def smN (e:Ev):Nat:=(byt e.en.data.v).length + (((prt e.call.data.v).take 9).map List.length).sum
def smE (e:Ev):Prop:=smN e≤200∧(prt e.call.data.v).length≤8
theorem nC {L:List (List UInt8)} {R:Nat} (h:∀ d ∈ L,d.length≤R):∀ j,((L.take j).map List.length).sum≤j * R
 | 0=>by simp
 | j + 1 => by
   have ih:=nC h j
   by_cases hj:j < L.length
   ·rw [List.take_succ_eq_append_getElem hj,List.map_append,List.sum_append]
    have:=h L[j] (List.getElem_mem hj)
    simp only [List.map_cons,List.map_nil,List.sum_cons,List.sum_nil,Nat.add_mul]
    omega
   ·rw [List.take_of_length_le (by omega)] at ih ⊢
    rw [Nat.add_mul]; omega
theorem smE_ok {e:Ev} (hw:EvW e) (h:smE e):EvOk e:=by
 obtain ⟨h1,h2⟩:=h
 unfold smN at h1
 rw [List.take_of_length_le (by omega)] at h1
 exact ⟨⟨hw.p,h2,by unfold szC; omega⟩,⟨hw.b,by unfold lnE; omega⟩⟩
open Classical in
theorem small_pure (st:St) {l:List Ev} (hl:l.length≤RB0) (hw:∀ e ∈ l,EvW e) :
  aF Go.Proofs.Try.prog n_f7 [.sl false 30 (l.map evA)] st (.lit (.bool (decide (l.length≤60∧∀ e ∈ l,smE e)))):=by
 have hll:(l.map evA).length = l.length:=List.length_map ..
 unfold RB0 at hl
 refine aV hmix k_f7 rfl rfl fun Q hQ=>?_
 unfold aFun c_f7
 by_cases c0:60 < l.length
 ·rw [decide_eq_false (fun q=>by have:=q.1; omega)] at hQ
  simp (config:=KF) (disch:=omega) only [bZ,retI,lenI,↓reduceIte,Nat.reduceEqDiff,reduceCtorEq,hll]
  exact hQ _
 simp (config:=KF) (disch:=omega) only [bZ,lenI,↓reduceIte,Nat.reduceEqDiff,reduceCtorEq,hll]
 rw [f7_13w]
 refine da (A:=Nat) (fun k=>l.length - k) (fun k=>⟨[(0,.sl false 30 (l.map evA)),(3,.lit (.int .i64 (k:Nat)))],[]⟩) (fun _=>st)
  (fun k=>k≤l.length∧∀ j (hj:j < l.length),j < k→smE l[j]) 0 ⟨Nat.zero_le _,fun j _ h=>absurd h (Nat.not_lt_zero _)⟩ (Sf.le_refl _) rfl ?_
 rintro k ⟨h1,h2⟩ K hK hKe hKr
 try dsimp only
 by_cases hk:k < l.length
 ·have hgd:=fm hk
  rw [iD] at hgd
  have hwk:=hw l[k] (List.getElem_mem hk)
  have hK:=hK (k + 1)
  have hno:¬ (smN l[k]≤200∧(prt l[k].call.data.v).length≤8)→decide (l.length≤60∧∀ e ∈ l,smE e) = false:=fun q=>decide_eq_false fun r=>q (r.2 _ (List.getElem_mem hk))
  have hnx:(smN l[k]≤200∧(prt l[k].call.data.v).length≤8)→∀ j (hj:j < l.length),j < k + 1→smE l[j]:=fun q j hj hjk=>by
   by_cases e:j = k
   ·subst e; exact q
   ·exact h2 j hj (by omega)
  have hsn:smN l[k] = (byt l[k].en.data.v).length + (((prt l[k].call.data.v).take 9).map List.length).sum:=rfl
  generalize l[k] = e at *
  obtain ⟨p1,p2,p3,p4,p5,p6,p7,p8⟩:=hwk.p.facts
  obtain ⟨q1,q2,q3,q4,q5,q6,q7,q8,q9⟩:=hwk.b.facts
  have hpl:=hwk.pl
  have hbl:=hwk.bl
  have hst:=nC hwk.dl
  have hst9:=hst 9
  have hpv:=hwk.p
  unfold RB0 at hpl hbl hst hst9
  generalize hD:prt e.call.data.v = D at *
  generalize byt e.en.data.v = B at *
  simp (config:=KF) (disch:=omega) only [bZ,gS,ixSV,addA,ag,↓reduceIte,Nat.reduceEqDiff,reduceCtorEq,hgd,hll,q1,q8]
  rw [f7_26w]
  refine da (A:=Nat) (fun j=>D.length - j) (fun j=>⟨[(0,.sl false 30 (l.map evA)),(3,.lit (.int .i64 (k:Nat))),(4,.lit (.int .i64 ((B.length + ((D.take j).map List.length).sum:Nat):Int))),(5,.lit (.int .i64 (j:Nat)))],[]⟩) (fun _=>st)
   (fun j=>j≤D.length∧j≤9) 0 ⟨Nat.zero_le _,Nat.zero_le _⟩ (Sf.le_refl _) rfl ?_
  rintro j ⟨i1,i2⟩ K3 hK3 hKe3 hKr3
  try dsimp only
  have hfin:¬ (j < D.length∧j < 9)→((D.take j).map List.length).sum = ((D.take 9).map List.length).sum:=fun q=>by
   by_cases e:j = 9
   ·subst e; rfl
   ·rw [List.take_of_length_le (show D.length≤j by omega),List.take_of_length_le (show D.length≤9 by omega)]
  have hout:¬ (j < D.length∧j < 9)→K3 (.exit 2) ⟨[(0,.sl false 30 (l.map evA)),(3,.lit (.int .i64 (k:Nat))),(4,.lit (.int .i64 ((B.length + ((D.take j).map List.length).sum:Nat):Int)))],[]⟩ st:=fun q=>by
   rw [hfin q,← hsn]
   refine hKe3 _ _ _ ?_
   by_cases s1:smN e≤200
   ·by_cases s2:D.length≤8
    ·simp (config:=KF) (disch:=omega) only [bZ,aj,AI.dst,ixSV,addA,ag,↓reduceIte,Nat.reduceEqDiff,reduceCtorEq,hgd,hll,p1,p8]
     exact hK _ ⟨by omega,hnx ⟨s1,s2⟩⟩ (by omega) (Sf.le_refl _)
    ·rw [hno (fun r=>s2 r.2)] at hQ
     simp (config:=KF) (disch:=omega) only [bZ,aj,AI.dst,ixSV,addA,ag,↓reduceIte,Nat.reduceEqDiff,reduceCtorEq,hgd,hll,p1,p8]
     refine hKr _ _ ?_
     simp (config:=KF) (disch:=omega) only [bZ,retI,↓reduceIte]
     exact hQ _
   ·rw [hno (fun r=>s1 r.1)] at hQ
    simp (config:=KF) (disch:=omega) only [bZ,aj,AI.dst,↓reduceIte,Nat.reduceEqDiff,reduceCtorEq]
    refine hKr _ _ ?_
    simp (config:=KF) (disch:=omega) only [bZ,retI,↓reduceIte]
    exact hQ _
  by_cases j1:j < D.length
  ·by_cases j2:j < 9
   ·have hve:e.call.data.v = .sl false 1 (D.map fun d=>.sl false 1 (BB d)):=by
     rcases hpv with ⟨_,e⟩ | e
     ·rw [e] at j1; simp at j1
     ·exact e
    have hg2:(D.map fun d=>AV.sl false 1 (BB d)).getD j .any = .sl false 1 (BB D[j]):=by simp [j1]
    have hl2:(D.map fun d=>AV.sl false 1 (BB d)).length = D.length:=List.length_map ..
    have hl3:=bN D[j]
    have hs3:=hst (j + 1)
    have hs4:((D.take (j + 1)).map List.length).sum = ((D.take j).map List.length).sum + D[j].length:=by
     rw [List.take_succ_eq_append_getElem j1,List.map_append,List.sum_append]; simp
    have hK3:=hK3 (j + 1)
    rw [hs4,← Nat.add_assoc] at hK3
    rw [hs4] at hs3
    rw [hve] at hgd
    clear hout hfin
    generalize ((D.take j).map List.length).sum = T at *
    simp (config:=KF) (disch:=omega) only [bZ,AI.dst,ixSV,lenI,addA,ag,bw,↓reduceIte,Nat.reduceEqDiff,reduceCtorEq,m7,hgd,hll,hg2,hl2,hl3]
    exact hK3 _ ⟨by omega,by omega⟩ (by omega) (Sf.le_refl _)
   ·simp (config:=KF) (disch:=omega) only [bZ,az,bp,AI.dst,ixSV,addA,ag,↓reduceIte,Nat.reduceEqDiff,reduceCtorEq,hgd,hll,p1,p8]
    exact hout fun q=>j2 q.2
  ·simp (config:=KF) (disch:=omega) only [bZ,az,bp,AI.dst,ixSV,addA,ag,↓reduceIte,Nat.reduceEqDiff,reduceCtorEq,hgd,hll,p1,p8]
   exact hout fun q=>j1 q.1
 ·rw [decide_eq_true ⟨by omega,fun e he=>by
   obtain ⟨j,hj,rfl⟩:=List.mem_iff_getElem.1 he
   exact h2 j hj (by omega)⟩] at hQ
  simp (config:=KF) (disch:=omega) only [bZ,az,bp,lenI,↓reduceIte,Nat.reduceEqDiff,reduceCtorEq,hll]
  refine hKe _ _ _ ?_
  simp (config:=KF) (disch:=omega) only [bZ,aj,retI,↓reduceIte]
  exact hQ _
end Go.Fx.YtoiokbmgdcaaoaaFx

namespace Go.Fx.YtoiokbmgdcaaoaaFx
open Go Go.Fx
attribute [local irreducible] aC runI ap am

set_option maxRecDepth 100000
set_option maxHeartbeats 4000000

open Classical in
theorem ofL_calls {l:List Ev} {x:Pi} {W R P:AV} (hl:l.length≤RB0) (hw:∀ e ∈ l,EvW e) (hW:BV W x.w) (hR:BV R x.r) (hP:PV P x.p) (hwl:x.w.length≤RB0) (hrl:x.r.length≤RB0) (hpl:x.p.length≤RB0) (hdl:∀ d ∈ x.p,d.length≤RB0) (st:St) :
  aX Go.Proofs.Try.prog n_f5 [.sl false 30 (l.map evA),.agg (piC x W R P)] st (fun v _=>v = .lit (.bool true)):=by
 obtain ⟨a1,a2,a3,a4,a5,a6,a7,a8,a9⟩:=hW.facts
 obtain ⟨b1,b2,b3,b4,b5,b6,b7,b8,b9⟩:=hR.facts
 obtain ⟨c1,c2,c3,c4,c5,c6,c7,c8⟩:=hP.facts
 have hll:(l.map evA).length = l.length:=List.length_map ..
 have hsm:=small_pure st hl hw
 unfold RB0 at hl hwl hrl hpl hdl
 refine d5 hmix k_f5 rfl rfl fun Q hQ=>?_
 unfold aFun c_f5
 unfold piC
 simp (config:=KF) (disch:=omega) only [bZ,dn,id,↓reduceIte,Nat.reduceEqDiff,Nat.reduceAdd,reduceCtorEq,a2,a4,b2,b4,c2,c4]
 refine aK rfl e_f7 hsm rfl ?_
 by_cases k0:l.length≤60∧∀ e ∈ l,smE e
 case neg =>
  rw [decide_eq_false k0]
  simp (config:=KF) (disch:=omega) only [bZ,AI.dst,o_un,unA,id,↓reduceIte,Nat.reduceEqDiff,reduceCtorEq]
  refine aK rfl e_f8 (dp _) rfl ?_
  simp (config:=KF) (disch:=omega) only [bZ,retI,↓reduceIte,Nat.reduceEqDiff,reduceCtorEq]
  exact hQ _ _ rfl
 rw [decide_eq_true k0]
 have hok:∀ e ∈ l,EvOk e:=fun e he=>smE_ok (hw e he) (k0.2 e he)
 have hl60:=k0.1
 by_cases k1:x.w.length≤200
 case neg =>
  simp (config:=KF) (disch:=omega) only [bZ,AI.dst,o_un,addA,ag,unA,id,↓reduceIte,Nat.reduceEqDiff,reduceCtorEq,a1,a8]
  refine aK rfl e_f8 (dp _) rfl ?_
  simp (config:=KF) (disch:=omega) only [bZ,retI,↓reduceIte,Nat.reduceEqDiff,reduceCtorEq]
  exact hQ _ _ rfl
 by_cases k2:x.r.length≤200
 case neg =>
  simp (config:=KF) (disch:=omega) only [bZ,AI.dst,o_un,addA,ag,unA,id,↓reduceIte,Nat.reduceEqDiff,reduceCtorEq,a1,b1,a8,b8]
  refine aK rfl e_f8 (dp _) rfl ?_
  simp (config:=KF) (disch:=omega) only [bZ,retI,↓reduceIte,Nat.reduceEqDiff,reduceCtorEq]
  exact hQ _ _ rfl
 by_cases k3:x.p.length≤8
 case neg =>
  simp (config:=KF) (disch:=omega) only [bZ,AI.dst,o_un,addA,ag,unA,id,↓reduceIte,Nat.reduceEqDiff,reduceCtorEq,a1,b1,c1,a8,b8,c8]
  refine aK rfl e_f8 (dp _) rfl ?_
  simp (config:=KF) (disch:=omega) only [bZ,retI,↓reduceIte,Nat.reduceEqDiff,reduceCtorEq]
  exact hQ _ _ rfl
 by_cases k4:x.cap≤1073741824
 case neg =>
  simp (config:=KF) (disch:=omega) only [bZ,AI.dst,o_un,addA,ag,unA,id,↓reduceIte,Nat.reduceEqDiff,reduceCtorEq,a1,b1,c1,a8,b8,c8]
  refine aK rfl e_f8 (dp _) rfl ?_
  simp (config:=KF) (disch:=omega) only [bZ,retI,↓reduceIte,Nat.reduceEqDiff,reduceCtorEq]
  exact hQ _ _ rfl
 simp (config:=KF) (disch:=omega) only [bZ,AI.dst,o_un,addA,ag,unA,↓reduceIte,Nat.reduceEqDiff,reduceCtorEq,a1,b1,c1,a8,b8,c8]
 rw [f5_13w]
 refine da (A:=Nat) (fun k=>x.p.length - k) (fun k=>⟨[(0,.sl false 30 (l.map evA)),(3,.lptr 3 0),(5,.lit (.int .i64 (k:Nat)))],[(3,piC x W R P)]⟩) (fun _=>st)
  (fun k=>k≤x.p.length∧∀ j (hj:j < x.p.length),j < k→x.p[j].length≤200) 0 ⟨Nat.zero_le _,fun j _ h=>absurd h (Nat.not_lt_zero _)⟩ (Sf.le_refl _) rfl ?_
 rintro k ⟨h1,h2⟩ K hK hKe hKr
 try dsimp only
 unfold piC at hK ⊢
 by_cases hk:k < x.p.length
 ·have hpe:P = .sl false 1 (x.p.map fun d=>.sl false 1 (BB d)):=by
   rcases hP with ⟨_,e⟩ | e
   ·rw [e] at hk; simp at hk
   ·exact e
  have hgd:(x.p.map fun d=>AV.sl false 1 (BB d)).getD k .any = .sl false 1 (BB x.p[k]):=by simp [hk]
  have hpll:(x.p.map fun d=>AV.sl false 1 (BB d)).length = x.p.length:=List.length_map ..
  have hbl:=bN x.p[k]
  have hdk:=hdl x.p[k] (List.getElem_mem hk)
  have hK:=hK (k + 1)
  subst hpe
  by_cases hd:x.p[k].length≤200
  ·simp (config:=KF) (disch:=omega) only [bZ,ixSV,lenI,addA,ag,bw,↓reduceIte,Nat.reduceEqDiff,reduceCtorEq,hgd,hpll,hbl]
   refine hK _ ⟨by omega,fun j hj hjk=>?_⟩ (by omega) (Sf.le_refl _)
   by_cases e:j = k
   ·subst e; exact hd
   ·exact h2 j hj (by omega)
  ·simp (config:=KF) (disch:=omega) only [bZ,ixSV,lenI,addA,ag,id,bw,↓reduceIte,Nat.reduceEqDiff,reduceCtorEq,hgd,hpll,hbl]
   refine aK rfl e_f8 (dp _) rfl ?_
   simp (config:=KF) (disch:=omega) only [bZ,↓reduceIte,Nat.reduceEqDiff,reduceCtorEq]
   refine hKr _ _ ?_
   simp (config:=KF) (disch:=omega) only [bZ,retI,↓reduceIte]
   exact hQ _ _ rfl
 ·have hkl:k = x.p.length:=by omega
  subst hkl
  have hpo:POk x W R P:=⟨hW,hR,hP,by omega,by omega,by omega,fun d hd=>by
   obtain ⟨j,hj,rfl⟩:=List.mem_iff_getElem.1 hd
   have:=h2 j hj hj
   omega⟩
  have hof:=fun s=>of_calls s hpo (l:=l) (by omega) hok k4
  have hro:=fun s=>rof_pure s hpo (l:=l) (by omega) hok k4
  have hfe:em x (exsT l l.length) = jo x l:=propext (full_iff x l l.length (Nat.le_refl _))
  rw [hfe] at hof
  simp only [if_neg (show ¬ 5000 < l.length by omega)] at hof
  unfold piC at hof hro
  generalize flawP x (jo x l) = fl at *
  simp (config:=KF) (disch:=omega) only [bZ,az,bp,addA,ag,↓reduceIte,Nat.reduceEqDiff,reduceCtorEq,c1,c8]
  refine hKe _ _ _ ?_
  simp (config:=KF) (disch:=omega) only [bZ,aj,ag,id,↓reduceIte,Nat.reduceEqDiff,Nat.reduceAdd,Nat.reduceLeDiff,reduceCtorEq,a2,b2,c2]
  refine jW (vs:=[.sl false 30 (l.map evA),.agg [.lit (.int .i64 x.f1),.lit (.int .i64 x.f2),.lit (.int .i64 x.t1),.lit (.int .i64 x.t2),.lit (.int .i64 x.cap),W,R,P,.lit (.bool x.eof),.lit (.bool x.cpd)]]) (by simp [m3,dK,cR,a2,b2,c2]) e_f15 (hof _) (by simp [cr,gG,gH,a5,b5,c5]) fun v s1 hr=>?_
  subst hr
  simp (config:=KF) (disch:=omega) only [bZ,AI.dst,de,extV,ag,id,aY,↓reduceIte,Nat.reduceEqDiff,Nat.reduceAdd,Nat.reduceLeDiff,reduceCtorEq,a2,b2,c2]
  refine aK (vs:=[.sl false 30 (l.map evA),.agg [.lit (.int .i64 x.f1),.lit (.int .i64 x.f2),.lit (.int .i64 x.t1),.lit (.int .i64 x.t2),.lit (.int .i64 x.cap),W,R,P,.lit (.bool x.eof),.lit (.bool x.cpd)]]) (by simp [m3,dK,cR,a2,b2,c2]) e_f16 (hro _) (by simp [cr,gG,gH,a5,b5,c5]) ?_
  simp (config:=KF) (disch:=omega) only [bZ,AI.dst,id,↓reduceIte,Nat.reduceEqDiff,reduceCtorEq]
  refine aK rfl e_f8 (dp _) rfl ?_
  simp (config:=KF) (disch:=omega) only [bZ,retI,↓reduceIte,Nat.reduceEqDiff,reduceCtorEq]
  exact hQ _ _ rfl
end Go.Fx.YtoiokbmgdcaaoaaFx

namespace Go.Fx.YtoiokbmgdcaaoaaFx
open Go Go.Fx
attribute [local irreducible] aC runI ap am

set_option maxRecDepth 100000
set_option maxHeartbeats 4000000

abbrev CallT:=Int×(Int×Int×Unit)×(Int×Int×Unit)×(ByteArray×Int×Unit)×List (List Int)×Int×Int×Int×Int×Unit
abbrev EndT:=Int×Int×Int×Int×List Int×(Int×Int×Unit)×(Int×Int×Unit)×(ByteArray×Int×Unit)×Int×Unit
abbrev EvT:=Int×Int×CallT×Int×Bool×EndT×List Int×Int×Unit
abbrev PiT:=(Int×Int×Unit)×(Int×Int×Unit)×Int×List Int×List Int×List (List Int)×Bool×Bool×Unit
def dT (l:List (List Int)):AV:=.sl false 1 (l.map fun x=>.sl false 1 (x.map fun i=>.lit (.int .u8 i)))
def bT (l:List Int):AV:=.sl false 1 (l.map fun i=>.lit (.int .u8 i))
def wT (l:List Int):AV:=.sl false 1 (l.map fun i=>.lit (.int .i64 i))
def evT (x:EvT):AV:=.agg [.lit (.int .i64 x.1),.lit (.int .i64 x.2.1),
 .lit (.int .i64 x.2.2.1.1),.lit (.int .i64 x.2.2.1.2.1.1),.lit (.int .i64 x.2.2.1.2.1.2.1),.lit (.int .i64 x.2.2.1.2.2.1.1),.lit (.int .i64 x.2.2.1.2.2.1.2.1),.lit (.string x.2.2.1.2.2.2.1.1),.lit (.int .i64 x.2.2.1.2.2.2.1.2.1),dT x.2.2.1.2.2.2.2.1,.lit (.int .i64 x.2.2.1.2.2.2.2.2.1),.lit (.int .i64 x.2.2.1.2.2.2.2.2.2.1),.lit (.int .i64 x.2.2.1.2.2.2.2.2.2.2.1),.lit (.int .u64 x.2.2.1.2.2.2.2.2.2.2.2.1),
 .lit (.int .i64 x.2.2.2.1),.lit (.bool x.2.2.2.2.1),
 .lit (.int .i64 x.2.2.2.2.2.1.1),.lit (.int .i64 x.2.2.2.2.2.1.2.1),.lit (.int .i64 x.2.2.2.2.2.1.2.2.1),.lit (.int .i64 x.2.2.2.2.2.1.2.2.2.1),bT x.2.2.2.2.2.1.2.2.2.2.1,.lit (.int .i64 x.2.2.2.2.2.1.2.2.2.2.2.1.1),.lit (.int .i64 x.2.2.2.2.2.1.2.2.2.2.2.1.2.1),.lit (.int .i64 x.2.2.2.2.2.1.2.2.2.2.2.2.1.1),.lit (.int .i64 x.2.2.2.2.2.1.2.2.2.2.2.2.1.2.1),.lit (.string x.2.2.2.2.2.1.2.2.2.2.2.2.2.1.1),.lit (.int .i64 x.2.2.2.2.2.1.2.2.2.2.2.2.2.1.2.1),.lit (.int .u64 x.2.2.2.2.2.1.2.2.2.2.2.2.2.2.1),
 wT x.2.2.2.2.2.2.1,.lit (.int .u64 x.2.2.2.2.2.2.2.1)]
def byO (l:List Int):Prop:=l.length≤RB0∧∀ i ∈ l,0≤i∧i≤255
def okT (x:EvT):Prop:=0≤x.2.2.1.2.2.2.2.2.2.2.2.1∧0≤x.2.2.2.2.2.1.2.2.2.2.2.2.2.2.1∧0≤x.2.2.2.2.2.2.2.1∧(x.2.2.1.2.2.2.2.1.length≤RB0∧∀ d ∈ x.2.2.1.2.2.2.2.1,byO d)∧byO x.2.2.2.2.2.1.2.2.2.2.1
theorem g9:∀ {b:List Int},(∀ i ∈ b,0≤i∧i≤255)→∃ d:List UInt8,(b.map fun i=>AV.lit (.int .u8 i)) = BB d∧d.length = b.length
 | [],_=>⟨[],rfl,rfl⟩
 | x :: r, h => by
   obtain ⟨d,hd,hl⟩:=g9 (b:=r) fun i hi=>h i (by simp [hi])
   obtain ⟨h0,h1⟩:=h x (by simp)
   refine ⟨UInt8.ofNat x.toNat::d,?_,by simp [hl]⟩
   have e:(((UInt8.ofNat x.toNat).toNat:Nat):Int) = x:=by simp; omega
   rw [List.map_cons,hd,jc,e]
theorem bT_of {b:List Int} (h:byO b):∃ d:List UInt8,bT b = .sl false 1 (BB d)∧d.length≤RB0:=by
 obtain ⟨d,hd,hl⟩:=g9 h.2
 exact ⟨d,by unfold bT; rw [hd],by rw [hl]; exact h.1⟩
theorem dT_of:∀ {b:List (List Int)},(∀ d ∈ b,byO d)→∃ D:List (List UInt8),dT b = .sl false 1 (D.map fun d=>.sl false 1 (BB d))∧D.length = b.length∧∀ d ∈ D,d.length≤RB0
 | [],_=>⟨[],rfl,rfl,by simp⟩
 | x :: r, h => by
   obtain ⟨D,hD,hl,hd⟩:=dT_of (b:=r) fun i hi=>h i (by simp [hi])
   obtain ⟨d,h0,h1⟩:=bT_of (h x (by simp))
   refine ⟨d::D,?_,by simp [hl],fun e he=>?_⟩
   ·unfold dT bT at *
    injection hD with _ _ hD
    rw [List.map_cons,List.map_cons,hD,h0]
   ·rcases List.mem_cons.1 he with rfl | he
    ·exact h1
    ·exact hd e he
theorem byt_len {d:List UInt8}:(byt (.sl false 1 (BB d))).length = d.length:=by
 have h:=byt_ok (v:=.sl false 1 (BB d)) (.inr rfl)
 rcases h with ⟨e,_⟩ | e
 ·cases e
 ·injection e with _ _ e
  have:=congrArg List.length e
  rw [bN,bN] at this
  exact this.symm
theorem prt_lens {D:List (List UInt8)}:(prt (.sl false 1 (D.map fun d=>.sl false 1 (BB d)))).map List.length = D.map List.length:=by
 have h:=prt_ok (v:=.sl false 1 (D.map fun d=>.sl false 1 (BB d))) (.inr rfl)
 rcases h with ⟨e,_⟩ | e
 ·cases e
 ·injection e with _ _ e
  have:=congrArg (List.map fun v=>match v with | AV.sl _ _ es=>es.length | _=>0) e
  rw [List.map_map,List.map_map] at this
  have hf:((fun v=>match v with | AV.sl _ _ es=>es.length | _=>0) ∘ fun d=>AV.sl false 1 (BB d)) = List.length:=by
   funext d; exact bN d
  rw [hf] at this
  exact this.symm
theorem evs_of:∀ {l:List EvT},(∀ x ∈ l,okT x)→∃ L:List Ev,l.map evT = L.map evA∧L.length = l.length∧∀ e ∈ L,EvW e
 | [],_=>⟨[],rfl,rfl,by simp⟩
 | x :: r, h => by
   obtain ⟨L,hL,hl,hLw⟩:=evs_of (l:=r) fun y hy=>h y (by simp [hy])
   obtain ⟨h1,h2,h3,⟨h4,h5⟩,h6⟩:=h x (by simp)
   obtain ⟨kind,task,⟨ck,⟨cf1,cf2,_⟩,⟨ct1,ct2,_⟩,⟨cn,cp,_⟩,cd,cm,cnn,cdir,cat,_⟩,err,done,⟨et,ek,ee,en,ed,⟨ef1,ef2,_⟩,⟨et1,et2,_⟩,⟨enm,ep,_⟩,eat,_⟩,woke,now,_⟩:=x
   simp only at h1 h2 h3 h4 h5 h6
   obtain ⟨d,hd,hdl⟩:=bT_of h6
   obtain ⟨D,hD,hDl,hDd⟩:=dT_of h5
   refine ⟨⟨kind,task,⟨ck,cf1,cf2,ct1,ct2,cn,cp,⟨dT cd,.inr ⟨1,_,rfl⟩⟩,cm,cnn,cdir,cat.toNat⟩,err,done,⟨et,ek,ee,en,⟨bT ed,.inr ⟨1,_,rfl⟩⟩,ef1,ef2,et1,et2,enm,ep,eat.toNat⟩,⟨wT woke,.inr ⟨1,_,rfl⟩⟩,now.toNat⟩::L,?_,by simp [hl],fun e he=>?_⟩
   ·rw [List.map_cons,List.map_cons,hL]
    congr 1
    unfold evA
    rw [iD]
    unfold evT
    simp only [Int.toNat_of_nonneg h1,Int.toNat_of_nonneg h2,Int.toNat_of_nonneg h3]
   ·rcases List.mem_cons.1 he with rfl | he
    ·have hlens:=prt_lens (D:=D)
     refine ⟨prt_ok (L:=D) (.inr hD),byt_ok (L:=d) (.inr hd),?_,fun q hq=>?_,?_⟩
     ·show (prt (dT cd)).length≤RB0
      rw [hD]
      have:=congrArg List.length hlens
      rw [List.length_map,List.length_map] at this
      omega
     ·change q ∈ prt (dT cd) at hq
      rw [hD] at hq
      have hm:q.length ∈ D.map List.length:=by rw [← hlens]; exact List.mem_map.2 ⟨q,hq,rfl⟩
      obtain ⟨d',hd',e'⟩:=List.mem_map.1 hm
      rw [← e']
      exact hDd d' hd'
     ·show (byt (bT ed)).length≤RB0
      rw [hd,byt_len]
      exact hdl
    ·exact hLw e he
def piT (x:PiT):AV:=.agg [.lit (.int .i64 x.1.1),.lit (.int .i64 x.1.2.1),.lit (.int .i64 x.2.1.1),.lit (.int .i64 x.2.1.2.1),.lit (.int .i64 x.2.2.1),bT x.2.2.2.1,bT x.2.2.2.2.1,dT x.2.2.2.2.2.1,.lit (.bool x.2.2.2.2.2.2.1),.lit (.bool x.2.2.2.2.2.2.2.1)]
theorem qj {l:List EvT} {p:PiT} (h:∀ x ∈ l,okT x) (hl:l.length≤RB0) (h1:byO p.2.2.2.1) (h2:byO p.2.2.2.2.1) (h3:p.2.2.2.2.2.1.length≤RB0∧∀ d ∈ p.2.2.2.2.2.1,byO d):aX Go.Proofs.Try.prog n_f5 [.sl false 30 (l.map evT),piT p] ⟨[]⟩ (fun v _=>v = .lit (.bool true)):=by
 obtain ⟨L,e,e2,hw⟩:=evs_of h
 obtain ⟨⟨f1,f2,_⟩,⟨t1,t2,_⟩,cap,w,r,pd,eof,cpd,_⟩:=p
 simp only at h1 h2 h3
 obtain ⟨W,hW,hWl⟩:=bT_of h1
 obtain ⟨R,hR,hRl⟩:=bT_of h2
 obtain ⟨D,hD,hDl,hDd⟩:=dT_of h3.2
 rw [e]
 exact ofL_calls (l:=L) (x:=⟨f1,f2,t1,t2,cap,W,R,D,eof,cpd⟩) (W:=bT w) (R:=bT r) (P:=dT pd) (by rw [e2]; exact hl) hw (.inr hW) (.inr hR) (.inr hD) hWl hRl (by rw [hDl]; exact h3.1) hDd _
end Go.Fx.YtoiokbmgdcaaoaaFx

