/- What the functions that the statement reaches compute: part 9. -/
import Derived.Test.YtgnockaonokmaaaFxW8
namespace Go.Fx.YtgnockaonokmaaaFx
open Go Go.Fx
attribute [local irreducible] aC runI az bj

set_option maxRecDepth 100000
set_option maxHeartbeats 4000000

def gc0:Cl:=⟨0,0,0,0,0,⟨#[]⟩,0,fv0,0,0,0,0⟩
def ge0:En:=⟨0,0,0,0,fv0,0,0,0,0,⟨#[]⟩,0,0⟩
def gv0:Ev:=⟨0,0,gc0,0,false,ge0,fv0,0⟩
def gv:List Ev:=[
 { gv0 with kind:=1,call:={ gc0 with kind:=4,most:=3 } },
 { gv0 with kind:=2,done:=true,en:={ ge0 with kind:=4,t1:=1 } },
 { gv0 with kind:=1,call:={ gc0 with kind:=10,f1:=1,at_:=5 } },
 { gv0 with kind:=2,done:=true,en:={ ge0 with kind:=10 } },
 { gv0 with kind:=3,now:=5 },
 { gv0 with kind:=1,task:=1,call:={ gc0 with kind:=5,f1:=1,most:=9 },now:=5 },
 { gv0 with kind:=2,task:=1,done:=true,en:={ ge0 with task:=1,kind:=5,err:=12,at_:=5 },now:=5 },
 { gv0 with kind:=1,call:={ gc0 with kind:=5,f1:=9,most:=1 },now:=5 },
 { gv0 with kind:=2,done:=true,en:={ ge0 with kind:=5,err:=9,at_:=5 },now:=5 }]
theorem given_pure (st:St):aI Go.Proofs.Try.prog n_f17 [] st (.sl true 30 (gv.map evA)) :=
 x_pure hmix tabOk noPrimOk 100 12 (by kernel_rfl) rfl rfl st
def FdV (v:AV) (l:List FD):Prop:=(v = .lit (.slice none 0 0)∧l = [])∨v = .sl false 2 (l.map fdA)
theorem FdV.facts {v:AV} {l:List FD} (h:FdV v l):v.dis = v∧v.own1 = v∧v.own2 = v∧v.solid1 = true∧v.noL = true∧v.cells = [v]∧(∀ s,kill s v = v)∧∀ st',lenI .sl st' v = .ok (.lit (.int .i64 (l.length:Nat))):=by
 rcases h with ⟨rfl,rfl⟩ | rfl
 ·exact ⟨rfl,rfl,rfl,rfl,rfl,rfl,fun _=>rfl,fun _=>rfl⟩
 ·exact ⟨rfl,rfl,rfl,rfl,rfl,rfl,fun _=>rfl,fun _=>by rw [len_sl,List.length_map]⟩
theorem fdV_v (l:List FD):FdV (fdV l) l:=by
 unfold fdV rowG FdV
 cases l with
 | nil=>exact .inl ⟨rfl,rfl⟩
 | cons a l=>exact .inr rfl
theorem same_pure (st:St) {v w:AV} {a b:List FD} (hv:FdV v a) (hw:FdV w b) (ha:a.length < 1000000) (hb:b.length < 1000000) :
  aI Go.Proofs.Try.prog n_f9 [v,w] st (.lit (.bool (decide (a = b)))):=by
 refine aP hmix k_f9 rfl rfl fun Q hQ=>?_
 unfold aFun c_f9
 obtain ⟨v1,v2,v3,v4,v5,v6,v7,v8⟩:=hv.facts
 obtain ⟨w1,w2,w3,w4,w5,w6,w7,w8⟩:=hw.facts
 by_cases hl:a.length = b.length
 ·simp (config:=KF) (disch:=omega) only [bZ,↓reduceIte,Nat.reduceEqDiff,reduceCtorEq,v1,v8,w1,w8]
  rw [f9_13w]
  refine cJ (A:=Nat) (fun k=>a.length - k) (fun k=>⟨[(0,v),(1,w),(5,.lit (.int .i64 (k:Nat)))],[]⟩) (fun _=>st)
   (fun k=>k≤a.length∧a.take k = b.take k) 0 ⟨Nat.zero_le _,rfl⟩ (Sf.le_refl _) rfl ?_
  rintro k ⟨h1,h2⟩ K hK hKe hKr
  try dsimp only
  by_cases hk:k < a.length
  ·have hkb:k < b.length:=by omega
   have hva:v = .sl false 2 (a.map fdA):=by
    rcases hv with ⟨_,e⟩ | e
    ·rw [e] at hk; simp at hk
    ·exact e
   have hwb:w = .sl false 2 (b.map fdA):=by
    rcases hw with ⟨_,e⟩ | e
    ·rw [e] at hkb; simp at hkb
    ·exact e
   have hga:(a.map fdA).getD k .any = .agg [.lit (.int .i64 a[k].1),.lit (.int .i64 a[k].2)]:=by simp [hk,fdA]
   have hgb:(b.map fdA).getD k .any = .agg [.lit (.int .i64 b[k].1),.lit (.int .i64 b[k].2)]:=by simp [hkb,fdA]
   have hla:(a.map fdA).length = a.length:=List.length_map ..
   have hlb:(b.map fdA).length = b.length:=List.length_map ..
   have hne:=fd_neq a[k].1 a[k].2 b[k].1 b[k].2
   have hnx:a[k] = b[k]→a.take (k + 1) = b.take (k + 1):=fun e=>by rw [List.take_succ_eq_append_getElem hk,List.take_succ_eq_append_getElem hkb,h2,e]
   have hno:a[k]≠b[k]→a≠b:=fun e q=>e (by subst q; rfl)
   subst hva hwb
   by_cases c:a[k].1 = b[k].1∧a[k].2 = b[k].2
   ·rw [decide_eq_false (fun q=>q c)] at hne
    simp (config:=KF) (disch:=omega) only [bZ,fh,aZ,ixSV,lenI,aa,↓reduceIte,Nat.reduceEqDiff,Nat.reduceAdd,Nat.reduceLeDiff,reduceCtorEq,aR,hga,hgb,hla,hlb,hne]
    exact hK (k + 1) _ ⟨by omega,hnx (Prod.ext c.1 c.2)⟩ (by omega) (Sf.le_refl _)
   ·rw [decide_eq_true c] at hne
    rw [decide_eq_false (hno fun q=>c (by rw [q]; exact ⟨rfl,rfl⟩))] at hQ
    simp (config:=KF) (disch:=omega) only [bZ,fh,aZ,aD,ixSV,lenI,aa,↓reduceIte,Nat.reduceEqDiff,Nat.reduceAdd,Nat.reduceLeDiff,reduceCtorEq,hga,hgb,hla,hlb,hne]
    refine hKr _ _ ?_
    simp (config:=KF) (disch:=omega) only [bZ,aD,retI,↓reduceIte]
    exact hQ _
  ·have hka:k = a.length:=by omega
   subst hka
   rw [List.take_length,hl,List.take_length] at h2
   rw [decide_eq_true h2] at hQ
   simp (config:=KF) (disch:=omega) only [bZ,↓reduceIte,Nat.reduceEqDiff,reduceCtorEq,v1,v8]
   refine hKe _ _ _ ?_
   simp (config:=KF) (disch:=omega) only [bZ,retI,↓reduceIte]
   exact hQ _
 ·rw [decide_eq_false (fun q=>hl (by rw [q]))] at hQ
  simp (config:=KF) (disch:=omega) only [bZ,retI,↓reduceIte,Nat.reduceEqDiff,reduceCtorEq,v1,v8,w1,w8]
  exact hQ _
theorem fi (st:St) {l:List Ev} (k:Nat) (want x:Int) (hk:k < l.length) (hl:l.length≤5000) (hx:exO (pAll (l.take k)) l[k] = some x) (hb:(pAll (l.take k)).bound = []) :
  aF Go.Proofs.Try.prog n_f18 [.sl false 30 (l.map evA),.lit (.int .i64 (k:Nat)),.lit (.int .i64 want)] st (fun v _=>v = .lit (.bool (decide (x = want)))):=by
 refine a8 hmix k_f18 rfl rfl fun Q hQ=>?_
 unfold aFun c_f18
 have hof:=xof_calls st (k:Int) (show l.length≤10000 by omega) (x:=x) fun j hj hjl=>by
  have:j = k:=by omega
  subst this
  exact ⟨hx,hb⟩
 rw [if_neg (by omega),if_neg (by omega)] at hof
 simp (config:=KF) (disch:=omega) only [bZ,id,↓reduceIte,Nat.reduceEqDiff,Nat.reduceAdd,reduceCtorEq]
 refine aK rfl e_f13 hof rfl fun v s1 hr=>?_
 subst hr
 simp (config:=KF) (disch:=omega) only [bZ,retI,AI.dst,cw,↓reduceIte,Nat.reduceEqDiff,reduceCtorEq]
 exact hQ _ _ rfl
def gx:List Int:=[0,0,0,0,0,0,2,0,3]
def gx2:List Int:=[0,1,0,3]
theorem dg:gv.length = 9:=rfl
theorem gx_ok:∀ (k:Nat) (hk:k < gv.length),exO (pAll (gv.take k)) gv[k] = some (gx[k]'(by rw [dg] at hk; exact hk))∧(pAll (gv.take k)).bound = []
 | 0,_ | 1,_ | 2,_ | 3,_ | 4,_ | 5,_ | 6,_ | 7,_ | 8,_=>⟨rfl,rfl⟩
 | k + 9,hk=>by rw [dg] at hk; omega
def gvd:List Ev:=gv.drop 5
theorem ow:gvd.length = 4:=rfl
theorem gx2_ok:∀ (k:Nat) (hk:k < gvd.length),exO (pAll (gvd.take k)) gvd[k] = some (gx2[k]'(by rw [ow] at hk; exact hk))∧(pAll (gvd.take k)).bound = []
 | 0,_ | 1,_ | 2,_ | 3,_=>⟨rfl,rfl⟩
 | k + 4,hk=>by rw [ow] at hk; omega
theorem dt (st:St):aF Go.Proofs.Try.prog n_f7 [] st (fun v _=>v = .lit (.bool true)):=by
 refine a8 hmix k_f7 rfl rfl fun Q hQ=>?_
 unfold aFun c_f7
 simp (config:=KF) (disch:=omega) only [bZ,id]
 refine aQ rfl e_f17 (given_pure st) rfl ?_
 have h1:=fun s=>xopen_calls s (l:=gv) 2 (by rw [dg]; omega)
 have e1:eI (pAll (gv.take (2:Int).toNat)).files = [(0,0),(1,0)]:=rfl
 simp only [dg,e1] at h1
 have h2:=fun s=>gJ s (l:=gv) 4 1 0 0 (by rw [dg]; omega)
 have e2:(lk3 ((1:Int),(0:Int),(0:Int)) (pAll (gv.take (4:Int).toNat)).dl).getD 18446744073709551615 = 5:=rfl
 simp only [dg,e2] at h2
 have h3:=fun s=>gJ s (l:=gv) 3 1 0 0 (by rw [dg]; omega)
 have e3:(lk3 ((1:Int),(0:Int),(0:Int)) (pAll (gv.take (3:Int).toNat)).dl).getD 18446744073709551615 = 18446744073709551615:=rfl
 simp only [dg,e3] at h3
 have h4:=fun s=>jv s (l:=gv) (by rw [dg]; omega) (xs:=gx) rfl gx_ok
 have h5:=fun s=>jv s (l:=gvd) (by rw [ow]; omega) (xs:=gx2) rfl gx2_ok
 have e4:(gx.findIdx? fun x=>decide (x = 1)) = none:=rfl
 have e5:(gx2.findIdx? fun x=>decide (x = 1)) = some 1:=rfl
 simp only [e4,ixI] at h4
 simp only [e5,ixI] at h5
 have hd:((gv.map evA).take 9).drop 5 = gvd.map evA:=rfl
 have hll:(gv.map evA).length = 9:=rfl
 have h6:=fun s=>fi s (l:=gv) 6 2 2 (by rw [dg]; omega) (by rw [dg]; omega) rfl rfl
 have h8:=fun s=>fi s (l:=gv) 8 3 3 (by rw [dg]; omega) (by rw [dg]; omega) rfl rfl
 have h9:=fun s=>fi s (l:=gv) 3 0 0 (by rw [dg]; omega) (by rw [dg]; omega) rfl rfl
 have hsm:=fun s=>same_pure s (fdV_v [(0,0),(1,0)]) (w:=.sl false 2 [.agg [.lit (.int .i64 0),.lit (.int .i64 0)],.agg [.lit (.int .i64 1),.lit (.int .i64 0)]]) (b:=[(0,0),(1,0)]) (.inr rfl) (by simp) (by simp)
 obtain ⟨v1,v2,v3,v4,v5,v6,v7,v8⟩:=(fdV_v [(0,0),(1,0)]).facts
 generalize gv.map evA = G at *
 generalize fdV [(0,0),(1,0)] = V at *
 simp (config:=KF) (disch:=omega) only [bZ,and_self,nj,bw,bstV,aw,bg,id,aL,↓reduceIte,Nat.reduceEqDiff,Nat.reduceAdd,Nat.reduceLeDiff,ai]
 refine aK rfl e_f8 (h1 _) rfl fun v s1 hr=>?_
 simp only [show ¬ 5000 < 9 by omega,show ¬ ((2:Int) < 0∨((9:Nat):Int) < 2) by omega,if_false] at hr
 subst hr
 simp (config:=KF) (disch:=omega) only [bZ,cw,aa,id,↓reduceIte,Nat.reduceEqDiff,Nat.reduceAdd,Nat.reduceLeDiff,v1,v3]
 refine aK rfl e_f11 (h2 _) rfl fun v s2 hr=>?_
 simp only [show ¬ 5000 < 9 by omega,show ¬ ((4:Int) < 0∨((9:Nat):Int) < 4) by omega,if_false,ne_eq,not_true_eq_false,false_and] at hr
 subst hr
 simp (config:=KF) (disch:=omega) only [bZ,cw,aa,id,↓reduceIte,Nat.reduceEqDiff,Nat.reduceAdd,Nat.reduceLeDiff]
 refine aK rfl e_f11 (h3 _) rfl fun v s3 hr=>?_
 simp only [show ¬ 5000 < 9 by omega,show ¬ ((3:Int) < 0∨((9:Nat):Int) < 3) by omega,if_false,ne_eq,not_true_eq_false,false_and] at hr
 subst hr
 simp (config:=KF) (disch:=omega) only [bZ,and_self,AI.dst,cw,o_bsl,nj,bslV,bstV,List.reduceReplicate,aa,dM,bg,id,fB,↓reduceIte,Nat.reduceEqDiff,Nat.reduceAdd,Nat.reduceLT,Nat.reduceLeDiff,not_true_eq_false,decide_false,v1]
 refine aQ (vs:=[V,_]) (by simp [v1]; rfl) e_f9 (hsm _) (by simp [v5]; rfl) ?_
 simp (config:=KF) (disch:=omega) only [bZ,AI.dst,o_un,unA,id,↓reduceIte,Nat.reduceEqDiff,not_true_eq_false,decide_false]
 refine aK rfl e_f16 (h4 _) rfl fun v s4 hr=>?_
 subst hr
 simp (config:=KF) (disch:=omega) only [bZ,cw,lO,eS,i8,ixTo,id,Int.reduceToNat,↓reduceIte,Nat.reduceEqDiff,Int.reduceLE,Int.reduceNeg,hll,hd]
 refine aK rfl e_f16 (h5 _) rfl fun v s5 hr=>?_
 subst hr
 simp (config:=KF) (disch:=omega) only [bZ,cw,id,↓reduceIte,Nat.reduceEqDiff,Int.reduceNeg]
 refine aK rfl e_f18 (h6 _) rfl fun v s6 hr=>?_
 subst hr
 simp (config:=KF) (disch:=omega) only [bZ,AI.dst,id,↓reduceIte,Nat.reduceEqDiff,Int.reduceNeg]
 refine aK rfl e_f18 (h8 _) rfl fun v s6 hr=>?_
 subst hr
 simp (config:=KF) (disch:=omega) only [bZ,AI.dst,id,↓reduceIte,Nat.reduceEqDiff,Int.reduceNeg]
 refine aK rfl e_f18 (h9 _) rfl fun v s6 hr=>?_
 subst hr
 simp (config:=KF) (disch:=omega) only [bZ,retI,AI.dst,↓reduceIte,Nat.reduceEqDiff,Int.reduceNeg,reduceCtorEq]
 exact hQ _ _ rfl
end Go.Fx.YtgnockaonokmaaaFx

namespace Go.Fx.YtgnockaonokmaaaFx
open Go Go.Fx
attribute [local irreducible] aC runI az bj

set_option maxRecDepth 100000
set_option maxHeartbeats 4000000

theorem deadL_calls (l:List Ev) (at_ f1 f2 dir:Int) (hl:l.length≤9223372036854775807) (st:St):aF Go.Proofs.Try.prog n_f4 [.sl false 30 (l.map evA),.lit (.int .i64 at_),.agg [.lit (.int .i64 f1),.lit (.int .i64 f2)],.lit (.int .i64 dir)] st (fun v _=>v = .lit (.bool true)):=by
 have hll:(l.map evA).length = l.length:=List.length_map ..
 refine a8 hmix k_f4 rfl rfl fun Q hQ=>?_
 unfold aFun c_f4
 by_cases c1:60 < l.length
 ·simp (config:=KF) (disch:=omega) only [bZ,lenI,eT,id,↓reduceIte,Nat.reduceEqDiff,Nat.reduceAdd,reduceCtorEq,hll]
  refine aK rfl e_f7 (dt _) rfl fun v s2 hr=>?_
  subst hr
  simp (config:=KF) (disch:=omega) only [bZ,retI,↓reduceIte,Nat.reduceEqDiff,reduceCtorEq]
  exact hQ _ _ rfl
 have hxo:=gJ st (l:=l) at_ f1 f2 dir (by omega)
 rw [if_neg (by omega)] at hxo
 by_cases c2:at_ < 0∨(l.length:Int) < at_
 ·rw [if_pos c2] at hxo
  rcases Int.lt_or_le at_ 0 with c3 | c3
  ·simp (config:=KF) (disch:=omega) only [bZ,lenI,aa,eT,id,↓reduceIte,Nat.reduceEqDiff,Nat.reduceAdd,Nat.reduceLeDiff,reduceCtorEq,hll]
   refine aK rfl e_f11 hxo rfl fun v s1 hr=>?_
   subst hr
   simp (config:=KF) (disch:=omega) only [bZ,aG,AI.dst,cw,id,↓reduceIte,Nat.reduceEqDiff,reduceCtorEq,aM]
   refine aK rfl e_f7 (dt _) rfl fun v s2 hr=>?_
   subst hr
   simp (config:=KF) (disch:=omega) only [bZ,retI,↓reduceIte,Nat.reduceEqDiff,reduceCtorEq]
   exact hQ _ _ rfl
  ·have c4:(l.length:Int) < at_:=by omega
   simp (config:=KF) (disch:=omega) only [bZ,lenI,aa,eT,id,↓reduceIte,Nat.reduceEqDiff,Nat.reduceAdd,Nat.reduceLeDiff,reduceCtorEq,hll]
   refine aK rfl e_f11 hxo rfl fun v s1 hr=>?_
   subst hr
   simp (config:=KF) (disch:=omega) only [bZ,AI.dst,cw,lenI,eT,id,↓reduceIte,Nat.reduceEqDiff,reduceCtorEq,aY,hll]
   refine aK rfl e_f7 (dt _) rfl fun v s2 hr=>?_
   subst hr
   simp (config:=KF) (disch:=omega) only [bZ,retI,↓reduceIte,Nat.reduceEqDiff,reduceCtorEq]
   exact hQ _ _ rfl
 ·rw [if_neg c2] at hxo
  obtain ⟨k,rfl⟩:∃ k:Nat,at_ = (k:Int):=⟨at_.toNat,by omega⟩
  have hk:k≤l.length:=by omega
  by_cases c3:dir≠0∧dir≠1
  ·rw [if_pos c3] at hxo
   obtain ⟨d0,d1⟩:=c3
   simp (config:=KF) (disch:=omega) only [bZ,lenI,aa,eT,id,↓reduceIte,Nat.reduceEqDiff,Nat.reduceAdd,Nat.reduceLeDiff,reduceCtorEq,hll]
   refine aK rfl e_f11 hxo rfl fun v s1 hr=>?_
   subst hr
   simp (config:=KF) (disch:=omega) only [bZ,AI.dst,cw,lenI,eT,id,↓reduceIte,Nat.reduceEqDiff,reduceCtorEq,aM,aY,hll]
   refine aK rfl e_f7 (dt _) rfl fun v s2 hr=>?_
   subst hr
   simp (config:=KF) (disch:=omega) only [bZ,retI,↓reduceIte,Nat.reduceEqDiff,reduceCtorEq]
   exact hQ _ _ rfl
  ·rw [if_neg c3,Int.toNat_natCast] at hxo
   have hde:=dead_eq l (f1,f2) dir k hk
   simp only at hde
   rw [hde] at hxo
   have hro:=fun s=>rdead_pure s hk (show l.length≤10000 by omega) (f1,f2) dir
   unfold fdA at hro
   simp only at hro
   generalize dlF l (f1,f2) dir k = D at *
   by_cases d0:dir = 0
   ·simp (config:=KF) (disch:=omega) only [bZ,lenI,aa,eT,id,↓reduceIte,Nat.reduceEqDiff,Nat.reduceAdd,Nat.reduceLeDiff,reduceCtorEq,hll]
    refine aK rfl e_f11 hxo rfl fun v s1 hr=>?_
    subst hr
    simp (config:=KF) (disch:=omega) only [bZ,aG,AI.dst,cw,lenI,aa,eT,id,↓reduceIte,Nat.reduceEqDiff,Nat.reduceAdd,Nat.reduceLeDiff,reduceCtorEq,aY,hll]
    refine aQ rfl e_f12 (hro s1) rfl ?_
    simp (config:=KF) (disch:=omega) only [bZ,AI.dst,id,↓reduceIte,Nat.reduceEqDiff,reduceCtorEq]
    refine aK rfl e_f7 (dt _) rfl fun v s2 hr=>?_
    subst hr
    simp (config:=KF) (disch:=omega) only [bZ,retI,↓reduceIte,Nat.reduceEqDiff,reduceCtorEq]
    exact hQ _ _ rfl
   ·have d1:dir = 1:=by omega
    simp (config:=KF) (disch:=omega) only [bZ,lenI,aa,eT,id,↓reduceIte,Nat.reduceEqDiff,Nat.reduceAdd,Nat.reduceLeDiff,reduceCtorEq,hll]
    refine aK rfl e_f11 hxo rfl fun v s1 hr=>?_
    subst hr
    simp (config:=KF) (disch:=omega) only [bZ,AI.dst,cw,lenI,aa,eT,id,↓reduceIte,Nat.reduceEqDiff,Nat.reduceAdd,Nat.reduceLeDiff,reduceCtorEq,aM,aY,hll]
    refine aQ rfl e_f12 (hro s1) rfl ?_
    simp (config:=KF) (disch:=omega) only [bZ,AI.dst,id,↓reduceIte,Nat.reduceEqDiff,reduceCtorEq]
    refine aK rfl e_f7 (dt _) rfl fun v s2 hr=>?_
    subst hr
    simp (config:=KF) (disch:=omega) only [bZ,retI,↓reduceIte,Nat.reduceEqDiff,reduceCtorEq]
    exact hQ _ _ rfl
end Go.Fx.YtgnockaonokmaaaFx

namespace Go.Fx.YtgnockaonokmaaaFx
open Go Go.Fx
attribute [local irreducible] aC runI az bj

set_option maxRecDepth 100000
set_option maxHeartbeats 4000000

abbrev CallT:=Int×(Int×Int×Unit)×(Int×Int×Unit)×(ByteArray×Int×Unit)×List (List Int)×Int×Int×Int×Int×Unit
abbrev EndT:=Int×Int×Int×Int×List Int×(Int×Int×Unit)×(Int×Int×Unit)×(ByteArray×Int×Unit)×Int×Unit
abbrev EvT:=Int×Int×CallT×Int×Bool×EndT×List Int×Int×Unit
def dT (l:List (List Int)):AV:=.sl false 1 (l.map fun x=>.sl false 1 (x.map fun i=>.lit (.int .u8 i)))
def bT (l:List Int):AV:=.sl false 1 (l.map fun i=>.lit (.int .u8 i))
def wT (l:List Int):AV:=.sl false 1 (l.map fun i=>.lit (.int .i64 i))
def evT (x:EvT):AV:=.agg [.lit (.int .i64 x.1),.lit (.int .i64 x.2.1),
 .lit (.int .i64 x.2.2.1.1),.lit (.int .i64 x.2.2.1.2.1.1),.lit (.int .i64 x.2.2.1.2.1.2.1),.lit (.int .i64 x.2.2.1.2.2.1.1),.lit (.int .i64 x.2.2.1.2.2.1.2.1),.lit (.string x.2.2.1.2.2.2.1.1),.lit (.int .i64 x.2.2.1.2.2.2.1.2.1),dT x.2.2.1.2.2.2.2.1,.lit (.int .i64 x.2.2.1.2.2.2.2.2.1),.lit (.int .i64 x.2.2.1.2.2.2.2.2.2.1),.lit (.int .i64 x.2.2.1.2.2.2.2.2.2.2.1),.lit (.int .u64 x.2.2.1.2.2.2.2.2.2.2.2.1),
 .lit (.int .i64 x.2.2.2.1),.lit (.bool x.2.2.2.2.1),
 .lit (.int .i64 x.2.2.2.2.2.1.1),.lit (.int .i64 x.2.2.2.2.2.1.2.1),.lit (.int .i64 x.2.2.2.2.2.1.2.2.1),.lit (.int .i64 x.2.2.2.2.2.1.2.2.2.1),bT x.2.2.2.2.2.1.2.2.2.2.1,.lit (.int .i64 x.2.2.2.2.2.1.2.2.2.2.2.1.1),.lit (.int .i64 x.2.2.2.2.2.1.2.2.2.2.2.1.2.1),.lit (.int .i64 x.2.2.2.2.2.1.2.2.2.2.2.2.1.1),.lit (.int .i64 x.2.2.2.2.2.1.2.2.2.2.2.2.1.2.1),.lit (.string x.2.2.2.2.2.1.2.2.2.2.2.2.2.1.1),.lit (.int .i64 x.2.2.2.2.2.1.2.2.2.2.2.2.2.1.2.1),.lit (.int .u64 x.2.2.2.2.2.1.2.2.2.2.2.2.2.2.1),
 wT x.2.2.2.2.2.2.1,.lit (.int .u64 x.2.2.2.2.2.2.2.1)]
def okT (x:EvT):Prop:=0≤x.2.2.1.2.2.2.2.2.2.2.2.1∧0≤x.2.2.2.2.2.1.2.2.2.2.2.2.2.2.1∧0≤x.2.2.2.2.2.2.2.1
theorem evs_of:∀ {l:List EvT},(∀ x ∈ l,okT x)→∃ L:List Ev,l.map evT = L.map evA∧L.length = l.length
 | [],_=>⟨[],rfl,rfl⟩
 | x :: r, h => by
   obtain ⟨L,hL,hl⟩:=evs_of (l:=r) fun y hy=>h y (by simp [hy])
   obtain ⟨h1,h2,h3⟩:=h x (by simp)
   obtain ⟨kind,task,⟨ck,⟨cf1,cf2,_⟩,⟨ct1,ct2,_⟩,⟨cn,cp,_⟩,cd,cm,cnn,cdir,cat,_⟩,err,done,⟨et,ek,ee,en,ed,⟨ef1,ef2,_⟩,⟨et1,et2,_⟩,⟨enm,ep,_⟩,eat,_⟩,woke,now,_⟩:=x
   simp only at h1 h2 h3
   refine ⟨⟨kind,task,⟨ck,cf1,cf2,ct1,ct2,cn,cp,⟨dT cd,.inr ⟨1,_,rfl⟩⟩,cm,cnn,cdir,cat.toNat⟩,err,done,⟨et,ek,ee,en,⟨bT ed,.inr ⟨1,_,rfl⟩⟩,ef1,ef2,et1,et2,enm,ep,eat.toNat⟩,⟨wT woke,.inr ⟨1,_,rfl⟩⟩,now.toNat⟩::L,?_,by simp [hl]⟩
   rw [List.map_cons,List.map_cons,hL]
   congr 1
   unfold evA
   rw [fY]
   unfold evT
   simp only [Int.toNat_of_nonneg h1,Int.toNat_of_nonneg h2,Int.toNat_of_nonneg h3]
theorem iE {l:List EvT} {at_ f1 f2 dir:Int} (h:∀ x ∈ l,okT x) (hl:l.length≤9223372036854775807):aF Go.Proofs.Try.prog n_f4 [.sl false 30 (l.map evT),.lit (.int .i64 at_),.agg [.lit (.int .i64 f1),.lit (.int .i64 f2)],.lit (.int .i64 dir)] ⟨[]⟩ (fun v _=>v = .lit (.bool true)):=by
 obtain ⟨L,e,e2⟩:=evs_of h
 rw [e]
 exact deadL_calls L at_ f1 f2 dir (by omega) _
end Go.Fx.YtgnockaonokmaaaFx

