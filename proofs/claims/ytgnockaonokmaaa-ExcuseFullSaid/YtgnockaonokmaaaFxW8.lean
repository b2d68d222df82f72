/- What the functions that the statement reaches compute: part 8. -/
import Derived.Test.YtgnockaonokmaaaFxW7
namespace Go.Fx.YtgnockaonokmaaaFx
open Go Go.Fx
attribute [local irreducible] aC runI az bA

set_option maxRecDepth 100000
set_option maxHeartbeats 4000000

def gc0:Cl:=⟨0,0,0,0,0,⟨#[]⟩,0,fv0,0,0,0,0⟩
def ge0:En:=⟨0,0,0,0,fv0,0,0,0,0,⟨#[]⟩,0,0⟩
def gv0:Ev:=⟨0,0,gc0,0,false,ge0,fv0,0⟩
def gv:List Ev:=[
 { gv0 with kind:=1,call:={ gc0 with kind:=4,most:=3 } },
 { gv0 with kind:=2,done:=true,en:={ ge0 with kind:=4,t1:=1 } },
 { gv0 with kind:=1,call:={ gc0 with kind:=10,f1:=1,at_:=5 } },
 { gv0 with kind:=2,done:=true,en:={ ge0 with kind:=10 } },
 { gv0 with kind:=3,now:=5 },
 { gv0 with kind:=1,task:=1,call:={ gc0 with kind:=5,f1:=1,most:=9 },now:=5 },
 { gv0 with kind:=2,task:=1,done:=true,en:={ ge0 with task:=1,kind:=5,err:=12,at_:=5 },now:=5 },
 { gv0 with kind:=1,call:={ gc0 with kind:=5,f1:=9,most:=1 },now:=5 },
 { gv0 with kind:=2,done:=true,en:={ ge0 with kind:=5,err:=9,at_:=5 },now:=5 }]
theorem given_pure (st:St):aT Go.Proofs.Try.prog n_f17 [] st (.sl true 30 (gv.map evA)) :=
 x_pure hmix tabOk noPrimOk 100 12 (by kernel_rfl) rfl rfl st
def FdV (v:AV) (l:List FD):Prop:=(v = .lit (.slice none 0 0)∧l = [])∨v = .sl false 2 (l.map fdA)
theorem FdV.facts {v:AV} {l:List FD} (h:FdV v l):v.dis = v∧v.own1 = v∧v.own2 = v∧v.solid1 = true∧v.noL = true∧v.cells = [v]∧(∀ s,kill s v = v)∧∀ st',lenI .sl st' v = .ok (.lit (.int .i64 (l.length:Nat))):=by
 rcases h with ⟨rfl,rfl⟩ | rfl
 ·exact ⟨rfl,rfl,rfl,rfl,rfl,rfl,fun _=>rfl,fun _=>rfl⟩
 ·exact ⟨rfl,rfl,rfl,rfl,rfl,rfl,fun _=>rfl,fun _=>by rw [len_sl,List.length_map]⟩
theorem fdV_v (l:List FD):FdV (fdV l) l:=by
 unfold fdV rowG FdV
 cases l with
 | nil=>exact .inl ⟨rfl,rfl⟩
 | cons a l=>exact .inr rfl
theorem same_pure (st:St) {v w:AV} {a b:List FD} (hv:FdV v a) (hw:FdV w b) (ha:a.length < 1000000) (hb:b.length < 1000000) :
  aT Go.Proofs.Try.prog n_f9 [v,w] st (.lit (.bool (decide (a = b)))):=by
 refine bw hmix k_f9 rfl rfl fun Q hQ=>?_
 unfold aFun c_f9
 obtain ⟨v1,v2,v3,v4,v5,v6,v7,v8⟩:=hv.facts
 obtain ⟨w1,w2,w3,w4,w5,w6,w7,w8⟩:=hw.facts
 by_cases hl:a.length = b.length
 ·simp (config:=KF) (disch:=omega) only [bZ,cw,↓reduceIte,Nat.reduceEqDiff,reduceCtorEq,v1,v8,w1,w8]
  rw [f9_13w]
  refine dc (A:=Nat) (fun k=>a.length - k) (fun k=>⟨[(0,v),(1,w),(5,.lit (.int .i64 (k:Nat)))],[]⟩) (fun _=>st)
   (fun k=>k≤a.length∧a.take k = b.take k) 0 ⟨Nat.zero_le _,rfl⟩ (Sf.le_refl _) rfl ?_
  rintro k ⟨h1,h2⟩ K hK hKe hKr
  try dsimp only
  by_cases hk:k < a.length
  ·have hkb:k < b.length:=by omega
   have hva:v = .sl false 2 (a.map fdA):=by
    rcases hv with ⟨_,e⟩ | e
    ·rw [e] at hk; simp at hk
    ·exact e
   have hwb:w = .sl false 2 (b.map fdA):=by
    rcases hw with ⟨_,e⟩ | e
    ·rw [e] at hkb; simp at hkb
    ·exact e
   have hga:(a.map fdA).getD k .any = .agg [.lit (.int .i64 a[k].1),.lit (.int .i64 a[k].2)]:=by simp [hk,fdA]
   have hgb:(b.map fdA).getD k .any = .agg [.lit (.int .i64 b[k].1),.lit (.int .i64 b[k].2)]:=by simp [hkb,fdA]
   have hla:(a.map fdA).length = a.length:=List.length_map ..
   have hlb:(b.map fdA).length = b.length:=List.length_map ..
   have hne:=fd_neq a[k].1 a[k].2 b[k].1 b[k].2
   have hnx:a[k] = b[k]→a.take (k + 1) = b.take (k + 1):=fun e=>by rw [List.take_succ_eq_append_getElem hk,List.take_succ_eq_append_getElem hkb,h2,e]
   have hno:a[k]≠b[k]→a≠b:=fun e q=>e (by subst q; rfl)
   subst hva hwb
   by_cases c:a[k].1 = b[k].1∧a[k].2 = b[k].2
   ·rw [decide_eq_false (fun q=>q c)] at hne
    simp (config:=KF) (disch:=omega) only [bZ,dq,b9,dt,nP,bB,aW,bJ,ai,cw,ixSV,ixA,lenI,ah,aH,↓reduceIte,Nat.reduceEqDiff,Nat.reduceAdd,Nat.reduceLeDiff,reduceCtorEq,aQ,hga,hgb,hla,hlb,hne]
    exact hK (k + 1) _ ⟨by omega,hnx (Prod.ext c.1 c.2)⟩ (by omega) (Sf.le_refl _)
   ·rw [decide_eq_true c] at hne
    rw [decide_eq_false (hno fun q=>c (by rw [q]; exact ⟨rfl,rfl⟩))] at hQ
    simp (config:=KF) (disch:=omega) only [bZ,dq,b9,dt,nP,bB,aW,bJ,aP,cw,ixSV,ixA,lenI,ah,aH,↓reduceIte,Nat.reduceEqDiff,Nat.reduceAdd,Nat.reduceLeDiff,reduceCtorEq,hga,hgb,hla,hlb,hne]
    refine hKr _ _ ?_
    simp (config:=KF) (disch:=omega) only [bZ,aP,retI,↓reduceIte]
    exact hQ _
  ·have hka:k = a.length:=by omega
   subst hka
   rw [List.take_length,hl,List.take_length] at h2
   rw [decide_eq_true h2] at hQ
   simp (config:=KF) (disch:=omega) only [bZ,aq,cw,↓reduceIte,Nat.reduceEqDiff,reduceCtorEq,v1,v8]
   refine hKe _ _ _ ?_
   simp (config:=KF) (disch:=omega) only [bZ,retI,↓reduceIte]
   exact hQ _
 ·rw [decide_eq_false (fun q=>hl (by rw [q]))] at hQ
  simp (config:=KF) (disch:=omega) only [bZ,retI,cw,↓reduceIte,Nat.reduceEqDiff,reduceCtorEq,v1,v8,w1,w8]
  exact hQ _
theorem eY (st:St) {l:List Ev} (k:Nat) (want x:Int) (hk:k < l.length) (hl:l.length≤5000) (hx:exO (pAll (l.take k)) l[k] = some x) (hb:(pAll (l.take k)).bound = []) :
  aD Go.Proofs.Try.prog n_f18 [.sl false 30 (l.map evA),.lit (.int .i64 (k:Nat)),.lit (.int .i64 want)] st (fun v _=>v = .lit (.bool (decide (x = want)))):=by
 refine aO hmix k_f18 rfl rfl fun Q hQ=>?_
 unfold aFun c_f18
 have hof:=ng st (k:Int) (show l.length≤10000 by omega) (x:=x) fun j hj hjl=>by
  have:j = k:=by omega
  subst this
  exact ⟨hx,hb⟩
 rw [if_neg (by omega),if_neg (by omega)] at hof
 simp (config:=KF) (disch:=omega) only [bZ,id,↓reduceIte,Nat.reduceEqDiff,Nat.reduceAdd,reduceCtorEq]
 refine aE rfl e_f13 hof rfl fun v s1 hr=>?_
 subst hr
 simp (config:=KF) (disch:=omega) only [bZ,retI,AI.dst,aJ,cZ,aY,↓reduceIte,Nat.reduceEqDiff,reduceCtorEq]
 exact hQ _ _ rfl
def gx:List Int:=[0,0,0,0,0,0,2,0,3]
def gx2:List Int:=[0,1,0,3]
theorem dg:gv.length = 9:=rfl
theorem gx_ok:∀ (k:Nat) (hk:k < gv.length),exO (pAll (gv.take k)) gv[k] = some (gx[k]'(by rw [dg] at hk; exact hk))∧(pAll (gv.take k)).bound = []
 | 0,_ | 1,_ | 2,_ | 3,_ | 4,_ | 5,_ | 6,_ | 7,_ | 8,_=>⟨rfl,rfl⟩
 | k + 9,hk=>by rw [dg] at hk; omega
def gvd:List Ev:=gv.drop 5
theorem nX:gvd.length = 4:=rfl
theorem gx2_ok:∀ (k:Nat) (hk:k < gvd.length),exO (pAll (gvd.take k)) gvd[k] = some (gx2[k]'(by rw [nX] at hk; exact hk))∧(pAll (gvd.take k)).bound = []
 | 0,_ | 1,_ | 2,_ | 3,_=>⟨rfl,rfl⟩
 | k + 4,hk=>by rw [nX] at hk; omega
theorem eS (st:St):aD Go.Proofs.Try.prog n_f7 [] st (fun v _=>v = .lit (.bool true)):=by
 refine aO hmix k_f7 rfl rfl fun Q hQ=>?_
 unfold aFun c_f7
 simp (config:=KF) (disch:=omega) only [bZ,id]
 refine br rfl e_f17 (given_pure st) rfl ?_
 have h1:=fun s=>ki s (l:=gv) 2 (by rw [dg]; omega)
 have e1:eC (pAll (gv.take (2:Int).toNat)).files = [(0,0),(1,0)]:=rfl
 simp only [dg,e1] at h1
 have h2:=fun s=>gy s (l:=gv) 4 1 0 0 (by rw [dg]; omega)
 have e2:(lk3 ((1:Int),(0:Int),(0:Int)) (pAll (gv.take (4:Int).toNat)).dl).getD 18446744073709551615 = 5:=rfl
 simp only [dg,e2] at h2
 have h3:=fun s=>gy s (l:=gv) 3 1 0 0 (by rw [dg]; omega)
 have e3:(lk3 ((1:Int),(0:Int),(0:Int)) (pAll (gv.take (3:Int).toNat)).dl).getD 18446744073709551615 = 18446744073709551615:=rfl
 simp only [dg,e3] at h3
 have h4:=fun s=>fL s (l:=gv) (by rw [dg]; omega) (xs:=gx) rfl gx_ok
 have h5:=fun s=>fL s (l:=gvd) (by rw [nX]; omega) (xs:=gx2) rfl gx2_ok
 have e4:(gx.findIdx? fun x=>decide (x = 1)) = none:=rfl
 have e5:(gx2.findIdx? fun x=>decide (x = 1)) = some 1:=rfl
 simp only [e4,ixI] at h4
 simp only [e5,ixI] at h5
 have hd:((gv.map evA).take 9).drop 5 = gvd.map evA:=rfl
 have hll:(gv.map evA).length = 9:=rfl
 have h6:=fun s=>eY s (l:=gv) 6 2 2 (by rw [dg]; omega) (by rw [dg]; omega) rfl rfl
 have h8:=fun s=>eY s (l:=gv) 8 3 3 (by rw [dg]; omega) (by rw [dg]; omega) rfl rfl
 have h9:=fun s=>eY s (l:=gv) 3 0 0 (by rw [dg]; omega) (by rw [dg]; omega) rfl rfl
 have hsm:=fun s=>same_pure s (fdV_v [(0,0),(1,0)]) (w:=.sl false 2 [.agg [.lit (.int .i64 0),.lit (.int .i64 0)],.agg [.lit (.int .i64 1),.lit (.int .i64 0)]]) (b:=[(0,0),(1,0)]) (.inr rfl) (by simp) (by simp)
 obtain ⟨v1,v2,v3,v4,v5,v6,v7,v8⟩:=(fdV_v [(0,0),(1,0)]).facts
 generalize gv.map evA = G at *
 generalize fdV [(0,0),(1,0)] = V at *
 simp (config:=KF) (disch:=omega) only [bZ,and_self,o_bst,dI,bstV,aU,bp,id,aL,cV,↓reduceIte,Nat.reduceEqDiff,Nat.reduceAdd,Nat.reduceLeDiff,aj]
 refine aE rfl e_f8 (h1 _) rfl fun v s1 hr=>?_
 simp only [show ¬ 5000 < 9 by omega,show ¬ ((2:Int) < 0∨((9:Nat):Int) < 2) by omega,if_false] at hr
 subst hr
 simp (config:=KF) (disch:=omega) only [bZ,cZ,ah,id,↓reduceIte,Nat.reduceEqDiff,Nat.reduceAdd,Nat.reduceLeDiff,v1,v3]
 refine aE rfl e_f11 (h2 _) rfl fun v s2 hr=>?_
 simp only [show ¬ 5000 < 9 by omega,show ¬ ((4:Int) < 0∨((9:Nat):Int) < 4) by omega,if_false,ne_eq,not_true_eq_false,false_and] at hr
 subst hr
 simp (config:=KF) (disch:=omega) only [bZ,cZ,ah,id,↓reduceIte,Nat.reduceEqDiff,Nat.reduceAdd,Nat.reduceLeDiff]
 refine aE rfl e_f11 (h3 _) rfl fun v s3 hr=>?_
 simp only [show ¬ 5000 < 9 by omega,show ¬ ((3:Int) < 0∨((9:Nat):Int) < 3) by omega,if_false,ne_eq,not_true_eq_false,false_and] at hr
 subst hr
 simp (config:=KF) (disch:=omega) only [bZ,and_self,AI.dst,aG,cZ,o_bsl,o_bst,bslV,bstV,List.reduceReplicate,ah,dM,bp,id,fg,↓reduceIte,Nat.reduceEqDiff,Nat.reduceAdd,Nat.reduceLT,Nat.reduceLeDiff,not_true_eq_false,decide_false,v1]
 refine br (vs:=[V,_]) (by simp [v1]; rfl) e_f9 (hsm _) (by simp [v5]; rfl) ?_
 simp (config:=KF) (disch:=omega) only [bZ,AI.dst,aG,o_un,bj,unA,id,↓reduceIte,Nat.reduceEqDiff,not_true_eq_false,decide_false,Bool.not_true]
 refine aE rfl e_f16 (h4 _) rfl fun v s4 hr=>?_
 subst hr
 simp (config:=KF) (disch:=omega) only [bZ,cZ,lA,eM,iO,ixTo,id,Int.reduceToNat,↓reduceIte,Nat.reduceEqDiff,Int.reduceLE,Int.reduceNeg,hll,hd]
 refine aE rfl e_f16 (h5 _) rfl fun v s5 hr=>?_
 subst hr
 simp (config:=KF) (disch:=omega) only [bZ,cZ,id,↓reduceIte,Nat.reduceEqDiff,Int.reduceNeg]
 refine aE rfl e_f18 (h6 _) rfl fun v s6 hr=>?_
 subst hr
 simp (config:=KF) (disch:=omega) only [bZ,AI.dst,aJ,id,↓reduceIte,Nat.reduceEqDiff,Int.reduceNeg]
 refine aE rfl e_f18 (h8 _) rfl fun v s6 hr=>?_
 subst hr
 simp (config:=KF) (disch:=omega) only [bZ,AI.dst,aJ,aY,id,↓reduceIte,Nat.reduceEqDiff,Int.reduceNeg]
 refine aE rfl e_f18 (h9 _) rfl fun v s6 hr=>?_
 subst hr
 simp (config:=KF) (disch:=omega) only [bZ,retI,AI.dst,aJ,aY,↓reduceIte,Nat.reduceEqDiff,Int.reduceNeg,reduceCtorEq]
 exact hQ _ _ rfl
end Go.Fx.YtgnockaonokmaaaFx

namespace Go.Fx.YtgnockaonokmaaaFx
open Go Go.Fx
attribute [local irreducible] aC runI az bA

set_option maxRecDepth 100000
set_option maxHeartbeats 4000000

theorem rep_all (k:Nat):pAll (List.replicate k gv0) = P0:=by
 have h0:pAdd P0 gv0 = P0:=rfl
 induction k with
 | zero=>rfl
 | succ k ih =>
   rw [List.replicate_succ',pAll_snoc,ih,h0]
theorem fullL_calls (n:Int) (st:St):aD Go.Proofs.Try.prog n_f6 [.lit (.int .i64 n)] st (fun v _=>v = .lit (.bool true)):=by
 refine aO hmix k_f6 rfl rfl fun Q hQ=>?_
 unfold aFun c_f6
 by_cases c0:n < 4998
 ·simp (config:=KF) (disch:=omega) only [bZ,bt,AI.dst,aJ,aY,id,↓reduceIte,Nat.reduceEqDiff,reduceCtorEq,bG]
  refine aE rfl e_f7 (eS _) rfl fun v s2 hr=>?_
  subst hr
  simp (config:=KF) (disch:=omega) only [bZ,retI,↓reduceIte,Nat.reduceEqDiff,reduceCtorEq]
  exact hQ _ _ rfl
 by_cases c1:5003 < n
 ·simp (config:=KF) (disch:=omega) only [bZ,AI.dst,aG,bj,i5,id,↓reduceIte,Nat.reduceEqDiff,reduceCtorEq,bH]
  refine aE rfl e_f7 (eS _) rfl fun v s2 hr=>?_
  subst hr
  simp (config:=KF) (disch:=omega) only [bZ,retI,↓reduceIte,Nat.reduceEqDiff,reduceCtorEq]
  exact hQ _ _ rfl
 obtain ⟨k,rfl⟩:∃ k:Nat,n = (k:Int):=⟨n.toNat,by omega⟩
 obtain ⟨L,hL⟩:∃ L,L = List.replicate k gv0:=⟨_,rfl⟩
 have hLl:L.length = k:=by rw [hL,List.length_replicate]
 have hz:List.replicate k (AV.agg (evC gv0)) = L.map evA:=by rw [hL,List.map_replicate]; rfl
 have hev:evC gv0 = [.lit (.int .i64 0),.lit (.int .i64 0),.lit (.int .i64 0),.lit (.int .i64 0),.lit (.int .i64 0),.lit (.int .i64 0),.lit (.int .i64 0),.lit (.string ⟨#[]⟩),.lit (.int .i64 0),.lit (.slice none 0 0),.lit (.int .i64 0),.lit (.int .i64 0),.lit (.int .i64 0),.lit (.int .u64 0),.lit (.int .i64 0),.lit (.bool false),.lit (.int .i64 0),.lit (.int .i64 0),.lit (.int .i64 0),.lit (.int .i64 0),.lit (.slice none 0 0),.lit (.int .i64 0),.lit (.int .i64 0),.lit (.int .i64 0),.lit (.int .i64 0),.lit (.string ⟨#[]⟩),.lit (.int .i64 0),.lit (.int .u64 0),.lit (.slice none 0 0),.lit (.int .u64 0)]:=rfl
 rw [hev] at hz
 have hok:∀ (j:Nat) (hj:j < L.length),exO (pAll (L.take j)) L[j] = some ((List.replicate k (0:Int))[j]'(by rw [List.length_replicate]; omega))∧(pAll (L.take j)).bound = []:=fun j hj=>by
  subst hL
  rw [List.take_replicate,rep_all,List.getElem_replicate,List.getElem_replicate]
  exact ⟨rfl,rfl⟩
 have h1:=fun s=>ki s (l:=L) (-1) (by omega)
 have h2:=fun s=>gy s (l:=L) (-1) 0 0 7 (by omega)
 have h3:=fun s=>ng s (l:=L) (-1) (by omega) (x:=0) fun j hj _=>by omega
 by_cases c2:5000 < k
 ·have c2':5000 < L.length:=by omega
  simp only [if_pos c2'] at h1 h2 h3
  have h4:=fun s=>xall_bad s (l:=L) (by omega) c2'
  have h5:=fun s=>xcheck_bad s (l:=L) (by omega) c2'
  simp (config:=KF) (disch:=omega) only [bZ,AI.dst,eL,aG,o_x,bj,ar,mksX,i5,id,↓reduceIte,Nat.reduceEqDiff,Int.reduceNeg,reduceCtorEq,bH,hz]
  refine aE rfl e_f8 (h1 _) rfl fun v s1 hr=>?_
  subst hr
  simp (config:=KF) (disch:=omega) only [bZ,cZ,o_bst,bstV,bp,id,↓reduceIte,Nat.reduceEqDiff,Int.reduceNeg,reduceCtorEq]
  refine aE rfl e_f11 (h2 _) rfl fun v s1 hr=>?_
  subst hr
  simp (config:=KF) (disch:=omega) only [bZ,cZ,id,↓reduceIte,Nat.reduceEqDiff,Int.reduceNeg,reduceCtorEq]
  refine aE rfl e_f13 (h3 _) rfl fun v s1 hr=>?_
  subst hr
  simp (config:=KF) (disch:=omega) only [bZ,cZ,id,↓reduceIte,Nat.reduceEqDiff,reduceCtorEq]
  refine aE rfl e_f15 (h4 _) rfl fun v s1 hr=>?_
  obtain ⟨rfl,_⟩:=hr
  simp (config:=KF) (disch:=omega) only [bZ,cZ,id,↓reduceIte,Nat.reduceEqDiff,reduceCtorEq]
  refine aE rfl e_f16 (h5 _) rfl fun v s1 hr=>?_
  subst hr
  simp (config:=KF) (disch:=omega) only [bZ,AI.dst,aJ,aG,cZ,cw,aY,bj,lenI,i5,id,↓reduceIte,Nat.reduceEqDiff,reduceCtorEq,not_true_eq_false,decide_false]
  refine aE rfl e_f7 (eS _) rfl fun v s2 hr=>?_
  subst hr
  simp (config:=KF) (disch:=omega) only [bZ,retI,aY,↓reduceIte,Nat.reduceEqDiff,reduceCtorEq]
  exact hQ _ _ rfl
 ·have c2':¬ 5000 < L.length:=by omega
  simp only [if_neg c2',show ((-1:Int) < 0∨((L.length:Nat):Int) < -1) by omega,show ((-1:Int) < 0∨((L.length:Nat):Int) - 1 < -1) by omega,if_true] at h1 h2 h3
  have h4:=fun s=>lS s (l:=L) (by omega) (xs:=List.replicate k 0) (by rw [List.length_replicate,hLl]) hok
  have h5:=fun s=>fL s (l:=L) (by omega) (xs:=List.replicate k 0) (by rw [List.length_replicate,hLl]) hok
  have hfi:((List.replicate k (0:Int)).findIdx? fun x=>decide (x = 1)) = none:=by
   rw [List.findIdx?_eq_none_iff]
   intro x hx
   rw [(List.mem_replicate.1 hx).2]; rfl
  simp only [hfi,ixI] at h5
  simp (config:=KF) (disch:=omega) only [bZ,AI.dst,eL,aG,o_x,bj,ar,mksX,i5,id,↓reduceIte,Nat.reduceEqDiff,Int.reduceNeg,reduceCtorEq,bH,hz]
  refine aE rfl e_f8 (h1 _) rfl fun v s1 hr=>?_
  subst hr
  simp (config:=KF) (disch:=omega) only [bZ,cZ,o_bst,bstV,bp,id,↓reduceIte,Nat.reduceEqDiff,Int.reduceNeg,reduceCtorEq]
  refine aE rfl e_f11 (h2 _) rfl fun v s1 hr=>?_
  subst hr
  simp (config:=KF) (disch:=omega) only [bZ,cZ,id,↓reduceIte,Nat.reduceEqDiff,Int.reduceNeg,reduceCtorEq]
  refine aE rfl e_f13 (h3 _) rfl fun v s1 hr=>?_
  subst hr
  simp (config:=KF) (disch:=omega) only [bZ,cZ,id,↓reduceIte,Nat.reduceEqDiff,reduceCtorEq]
  refine aE rfl e_f15 (h4 _) rfl fun v s1 hr=>?_
  obtain ⟨ov,rfl,hm⟩:=hr
  obtain ⟨v1,v2,v3,v4,v5,v6,v7,v8⟩:=hm.facts
  rw [je,List.length_replicate] at v8
  simp (config:=KF) (disch:=omega) only [bZ,cZ,id,↓reduceIte,Nat.reduceEqDiff,reduceCtorEq,v1,v3]
  refine aE rfl e_f16 (h5 _) rfl fun v s1 hr=>?_
  subst hr
  simp (config:=KF) (disch:=omega) only [bZ,len_nil,AI.dst,aJ,aG,cZ,cw,aY,bj,i5,id,↓reduceIte,Nat.reduceEqDiff,Int.reduceNeg,reduceCtorEq,not_true_eq_false,decide_false,v1,v8]
  refine aE rfl e_f7 (eS _) rfl fun v s2 hr=>?_
  subst hr
  simp (config:=KF) (disch:=omega) only [bZ,retI,aY,↓reduceIte,Nat.reduceEqDiff,Int.reduceNeg,reduceCtorEq]
  exact hQ _ _ rfl
end Go.Fx.YtgnockaonokmaaaFx

