/- What the functions that the statement reaches compute: part 4. -/
import Derived.Test.YtoiokbmgdcaaoaaFxW3
namespace Go.Fx.YtoiokbmgdcaaoaaFx
open Go Go.Fx
attribute [local irreducible] aC runI bL aq

set_option maxRecDepth 100000
set_option maxHeartbeats 4000000

theorem grow3_calls (st:St):aI Go.Proofs.Try.prog n_f72 [.lit (.slice none 0 0),.lit (.int .i64 3)] st
  (fun v st'=>∃ c,3≤c∧v = .bs st.boxes.length 1 0 0 c∧∃ r,st'.get st.boxes.length = some r∧r.length = c∧∀ x ∈ r,x.NB):=by
 refine bU hmix k_f72 rfl rfl fun Q hQ=>?_
 unfold aFun c_f72
 simp (config:=KF) (disch:=omega) only [bZ,and_self,gS,o_sliS,o_x,jc,aj,List.reduceReplicate,sliB,sl3,ixTo,lenI,n_sub,cw,bk,Option.map_some,Option.map_none,List.nil_append,Int.reduceToNat,Int.toNat_zero,↓reduceIte,Nat.reduceEqDiff,Int.reduceLT,Int.reduceLE,Int.reduceSub,Int.reduceMul,reduceCtorEq,Nat.sub_zero,decide_false,aR,Nat.mul_one,capX,appZX,growX]
 intro c hc
 simp (config:=KF) (disch:=omega) only [bZ,retI,dis_bs,noL_bs,↓reduceIte,Nat.reduceEqDiff,reduceCtorEq,if_neg]
 exact hQ _ _ ⟨c,by omega,rfl,_,dk _ _,by simp [AV.cells]; omega,fun x hx=>by
  rcases List.mem_append.1 hx with hx | hx
  ·exact gn 1 x (List.all_eq_true.1 (show (List.flatMap AV.cells [AV.lit (Value.int IntKind.u8 0),AV.lit (Value.int IntKind.u8 0),AV.lit (Value.int IntKind.u8 0)]).all (nbB 1) = true from rfl) x hx)
  ·rw [List.eq_of_mem_replicate hx]; exact .any⟩
def abc:List AV:=[.lit (.int .u8 97),.lit (.int .u8 98),.lit (.int .u8 99)]
theorem mo (st:St):aI Go.Proofs.Try.prog n_f56 [.sl false 1 [.sl false 1 abc]] st
  (fun v st'=>∃ id c r,v = .bs id 1 0 3 c∧st'.get id = some (abc++r)∧3≤c∧∀ x ∈ r,x.NB):=by
 refine bU hmix k_f56 rfl rfl fun Q hQ=>?_
 unfold aFun c_f56
 unfold abc
 simp (config:=KF) (disch:=omega) only [bZ,lenI,↓reduceIte,Nat.reduceEqDiff,reduceCtorEq]
 rw [f56_9w]
 refine je 2 ?_
 simp (config:=KF) (disch:=omega) only [bZ,and_self,bS,ah,aP,dg,jf,ly,cv,ixSV,ixA,lenI,aw,dj,bk,id,fA,List.getD_cons_zero,Int.toNat_zero,↓reduceIte,Nat.reduceEqDiff,Nat.reduceAdd,Int.reduceLT,Int.reduceLE,reduceCtorEq,decide_false,Int.zero_add,j6]
 refine cd rfl e_f72 (grow3_calls st) rfl fun v s1 hr=>?_
 obtain ⟨c,hc,rfl,r,hr,hrl,hrn⟩:=hr
 have hcd:cellsD [.lit (.int .u8 97),.lit (.int .u8 98),.lit (.int .u8 99)] = abc:=rfl
 have hsa:aU r 0 abc = abc++r.drop 3:=setAt_zero (by rw [hrl]; exact hc)
 simp (config:=KF) (disch:=omega) only [bZ,lenI,dis_bs,↓reduceIte,Nat.reduceEqDiff,reduceCtorEq]
 rw [f56_31w]
 refine je 2 ?_
 simp (config:=KF) (disch:=omega) only [bZ,and_self,bS,ah,aP,dg,retI,gS,jf,ly,cv,o_x,ixSV,aj,appX,ixA,aw,srcA,dj,bk,dis_bs,fA,noL_bs,List.getD_cons_zero,Int.toNat_zero,↓reduceIte,Nat.reduceEqDiff,Nat.reduceAdd,Int.reduceLT,Int.reduceLE,decide_false,mf,Int.zero_add,if_pos,Nat.mul_one,j6,hr,hcd,hsa]
 exact hQ _ _ ⟨_,c,r.drop 3,rfl,ia (eR hr),hc,fun x hx=>hrn x (List.mem_of_mem_drop hx)⟩
theorem concat_pure (st:St):bu Go.Proofs.Try.prog n_f56 [.sl false 1 [.sl false 1 abc]] st (.sl false 1 abc):=by
 refine jl ((mo ⟨[]⟩).mono ?_) (fun v hv=>?_) st
 ·rintro v s1 ⟨id,c,r,rfl,hg,hc,hr⟩
  exact Frz.bs (st:=s1) id 1 0 3 c _ hg (by simp [abc]) hc fun x hx=>by
   rw [List.drop_zero] at hx
   rcases List.mem_append.1 hx with hx | hx
   ·exact gn 1 x (List.all_eq_true.1 (show abc.all (nbB 1) = true from rfl) x hx)
   ·exact hr x hx
 ·simp only [List.mem_singleton] at hv
  subst hv
  exact gn 4 _ rfl
def primC (q:FuncId) (vs:List AV):Option AV:=if q = n_f56 then (if eqLs (eqB 9) vs [.sl false 1 [.sl false 1 abc]] = true then some (.sl false 1 abc) else none) else none
theorem kh:l6 Go.Proofs.Try.prog primC:=fun q vs v h=>by
 unfold primC at h
 split at h
 ·rename_i hq
  split at h
  ·rename_i he
   cases h
   rw [hq,gW (eqB_ok 9) he]
   exact ⟨e_f56,concat_pure⟩
  ·cases h
 ·cases h
theorem eT (st:St):bu Go.Proofs.Try.prog n_f8 [] st (.lit (.bool true)) :=
 x_pure hmix tabOk kh 100 20 (by kernel_rfl) rfl rfl st
end Go.Fx.YtoiokbmgdcaaoaaFx

namespace Go.Fx.YtoiokbmgdcaaoaaFx
open Go Go.Fx
attribute [local irreducible] aC runI bL aq

set_option maxRecDepth 100000
set_option maxHeartbeats 4000000

def gv0:Ev:=⟨0,0,cl0,0,false,⟨0,0,0,0,fv0,0,0,0,0,⟨#[]⟩,0,0⟩,fv0,0⟩
theorem exs_rep (n k:Nat):exsT (List.replicate n gv0) k = []:=by
 unfold exsT
 rw [List.filterMap_eq_nil_iff]
 intro i _
 unfold exAt
 split
 ·rename_i e he
  have:=List.eq_of_mem_replicate (List.mem_of_getElem? he)
  subst this
  exact if_neg (by unfold endB; simp [gv0])
 ·rfl
theorem gv0_ok:EvOk gv0:=by
 have h0:BV gv0.en.data.v []:=.inl ⟨rfl,rfl⟩
 have h1:=byt_ok h0
 have h2:byt gv0.en.data.v = []:=by
  rcases h1 with ⟨_,h⟩ | h
  ·exact h
  ·cases h
 exact ⟨cl0_ok,h1,by unfold lnE; rw [h2]; simp⟩
theorem lG (st:St):bu Go.Proofs.Try.prog n_f19 [.lit (.slice none 0 0)] st (.lit (.slice none 0 0)) :=
 x_pure hmix tabOk kh 100 20 (by kernel_rfl) rfl rfl st
theorem sort_nil (st:St):bu Go.Proofs.Try.prog n_f40 [.lit (.slice none 0 0)] st (.tup []) :=
 x_pure hmix tabOk kh 100 20 (by kernel_rfl) rfl rfl st
section
variable {l:List Ev} {n:Nat} (hr:l = List.replicate n gv0) (hn:n≤6000)
include hr hn
theorem ends_z (st:St):aI Go.Proofs.Try.prog n_f20 [.sl false 30 (l.map evA)] st (fun v _=>v = .lit (.slice none 0 0)):=by
 have hll:l.length = n:=by rw [hr,List.length_replicate]
 refine (kg st (by omega)).mono fun v s h=>?_
 rw [h,hr,exs_rep]
 rfl
theorem pending_z (st:St):aI Go.Proofs.Try.prog n_f25 [.sl false 30 (l.map evA)] st (fun v _=>v = .lit (.slice none 0 0)):=by
 have hll:(l.map evA).length = l.length:=List.length_map ..
 have hln:l.length = n:=by rw [hr,List.length_replicate]
 refine bU hmix k_f25 rfl rfl fun Q hQ=>?_
 unfold aFun c_f25
 have hm:=lz st [] [] 0
 have hb:=lA st [] [] 0
 simp (config:=KF) (disch:=omega) only [bZ,o_mkmap,lenI,ej,↓reduceIte,Nat.reduceEqDiff,reduceCtorEq,hll]
 generalize st.push (.mp [] [] 0) = s at *
 rw [f25_9w]
 refine dO (A:=Nat) (fun k=>l.length - k) (fun k=>⟨[(0,.sl false 30 (l.map evA)),(3,.map st.boxes.length),(13,.sl false 30 (l.map evA)),(14,.lit (.int .i64 (l.length:Nat))),(15,.lit (.int .i64 (k:Nat)))],[]⟩) (fun _=>s)
  (fun k=>k≤l.length) 0 (Nat.zero_le _) (Sf.le_refl _) rfl ?_
 rintro k h1 K hK hKe hKr
 try dsimp only
 by_cases hk:k < l.length
 ·have hgd:=evs_getD hk
  have hz:l[k] = gv0:=by subst hr; simp
  rw [hz,evC_ap] at hgd
  unfold gv0 cl0 at hgd
  simp only at hgd
  simp (config:=KF) (disch:=omega) only [bZ,ah,aD,AI.dst,az,cv,cg,bp,aT,ixSV,boxX,bB,ixA,addA,aw,am,dj,cD,bk,aJ,bq,bC,ao,al,ar,bd,aK,ba,di,aE,↓reduceIte,Nat.reduceEqDiff,Nat.reduceAdd,Nat.reduceLeDiff,Int.reduceEq,reduceCtorEq,decide_false,aR,bP,aG,au,hgd,hll,cN,cK]
  exact hK (k + 1) _ (by omega) (by omega) (Sf.le_refl _)
 ·have hkl:k = l.length:=by omega
  subst hkl
  simp (config:=KF) (disch:=omega) only [bZ,bS,dg,↓reduceIte,Nat.reduceEqDiff,reduceCtorEq,br]
  refine hKe _ _ _ ?_
  simp (config:=KF) (disch:=omega) only [bZ,aP,gS,o_x,aj,ej,↓reduceIte,Nat.reduceEqDiff,reduceCtorEq,rngX,hm,hb]
  rw [f25_34w]
  refine dO (A:=Unit) (fun _=>0) (fun _=>⟨[(0,.sl false 30 (l.map evA)),(6,.lit (.slice none 0 0)),(46,.mit (some st.boxes.length) 0 [] 0)],[]⟩) (fun _=>s) (fun _=>True) () trivial (Sf.le_refl _) rfl ?_
  rintro _ _ K hK hKe hKr
  try dsimp only
  simp (config:=KF) (disch:=omega) only [bZ,bS,dg,dF,o_x,extV,aj,List.getElem?_nil,List.nil_append,↓reduceIte,Nat.reduceEqDiff,Nat.reduceLeDiff,reduceCtorEq,nxtX,hm,hb]
  refine ⟨fun b hb=>(by cases hb),fun _ _ _ _ h=>False.elim h,fun _=>?_⟩
  refine hKe _ _ _ ?_
  simp (config:=KF) (disch:=omega) only [bZ,aP,id,↓reduceIte,Nat.reduceEqDiff,reduceCtorEq]
  refine bT rfl e_f40 (sort_nil s) rfl ?_
  simp (config:=KF) (disch:=omega) only [bZ,lenI,↓reduceIte,Nat.reduceEqDiff,reduceCtorEq]
  rw [f25_51w]
  refine dO (A:=Unit) (fun _=>0) (fun _=>⟨[(0,.sl false 30 (l.map evA)),(9,.lit (.slice none 0 0)),(57,.lit (.slice none 0 0)),(58,.lit (.int .i64 0)),(59,.lit (.int .i64 0))],[]⟩) (fun _=>s) (fun _=>True) () trivial (Sf.le_refl _) rfl ?_
  rintro _ _ K hK hKe hKr
  try dsimp only
  simp (config:=KF) (disch:=omega) only [bZ,bS,dg,↓reduceIte,Nat.reduceEqDiff,Int.reduceLT,reduceCtorEq,decide_false]
  refine hKe _ _ _ ?_
  simp (config:=KF) (disch:=omega) only [bZ,aP,retI,↓reduceIte,Nat.reduceEqDiff]
  exact hQ _ _ rfl
theorem zlinks (st:St):aI Go.Proofs.Try.prog n_f9 [.sl false 30 (l.map evA)] st (fun v _=>v = .tup [.lit (.slice none 0 0),.lit (.int .i64 (if 5000 < n then 7 else 0))]):=by
 have hll:(l.map evA).length = n:=by rw [List.length_map,hr,List.length_replicate]
 refine bU hmix k_f9 rfl rfl fun Q hQ=>?_
 unfold aFun c_f9
 by_cases c:5000 < n
 ·rw [if_pos c] at hQ
  simp (config:=KF) (disch:=omega) only [bZ,retI,resI,resL,lenI,cw,bJ,↓reduceIte,Nat.reduceEqDiff,reduceCtorEq,hll]
  exact hQ _ _ rfl
 ·rw [if_neg c] at hQ
  simp (config:=KF) (disch:=omega) only [bZ,lenI,cw,id,↓reduceIte,Nat.reduceEqDiff,reduceCtorEq,br,hll]
  refine cd rfl e_f20 (ends_z hr hn st) rfl fun v s1 h=>?_
  subst h
  simp (config:=KF) (disch:=omega) only [bZ,id,↓reduceIte,Nat.reduceEqDiff,reduceCtorEq]
  refine bT rfl e_f19 (lG s1) rfl ?_
  simp (config:=KF) (disch:=omega) only [bZ,retI,resI,resL,bJ,↓reduceIte,Nat.reduceEqDiff,reduceCtorEq]
  exact hQ _ _ rfl
theorem zpipes (st:St):aI Go.Proofs.Try.prog n_f11 [.sl false 30 (l.map evA)] st (fun v _=>v = .tup [.lit (.slice none 0 0),.lit (.int .i64 (if 5000 < n then 7 else 0))]):=by
 have hll:(l.map evA).length = n:=by rw [List.length_map,hr,List.length_replicate]
 refine bU hmix k_f11 rfl rfl fun Q hQ=>?_
 unfold aFun c_f11
 by_cases c:5000 < n
 ·rw [if_pos c] at hQ
  simp (config:=KF) (disch:=omega) only [bZ,retI,resI,resL,lenI,cw,bJ,↓reduceIte,Nat.reduceEqDiff,reduceCtorEq,hll]
  exact hQ _ _ rfl
 ·rw [if_neg c] at hQ
  simp (config:=KF) (disch:=omega) only [bZ,lenI,cw,id,↓reduceIte,Nat.reduceEqDiff,reduceCtorEq,br,hll]
  refine cd rfl e_f20 (ends_z hr hn st) rfl fun v s1 h=>?_
  subst h
  simp (config:=KF) (disch:=omega) only [bZ,id,↓reduceIte,Nat.reduceEqDiff,reduceCtorEq]
  refine cd rfl e_f25 (pending_z hr hn s1) rfl fun v s2 h=>?_
  subst h
  simp (config:=KF) (disch:=omega) only [bZ,id,↓reduceIte,Nat.reduceEqDiff,reduceCtorEq]
  refine bT rfl e_f19 (lG s2) rfl ?_
  simp (config:=KF) (disch:=omega) only [bZ,lenI,↓reduceIte,Nat.reduceEqDiff,reduceCtorEq]
  rw [f11_17w]
  refine dO (A:=Unit) (fun _=>0) (fun _=>⟨[(0,.sl false 30 (l.map evA)),(4,.lit (.slice none 0 0)),(5,.lit (.slice none 0 0)),(6,.lit (.slice none 0 0)),(17,.lit (.slice none 0 0)),(18,.lit (.int .i64 0)),(19,.lit (.int .i64 0))],[]⟩) (fun _=>s2) (fun _=>True) () trivial (Sf.le_refl _) rfl ?_
  rintro _ _ K hK hKe hKr
  try dsimp only
  simp (config:=KF) (disch:=omega) only [bZ,bS,dg,↓reduceIte,Nat.reduceEqDiff,Int.reduceLT,reduceCtorEq,decide_false]
  refine hKe _ _ _ ?_
  simp (config:=KF) (disch:=omega) only [bZ,aP,retI,resI,resL,bJ,↓reduceIte,Nat.reduceEqDiff]
  exact hQ _ _ rfl
theorem zcheck (st:St):aI Go.Proofs.Try.prog n_f17 [.sl false 30 (l.map evA)] st (fun v _=>v = .tup [.lit (.int .i64 (if 5000 < n then 0 else -1)),.lit (.int .i64 0),.lit (.int .i64 (if 5000 < n then 7 else 0))]):=by
 refine bU hmix k_f17 rfl rfl fun Q hQ=>?_
 unfold aFun c_f17
 have hp:=zpipes hr hn st
 by_cases c:5000 < n
 ·rw [if_pos c,if_pos c] at hQ
  rw [if_pos c] at hp
  simp (config:=KF) (disch:=omega) only [bZ,id,↓reduceIte,Nat.reduceEqDiff,reduceCtorEq]
  refine cd rfl e_f11 hp rfl fun v s1 h=>?_
  subst h
  simp (config:=KF) (disch:=omega) only [bZ,retI,resI,resL,dF,extV,n_neq,bO,bJ,↓reduceIte,Nat.reduceEqDiff,Int.reduceEq,reduceCtorEq,not_false_eq_true]
  exact hQ _ _ rfl
 ·rw [if_neg c,if_neg c] at hQ
  rw [if_neg c] at hp
  simp (config:=KF) (disch:=omega) only [bZ,id,↓reduceIte,Nat.reduceEqDiff,reduceCtorEq]
  refine cd rfl e_f11 hp rfl fun v s1 h=>?_
  subst h
  simp (config:=KF) (disch:=omega) only [bZ,dF,extV,lenI,n_neq,bO,↓reduceIte,Nat.reduceEqDiff,reduceCtorEq,not_true_eq_false,decide_false]
  rw [f17_15w]
  refine dO (A:=Unit) (fun _=>0) (fun _=>⟨[(0,.sl false 30 (l.map evA)),(18,.lit (.slice none 0 0)),(19,.lit (.int .i64 0)),(20,.lit (.int .i64 0))],[]⟩) (fun _=>s1) (fun _=>True) () trivial (Sf.le_refl _) rfl ?_
  rintro _ _ K hK hKe hKr
  try dsimp only
  simp (config:=KF) (disch:=omega) only [bZ,bS,dg,↓reduceIte,Nat.reduceEqDiff,Int.reduceLT,reduceCtorEq,decide_false]
  refine hKe _ _ _ ?_
  simp (config:=KF) (disch:=omega) only [bZ,aP,retI,resI,resL,bJ,↓reduceIte,Nat.reduceEqDiff,Int.reduceNeg]
  exact hQ _ _ rfl
end
def pi0:Pi:=⟨0,0,0,0,0,[],[],[],false,false⟩
theorem pi0_ok:POk pi0 (.lit (.slice none 0 0)) (.lit (.slice none 0 0)) (.lit (.slice none 0 0)) :=
 ⟨.inl ⟨rfl,rfl⟩,.inl ⟨rfl,rfl⟩,.inl ⟨rfl,rfl⟩,by simp [pi0],by simp [pi0],by simp [pi0],by simp [pi0]⟩
theorem zof (n:Nat) (hn:n≤6000) {l:List Ev} (hr:l = List.replicate n gv0) (st:St):aI Go.Proofs.Try.prog n_f15 [.sl false 30 (l.map evA),.agg [.lit (.int .i64 0),.lit (.int .i64 0),.lit (.int .i64 0),.lit (.int .i64 0),.lit (.int .i64 0),.lit (.slice none 0 0),.lit (.slice none 0 0),.lit (.slice none 0 0),.lit (.bool false),.lit (.bool false)]] st (fun v _=>v = .tup [.lit (.int .i64 0),.lit (.int .i64 (if 5000 < n then 7 else 0))]):=by
 have hln:l.length = n:=by rw [hr,List.length_replicate]
 have hok:∀ e ∈ l,EvOk e:=fun e he=>by
  rw [hr] at he
  rw [List.eq_of_mem_replicate he]
  exact gv0_ok
 refine (of_calls st pi0_ok (l:=l) (by omega) hok (by simp [pi0])).mono fun v s h=>?_
 rw [h,hln,hr,exs_rep]
 have hf:flawP pi0 (dJ pi0 []) = 0:=by
  have hm:f8 pi0:=.inl ⟨[],rfl⟩
  have hff:¬ dJ pi0 []:=fun q=>by
   rcases q with q | ⟨j,hj,_⟩
   ·simp [pi0] at q
   ·simp at hj
  unfold flawP
  rw [if_neg (by simp [pi0]),if_neg (fun q=>q hm),if_neg (by simp [pi0]),if_neg hff]
 rw [hf]
 split <;> rfl
theorem fullL_calls (n:Int) (st:St):aI Go.Proofs.Try.prog n_f6 [.lit (.int .i64 n)] st (fun v _=>v = .lit (.bool true)):=by
 refine bU hmix k_f6 rfl rfl fun Q hQ=>?_
 unfold aFun c_f6
 by_cases c0:n < 4998
 ·simp (config:=KF) (disch:=omega) only [bZ,aD,AI.dst,aF,aS,id,↓reduceIte,Nat.reduceEqDiff,reduceCtorEq,Bool.false_eq_true,aQ]
  refine bT rfl e_f8 (eT _) rfl ?_
  simp (config:=KF) (disch:=omega) only [bZ,retI,↓reduceIte,Nat.reduceEqDiff,reduceCtorEq]
  exact hQ _ _ rfl
 by_cases c1:5003 < n
 ·simp (config:=KF) (disch:=omega) only [bZ,AI.dst,az,aT,cw,id,↓reduceIte,Nat.reduceEqDiff,reduceCtorEq,Bool.false_eq_true,aL]
  refine bT rfl e_f8 (eT _) rfl ?_
  simp (config:=KF) (disch:=omega) only [bZ,retI,↓reduceIte,Nat.reduceEqDiff,reduceCtorEq]
  exact hQ _ _ rfl
 obtain ⟨k,rfl⟩:∃ k:Nat,n = (k:Int):=⟨n.toNat,by omega⟩
 obtain ⟨L,hL⟩:∃ L,L = List.replicate k gv0:=⟨_,rfl⟩
 have hz:List.replicate k (AV.agg (evC gv0)) = L.map evA:=by rw [hL,List.map_replicate]; rfl
 have hev:evC gv0 = [.lit (.int .i64 0),.lit (.int .i64 0),.lit (.int .i64 0),.lit (.int .i64 0),.lit (.int .i64 0),.lit (.int .i64 0),.lit (.int .i64 0),.lit (.string ⟨#[]⟩),.lit (.int .i64 0),.lit (.slice none 0 0),.lit (.int .i64 0),.lit (.int .i64 0),.lit (.int .i64 0),.lit (.int .u64 0),.lit (.int .i64 0),.lit (.bool false),.lit (.int .i64 0),.lit (.int .i64 0),.lit (.int .i64 0),.lit (.int .i64 0),.lit (.slice none 0 0),.lit (.int .i64 0),.lit (.int .i64 0),.lit (.int .i64 0),.lit (.int .i64 0),.lit (.string ⟨#[]⟩),.lit (.int .i64 0),.lit (.int .u64 0),.lit (.slice none 0 0),.lit (.int .u64 0)]:=rfl
 rw [hev] at hz
 have h1:=fun s=>zlinks hL (by omega) s
 have h2:=fun s=>zpipes hL (by omega) s
 have h3:=fun s=>zof k (by omega) hL s
 have h4:=fun s=>zcheck hL (by omega) s
 by_cases c2:5000 < k
 ·simp only [if_pos c2] at h1 h2 h3 h4
  simp (config:=KF) (disch:=omega) only [bZ,AI.dst,gS,az,o_x,aT,aj,mksX,cw,id,↓reduceIte,Nat.reduceEqDiff,reduceCtorEq,Bool.false_eq_true,br,aL,hz]
  refine cd rfl e_f9 (h1 _) rfl fun v s1 hr=>?_
  subst hr
  simp (config:=KF) (disch:=omega) only [bZ,dF,extV,id,bO,↓reduceIte,Nat.reduceEqDiff,reduceCtorEq]
  refine cd rfl e_f11 (h2 _) rfl fun v s1 hr=>?_
  subst hr
  simp (config:=KF) (disch:=omega) only [bZ,dF,o_bst,extV,bstV,bX,id,bO,al,↓reduceIte,Nat.reduceEqDiff,reduceCtorEq]
  refine cd rfl e_f15 (h3 _) rfl fun v s1 hr=>?_
  subst hr
  simp (config:=KF) (disch:=omega) only [bZ,dF,extV,id,bO,↓reduceIte,Nat.reduceEqDiff,reduceCtorEq]
  refine cd rfl e_f17 (h4 _) rfl fun v s1 hr=>?_
  subst hr
  simp (config:=KF) (disch:=omega) only [bZ,AI.dst,aF,dF,aS,extV,lenI,cD,cw,id,bO,↓reduceIte,Nat.reduceEqDiff,reduceCtorEq]
  refine bT rfl e_f8 (eT _) rfl ?_
  simp (config:=KF) (disch:=omega) only [bZ,retI,aS,↓reduceIte,Nat.reduceEqDiff]
  exact hQ _ _ rfl
 ·simp only [if_neg c2] at h1 h2 h3 h4
  simp (config:=KF) (disch:=omega) only [bZ,AI.dst,gS,az,o_x,aT,aj,mksX,cw,id,↓reduceIte,Nat.reduceEqDiff,reduceCtorEq,Bool.false_eq_true,br,aL,hz]
  refine cd rfl e_f9 (h1 _) rfl fun v s1 hr=>?_
  subst hr
  simp (config:=KF) (disch:=omega) only [bZ,dF,extV,id,bO,↓reduceIte,Nat.reduceEqDiff,reduceCtorEq]
  refine cd rfl e_f11 (h2 _) rfl fun v s1 hr=>?_
  subst hr
  simp (config:=KF) (disch:=omega) only [bZ,dF,o_bst,extV,bstV,bX,id,bO,al,↓reduceIte,Nat.reduceEqDiff,reduceCtorEq]
  refine cd rfl e_f15 (h3 _) rfl fun v s1 hr=>?_
  subst hr
  simp (config:=KF) (disch:=omega) only [bZ,dF,extV,id,bO,↓reduceIte,Nat.reduceEqDiff,reduceCtorEq]
  refine cd rfl e_f17 (h4 _) rfl fun v s1 hr=>?_
  subst hr
  simp (config:=KF) (disch:=omega) only [bZ,AI.dst,aF,dF,aS,extV,lenI,cD,cw,id,bO,↓reduceIte,Nat.reduceEqDiff,Int.reduceNeg,reduceCtorEq,br]
  refine bT rfl e_f8 (eT _) rfl ?_
  simp (config:=KF) (disch:=omega) only [bZ,retI,aS,↓reduceIte,Nat.reduceEqDiff,Int.reduceNeg]
  exact hQ _ _ rfl
end Go.Fx.YtoiokbmgdcaaoaaFx

