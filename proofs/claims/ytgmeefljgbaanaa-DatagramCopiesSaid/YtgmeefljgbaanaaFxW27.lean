/- What the functions that the statement reaches compute: part 27. -/
import Derived.Test.YtgmeefljgbaanaaFxW26
namespace Go.Fx.YtgmeefljgbaanaaFx
open Go Go.Fx
attribute [local irreducible] aC runI aG aH

set_option maxRecDepth 100000
set_option maxHeartbeats 4000000

theorem oL(l0 l1 l2:List Act)(hok:∀l∈ [l0,l1,l2],∀a∈l,a.life<18446744073709551616∧a.at_<18446744073709551616)(st:St) :
  aF Go.Proofs.Try.prog n_f6 [.sl false 10 (l0.map actV),.sl false 10 (l1.map actV),.sl false 10 (l2.map actV)] st (fun v _=>v= .lit (.bool true)):=by
 have hl0:(l0.map actV).length=l0.length:=List.length_map ..
 have hl1:(l1.map actV).length=l1.length:=List.length_map ..
 have hl2:(l2.map actV).length=l2.length:=List.length_map ..
 refine aK hmix k_f6 rfl rfl fun Q hQ=>?_
 unfold aFun c_f6
 have hkn':∀s {sf:Sf},ix Go.Proofs.Try.prog false false (some 44) (.fn (.func 11) [] []) [] (runI Go.Proofs.Try.prog id false [⟨none,.own 6 44⟩] (opsK [6] [] (seqQ (aC Go.Proofs.Try.prog id false .ret) (seqQ (aC Go.Proofs.Try.prog id false f6_9) (retQ [RI.tmp 6] Q))))) sf s:=fun s sf=>by
  refine aR rfl e_f11 (mg s) rfl fun v s2 hr=>?_
  obtain⟨rfl,_⟩:=hr
  simp(config:=KF) (disch:=omega)only[bZ,retI,↓reduceIte,iw]
  exact hQ _ _ rfl
 by_cases c0:30<l0.length∨20<l1.length∨20<l2.length
 ·(repeat' (first|omega|(simp(config:=KF) (disch:=omega)only[bZ,AI.dst,lenI,id,↓reduceIte,Nat.reduceEqDiff,Nat.reduceAdd,reduceCtorEq,ba,hl0,hl1,hl2])|refine aA (fun h=>?_) (fun h=>?_)|refine bj (fun h=>?_) (fun h=>?_)|refine cn (fun h=>?_) (fun h=>?_)|exact hkn' _))
 have hf0:=nX l0 (by omega) st
 have hf1:=nX l1 (by omega) st
 have hf2:=nX l2 (by omega) st
 simp(config:=KF) (disch:=omega)only[bZ,AI.dst,lenI,id,↓reduceIte,Nat.reduceEqDiff,Nat.reduceAdd,reduceCtorEq,hl0,hl1,hl2]
 refine ag rfl e_f13 hf0 rfl ?_
 cases c1:fewB l0 with
 | false =>
   simp(config:=KF) (disch:=omega)only[bZ,AI.dst,unA,id,↓reduceIte,Nat.reduceEqDiff,reduceCtorEq]
   exact hkn' _
 |true =>
 simp(config:=KF) (disch:=omega)only[bZ,AI.dst,unA,id,↓reduceIte,Nat.reduceEqDiff,reduceCtorEq]
 refine ag rfl e_f13 hf1 rfl ?_
 cases c2:fewB l1 with
 | false =>
   simp(config:=KF) (disch:=omega)only[bZ,AI.dst,unA,id,↓reduceIte,Nat.reduceEqDiff,reduceCtorEq]
   exact hkn' _
 |true =>
 simp(config:=KF) (disch:=omega)only[bZ,AI.dst,unA,id,↓reduceIte,Nat.reduceEqDiff,reduceCtorEq]
 refine ag rfl e_f13 hf2 rfl ?_
 cases c3:fewB l2 with
 | false =>
   simp(config:=KF) (disch:=omega)only[bZ,AI.dst,unA,id,↓reduceIte,Nat.reduceEqDiff,reduceCtorEq]
   exact hkn' _
 |true =>
 have h0:∀n:Nat,rnV ⟨n,[],[]⟩= .agg [.lit (.int .u64 (n:Nat)),.lit (.slice none 0 0),.lit (.slice none 0 0)]:=fun _=>rfl
 have hrn:=rnew_pure 0
 rw[if_neg (by omega),h0]at hrn
 have hrv:∀R:NR,(rnV R).dis=rnV R∧(rnV R).noL=true:=fun R=>by
  obtain⟨s1,s2,s3,s4,s5,s6,s7,s8⟩:=aB R.socks
  obtain⟨w1,w2,w3,w4,w5,w6,w7,w8⟩:=aE R.ws
  rw[b9 R]
  refine⟨?_,by simp[s5,w5,ao,aq]⟩
  rw[am,List.map_cons,List.map_cons,List.map_cons,s2,w2]
  rfl
 simp(config:=KF) (disch:=omega)only[bZ,AI.dst,unA,id,↓reduceIte,Nat.reduceEqDiff,reduceCtorEq,f6_9e]
 refine aR rfl e_f8 (pL st 0 (by omega)) rfl fun v s1 hr=>?_
 obtain⟨n,sid,wid,F,rfl,n1,n2,n3⟩:=hr
 simp(config:=KF) (disch:=omega)only[bZ,id,own2_ptr,↓reduceIte,Nat.reduceEqDiff,reduceCtorEq]
 refine ag rfl e_f20 (hrn s1) rfl ?_
 have hp0:=iP (l:=l0) (by omega) (lG c1) (hok l0 (by simp)) n1 (fun x hx=>(n3 x hx).2) (by omega)
 rw[h0]at hp0
 simp(config:=KF) (disch:=omega)only[bZ,AI.dst,af,bE,aU,aa,id,cI,cx,↓reduceIte,Nat.reduceEqDiff,Nat.reduceAdd,Nat.reduceLeDiff,reduceCtorEq,not_true_eq_false]
 refine aR rfl e_f22 hp0 rfl fun v s2 hr=>?_
 obtain⟨rfl,F2,hh2,hk2,hF2⟩:=hr
 generalize pAll ⟨0,[],[]⟩ l0=R at hh2 ⊢
 obtain⟨a1,a2,a3,a4,a5,a6,a7,a8⟩:=aB R.socks
 obtain⟨w1,w2,w3,w4,w5,w6,w7,w8⟩:=aE R.ws
 obtain⟨hd,hn⟩:=hrv R
 rw[b9 R]at hd hn ⊢
 simp(config:=KF) (disch:=omega)only[bZ,af,id,↓reduceIte,Nat.reduceEqDiff,Nat.reduceAdd,Nat.reduceLeDiff,reduceCtorEq,a2,a4,w2,w4]
 refine aR rfl e_f23 (ncopy_calls hh2) rfl fun r s3 hr=>?_
 obtain⟨c,cs,cw,F3,rfl,hk3,hkp3,hF3⟩:=hr
 have heq:=jg hk3 (by omega)
 rw[b9 R]at heq
 simp(config:=KF) (disch:=omega)only[bZ,AI.dst,bE,aU,aa,unA,id,↓reduceIte,Nat.reduceEqDiff,Nat.reduceAdd,Nat.reduceLeDiff,a2,w2]
 refine ag (vs:=[.ptr c 0,_]) (by rw[List.map_cons,List.map_cons,hd];rfl) e_f21 heq (by simp only[List.all_cons,hn];rfl) ?_
 have hh3:NetR s3 n sid wid (0+l0.length) R F2:=hh2.kp hkp3 fun _ _ q=>by cases q
 have hp1:=iP (l:=l1) (by omega) (lG c2) (hok l1 (by simp)) hh3 (fun x hx=>Nat.lt_of_lt_of_le (hF2 x hx).2 hkp3.1) (by omega)
 rw[b9 R]at hp1
 simp(config:=KF) (disch:=omega)only[bZ,AI.dst,aa,unA,id,↓reduceIte,Nat.reduceEqDiff,Nat.reduceAdd,Nat.reduceLeDiff,a2,w2]
 refine aR (vs:=[.ptr n 0,_,.sl false 10 (l1.map actV)]) (by rw[List.map_cons,List.map_cons,hd];rfl) e_f22 hp1 (by simp only[List.all_cons,hn];rfl) fun r s4 hr=>?_
 obtain⟨rfl,F4,hh4,hk4,hF4⟩:=hr
 have hd32:∀x∈F3,x ∉ F2:=fun x hx q=>by
  have:=(hF3 x hx).1
  have:=(hF2 x q).2
  omega
 have hk4':NetR s4 c cs cw (0+l0.length) R F3:=hk3.kp hk4 hd32
 have hp2:=iP (l:=l2) (by omega) (lG c3) (hok l2 (by simp)) hk4' (fun x hx=>Nat.lt_of_lt_of_le (hF3 x hx).2 hk4.1) (by omega)
 rw[b9 R]at hp2
 obtain⟨x1,x2,x3,x4,x5,x6,x7,x8⟩:=aB (pAll R l1).socks
 obtain⟨y1,y2,y3,y4,y5,y6,y7,y8⟩:=aE (pAll R l1).ws
 obtain⟨hd1,hn1⟩:=hrv (pAll R l1)
 rw[b9 (pAll R l1)]at hd1 hn1 ⊢
 simp(config:=KF) (disch:=omega)only[bZ,af,aa,id,cI,cx,↓reduceIte,Nat.reduceEqDiff,Nat.reduceAdd,Nat.reduceLeDiff,a2,w2,x2,x4,y2,y4]
 refine aR (vs:=[.ptr c 0,_,.sl false 10 (l2.map actV)]) (by rw[List.map_cons,List.map_cons,hd];rfl) e_f22 hp2 (by simp only[List.all_cons,hn];rfl) fun r s5 hr=>?_
 obtain⟨rfl,F5,hk5,hkp5,hF5⟩:=hr
 have hh5:NetR s5 n sid wid (0+l0.length+l1.length) (pAll R l1) F4:=hh4.kp hkp5 fun x hx q=>by
  rcases(hF4 x hx).1 with e|e
  ·exact hd32 x q e
  ·have:=(hF3 x q).2;omega
 have heq1:=jg hh5 (by omega)
 have heq2:=jg hk5 (by omega)
 obtain⟨b1,b2,b3,b4,b5,b6,b7,b8⟩:=aB (pAll R l2).socks
 obtain⟨z1,z2,z3,z4,z5,z6,z7,z8⟩:=aE (pAll R l2).ws
 obtain⟨hd2,hn2⟩:=hrv (pAll R l2)
 rw[b9 (pAll R l2)]at hd2 hn2 heq2 ⊢
 rw[b9 (pAll R l1)]at heq1
 simp(config:=KF) (disch:=omega)only[bZ,AI.dst,af,aa,id,cI,cx,↓reduceIte,Nat.reduceEqDiff,Nat.reduceAdd,Nat.reduceLeDiff,x2,y2,b2,b4,z2,z4]
 refine ag (vs:=[.ptr n 0,_]) (by rw[List.map_cons,List.map_cons,hd1];rfl) e_f21 heq1 (by simp only[List.all_cons,hn1];rfl) ?_
 simp(config:=KF) (disch:=omega)only[bZ,AI.dst,aa,id,↓reduceIte,Nat.reduceEqDiff,Nat.reduceAdd,Nat.reduceLeDiff,b2,z2]
 refine ag (vs:=[.ptr c 0,_]) (by rw[List.map_cons,List.map_cons,hd2];rfl) e_f21 heq2 (by simp only[List.all_cons,hn2];rfl) ?_
 simp(config:=KF) (disch:=omega)only[bZ,AI.dst,id,↓reduceIte,Nat.reduceEqDiff]
 refine aR rfl e_f11 (mg _) rfl fun r s6 hr=>?_
 obtain⟨rfl,_⟩:=hr
 simp(config:=KF) (disch:=omega)only[bZ,retI,↓reduceIte,Nat.reduceEqDiff]
 exact hQ _ _ rfl
theorem jW{a b c:List ActT}(h0:∀x∈a,okT x)(h1:∀x∈b,okT x)(h2:∀x∈c,okT x):aF Go.Proofs.Try.prog n_f6 [.sl false 10 (a.map avT),.sl false 10 (b.map avT),.sl false 10 (c.map avT)] ⟨[]⟩ (fun v _=>v= .lit (.bool true)):=by
 obtain⟨a',ha,ia⟩:=mC h0
 obtain⟨b',hb,ib⟩:=mC h1
 obtain⟨c',hc,ic⟩:=mC h2
 rw[ha,hb,hc]
 refine oL a' b' c' (fun l hl=>?_) _
 simp only[List.mem_cons,List.not_mem_nil,or_false]at hl
 rcases hl with rfl|rfl|rfl
 ·exact ia
 ·exact ib
 ·exact ic
end Go.Fx.YtgmeefljgbaanaaFx

