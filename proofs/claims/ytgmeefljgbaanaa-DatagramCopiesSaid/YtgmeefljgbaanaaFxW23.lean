/- What the functions that the statement reaches compute: part 23. -/
import Derived.Test.YtgmeefljgbaanaaFxW22
namespace Go.Fx.YtgmeefljgbaanaaFx
open Go Go.Fx
attribute [local irreducible] aC runI aG aH

set_option maxRecDepth 100000
set_option maxHeartbeats 4000000

section
variable {R:NR} {k:Nat}
theorem ad_nb(nm:ByteArray)(port:Int):(adAV nm port).NB:=by
 refine .agg _ fun x hx=>?_
 simp only[List.mem_cons,List.not_mem_nil,or_false]at hx
 rcases hx with rfl|rfl<;>exact .lit _
theorem rbind_pure(h:ROk R k)(nm:ByteArray)(port packets bytes pol:Int)(life:Nat)(hnm:nm.size<1000000000)(st:St) :
  az Go.Proofs.Try.prog n_f59 [rnV R,adAV nm port,.lit (.int .i64 packets),.lit (.int .i64 bytes),.lit (.int .i64 pol),.lit (.int .u64 (life:Nat))] st
   (.tup [rnV (dc nm port packets bytes pol life R).1,.lit (.int .i64 (dc nm port packets bytes pol life R).2.1),.lit (.int .i64 (dc nm port packets bytes pol life R).2.2)]):=by
 by_cases hc:eE nm port=true∧1≤packets∧packets≤256∧0≤bytes∧bytes≤65536∧(pol=1∨pol=2)
 case neg =>
  have hr:dc nm port packets bytes pol life R=(R,0,2):=by unfold dc;rw[if_pos hc]
  rw[hr]
  obtain⟨s1,s2,s3,s4,s5,s6,s7,s8⟩:=aB R.socks
  obtain⟨w1,w2,w3,w4,w5,w6,w7,w8⟩:=aE R.ws
  have had:=fT st nm port hnm
  refine al hmix k_f59 rfl rfl fun Q hQ=>?_
  unfold aFun c_f59
  unfold rnV at hQ ⊢
  unfold adAV at had ⊢
  cases hva:eE nm port with
  | false =>
    rw[hva]at had
    simp(config:=KF) (disch:=omega)only[bZ,aa,id,↓reduceIte,Nat.reduceEqDiff,Nat.reduceAdd,Nat.reduceLeDiff,reduceCtorEq,s2,s4,w2,w4]
    refine ag rfl e_f73 had rfl ?_
    simp(config:=KF) (disch:=omega)only[bZ,retI,AI.dst,af,aa,unA,↓reduceIte,Nat.reduceEqDiff,Nat.reduceAdd,Nat.reduceLeDiff,s2,s4,w2,w4]
    exact hQ _
  | true =>
    rw[hva]at had hc
    rcases(show packets<1∨(1≤packets∧256<packets)∨(1≤packets∧packets≤256∧bytes<0)∨(1≤packets∧packets≤256∧0≤bytes∧65536<bytes)∨(1≤packets∧packets≤256∧0≤bytes∧bytes≤65536∧pol<1)∨(1≤packets∧packets≤256∧0≤bytes∧bytes≤65536∧1≤pol∧2<pol) by
     simp only[true_and]at hc;omega)with q|⟨g1,q⟩|⟨g1,g2,q⟩|⟨g1,g2,g3,q⟩|⟨g1,g2,g3,g4,q⟩|⟨g1,g2,g3,g4,g5,q⟩
    ·simp(config:=KF) (disch:=omega)only[bZ,aa,id,↓reduceIte,Nat.reduceEqDiff,Nat.reduceAdd,Nat.reduceLeDiff,reduceCtorEq,s2,s4,w2,w4]
     refine ag rfl e_f73 had rfl ?_
     simp(config:=KF) (disch:=omega)only[bZ,retI,AI.dst,af,aa,unA,↓reduceIte,Nat.reduceEqDiff,Nat.reduceAdd,Nat.reduceLeDiff,ba,s2,s4,w2,w4]
     exact hQ _
    ·simp(config:=KF) (disch:=omega)only[bZ,aa,id,↓reduceIte,Nat.reduceEqDiff,Nat.reduceAdd,Nat.reduceLeDiff,reduceCtorEq,s2,s4,w2,w4]
     refine ag rfl e_f73 had rfl ?_
     simp(config:=KF) (disch:=omega)only[bZ,retI,AI.dst,af,aa,unA,↓reduceIte,Nat.reduceEqDiff,Nat.reduceAdd,Nat.reduceLeDiff,ba,s2,s4,w2,w4]
     exact hQ _
    ·simp(config:=KF) (disch:=omega)only[bZ,aa,id,↓reduceIte,Nat.reduceEqDiff,Nat.reduceAdd,Nat.reduceLeDiff,reduceCtorEq,s2,s4,w2,w4]
     refine ag rfl e_f73 had rfl ?_
     simp(config:=KF) (disch:=omega)only[bZ,retI,AI.dst,af,aa,unA,↓reduceIte,Nat.reduceEqDiff,Nat.reduceAdd,Nat.reduceLeDiff,ba,s2,s4,w2,w4]
     exact hQ _
    ·simp(config:=KF) (disch:=omega)only[bZ,aa,id,↓reduceIte,Nat.reduceEqDiff,Nat.reduceAdd,Nat.reduceLeDiff,reduceCtorEq,s2,s4,w2,w4]
     refine ag rfl e_f73 had rfl ?_
     simp(config:=KF) (disch:=omega)only[bZ,retI,AI.dst,af,aa,unA,↓reduceIte,Nat.reduceEqDiff,Nat.reduceAdd,Nat.reduceLeDiff,ba,s2,s4,w2,w4]
     exact hQ _
    ·simp(config:=KF) (disch:=omega)only[bZ,aa,id,↓reduceIte,Nat.reduceEqDiff,Nat.reduceAdd,Nat.reduceLeDiff,reduceCtorEq,s2,s4,w2,w4]
     refine ag rfl e_f73 had rfl ?_
     simp(config:=KF) (disch:=omega)only[bZ,retI,AI.dst,af,aa,unA,↓reduceIte,Nat.reduceEqDiff,Nat.reduceAdd,Nat.reduceLeDiff,ba,s2,s4,w2,w4]
     exact hQ _
    ·simp(config:=KF) (disch:=omega)only[bZ,aa,id,↓reduceIte,Nat.reduceEqDiff,Nat.reduceAdd,Nat.reduceLeDiff,reduceCtorEq,s2,s4,w2,w4]
     refine ag rfl e_f73 had rfl ?_
     simp(config:=KF) (disch:=omega)only[bZ,retI,AI.dst,af,aa,unA,↓reduceIte,Nat.reduceEqDiff,Nat.reduceAdd,Nat.reduceLeDiff,s2,s4,w2,w4]
     exact hQ _
 obtain⟨hva,g1,g2,g3,g4,g5⟩:=hc
 rcases n9 nm port R.socks with⟨f1,f2⟩|⟨j,hj,f1,f2⟩
 case inr =>
  have hr:dc nm port packets bytes pol life R=(R,0,11):=by
   unfold dc;rw[if_neg (fun q=>q ⟨hva,g1,g2,g3,g4,g5⟩),f2];rfl
  rw[hr]
  obtain⟨s1,s2,s3,s4,s5,s6,s7,s8⟩:=aB R.socks
  obtain⟨w1,w2,w3,w4,w5,w6,w7,w8⟩:=aE R.ws
  have had:=fT st nm port hnm
  have hof:=kL (R:=R) (by have:=h.len;omega) (by have:=h.wl;omega) nm port st
  rw[hva]at had
  rw[f1]at hof
  have g6:1≤pol:=by omega
  have g7:pol≤2:=by omega
  refine al hmix k_f59 rfl rfl fun Q hQ=>?_
  unfold aFun c_f59
  unfold rnV at hQ hof ⊢
  unfold adAV at had hof ⊢
  simp(config:=KF) (disch:=omega)only[bZ,aa,id,↓reduceIte,Nat.reduceEqDiff,Nat.reduceAdd,Nat.reduceLeDiff,reduceCtorEq,s2,s4,w2,w4]
  refine ag rfl e_f73 had rfl ?_
  simp(config:=KF) (disch:=omega)only[bZ,AI.dst,aa,unA,id,↓reduceIte,Nat.reduceEqDiff,Nat.reduceAdd,Nat.reduceLeDiff,s2,w2]
  refine ag (by simp[am,ai,aw,ar,aM,s2,w2]) e_f74 hof (by simp[ao,aq,aI,s5,w5]) ?_
  simp(config:=KF) (disch:=omega)only[bZ,retI,af,aa,↓reduceIte,Nat.reduceEqDiff,Nat.reduceAdd,Nat.reduceLeDiff,s2,s4,w2,w4]
  exact hQ _
 by_cases hln:64≤R.socks.length
 ·have hr:dc nm port packets bytes pol life R=(R,0,7):=by
   unfold dc;rw[if_neg (fun q=>q ⟨hva,g1,g2,g3,g4,g5⟩),f2,if_neg (by simp),if_pos hln]
  rw[hr]
  obtain⟨s1,s2,s3,s4,s5,s6,s7,s8⟩:=aB R.socks
  obtain⟨w1,w2,w3,w4,w5,w6,w7,w8⟩:=aE R.ws
  have had:=fT st nm port hnm
  have hof:=kL (R:=R) (by have:=h.len;omega) (by have:=h.wl;omega) nm port st
  rw[hva]at had
  rw[f1]at hof
  have g6:1≤pol:=by omega
  have g7:pol≤2:=by omega
  refine al hmix k_f59 rfl rfl fun Q hQ=>?_
  unfold aFun c_f59
  unfold rnV at hQ hof ⊢
  unfold adAV at had hof ⊢
  simp(config:=KF) (disch:=omega)only[bZ,aa,id,↓reduceIte,Nat.reduceEqDiff,Nat.reduceAdd,Nat.reduceLeDiff,reduceCtorEq,s2,s4,w2,w4]
  refine ag rfl e_f73 had rfl ?_
  simp(config:=KF) (disch:=omega)only[bZ,AI.dst,aa,unA,id,↓reduceIte,Nat.reduceEqDiff,Nat.reduceAdd,Nat.reduceLeDiff,s2,w2]
  refine ag (by simp[am,ai,aw,ar,aM,s2,w2]) e_f74 hof (by simp[ao,aq,aI,s5,w5]) ?_
  simp(config:=KF) (disch:=omega)only[bZ,retI,af,addA,aa,↓reduceIte,Nat.reduceEqDiff,Nat.reduceAdd,Nat.reduceLeDiff,Int.reduceNeg,s1,s2,s4,w2,w4,s8]
  exact hQ _
 ·have hraw:=rbind_raw h nm port packets bytes pol life hnm hva g1 g2 g3 g4 (by omega) (by omega) f2 (by omega)
  have hr:dc nm port packets bytes pol life R=({R with socks:=insS ⟨dG R.socks 64 0,nm,port,packets.toNat,bytes.toNat,pol,life,[],0,0⟩ R.socks},((dG R.socks 64 0:Nat):Int),0):=by
   unfold dc;rw[if_neg (fun q=>q ⟨hva,g1,g2,g3,g4,g5⟩),f2,if_neg (by simp),if_neg hln]
  rw[hr]
  refine mt (aF.mono (monoR (Q':=fun v _=>v= .tup [rnV {R with socks:=insS ⟨dG R.socks 64 0,nm,port,packets.toNat,bytes.toNat,pol,life,[],0,0⟩ R.socks},.lit (.int .i64 (dG R.socks 64 0:Nat)),.lit (.int .i64 0)]) hraw ?_) ?_) ?_ st
  ·rintro v s1 ⟨j,j1,j2,j3,j4,rfl⟩
   have hno:∀x∈R.socks,x.num≠dG R.socks 64 0:=fun x hx e=>by
    have:=fi h.srt hx
    rw[e,j4]at this;cases this
   have hins:=ins_eq (N:=dG R.socks 64 0) (S:=⟨dG R.socks 64 0,nm,port,packets.toNat,bytes.toNat,pol,life,[],0,0⟩) rfl h.srt hno j2 j3
   rw[hins]
   generalize dG R.socks 64 0=N
   refine⟨_,_,rfl,?_,rfl⟩
   unfold rnV
   simp only
   have hssv:ssV (R.socks.take j++(⟨N,nm,port,packets.toNat,bytes.toNat,pol,life,[],0,0⟩:Sk)::R.socks.drop j)= .sl false 10 ((R.socks.take j).map skV++skV ⟨N,nm,port,packets.toNat,bytes.toNat,pol,life,[],0,0⟩::(R.socks.drop j).map skV):=by
    unfold ssV
    rw[if_neg (by simp),List.map_append,List.map_cons]
   rw[hssv]
   refine RLe.net (RLe.sl (by simp) (fun e he=>?_) ?_)
   ·rcases List.mem_append.1 he with he|he
    ·obtain⟨S,_,rfl⟩:=List.mem_map.1 he;rfl
    ·rcases List.mem_cons.1 he with rfl|he
     ·rfl
     ·obtain⟨S,_,rfl⟩:=List.mem_map.1 he;rfl
   ·rw[List.flatMap_append,List.flatMap_append,List.flatMap_cons,List.flatMap_cons]
    refine qP (iv _) (qP ?_ (iv _))
    have e1:((packets.toNat:Nat):Int)=packets:=by omega
    have e2:((bytes.toNat:Nat):Int)=bytes:=by omega
    have e3:(skV ⟨N,nm,port,packets.toNat,bytes.toNat,pol,life,[],0,0⟩).cells= [.lit (.int .i64 (N:Nat)),.lit (.string nm),.lit (.int .i64 port),.lit (.int .i64 packets),.lit (.int .i64 bytes),.lit (.int .i64 pol),.lit (.int .u64 (life:Nat)),.sl false 4 [],.lit (.int .i64 0),.lit (.int .i64 0)]:=by
     show [AV.lit _,AV.lit _,AV.lit _,AV.lit (.int .i64 ((packets.toNat:Nat):Int)),AV.lit (.int .i64 ((bytes.toNat:Nat):Int)),_,_,_,_,_]=_
     rw[e1,e2];rfl
    rw[e3]
    exact⟨.refl _,.refl _,.refl _,.refl _,.refl _,.refl _,.refl _,.nil false 4,.refl _,.refl _,trivial⟩
  ·rintro v s1 rfl
   refine n7 (.tup _ fun x hx=>?_)
   simp only[List.mem_cons,List.not_mem_nil,or_false]at hx
   rcases hx with rfl|rfl|rfl
   ·exact rn_nb _
   ·exact .lit _
   ·exact .lit _
  ·intro v hv
   simp only[List.mem_cons,List.not_mem_nil,or_false]at hv
   rcases hv with rfl|rfl|rfl|rfl|rfl|rfl
   ·exact rn_nb _
   ·exact ad_nb _ _
   all_goals exact .lit _
end
theorem rnew_pure(now:Nat)(st:St):az Go.Proofs.Try.prog n_f20 [.lit (.int .u64 (now:Nat))] st (if now=18446744073709551615 then .tup [rnV ⟨0,[],[]⟩,.lit (.int .i64 2)]else .tup [rnV ⟨now,[],[]⟩,.lit (.int .i64 0)]):=by
 refine al hmix k_f20 rfl rfl fun Q hQ=>?_
 unfold aFun c_f20
 have h0:∀n:Nat,rnV ⟨n,[],[]⟩= .agg [.lit (.int .u64 (n:Nat)),.lit (.slice none 0 0),.lit (.slice none 0 0)]:=fun _=>rfl
 by_cases hn:now=18446744073709551615
 ·rw[if_pos hn,h0]at hQ
  simp(config:=KF) (disch:=omega)only[bZ,retI,af,aa,↓reduceIte,Nat.reduceEqDiff,Nat.reduceAdd,Nat.reduceLeDiff,reduceCtorEq]
  exact hQ _
 ·rw[if_neg hn,h0]at hQ
  simp(config:=KF) (disch:=omega)only[bZ,retI,af,aa,↓reduceIte,Nat.reduceEqDiff,Nat.reduceAdd,Nat.reduceLeDiff,reduceCtorEq]
  exact hQ _
end Go.Fx.YtgmeefljgbaanaaFx

