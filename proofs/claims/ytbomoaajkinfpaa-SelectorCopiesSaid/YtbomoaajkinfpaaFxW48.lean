/- What the functions that the statement reaches compute: part 48. -/
import Derived.Test.YtbomoaajkinfpaaFxW47
namespace Go.Fx.YtbomoaajkinfpaaFx
open Go Go.Fx
attribute [local irreducible] aC runI aB aE

set_option maxRecDepth 100000
set_option maxHeartbeats 8000000

theorem jv (l:List Int) (b c d:List A7) (hb:∀ a ∈ b,a.2.2.2.1.length≤9223372036854775807) (hc:∀ a ∈ c,a.2.2.2.1.length≤9223372036854775807) (hd:∀ a ∈ d,a.2.2.2.1.length≤9223372036854775807):aA Go.Proofs.Try.prog n_f7 [.sl false 1 (ints l),cg b,cg c,cg d] ⟨[]⟩ (fun v _=>v = .lit (.bool true)):=by
  refine aq hmix k_f7 rfl rfl fun Q hQ=>?_
  unfold aFun c_f7
  have hgb:=iP b
  have hgc:=iP c
  have hgd:=iP d
  by_cases h0:20 < l.length
  · simp (config:=KF) (disch:=omega) only [bZ,AI.dst,lenI,dA,id,↓reduceIte,Nat.reduceEqDiff,Nat.reduceAdd,reduceCtorEq,dR,cg,ak]
    refine ar rfl e_f10 (eW _) rfl fun r st1 hr=>?_
    subst hr
    simp (config:=KF) (disch:=omega) only [bZ,retI,↓reduceIte,Nat.reduceEqDiff,reduceCtorEq]
    exact hQ _ _ rfl
  by_cases h1:20 < b.length
  · simp (config:=KF) (disch:=omega) only [bZ,AI.dst,lenI,dA,id,↓reduceIte,Nat.reduceEqDiff,Nat.reduceAdd,reduceCtorEq,dR,eb,cg,ak,hgb]
    refine ar rfl e_f10 (eW _) rfl fun r st1 hr=>?_
    subst hr
    simp (config:=KF) (disch:=omega) only [bZ,retI,↓reduceIte,Nat.reduceEqDiff,reduceCtorEq]
    exact hQ _ _ rfl
  by_cases h2:20 < c.length
  · simp (config:=KF) (disch:=omega) only [bZ,AI.dst,lenI,dA,id,↓reduceIte,Nat.reduceEqDiff,Nat.reduceAdd,reduceCtorEq,dR,eb,cg,ak,hgb,hgc]
    refine ar rfl e_f10 (eW _) rfl fun r st1 hr=>?_
    subst hr
    simp (config:=KF) (disch:=omega) only [bZ,retI,↓reduceIte,Nat.reduceEqDiff,reduceCtorEq]
    exact hQ _ _ rfl
  by_cases h3:20 < d.length
  · simp (config:=KF) (disch:=omega) only [bZ,AI.dst,lenI,dA,id,↓reduceIte,Nat.reduceEqDiff,Nat.reduceAdd,reduceCtorEq,dR,eb,cg,ak,hgb,hgc,hgd]
    refine ar rfl e_f10 (eW _) rfl fun r st1 hr=>?_
    subst hr
    simp (config:=KF) (disch:=omega) only [bZ,retI,↓reduceIte,Nat.reduceEqDiff,reduceCtorEq]
    exact hQ _ _ rfl
  have hfb:=nN b (by omega) hb ⟨[]⟩
  have hfc:=nN c (by omega) hc ⟨[]⟩
  have hfd:=nN d (by omega) hd ⟨[]⟩
  unfold cg at hfb hfc hfd ⊢
  simp (config:=KF) (disch:=omega) only [bZ,AI.dst,lenI,dA,id,↓reduceIte,Nat.reduceEqDiff,Nat.reduceAdd,reduceCtorEq,eb,ak,hgb,hgc,hgd]
  refine aj rfl e_f9 hfb rfl ?_
  cases hfl:b.all fun a=>decide (a.2.2.2.1.length≤20) with
  | false =>
    simp (config:=KF) (disch:=omega) only [bZ,AI.dst,unA,id,↓reduceIte,Nat.reduceEqDiff,reduceCtorEq]
    refine ar rfl e_f10 (eW _) rfl fun r st1 hr=>?_
    subst hr
    simp (config:=KF) (disch:=omega) only [bZ,retI,↓reduceIte,Nat.reduceEqDiff,reduceCtorEq]
    exact hQ _ _ rfl
  | true =>
  have hab:=qm hfl
  simp (config:=KF) (disch:=omega) only [bZ,AI.dst,unA,id,↓reduceIte,Nat.reduceEqDiff,reduceCtorEq]
  refine aj rfl e_f9 hfc rfl ?_
  cases hfl:c.all fun a=>decide (a.2.2.2.1.length≤20) with
  | false =>
    simp (config:=KF) (disch:=omega) only [bZ,AI.dst,unA,id,↓reduceIte,Nat.reduceEqDiff,reduceCtorEq]
    refine ar rfl e_f10 (eW _) rfl fun r st1 hr=>?_
    subst hr
    simp (config:=KF) (disch:=omega) only [bZ,retI,↓reduceIte,Nat.reduceEqDiff,reduceCtorEq]
    exact hQ _ _ rfl
  | true =>
  have hac:=qm hfl
  simp (config:=KF) (disch:=omega) only [bZ,AI.dst,unA,id,↓reduceIte,Nat.reduceEqDiff,reduceCtorEq]
  refine aj rfl e_f9 hfd rfl ?_
  cases hfl:d.all fun a=>decide (a.2.2.2.1.length≤20) with
  | false =>
    simp (config:=KF) (disch:=omega) only [bZ,AI.dst,unA,id,↓reduceIte,Nat.reduceEqDiff,reduceCtorEq]
    refine ar rfl e_f10 (eW _) rfl fun r st1 hr=>?_
    subst hr
    simp (config:=KF) (disch:=omega) only [bZ,retI,↓reduceIte,Nat.reduceEqDiff,reduceCtorEq]
    exact hQ _ _ rfl
  | true =>
  have had:=qm hfl
  simp (config:=KF) (disch:=omega) only [bZ,AI.dst,unA,id,↓reduceIte,Nat.reduceEqDiff,reduceCtorEq]
  refine ar rfl e_f11 (nD (l:=l) (.inr rfl) (by omega) _) rfl fun r st1 hr1=>?_
  obtain ⟨hk1,hr1⟩:=hr1
  cases hok:okL l with
  | false =>
    rw [hok,if_neg (by simp)] at hr1
    subst hr1
    simp (config:=KF) (disch:=omega) only [bZ,id,↓reduceIte,Nat.reduceEqDiff,reduceCtorEq]
    refine ar rfl e_f23 (nH (l:=l) (by omega) _) rfl fun r st2 hr2=>?_
    obtain ⟨hk2,hr2⟩:=hr2
    rw [hok,if_neg (by simp)] at hr2
    subst hr2
    simp (config:=KF) (disch:=omega) only [bZ,AI.dst,ag,id,dj,bS,dH,↓reduceIte,Nat.reduceEqDiff,Nat.reduceAdd,Nat.reduceLeDiff,Int.reduceEq,reduceCtorEq,not_false_eq_true,rfA,wtS]
    refine ar rfl e_f10 (eW _) rfl fun r st1 hr=>?_
    subst hr
    simp (config:=KF) (disch:=omega) only [bZ,retI,↓reduceIte,Nat.reduceEqDiff]
    exact hQ _ _ rfl
  | true =>
    rw [hok,if_pos rfl] at hr1
    obtain ⟨s,rfl,mid,cv,ov,L,h,hids⟩:=hr1
    simp (config:=KF) (disch:=omega) only [bZ,id,mY,↓reduceIte,Nat.reduceEqDiff,reduceCtorEq]
    refine ar rfl e_f23 (nH (l:=l) (by omega) _) rfl fun r st2 hr2=>?_
    obtain ⟨hk2,hr2⟩:=hr2
    rw [hok,if_pos rfl] at hr2
    obtain ⟨rv,F,rfl,hrc,hF⟩:=hr2
    have hpl:=pl_new (st0:=st1) h hk2 hrc hF
    have hpc:=iy (l:=b) (by omega) hab hpl (by omega)
    have e0:(newR l).ws = []:=rfl
    rw [e0] at hpc
    obtain ⟨c1,c2,c3,c4,c5,c6,c7⟩:=hrc.isCh
    obtain ⟨w1,w2,w3,w4,w5,w6,w7,w8⟩:=aw []
    obtain ⟨r1,r2⟩:=cD hrc.isCh []
    unfold cg at hpc
    simp only [rfA] at hpc
    simp (config:=KF) (disch:=omega) only [bZ,AI.dst,ag,cy,cb,bw,aa,id,dj,bS,dH,↓reduceIte,Nat.reduceEqDiff,Nat.reduceAdd,Nat.reduceLeDiff,reduceCtorEq,not_true_eq_false,rfA,c2,c4,w2,w4]
    refine ar (by simp only [List.map_cons,List.map_nil,r1]; rfl) e_f25 hpc (by simp only [List.all_cons,List.all_nil,r2]; rfl) fun r st3 hr3=>?_
    obtain ⟨cv1,ov1,rv1,L1,F1,rfl,p1,_⟩:=hr3
    clear hpc hpl hrc c1 c2 c3 c4 c5 c6 c7 r1 r2
    generalize fK (newR l) b = R1 at *
    obtain ⟨n1,n2,n3,n4,n5,n6,n7⟩:=p1.ref.isCh
    obtain ⟨x1,x2,x3,x4,x5,x6,x7,x8⟩:=aw R1.ws
    obtain ⟨r1,r2⟩:=cD p1.ref.isCh R1.ws
    simp (config:=KF) (disch:=omega) only [bZ,ag,id,dj,↓reduceIte,Nat.reduceEqDiff,Nat.reduceAdd,Nat.reduceLeDiff,n2,n4,x2,x4]
    refine ar rfl e_f29 (scopy_calls p1.sel (by omega)) rfl fun r st4 hr4=>?_
    obtain ⟨t,rfl,k4,mt,ct,ot,Lt,ht,htd⟩:=hr4
    have lt1:=p1.sel.is.lts
    have lt4:=ht.is.lts
    have q1:Pl st4 s mid cv1 ov1 rv1 L1 R1 (0 + b.length) F1:=⟨p1.sel.kp k4 (fun _ _ e=>by cases e),p1.ref.at fun x hx=>k4.2 x (p1.lt x hx) (by simp),p1.wv,fun x hx=>Nat.lt_of_lt_of_le (p1.lt x hx) k4.1,p1.sep⟩
    have hs1:=gT ht q1.ref
    simp only [rfA] at hs1
    simp (config:=KF) (disch:=omega) only [bZ,AI.dst,cy,cb,bw,aa,unA,id,↓reduceIte,Nat.reduceEqDiff,Nat.reduceAdd,Nat.reduceLeDiff,n2,x2]
    refine aj (by simp only [List.map_cons,List.map_nil,r1]; rfl) e_f24 hs1 (by simp only [List.all_cons,List.all_nil,r2]; rfl) ?_
    have pc:=iy (l:=c) (by omega) hac q1 (by omega)
    unfold cg at pc
    simp only [rfA] at pc
    simp (config:=KF) (disch:=omega) only [bZ,AI.dst,aa,unA,id,↓reduceIte,Nat.reduceEqDiff,Nat.reduceAdd,Nat.reduceLeDiff,n2,x2]
    refine ar (by simp only [List.map_cons,List.map_nil,r1]; rfl) e_f25 pc (by simp only [List.all_cons,List.all_nil,r2]; rfl) fun r st5 hr5=>?_
    obtain ⟨cv5,ov5,rv5,L5,F5,rfl,p5,k5,i5,f5⟩:=hr5
    clear pc
    generalize fK R1 c = R5 at *
    have q5:Pl st5 t mt ct ot rv1 Lt R1 (0 + b.length) F1:=⟨ht.kp k5 (fun x hx hf=>by have:=htd x hx; have:=lt1 x hf; omega),q1.ref.at fun x hx=>k5.2 x (q1.lt x hx) (p1.sep x hx),p1.wv,fun x hx=>Nat.lt_of_lt_of_le (q1.lt x hx) k5.1,fun x hx hf=>by have:=htd x hf; have:=p1.lt x hx; omega⟩
    have pd:=iy (l:=d) (by omega) had q5 (by omega)
    unfold cg at pd
    simp only [rfA] at pd
    obtain ⟨m1,m2,m3,m4,m5,m6,m7⟩:=p5.ref.isCh
    obtain ⟨y1,y2,y3,y4,y5,y6,y7,y8⟩:=aw R5.ws
    obtain ⟨s1,s2⟩:=cD p5.ref.isCh R5.ws
    simp (config:=KF) (disch:=omega) only [bZ,ag,aa,id,dj,bS,dH,↓reduceIte,Nat.reduceEqDiff,Nat.reduceAdd,Nat.reduceLeDiff,n2,x2,m2,m4,y2,y4]
    refine ar (by simp only [List.map_cons,List.map_nil,r1]; rfl) e_f25 pd (by simp only [List.all_cons,List.all_nil,r2]; rfl) fun r st6 hr6=>?_
    obtain ⟨cv6,ov6,rv6,L6,F6,rfl,p6,k6,i6,f6⟩:=hr6
    clear pd
    generalize fK R1 d = R6 at *
    have g5:=p5.sel.kp k6 (fun x hx hf=>by
      have:=htd x hf
      have:=lt4 x hf
      rcases i5 x hx with e | e
      · have:=lt1 x e; omega
      · omega)
    have g5r:RefC rv5 st6 R5.ch F5:=p5.ref.at fun x hx=>k6.2 x (p5.lt x hx) (fun hf=>by
      have:=htd x hf
      have:=lt4 x hf
      rcases f5 x hx with e | e
      · have:=p1.lt x e; omega
      · omega)
    have hs5:=gT g5 g5r
    have hs6:=gT p6.sel p6.ref
    simp only [rfA] at hs5 hs6
    obtain ⟨o1,o2,o3,o4,o5,o6,o7⟩:=p6.ref.isCh
    obtain ⟨z1,z2,z3,z4,z5,z6,z7,z8⟩:=aw R6.ws
    obtain ⟨t1,t2⟩:=cD p6.ref.isCh R6.ws
    simp (config:=KF) (disch:=omega) only [bZ,AI.dst,ag,aa,id,dj,bS,dH,↓reduceIte,Nat.reduceEqDiff,Nat.reduceAdd,Nat.reduceLeDiff,m2,y2,o2,o4,z2,z4]
    refine aj (by simp only [List.map_cons,List.map_nil,s1]; rfl) e_f24 hs5 (by simp only [List.all_cons,List.all_nil,s2]; rfl) ?_
    simp (config:=KF) (disch:=omega) only [bZ,AI.dst,aa,id,↓reduceIte,Nat.reduceEqDiff,Nat.reduceAdd,Nat.reduceLeDiff,o2,z2]
    refine aj (by simp only [List.map_cons,List.map_nil,t1]; rfl) e_f24 hs6 (by simp only [List.all_cons,List.all_nil,t2]; rfl) ?_
    simp (config:=KF) (disch:=omega) only [bZ,AI.dst,id,↓reduceIte,Nat.reduceEqDiff]
    refine ar rfl e_f10 (eW _) rfl fun r st7 hr=>?_
    subst hr
    simp (config:=KF) (disch:=omega) only [bZ,retI,↓reduceIte,Nat.reduceEqDiff]
    exact hQ _ _ rfl

theorem jx {l:List Int} {b c d:List A7T} (hb:∀ x ∈ b,x.2.2.2.1.length≤maxLen) (hc:∀ x ∈ c,x.2.2.2.1.length≤maxLen) (hd:∀ x ∈ d,x.2.2.2.1.length≤maxLen):aA Go.Proofs.Try.prog n_f7 [.sl false 1 (l.map fun x=>.lit (.int .i64 x)),.sl false 5 (b.map fun x=>.agg [.lit (.int .i64 x.1),.lit (.int .i64 x.2.1),.lit (.int .i64 x.2.2.1),.sl false 3 (x.2.2.2.1.map fun y=>.agg [.lit (.int .i64 y.1),.lit (.bool y.2.1),.lit (.int .i64 y.2.2.1)]),.lit (.bool x.2.2.2.2.1)]),.sl false 5 (c.map fun x=>.agg [.lit (.int .i64 x.1),.lit (.int .i64 x.2.1),.lit (.int .i64 x.2.2.1),.sl false 3 (x.2.2.2.1.map fun y=>.agg [.lit (.int .i64 y.1),.lit (.bool y.2.1),.lit (.int .i64 y.2.2.1)]),.lit (.bool x.2.2.2.2.1)]),.sl false 5 (d.map fun x=>.agg [.lit (.int .i64 x.1),.lit (.int .i64 x.2.1),.lit (.int .i64 x.2.2.1),.sl false 3 (x.2.2.2.1.map fun y=>.agg [.lit (.int .i64 y.1),.lit (.bool y.2.1),.lit (.int .i64 y.2.2.1)]),.lit (.bool x.2.2.2.2.1)])] ⟨[]⟩ (fun v _=>v = .lit (.bool true)):=by
  rw [nO,nO,nO]
  have key:∀ {l:List A7T},(∀ x ∈ l,x.2.2.2.1.length≤maxLen)→∀ a ∈ l.map a7Of,a.2.2.2.1.length≤9223372036854775807:=fun hx a ha=>by
    obtain ⟨x,hxm,rfl⟩:=List.mem_map.1 ha
    have:=hx x hxm
    simp only [a7Of,List.length_map]
    unfold maxLen at this
    omega
  exact jv l _ _ _ (key hb) (key hc) (key hd)
end Go.Fx.YtbomoaajkinfpaaFx

