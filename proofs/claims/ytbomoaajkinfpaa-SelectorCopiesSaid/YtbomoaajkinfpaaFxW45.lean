/- What the functions that the statement reaches compute: part 45. -/
import Derived.Test.YtbomoaajkinfpaaFxW44
namespace Go.Fx.YtbomoaajkinfpaaFx
open Go Go.Fx
attribute [local irreducible] aC runI aB aE

set_option maxRecDepth 100000
set_option maxHeartbeats 4000000

theorem pv:∀ {l:List It4} {k:Nat} (_:k < l.length) (r:List AV),(l.flatMap it4C++r).drop (k * 4) = .lit (.int .i64 (l.getD k (0,0,0,0)).1)::.lit (.int .i64 (l.getD k (0,0,0,0)).2.1)::.lit (.int .i64 (l.getD k (0,0,0,0)).2.2.1)::.lit (.int .i64 (l.getD k (0,0,0,0)).2.2.2)::(l.flatMap it4C++r).drop ((k + 1) * 4)
  | [],_,h,_=>by simp at h
  | x::l,0,_,r=>by simp [it4C]
  | x :: l, k + 1, h, r => by
    have:=pv (l:=l) (k:=k) (by simpa using h) r
    simp only [List.flatMap_cons,it4C,List.cons_append,List.nil_append,List.getD_cons_succ]
    rw [show (k + 1) * 4 = k * 4 + 1 + 1 + 1 + 1 by omega,show (k + 1 + 1) * 4 = (k + 1) * 4 + 1 + 1 + 1 + 1 by omega]
    simp only [List.drop_succ_cons]
    exact this

theorem requalV (x y:RR) (hf:x.2.2.1.length≤1000000) (hg:y.2.2.1.length≤1000000) {st:St} {v:AV} {F:List Nat} (hv:EV4 v st y.2.2.1 F):aD Go.Proofs.Try.prog n_f18 [rrA x,rrV y v] st (.lit (.bool (decide (x = y)))):=by
  obtain ⟨e,dn,f,er⟩:=x
  obtain ⟨e',dn',g,er'⟩:=y
  obtain ⟨w1,w2,w3,w4,w5,w6,w7⟩:=bp f
  obtain ⟨u1,u2,u3,u4,u5,u6,u7,u8⟩:=hv.facts
  simp only at u8 hv
  have w8:=ke f
  simp only at hf hg
  refine am hmix k_f18 rfl rfl fun Q hQ=>?_
  unfold aFun c_f18
  have hn:=iO e e'
  simp only [bL] at hn
  simp (config:=KF) (disch:=omega) only [bZ,AI.dst,cC,addA,aa,↓reduceIte,Nat.reduceEqDiff,Nat.reduceAdd,Nat.reduceLeDiff,reduceCtorEq,rrA,rrV,w2,w4,u2,u4,hn]
  refine aK (fun h1=>?_) (fun h1=>?_)
  · simp (config:=KF) (disch:=omega) only [bZ,retI,AI.dst,↓reduceIte,Nat.reduceEqDiff]
    rw [decide_eq_false (by simp [h1])] at hQ
    exact hQ _
  have h1:e = e':=Classical.not_not.1 h1
  subst h1
  simp (config:=KF) (disch:=omega) only [bZ,AI.dst,b_neq,addA,aa,↓reduceIte,Nat.reduceEqDiff]
  by_cases h2:dn = dn'
  rotate_left
  · have hb:(dn == dn') = false:=by simpa using h2
    simp (config:=KF) (disch:=omega) only [bZ,retI,AI.dst,↓reduceIte,Nat.reduceEqDiff,hb]
    rw [decide_eq_false (by simp [h2])] at hQ
    exact hQ _
  subst h2
  simp (config:=KF) (disch:=omega) only [bZ,AI.dst,addA,aa,↓reduceIte,Nat.reduceEqDiff,beq_self_eq_true]
  refine aK (fun h3=>?_) (fun h3=>?_)
  · simp (config:=KF) (disch:=omega) only [bZ,retI,AI.dst,↓reduceIte,Nat.reduceEqDiff]
    rw [decide_eq_false (by simp [h3])] at hQ
    exact hQ _
  have h3:er = er':=by omega
  subst h3
  simp (config:=KF) (disch:=omega) only [bZ,AI.dst,addA,aa,↓reduceIte,Nat.reduceEqDiff,not_true_eq_false,w1,u1,w8,u8]
  refine aH (fun h=>?_) (fun h=>?_)
  · simp (config:=KF) (disch:=omega) only [bZ,retI,↓reduceIte,Nat.reduceEqDiff]
    rw [decide_eq_false (by simp; rintro rfl; exact h rfl)] at hQ
    exact hQ _
  have hfg:f.length = g.length:=by omega
  simp (config:=KF) (disch:=omega) only [bZ,↓reduceIte,Nat.reduceEqDiff]
  rw [f18_13w]
  refine aX (A:=Nat) (fun a=>f.length - a) (fun a=>⟨[(2,.lptr 2 0),(3,.lptr 3 0),(5,.lit (.int .i64 (a:Nat)))],[(2,[.lit (.int .i64 e.1),.lit (.int .i64 e.2.1),.lit (.int .i64 e.2.2.1),.lit (.int .i64 e.2.2.2),.lit (.bool dn),it4s f,.lit (.int .i64 er)]),(3,[.lit (.int .i64 e.1),.lit (.int .i64 e.2.1),.lit (.int .i64 e.2.2.1),.lit (.int .i64 e.2.2.2),.lit (.bool dn),v,.lit (.int .i64 er)])]⟩) (fun _=>st)
    (fun a=>a≤f.length∧f.take a = g.take a) 0 ⟨by omega,rfl⟩ (Sf.le_refl _) rfl ?_
  rintro i ⟨k1,k2⟩ K hK hKe hKr
  by_cases h:i < f.length
  · have hj:i < g.length:=by omega
    have e1:(f.map bL).getD i .any = bL f[i]:=by simp [List.getD,h]
    have e2:(g.map bL).getD i .any = bL g[i]:=by simp [List.getD,hj]
    have hf1:it4s f = .sl false 4 (f.map bL):=if_neg fun e=>by subst e; simp at h
    have hn2:=iO f[i] g[i]
    simp only [bL] at hn2
    rw [hf1] at hK ⊢
    rcases hv with hg1 | ⟨⟨_,_,e⟩ | ⟨vi,vcap,vr,rfl,hvg,_⟩,_⟩
    · have hg1:v = .sl false 4 (g.map bL):=hg1.trans (if_neg fun e=>by subst e; simp at hj)
      rw [hg1] at hK ⊢
      simp (config:=KF) (disch:=omega) only [bZ,bW,ixSV,lenI,addA,aa,↓reduceIte,Nat.reduceEqDiff,Nat.reduceAdd,Nat.reduceLeDiff,e1,e2,bL,hn2]
      refine aH (fun h3=>?_) (fun h3=>?_)
      · simp (config:=KF) (disch:=omega) only [bZ,↓reduceIte,Nat.reduceEqDiff]
        rw [decide_eq_false (by simp; rintro rfl; exact h3 rfl)] at hQ
        refine hKr _ _ ?_
        simp (config:=KF) (disch:=omega) only [bZ,retI,↓reduceIte]
        exact hQ _
      · simp (config:=KF) (disch:=omega) only [bZ,↓reduceIte,Nat.reduceEqDiff]
        refine hK (i + 1) _ ⟨by omega,?_⟩ (by omega) (Sf.le_refl _)
        rw [List.take_succ_eq_append_getElem h,List.take_succ_eq_append_getElem hj,k2,Classical.not_not.1 h3]
    · omega
    · have hvd:=pv hj vr
      rw [show g.getD i (0,0,0,0) = g[i] by simp [hj]] at hvd
      simp (config:=KF) (disch:=omega) only [bZ,bW,ixSV,lenI,addA,aa,↓reduceIte,Nat.reduceEqDiff,Nat.reduceAdd,Nat.reduceLeDiff,e1,hvg,hvd,bL,hn2]
      refine aH (fun h3=>?_) (fun h3=>?_)
      · simp (config:=KF) (disch:=omega) only [bZ,↓reduceIte,Nat.reduceEqDiff]
        rw [decide_eq_false (by simp; rintro rfl; exact h3 rfl)] at hQ
        refine hKr _ _ ?_
        simp (config:=KF) (disch:=omega) only [bZ,retI,↓reduceIte]
        exact hQ _
      · simp (config:=KF) (disch:=omega) only [bZ,↓reduceIte,Nat.reduceEqDiff]
        refine hK (i + 1) _ ⟨by omega,?_⟩ (by omega) (Sf.le_refl _)
        rw [List.take_succ_eq_append_getElem h,List.take_succ_eq_append_getElem hj,k2,Classical.not_not.1 h3]
  · simp (config:=KF) (disch:=omega) only [bZ,addA,aa,↓reduceIte,Nat.reduceEqDiff,w1,w8]
    refine hKe _ _ _ ?_
    simp (config:=KF) (disch:=omega) only [bZ,retI,↓reduceIte]
    have hi:i = f.length:=by omega
    rw [hi,List.take_length,hfg,List.take_length] at k2
    have e9:decide ((e,dn,f,er) = (e,dn,g,er)) = true:=decide_eq_true (by rw [k2])
    rw [e9] at hQ
    exact hQ _

section
variable {cv:AV} {st:St} {R:RS} {F:List Nat} {n:Nat}
theorem makes_calls (h:RefC cv st R.ch F) (hF:∀ x ∈ F,x < st.boxes.length) (ho:ROk R n) (hn:n < 49000) (a:A7) (hll:a.2.2.2.1.length < 100000) :
    aA Go.Proofs.Try.prog n_f50 [rfA cv R.ws,a7AV a (.sl false 3 (a.2.2.2.1.map csAV))] st
      (fun r st'=>∃ cv' v,r = .tup [rfA cv' (rAct R a).1.ws,rrV (rAct R a).2 v]∧RefQ F st st' cv' v (rAct R a).1 (rAct R a).2.2.2.1):=by
  obtain ⟨w,t,p,l,wt⟩:=a
  simp only at hll
  obtain ⟨c1,c2,c3,c4,c5,c6,c7⟩:=h.isCh
  obtain ⟨w1,w2,w3,w4,w5,w6,w7,w8⟩:=aw R.ws
  obtain ⟨r1,r2⟩:=cD h.isCh R.ws
  refine aq hmix k_f50 rfl rfl fun Q hQ=>?_
  unfold aFun c_f50
  unfold rAct at hQ
  simp only at hQ
  simp (config:=KF) (disch:=omega) only [bZ,cC,addA,aa,fU,↓reduceIte,Nat.reduceEqDiff,Nat.reduceAdd,reduceCtorEq,rfA,a7AV,c2,c4,w2,w4]
  refine aH (fun h0=>?_) (fun h0=>?_)
  · rw [if_pos h0] at hQ
    have hs:=oh h hF ho hn hll t p wt
    simp only [rfA] at hs
    simp (config:=KF) (disch:=omega) only [bZ,addA,aa,id,↓reduceIte,Nat.reduceEqDiff,Nat.reduceAdd,Nat.reduceLeDiff,c2,w2]
    refine ar (by simp only [List.map_cons,List.map_nil,r1]; rfl) e_f65 hs (by simp only [List.all_cons,List.all_nil,r2]; rfl) fun r st1 hr=>?_
    obtain ⟨cv',rfl,hp⟩:=hr
    generalize cp R t l p wt = X at hQ hp ⊢
    have hq:=hQ _ _ ⟨cv',_,rfl,hp.q X.2.2.2.1⟩
    obtain ⟨F',g1,_⟩:=hp
    obtain ⟨n1,n2,n3,n4,n5,n6,n7⟩:=g1.isCh
    obtain ⟨x1,x2,x3,x4,x5,x6,x7,x8⟩:=aw X.1.ws
    obtain ⟨y1,y2,y3,y4,y5,y6,y7⟩:=bp X.2.2.2.1
    simp only [rfA,rrV] at hq
    simp (config:=KF) (disch:=omega) only [bZ,retI,ag,aa,↓reduceIte,Nat.reduceEqDiff,Nat.reduceAdd,Nat.reduceLeDiff,rrA,n2,n4,x2,x4,y2,y4]
    exact hq
  rw [if_neg h0] at hQ
  simp (config:=KF) (disch:=omega) only [bZ,↓reduceIte,Nat.reduceEqDiff]
  refine aH (fun h1=>?_) (fun h1=>?_)
  · rw [if_pos h1] at hQ
    have hs:=qj h.isCh ho t st
    simp only [rfA] at hs
    simp (config:=KF) (disch:=omega) only [bZ,addA,aa,id,↓reduceIte,Nat.reduceEqDiff,Nat.reduceAdd,Nat.reduceLeDiff,c2,w2]
    refine aj (by simp only [List.map_cons,List.map_nil,r1]; rfl) e_f66 hs (by simp only [List.all_cons,List.all_nil,r2]; rfl) ?_
    have hch:(dy R t).1.ch = R.ch:=by unfold dy; split; rfl; split <;> rfl
    generalize dy R t = X at hQ hch ⊢
    have hq:=hQ (.tup [rfA cv X.1.ws,rrV ((0,0,0,0),false,[],X.2) (it4s [])]) st ⟨cv,_,rfl,F,by rw [hch]; exact h,.inl rfl,Kp.refl _ _,fun _ hy=>.inl hy⟩
    obtain ⟨x1,x2,x3,x4,x5,x6,x7,x8⟩:=aw X.1.ws
    obtain ⟨y1,y2,y3,y4,y5,y6,y7⟩:=bp []
    simp only [rfA,rrV] at hq
    simp (config:=KF) (disch:=omega) only [bZ,retI,ag,aa,↓reduceIte,Nat.reduceEqDiff,Nat.reduceAdd,Nat.reduceLeDiff,rrA,c2,c4,x2,x4,y2,y4]
    exact hq
  · rw [if_neg h1] at hQ
    have hs:=ql h hF ho hn p
    simp only [rfA] at hs
    simp (config:=KF) (disch:=omega) only [bZ,addA,aa,id,↓reduceIte,Nat.reduceEqDiff,Nat.reduceAdd,Nat.reduceLeDiff,c2,w2]
    refine ar (by simp only [List.map_cons,List.map_nil,r1]; rfl) e_f67 hs (by simp only [List.all_cons,List.all_nil,r2]; rfl) fun r st1 hr=>?_
    obtain ⟨cv',v,rfl,hp⟩:=hr
    generalize cP R p = X at hQ hp ⊢
    have hq:=hQ (.tup [rfA cv' X.1.ws,rrV ((0,0,0,0),false,X.2.1,X.2.2) v]) _ ⟨cv',v,rfl,hp⟩
    obtain ⟨F',g1,g2,_⟩:=hp
    obtain ⟨n1,n2,n3,n4,n5,n6,n7⟩:=g1.isCh
    obtain ⟨x1,x2,x3,x4,x5,x6,x7,x8⟩:=aw X.1.ws
    obtain ⟨y1,y2,y3,y4,y5,y6,y7,y8⟩:=g2.facts
    simp only [rfA,rrV] at hq
    simp (config:=KF) (disch:=omega) only [bZ,retI,ag,aa,↓reduceIte,Nat.reduceEqDiff,Nat.reduceAdd,Nat.reduceLeDiff,rrV,n2,n4,x2,x4,y2,y4]
    exact hq
end
end Go.Fx.YtbomoaajkinfpaaFx

