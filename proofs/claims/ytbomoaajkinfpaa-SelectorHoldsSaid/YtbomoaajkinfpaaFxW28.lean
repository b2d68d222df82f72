/- What the functions that the statement reaches compute: part 28. -/
import Derived.Test.YtbomoaajkinfpaaFxW27
namespace Go.Fx.YtbomoaajkinfpaaFx
open Go Go.Fx
attribute [local irreducible] aC runI aw aB

set_option maxRecDepth 100000
set_option maxHeartbeats 4000000

/-! Results, and what compares them. -/
def rrA (x:RR):AV:=.agg [.lit (.int .i64 x.1.1),.lit (.int .i64 x.1.2.1),.lit (.int .i64 x.1.2.2.1),.lit (.int .i64 x.1.2.2.2),.lit (.bool x.2.1),it4s x.2.2.1,.lit (.int .i64 x.2.2.2)]
theorem nJ (x:RR):(rrA x).dis = rrA x∧(rrA x).noL = true:=by
  unfold rrA it4s
  split <;> exact ⟨rfl,rfl⟩

theorem nK (x y:It4):binI (.agg (.field 0 1 .int (.field 1 1 .int (.field 2 1 .int (.field 3 1 .int .tt))))) .neq (cu x) (cu y) = .ok (.lit (.bool (decide (x≠y)))):=by
  obtain ⟨a,b,c,d⟩:=x
  obtain ⟨a',b',c',d'⟩:=y
  simp only [cu,binI,eqI,nU,List.drop,List.take,Res.bind,andA]
  by_cases h1:a = a'
  · by_cases h2:b = b'
    · by_cases h3:c = c'
      · by_cases h4:d = d'
        · simp [h1,h2,h3,h4,andA,Res.bind]
        · simp [h1,h2,h3,h4,andA,Res.bind]
      · simp [h1,h2,h3,andA,Res.bind]
    · simp [h1,h2,andA,Res.bind]
  · simp [h1,andA,Res.bind]
theorem it4s_len (l:List It4) (st:St):lenI .sl st (it4s l) = .ok (.lit (.int .i64 (l.length:Nat))):=by
  unfold it4s
  split
  · rename_i h; subst h; rfl
  · simp [lenI]

theorem ky (x y:RR) (hf:x.2.2.1.length≤1000000) (hg:y.2.2.1.length≤1000000) (st:St):aL Go.Proofs.Try.prog n_f18 [rrA x,rrA y] st (.lit (.bool (decide (x = y)))):=by
  obtain ⟨e,dn,f,er⟩:=x
  obtain ⟨e',dn',g,er'⟩:=y
  obtain ⟨w1,w2,w3,w4,w5,w6,w7⟩:=bE f
  obtain ⟨u1,u2,u3,u4,u5,u6,u7⟩:=bE g
  have w8:=it4s_len f
  have u8:=it4s_len g
  simp only at hf hg
  refine aD hmix k_f18 rfl rfl fun Q hQ=>?_
  unfold aFun c_f18
  have hn:=nK e e'
  simp only [cu] at hn
  simp (config:=KF) (disch:=omega) only [bZ,AI.dst,lQ,addA,aa,bg,↓reduceIte,Nat.reduceEqDiff,Nat.reduceAdd,Nat.reduceLeDiff,reduceCtorEq,rrA,w2,w4,u2,u4,hn]
  refine bw (fun h1=>?_) (fun h1=>?_)
  · simp (config:=KF) (disch:=omega) only [bZ,retI,AI.dst,↓reduceIte,Nat.reduceEqDiff]
    rw [decide_eq_false (by simp [h1])] at hQ
    exact hQ _
  have h1:e = e':=Classical.not_not.1 h1
  subst h1
  simp (config:=KF) (disch:=omega) only [bZ,AI.dst,b_neq,addA,aa,↓reduceIte,Nat.reduceEqDiff]
  by_cases h2:dn = dn'
  rotate_left
  · have hb:(dn == dn') = false:=by simpa using h2
    simp (config:=KF) (disch:=omega) only [bZ,retI,AI.dst,↓reduceIte,Nat.reduceEqDiff,hb]
    rw [decide_eq_false (by simp [h2])] at hQ
    exact hQ _
  subst h2
  simp (config:=KF) (disch:=omega) only [bZ,AI.dst,addA,aa,↓reduceIte,Nat.reduceEqDiff,beq_self_eq_true]
  refine bw (fun h3=>?_) (fun h3=>?_)
  · simp (config:=KF) (disch:=omega) only [bZ,retI,AI.dst,↓reduceIte,Nat.reduceEqDiff]
    rw [decide_eq_false (by simp [h3])] at hQ
    exact hQ _
  have h3:er = er':=by omega
  subst h3
  simp (config:=KF) (disch:=omega) only [bZ,AI.dst,addA,aa,↓reduceIte,Nat.reduceEqDiff,not_true_eq_false,w1,u1,w8,u8]
  refine aP (fun h=>?_) (fun h=>?_)
  · simp (config:=KF) (disch:=omega) only [bZ,retI,↓reduceIte,Nat.reduceEqDiff]
    rw [decide_eq_false (by simp; rintro rfl; exact h rfl)] at hQ
    exact hQ _
  have hfg:f.length = g.length:=by omega
  simp (config:=KF) (disch:=omega) only [bZ,↓reduceIte,Nat.reduceEqDiff]
  rw [f18_13w]
  refine bj (A:=Nat) (fun a=>f.length - a) (fun a=>⟨[(2,.lptr 2 0),(3,.lptr 3 0),(5,.lit (.int .i64 (a:Nat)))],[(2,[.lit (.int .i64 e.1),.lit (.int .i64 e.2.1),.lit (.int .i64 e.2.2.1),.lit (.int .i64 e.2.2.2),.lit (.bool dn),it4s f,.lit (.int .i64 er)]),(3,[.lit (.int .i64 e.1),.lit (.int .i64 e.2.1),.lit (.int .i64 e.2.2.1),.lit (.int .i64 e.2.2.2),.lit (.bool dn),it4s g,.lit (.int .i64 er)])]⟩) (fun _=>st)
    (fun a=>a≤f.length∧f.take a = g.take a) 0 ⟨by omega,rfl⟩ (Sf.le_refl _) rfl ?_
  rintro i ⟨k1,k2⟩ K hK hKe hKr
  by_cases h:i < f.length
  · have hj:i < g.length:=by omega
    have e1:(f.map cu).getD i .any = cu f[i]:=by simp [List.getD,h]
    have e2:(g.map cu).getD i .any = cu g[i]:=by simp [List.getD,hj]
    have hf1:it4s f = .sl false 4 (f.map cu):=if_neg fun e=>by subst e; simp at h
    have hg1:it4s g = .sl false 4 (g.map cu):=if_neg fun e=>by subst e; simp at hj
    have hn2:=nK f[i] g[i]
    simp only [cu] at hn2
    rw [hf1,hg1] at hK ⊢
    simp (config:=KF) (disch:=omega) only [bZ,dk,ixSV,lenI,addA,aa,↓reduceIte,Nat.reduceEqDiff,Nat.reduceAdd,Nat.reduceLeDiff,aM,e1,e2,cu,hn2]
    refine aP (fun h3=>?_) (fun h3=>?_)
    · simp (config:=KF) (disch:=omega) only [bZ,↓reduceIte,Nat.reduceEqDiff]
      rw [decide_eq_false (by simp; rintro rfl; exact h3 rfl)] at hQ
      refine hKr _ _ ?_
      simp (config:=KF) (disch:=omega) only [bZ,retI,↓reduceIte]
      exact hQ _
    · simp (config:=KF) (disch:=omega) only [bZ,↓reduceIte,Nat.reduceEqDiff]
      refine hK (i + 1) _ ⟨by omega,?_⟩ (by omega) (Sf.le_refl _)
      rw [List.take_succ_eq_append_getElem h,List.take_succ_eq_append_getElem hj,k2,Classical.not_not.1 h3]
  · simp (config:=KF) (disch:=omega) only [bZ,aH,bf,addA,aa,↓reduceIte,Nat.reduceEqDiff,aY,w1,w8]
    refine hKe _ _ _ ?_
    simp (config:=KF) (disch:=omega) only [bZ,retI,↓reduceIte]
    have hi:i = f.length:=by omega
    rw [hi,List.take_length,hfg,List.take_length] at k2
    subst k2
    rw [decide_eq_true rfl] at hQ
    exact hQ _

/-! Numbers, frozen or in a buffer. -/
def IV (v:AV) (st:St) (l:List Int):Prop:=(v = intS l∨v = .sl false 1 (ints l))∨MB v st (ints l)
theorem IV.facts {v:AV} {st:St} {l:List Int} (h:IV v st l):v.dis = v∧v.own1 = v∧v.own2 = v∧v.solid1 = true∧v.noL = true∧v.cells = [v]∧(∀ s,kill s v = v)∧∀ st',lenI .sl st' v = .ok (.lit (.int .i64 (l.length:Nat))):=by
  rcases h with (rfl | rfl) | h
  · exact c9 l
  · exact ⟨rfl,rfl,rfl,rfl,rfl,rfl,fun _=>rfl,fun _=>by simp [lenI,al]⟩
  · have:=h.facts
    rwa [al] at this
theorem IV.ne {v:AV} {st:St} {l:List Int} (h:IV v st l) (hl:l≠[]):v = .sl false 1 (ints l)∨∃ bi cap r,v = .bs bi 1 0 l.length cap∧st.get bi = some (ints l++r):=by
  rcases h with (rfl | rfl) | (⟨_,e⟩ | ⟨bi,cap,r,rfl,hg,_⟩)
  · exact .inl (if_neg hl)
  · exact .inl rfl
  · exact absurd (by cases l with | nil=>rfl | cons a l=>simp [ints] at e) hl
  · rw [al]; exact .inr ⟨bi,cap,r,rfl,hg⟩
theorem IV.at {v:AV} {st st':St} {l:List Int} (h:IV v st l) (hb:∀ x ∈ ae v,st'.boxes[x]? = st.boxes[x]?):IV v st' l:=h.imp _root_.id fun h=>h.at hb

theorem same_pure {a b:AV} {st:St} {f g:List Int} (ha:IV a st f) (hb:IV b st g) (hf:f.length≤1000000) (hg:g.length≤1000000):aL Go.Proofs.Try.prog n_f47 [a,b] st (.lit (.bool (decide (f = g)))):=by
  obtain ⟨w1,w2,w3,w4,w5,w6,w7,w8⟩:=ha.facts
  obtain ⟨u1,u2,u3,u4,u5,u6,u7,u8⟩:=hb.facts
  refine aD hmix k_f47 rfl rfl fun Q hQ=>?_
  unfold aFun c_f47
  simp (config:=KF) (disch:=omega) only [bZ,↓reduceIte,Nat.reduceEqDiff,reduceCtorEq,w1,u1,w8,u8]
  refine aP (fun h=>?_) (fun h=>?_)
  · simp (config:=KF) (disch:=omega) only [bZ,retI,↓reduceIte,Nat.reduceEqDiff,reduceCtorEq]
    rw [decide_eq_false (by rintro rfl; exact h rfl)] at hQ
    exact hQ _
  have hfg:f.length = g.length:=by omega
  simp (config:=KF) (disch:=omega) only [bZ,↓reduceIte,Nat.reduceEqDiff,reduceCtorEq]
  rw [f47_13w]
  refine bj (A:=Nat) (fun k=>f.length - k) (fun k=>⟨[(0,a),(1,b),(5,.lit (.int .i64 (k:Nat)))],[]⟩) (fun _=>st)
    (fun k=>k≤f.length∧f.take k = g.take k) 0 ⟨by omega,rfl⟩ (Sf.le_refl _) rfl ?_
  rintro i ⟨k1,k2⟩ K hK hKe hKr
  by_cases h:i < f.length
  · have hj:i < g.length:=by omega
    have e1:(ints f).getD i .any = .lit (.int .i64 f[i]):=by simp [ints,List.getD,h]
    have e2:(ints g).getD i .any = .lit (.int .i64 g[i]):=by simp [ints,List.getD,hj]
    have hfin:(f[i]≠g[i]→K .ret ⟨[(4,.lit (.bool false))],[]⟩ st)∧(f[i] = g[i]→K .normal ⟨[(0,a),(1,b),(5,.lit (.int .i64 ((i + 1:Nat):Int)))],[]⟩ st):=by
      refine ⟨fun h3=>?_,fun h3=>?_⟩
      · rw [decide_eq_false (by rintro rfl; exact h3 rfl)] at hQ
        refine hKr _ _ ?_
        simp (config:=KF) (disch:=omega) only [bZ,retI,↓reduceIte]
        exact hQ _
      · refine hK (i + 1) _ ⟨by omega,?_⟩ (by omega) (Sf.le_refl _)
        rw [List.take_succ_eq_append_getElem h,List.take_succ_eq_append_getElem hj,k2,h3]
    obtain ⟨hf1,hf2⟩:=hfin
    rcases ha.ne (fun e=>by subst e; simp at h) with rfl | ⟨bi,cap,r,rfl,hga⟩
    all_goals
      rcases hb.ne (fun e=>by subst e; simp at hj) with rfl | ⟨bi',cap',r',rfl,hgb⟩
    · simp (config:=KF) (disch:=omega) only [bZ,dk,ixSV,lenI,aa,↓reduceIte,Nat.reduceEqDiff,reduceCtorEq,aM,e1,e2,al]
      refine aP (fun h3=>?_) (fun h3=>?_)
      · simp (config:=KF) (disch:=omega) only [bZ,↓reduceIte,Nat.reduceEqDiff,reduceCtorEq]
        exact hf1 h3
      · simp (config:=KF) (disch:=omega) only [bZ,↓reduceIte,Nat.reduceEqDiff,reduceCtorEq]
        exact hf2 (by omega)
    · have d2:=ey hj r'
      simp (config:=KF) (disch:=omega) only [bZ,dk,ixSV,lenI,aa,bY,↓reduceIte,Nat.reduceEqDiff,reduceCtorEq,aM,e1,hgb,d2,al]
      refine aP (fun h3=>?_) (fun h3=>?_)
      · simp (config:=KF) (disch:=omega) only [bZ,↓reduceIte,Nat.reduceEqDiff,reduceCtorEq]
        exact hf1 h3
      · simp (config:=KF) (disch:=omega) only [bZ,↓reduceIte,Nat.reduceEqDiff,reduceCtorEq]
        exact hf2 (by omega)
    · have d1:=ey h r
      simp (config:=KF) (disch:=omega) only [bZ,dk,ixSV,lenI,aa,bY,↓reduceIte,Nat.reduceEqDiff,reduceCtorEq,aM,hga,d1,e2,al]
      refine aP (fun h3=>?_) (fun h3=>?_)
      · simp (config:=KF) (disch:=omega) only [bZ,↓reduceIte,Nat.reduceEqDiff,reduceCtorEq]
        exact hf1 h3
      · simp (config:=KF) (disch:=omega) only [bZ,↓reduceIte,Nat.reduceEqDiff,reduceCtorEq]
        exact hf2 (by omega)
    · have d1:=ey h r
      have d2:=ey hj r'
      simp (config:=KF) (disch:=omega) only [bZ,dk,ixSV,lenI,aa,bY,↓reduceIte,Nat.reduceEqDiff,reduceCtorEq,aM,hga,hgb,d1,d2]
      refine aP (fun h3=>?_) (fun h3=>?_)
      · simp (config:=KF) (disch:=omega) only [bZ,↓reduceIte,Nat.reduceEqDiff,reduceCtorEq]
        exact hf1 h3
      · simp (config:=KF) (disch:=omega) only [bZ,↓reduceIte,Nat.reduceEqDiff,reduceCtorEq]
        exact hf2 (by omega)
  · simp (config:=KF) (disch:=omega) only [bZ,aH,bf,↓reduceIte,Nat.reduceEqDiff,reduceCtorEq,aY,w1,w8]
    refine hKe _ _ _ ?_
    simp (config:=KF) (disch:=omega) only [bZ,retI,↓reduceIte]
    have hi:i = f.length:=by omega
    rw [hi,List.take_length,hfg,List.take_length] at k2
    subst k2
    rw [decide_eq_true rfl] at hQ
    exact hQ _
end Go.Fx.YtbomoaajkinfpaaFx

