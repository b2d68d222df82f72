/- What the functions that the statement reaches compute: part 27. -/
import Derived.Test.YtbdjfccgkdgbfaaFxW26
namespace Go.Fx.YtbdjfccgkdgbfaaFx
open Go Go.Fx
attribute [local irreducible] aC runI az aA

set_option maxRecDepth 100000
set_option maxHeartbeats 4000000

section
variable {es:List AV} {subs:List Sb} {ws:List WW}
theorem waits_pure (h:es.length≤1000) (hl:ws.length≤1000) (n:Int) (st:St):aB Go.Proofs.Try.prog n_f70 [.agg [.sl false 6 es,wsV ws],.lit (.int .i64 n)] st (.lit (.int .i64 (fstI (fun w:WW=>decide ((w.1:Int) = n)) ws 0))):=by
  obtain ⟨w1,w2,w3,w4,w5,w6,w7,w8⟩:=aw ws
  refine aE hmix k_f70 rfl rfl fun Q hQ=>?_
  unfold aFun c_f70
  simp (config:=KF) (disch:=omega) only [bZ,↓reduceIte,Nat.reduceEqDiff,Nat.reduceAdd,reduceCtorEq,w2,w4]
  rw [f70_7w]
  refine bf (A:=Nat) (fun i=>ws.length - i) (fun i=>⟨[(1,.lit (.int .i64 n)),(2,.lptr 2 0),(5,.lit (.int .i64 (i:Nat)))],[(2,[.sl false 6 es,wsV ws])]⟩) (fun _=>st)
    (fun i=>i≤ws.length∧∀ x ∈ ws.take i,decide ((x.1:Int) = n) = false) 0 ⟨Nat.zero_le _,by simp⟩ (Sf.le_refl _) rfl ?_
  rintro i ⟨i1,i2⟩ K hK hKe hKr
  by_cases h3:i < ws.length
  · have hg:=j7 h3
    have hwv:wsV ws = .sl false 3 (ws.map wwV):=by unfold wsV; rw [if_neg (fun e=>by rw [e] at h3; simp at h3)]
    rw [hwv] at hK w1 w2 w3 w4 w5 w6 w7 ⊢
    by_cases h4:(ws[i].1:Int) = n
    · have hf:=lS (fun w:WW=>decide ((w.1:Int) = n)) ws 0 i i2 h3 (decide_eq_true h4)
      rw [show ((0:Nat):Int) = 0 from rfl,Nat.zero_add] at hf
      rw [hf] at hQ
      simp (config:=KF) (disch:=omega) only [bZ,ixSV,lenI,addA,aa,↓reduceIte,Nat.reduceEqDiff,hg]
      refine hKr _ _ ?_
      simp (config:=KF) (disch:=omega) only [bZ,retI,↓reduceIte]
      exact hQ _
    · have hn:∀ x ∈ ws.take (i + 1),decide ((x.1:Int) = n) = false:=by
        rw [List.take_succ_eq_append_getElem h3]
        intro x hx
        rcases List.mem_append.1 hx with hx | hx
        · exact i2 x hx
        · simp only [List.mem_singleton] at hx; subst hx; exact decide_eq_false h4
      simp (config:=KF) (disch:=omega) only [bZ,ixSV,lenI,addA,aa,↓reduceIte,Nat.reduceEqDiff,hg]
      exact hK (i + 1) _ ⟨h3,hn⟩ (by omega) (Sf.le_refl _)
  · obtain rfl:i = ws.length:=by omega
    rw [List.take_length] at i2
    rw [iL (fun w:WW=>decide ((w.1:Int) = n)) ws 0 i2] at hQ
    simp (config:=KF) (disch:=omega) only [bZ,addA,aa,↓reduceIte,Nat.reduceEqDiff,w1,w8]
    refine hKe _ _ _ ?_
    simp (config:=KF) (disch:=omega) only [bZ,retI,↓reduceIte,Int.reduceNeg]
    exact hQ _

/-- A list without one of its places. -/
def wo {A:Type} (l:List A) (i:Nat):List A:=l.take i++l.drop (i + 1)
theorem jp (l:List WW):(l.map wwV).map AV.dis = l.map wwV:=by
  rw [List.map_map]
  refine List.map_congr_left fun w _=>?_
  obtain ⟨m1,m2,m3,m4,m5,m6,m7,m8⟩:=(MV.msg w.2.2).facts
  show AV.agg [_,_,(msgV w.2.2).own1] = _
  rw [m2]; rfl
theorem pg {v:AV} (hv:v.dis = v∧v.own1 = v∧v.own2 = v∧v.solid1 = true∧v.noL = true∧v.cells = [v]∧∀ s,kill s v = v) (hl:ws.length≤1000) {i:Nat} (hi:i < ws.length) (st:St):aB Go.Proofs.Try.prog n_f72 [.agg [v,wsV ws],.lit (.int .i64 (i:Nat))] st (.agg [v,wsV (wo ws i)]):=by
  obtain ⟨v1,v2,v3,v4,v5,v6,v7⟩:=hv
  have hwv:wsV ws = .sl false 3 (ws.map wwV):=by unfold wsV; rw [if_neg (fun e=>by rw [e] at hi; simp at hi)]
  refine aE hmix k_f72 rfl rfl fun Q hQ=>?_
  unfold aFun c_f72
  rw [hwv]
  have hq:Q (.agg [v,wsV (wo ws i)]) st:=hQ st
  have hd1:=jp (ws.take i)
  have hd2:=jp (ws.drop (i + 1))
  have hml:(ws.map wwV).length = ws.length:=List.length_map ..
  have ht:(ws.map wwV).take i = (ws.take i).map wwV:=by rw [List.map_take]
  have hdr:(ws.map wwV).drop (i + 1) = (ws.drop (i + 1)).map wwV:=by rw [List.map_drop]
  have htl:(ws.take i).length = i:=by rw [List.length_take]; omega
  have hdl:(ws.drop (i + 1)).length = ws.length - (i + 1):=List.length_drop ..
  unfold wo at hq
  have hAl:(ws.take i).length≤1000:=by omega
  have hBl:(ws.drop (i + 1)).length≤1000:=by omega
  clear htl hdl
  generalize ws.take i = A at hq hd1 ht hAl
  generalize ws.drop (i + 1) = B at hq hd2 hdr hBl
  cases A with
  | nil =>
    cases B with
    | nil =>
      simp (config:=KF) (disch:=omega) only [bZ,fU,ij,retI,da,bt,ah,ixTo,addA,aa,aI,srcA,↓reduceIte,Nat.reduceEqDiff,Nat.reduceAdd,Nat.reduceLeDiff,reduceCtorEq,dt,af,ae,v2,v4,ht,hdr,hml]
      exact hq
    | cons b B =>
      have hq2:Q (.agg [v,.sl false 3 (wwV b::B.map wwV)]) st:=hq
      rw [List.map_cons,List.map_cons] at hd2
      rw [List.map_cons] at hdr
      rw [List.length_cons] at hBl
      have e1:(wwV b).dis = wwV b:=by have:=congrArg List.head? hd2; simpa using this
      have e2:(B.map wwV).map AV.dis = B.map wwV:=jp B
      simp (config:=KF) (disch:=omega) only [bZ,fU,ij,retI,da,bt,ah,ixTo,addA,aa,aI,srcA,↓reduceIte,Nat.reduceEqDiff,Nat.reduceAdd,Nat.reduceLeDiff,reduceCtorEq,dt,af,ae,v2,v4,ht,hdr,hml,e1,e2]
      exact hq2
  | cons a A =>
    have f1:(wwV a).dis = wwV a:=by have:=congrArg List.head? hd1; simpa using this
    have f2:(A.map wwV).map AV.dis = A.map wwV:=jp A
    rw [List.map_cons] at ht
    rw [List.length_cons] at hAl
    cases B with
    | nil =>
      have hq2:Q (.agg [v,.sl false 3 (wwV a::A.map wwV)]) st:=by rw [List.append_nil] at hq; exact hq
      simp (config:=KF) (disch:=omega) only [bZ,fU,ij,retI,da,bt,ah,ixTo,addA,aa,aI,bg,srcA,List.cons_append,↓reduceIte,Nat.reduceEqDiff,Nat.reduceAdd,Nat.reduceLeDiff,reduceCtorEq,dt,bq,af,ae,v2,v4,ht,hdr,hml,f1,f2]
      exact hq2
    | cons b B =>
      have hq2:Q (.agg [v,.sl false 3 (wwV a::(A.map wwV++wwV b::B.map wwV))]) st:=by
        have e:wsV (a::A++b::B) = .sl false 3 (wwV a::(A.map wwV++wwV b::B.map wwV)):=by
          unfold wsV; rw [if_neg (by simp)]; simp
        rw [e] at hq; exact hq
      have e1:(wwV b).dis = wwV b:=by have:=congrArg List.head? hd2; simpa using this
      have e2:(B.map wwV).map AV.dis = B.map wwV:=jp B
      rw [List.map_cons] at hdr
      rw [List.length_cons] at hBl
      simp (config:=KF) (disch:=omega) only [bZ,fU,ij,retI,da,bt,ah,ixTo,addA,aa,aI,bg,srcA,List.cons_append,↓reduceIte,Nat.reduceEqDiff,Nat.reduceAdd,Nat.reduceLeDiff,reduceCtorEq,dt,bq,af,ae,v2,v4,ht,hdr,hml,f1,f2,e1,e2]
      exact hq2
end
end Go.Fx.YtbdjfccgkdgbfaaFx

