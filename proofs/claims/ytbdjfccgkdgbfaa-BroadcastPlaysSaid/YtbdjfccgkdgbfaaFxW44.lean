/- What the functions that the statement reaches compute: part 44. -/
import Derived.Test.YtbdjfccgkdgbfaaFxW43
namespace Go.Fx.YtbdjfccgkdgbfaaFx
open Go Go.Fx
attribute [local irreducible] aC runI az aA

set_option maxRecDepth 100000
set_option maxHeartbeats 4000000

/-! A hub looks like the reference's. -/
section
variable {st:St} {h wid n:Nat} {R:HR} {F:List Nat}
theorem nP (hh:HubR st h wid n R F) (hn:n < 900000):aB Go.Proofs.Try.prog n_f17 [.ptr h 0,rV R] st (.lit (.bool true)):=by
  have hrk:=hh.rok
  have hsl:=hrk.ok.len
  have hwl:=hrk.wl
  obtain ⟨w1,w2,w3,w4,w5,w6,w7,w8⟩:=aw R.ws
  have hes:=Es.canon R.subs
  have hel:=hes.1
  unfold rV
  generalize R.subs.map sbC = es at hes hel
  have hdis:(AV.agg [.sl false 6 es,wsV R.ws]).dis = .agg [.sl false 6 es,wsV R.ws]:=by simp [w2,aL,cu]
  have hnl:(AV.agg [.sl false 6 es,wsV R.ws]).noL = true:=by simp [w5,aM,cZ]
  refine aE hmix k_f17 rfl rfl fun Q hQ=>?_
  unfold aFun c_f17
  simp (config:=KF) (disch:=omega) only [bZ,bF,↓reduceIte,Nat.reduceEqDiff,Nat.reduceAdd,Int.reduceNeg,reduceCtorEq,w2,w4]
  rw [f17_7w]
  refine bf (A:=Int) (fun i=>(65 - i).toNat) (fun i=>⟨[(0,.ptr h 0),(3,.lptr 3 0),(5,.lit (.int .i64 i))],[(3,[.sl false 6 es,wsV R.ws])]⟩) (fun _=>st)
    (fun i=>-1≤i∧i≤65) (-1) ⟨by omega,by omega⟩ (Sf.le_refl _) rfl ?_
  rintro i ⟨i1,i2⟩ K hK hKe hKr
  by_cases h3:i≤64
  · have hat:=lT (ws:=R.ws) hes hsl i st
    have hfin:=hK (i + 1) ⟨[(0,.ptr h 0),(3,.lptr 3 0),(5,.lit (.int .i64 (i + 1)))],[(3,[.sl false 6 es,wsV R.ws])]⟩ ⟨by omega,by omega⟩ (by omega) (Sf.le_refl _)
    have hle:=len_pure hh i
    have hlo:=pd hh i
    simp (config:=KF) (disch:=omega) only [bZ,aa,ig,id,↓reduceIte,Nat.reduceEqDiff,Nat.reduceAdd,Nat.reduceLeDiff,reduceCtorEq,w2]
    refine ak (vs:=[.agg [.sl false 6 es,wsV R.ws],.lit (.int .i64 i)]) (by simp [hdis,aH]) e_f35 hat (by simp [hnl,aD]) ?_
    rcases nN i R.subs 0 with ⟨p1,p2⟩ | ⟨k,hk,p1,_,_,p2⟩
    · rw [show ((0:Nat):Int) = 0 from rfl] at p2
      rw [p2]
      have e1:lenR i R = 0:=by unfold lenR; rw [p1]
      have e2:ip i R = 0:=by unfold ip; rw [p1]
      rw [e1] at hle
      rw [e2] at hlo
      simp (config:=KF) (disch:=omega) only [bZ,db,id,↓reduceIte,Nat.reduceEqDiff,Int.reduceNeg,reduceCtorEq]
      refine ak rfl e_f15 hle rfl ?_
      simp (config:=KF) (disch:=omega) only [bZ,AI.dst,id,↓reduceIte,Nat.reduceEqDiff,Int.reduceNeg,reduceCtorEq,not_true_eq_false]
      refine ak rfl e_f14 hlo rfl ?_
      simp (config:=KF) (disch:=omega) only [bZ,AI.dst,↓reduceIte,Nat.reduceEqDiff,Int.reduceNeg,reduceCtorEq,not_true_eq_false]
      exact hfin
    · rw [show ((0:Nat):Int) = 0 from rfl,Nat.zero_add] at p2
      rw [p2]
      obtain ⟨rv,hrv,hg⟩:=hes.at hk
      have e1:lenR i R = R.subs[k].msgs.length:=by unfold lenR; rw [p1]
      have e2:ip i R = R.subs[k].lost:=by unfold ip; rw [p1]
      have hkl:k < es.length:=by omega
      rw [e1] at hle
      rw [e2] at hlo
      unfold sbV at hg
      obtain ⟨r1,r2,r3,r4,r5,r6,r7,r8⟩:=hrv.facts
      generalize R.subs[k] = S at hg hle hlo r8
      simp (config:=KF) (disch:=omega) only [bZ,jn,ny,ixSV,addA,aa,db,id,↓reduceIte,Nat.reduceEqDiff,reduceCtorEq,hg,r1,r8]
      refine ak rfl e_f15 hle rfl ?_
      simp (config:=KF) (disch:=omega) only [bZ,AI.dst,id,↓reduceIte,Nat.reduceEqDiff,reduceCtorEq,not_true_eq_false]
      refine ak rfl e_f14 hlo rfl ?_
      simp (config:=KF) (disch:=omega) only [bZ,AI.dst,↓reduceIte,Nat.reduceEqDiff,reduceCtorEq,not_true_eq_false]
      exact hfin
  · obtain rfl:i = 65:=by omega
    clear hK
    simp (config:=KF) (disch:=omega) only [bZ,ig,↓reduceIte,Nat.reduceEqDiff,Int.reduceLE,reduceCtorEq]
    refine hKe _ _ _ ?_
    clear hKe hKr
    simp (config:=KF) (disch:=omega) only [bZ,↓reduceIte,Nat.reduceEqDiff,Int.reduceNeg,reduceCtorEq]
    rw [f17_33w]
    refine bf (A:=Int) (fun i=>(17 - i).toNat) (fun i=>⟨[(0,.ptr h 0),(3,.lptr 3 0),(9,.lit (.int .i64 i))],[(3,[.sl false 6 es,wsV R.ws])]⟩) (fun _=>st)
      (fun i=>-1≤i∧i≤17) (-1) ⟨by omega,by omega⟩ (Sf.le_refl _) rfl ?_
    rintro i ⟨j1,j2⟩ K hK hKe hKr
    by_cases h3:i≤16
    · have hfin:=hK (i + 1) ⟨[(0,.ptr h 0),(3,.lptr 3 0),(9,.lit (.int .i64 (i + 1)))],[(3,[.sl false 6 es,wsV R.ws])]⟩ ⟨by omega,by omega⟩ (by omega) (Sf.le_refl _)
      have hwa:=qe hh i
      have hsu:=kN hh i
      have hrw:=oa (es:=es) (ws:=R.ws) (by omega) (by omega) i st
      have hrs:=rSubs_pure (ws:=R.ws) hes hsl i st
      have hnl2:=qn i R.subs
      have hsi:=ob (numR i R.subs) (numR i R.subs) (by omega) st
      rw [decide_eq_true rfl] at hsi
      obtain ⟨y1,y2,y3,y4⟩:=jr (numR i R.subs)
      simp (config:=KF) (disch:=omega) only [bZ,dN,ig,id,↓reduceIte,Nat.reduceEqDiff,reduceCtorEq]
      refine eS rfl e_f21 hwa rfl ?_
      simp (config:=KF) (disch:=omega) only [bZ,dN,cy,aa,id,↓reduceIte,Nat.reduceEqDiff,Nat.reduceAdd,Nat.reduceLeDiff,reduceCtorEq,w2]
      refine eS (vs:=[.agg [.sl false 6 es,wsV R.ws],.lit (.int .i64 i)]) (by simp [hdis,aH]) e_f36 hrw (by simp [hnl,aD]) ?_
      simp (config:=KF) (disch:=omega) only [bZ,de,dN,cQ,cy,AI.dst,id,↓reduceIte,Nat.reduceEqDiff,reduceCtorEq,not_true_eq_false]
      refine eS rfl e_f22 hsu rfl ?_
      simp (config:=KF) (disch:=omega) only [bZ,de,cQ,cy,AI.dst,aa,id,↓reduceIte,Nat.reduceEqDiff,Nat.reduceAdd,Nat.reduceLeDiff,reduceCtorEq,w2]
      refine ak (vs:=[.agg [.sl false 6 es,wsV R.ws],.lit (.int .i64 i)]) (by simp [hdis,aH]) e_f38 hrs (by simp [hnl,aD]) ?_
      simp (config:=KF) (disch:=omega) only [bZ,AI.dst,id,↓reduceIte,Nat.reduceEqDiff,reduceCtorEq]
      refine ak (vs:=[ci (numR i R.subs),ci (numR i R.subs)]) (by simp [y1]) e_f37 hsi (by simp [y4]) ?_
      simp (config:=KF) (disch:=omega) only [bZ,AI.dst,unA,↓reduceIte,Nat.reduceEqDiff,reduceCtorEq]
      exact hfin
    · obtain rfl:i = 17:=by omega
      simp (config:=KF) (disch:=omega) only [bZ,ig,↓reduceIte,Nat.reduceEqDiff,Int.reduceLE,reduceCtorEq]
      refine hKe _ _ _ ?_
      simp (config:=KF) (disch:=omega) only [bZ,retI,↓reduceIte]
      exact hQ _
end
end Go.Fx.YtbdjfccgkdgbfaaFx

