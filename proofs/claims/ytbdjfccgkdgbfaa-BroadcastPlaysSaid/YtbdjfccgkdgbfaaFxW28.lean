/- What the functions that the statement reaches compute: part 28. -/
import Derived.Test.YtbdjfccgkdgbfaaFxW27
namespace Go.Fx.YtbdjfccgkdgbfaaFx
open Go Go.Fx
attribute [local irreducible] aC runI az aA

set_option maxRecDepth 100000
set_option maxHeartbeats 4000000

structure SOk (subs:List Sb) (n:Nat):Prop where
  len:subs.length≤64
  ok:∀ S ∈ subs,used S.msgs≤S.room∧S.room≤4096∧S.lost + S.msgs.length≤n
def blk1 (topic:Int) (n:Nat) (S:Sb):Bool:=decide (S.topic = topic) && (decide (S.pol = 3) && (decide (n + 2≤S.room) && !decide (used S.msgs + (n + 2)≤S.room)))
theorem qg (topic:Int) (n:Nat) (subs:List Sb):canR topic n subs = subs.all fun S=>!blk1 topic n S:=rfl

section
variable {es:List AV} {subs:List Sb} {ws:List WW}
theorem can_pure {n:Nat} (h:Es es subs) (hs:SOk subs n) (topic:Int) {dv:AV} {p:List UInt8} (hd:MV dv p) (hp:p.length≤100000) (st:St):aB Go.Proofs.Try.prog n_f68 [.agg [.sl false 6 es,wsV ws],.lit (.int .i64 topic),dv] st (.lit (.bool (canR topic p.length subs))):=by
  obtain ⟨w1,w2,w3,w4,w5,w6,w7,w8⟩:=aw ws
  obtain ⟨d1,d2,d3,d4,d5,d6,d7,d8⟩:=hd.facts
  refine aE hmix k_f68 rfl rfl fun Q hQ=>?_
  unfold aFun c_f68
  have hel:=h.1
  have hsl:=hs.len
  simp (config:=KF) (disch:=omega) only [bZ,↓reduceIte,Nat.reduceEqDiff,Nat.reduceAdd,reduceCtorEq,w2,w4,d1,d7,d8]
  rw [f68_9w]
  refine bf (A:=Nat) (fun i=>subs.length - i) (fun i=>⟨[(1,.lit (.int .i64 topic)),(3,.lptr 3 0),(7,.lit (.int .i64 ((p.length + 2:Nat)))),(8,.lit (.int .i64 (i:Nat)))],[(3,[.sl false 6 es,wsV ws])]⟩) (fun _=>st)
    (fun i=>i≤subs.length∧canR topic p.length (subs.take i) = true) 0 ⟨Nat.zero_le _,rfl⟩ (Sf.le_refl _) rfl ?_
  rintro i ⟨i1,i2⟩ K hK hKe hKr
  by_cases h3:i < subs.length
  · obtain ⟨rv,hrv,hg⟩:=h.at h3
    obtain ⟨o1,o2,o3⟩:=hs.ok subs[i] (List.getElem_mem h3)
    have hmem:=List.getElem_mem h3
    have hst:canR topic p.length (subs.take (i + 1)) = !blk1 topic p.length subs[i]:=by
      rw [List.take_succ_eq_append_getElem h3,qg,List.all_append,← qg,i2]; simp
    have hup:=kP hrv (by omega) st
    obtain ⟨r1,r2,r3,r4,r5,r6,r7,r8⟩:=hrv.facts
    have hno:blk1 topic p.length subs[i] = true→Q (.lit (.bool false)) st:=fun hb=>by
      have:canR topic p.length subs = false:=by
        rw [qg,List.all_eq_false]
        exact ⟨_,hmem,by rw [hb]; simp⟩
      rw [this] at hQ; exact hQ _
    have hyes:blk1 topic p.length subs[i] = false→∀ sf',Sf.le (sf'.mask [1,3,7,8] [3]) ⟨[(1,.lit (.int .i64 topic)),(3,.lptr 3 0),(7,.lit (.int .i64 ((p.length + 2:Nat)))),(8,.lit (.int .i64 ((i + 1:Nat))))],[(3,[.sl false 6 es,wsV ws])]⟩→K .normal sf' st:=fun hb sf' hsf=>hK (i + 1) sf' ⟨h3,by rw [hst,hb]; rfl⟩ (by omega) hsf
    generalize subs[i] = S at hg hup hno hyes o1 o2 o3
    unfold sbV at hg hup
    unfold blk1 at hno hyes
    by_cases c1:S.topic = topic
    · by_cases c2:S.pol = 3
      · by_cases c3:p.length + 2≤S.room
        · by_cases c4:used S.msgs + (p.length + 2)≤S.room
          · have hy:=hyes (by simp [c4])
            simp (config:=KF) (disch:=omega) only [bZ,de,jX,dN,ce,AI.dst,ixSV,ah,lenI,addA,aa,ig,id,dW,dM,↓reduceIte,Nat.reduceEqDiff,Nat.reduceAdd,Nat.reduceLeDiff,df,af,ae,r2,r4,hg,hel]
            refine eS (by simp [r2,aL,bP]) e_f79 hup (by simp [r5,aM,aD]) ?_
            simp (config:=KF) (disch:=omega) only [bZ,de,ce,cy,AI.dst,addA,aa,↓reduceIte,Nat.reduceEqDiff,eo]
            exact hy _ (Sf.le_refl _)
          · have hn:=hno (by simp [c1,c2,c3,c4])
            simp (config:=KF) (disch:=omega) only [bZ,de,jX,dN,ce,AI.dst,ixSV,ah,lenI,addA,aa,ig,id,dW,dM,↓reduceIte,Nat.reduceEqDiff,Nat.reduceAdd,Nat.reduceLeDiff,df,af,ae,r2,r4,hg,hel]
            refine eS (by simp [r2,aL,bP]) e_f79 hup (by simp [r5,aM,aD]) ?_
            simp (config:=KF) (disch:=omega) only [bZ,de,ce,cy,AI.dst,addA,aa,↓reduceIte,Nat.reduceEqDiff,eo]
            refine hKr _ _ ?_
            simp (config:=KF) (disch:=omega) only [bZ,retI,↓reduceIte]
            exact hn
        · have hy:=hyes (by simp [c3])
          simp (config:=KF) (disch:=omega) only [bZ,de,jX,ce,cQ,fg,AI.dst,ixSV,ah,lenI,addA,aa,ig,dW,dM,↓reduceIte,Nat.reduceEqDiff,Nat.reduceAdd,Nat.reduceLeDiff,df,eI,af,ae,r2,r4,hg,hel]
          exact hy _ (Sf.le_refl _)
      · have hy:=hyes (by simp [c2])
        simp (config:=KF) (disch:=omega) only [bZ,de,jX,ce,cQ,fg,AI.dst,ixSV,ah,lenI,addA,aa,dW,dM,↓reduceIte,Nat.reduceEqDiff,Nat.reduceAdd,Nat.reduceLeDiff,df,eI,af,ae,r2,r4,hg,hel]
        exact hy _ (Sf.le_refl _)
    · have hy:=hyes (by simp [c1])
      simp (config:=KF) (disch:=omega) only [bZ,de,jX,cQ,fg,AI.dst,ixSV,ah,lenI,addA,aa,dW,dM,↓reduceIte,Nat.reduceEqDiff,Nat.reduceAdd,Nat.reduceLeDiff,eI,af,ae,r2,r4,hg,hel]
      exact hy _ (Sf.le_refl _)
  · obtain rfl:i = subs.length:=by omega
    rw [List.take_length] at i2
    rw [i2] at hQ
    simp (config:=KF) (disch:=omega) only [bZ,lenI,addA,aa,↓reduceIte,Nat.reduceEqDiff,hel]
    refine hKe _ _ _ ?_
    simp (config:=KF) (disch:=omega) only [bZ,retI,↓reduceIte]
    exact hQ _
end
end Go.Fx.YtbdjfccgkdgbfaaFx

