/- What the functions that the statement reaches compute: part 43. -/
import Derived.Test.YtbomoaajkinfpaaFxW42
namespace Go.Fx.YtbomoaajkinfpaaFx
open Go Go.Fx
attribute [local irreducible] aC runI aB aE

set_option maxRecDepth 100000
set_option maxHeartbeats 4000000

def it4C (x:It4):List AV:=[.lit (.int .i64 x.1),.lit (.int .i64 x.2.1),.lit (.int .i64 x.2.2.1),.lit (.int .i64 x.2.2.2)]
theorem it4C_own (l:List It4):(l.flatMap it4C).map AV.own1 = l.flatMap it4C:=by
  induction l with
  | nil=>rfl
  | cons x l ih=>simp only [List.flatMap_cons,List.map_append,ih]; rfl
def ef (d:Bool):Int:=if d = true then 1 else 0
def gx (d:Bool):Int:=if d = true then 14 else 13

section
variable {cn:AV} {s0:St} {ch:List Ch3} {F:List Nat}
theorem qk (hc:RefC cn s0 ch F) (hF:∀ x ∈ F,x < s0.boxes.length) {ws:List Wt} (hwl:ws.length≤64) (hll:∀ w ∈ ws,w.2.length < 100000) {items:List It4} (hil:items.length≤64) {ev:AV} (hev:KB 4 ev s0 (items.flatMap it4C) items.length) (hsep:∀ x ∈ ae ev,x ∉ F) (i:Int) (d:Bool) {z4 z5:List AV} {K:Exit→Sf→St→Prop}
    (hK:∀ ev' st',KB 4 ev' st' ((items++bq i d (gx d) ws).flatMap it4C) (items++bq i d (gx d) ws).length→RefC cn st' ch F→Kp s0 st' (ae ev)→(∀ x ∈ ae ev',x ∈ ae ev∨s0.boxes.length≤x) →
      K (.exit 2) ⟨[(1,.lit (.int .i64 i)),(2,.lptr 2 0),(4,.lptr 4 0),(5,.lptr 5 0),(6,.lptr 6 0),(7,.lit (.int .i64 (ef d)))],[(2,[cn,wtS (dq i d ws)]),(4,z4),(5,z5),(6,[.lit (.int .i64 0),.lit (.int .i64 0),.lit (.int .i64 0),.lit (.int .i64 0),.lit (.bool false),ev',.lit (.int .i64 0)])]⟩ st') :
    aC Go.Proofs.Try.prog id false f67_35 ⟨[(1,.lit (.int .i64 i)),(2,.lptr 2 0),(4,.lptr 4 0),(5,.lptr 5 0),(6,.lptr 6 0),(7,.lit (.int .i64 (ef d))),(8,.lit (.int .i64 (cd (bJ i d ws)).1)),(9,.lit (.int .i64 (cd (bJ i d ws)).2))],[(2,[cn,wtS ws]),(4,z4),(5,z5),(6,[.lit (.int .i64 0),.lit (.int .i64 0),.lit (.int .i64 0),.lit (.int .i64 0),.lit (.bool false),ev,.lit (.int .i64 0)])]⟩ s0 K:=by
  rw [f67_35w]
  refine aX (A:=List Wt×List It4×AV×St) (fun a=>a.1.length) (fun a=>⟨[(1,.lit (.int .i64 i)),(2,.lptr 2 0),(4,.lptr 4 0),(5,.lptr 5 0),(6,.lptr 6 0),(7,.lit (.int .i64 (ef d))),(8,.lit (.int .i64 (cd (bJ i d a.1)).1)),(9,.lit (.int .i64 (cd (bJ i d a.1)).2))],[(2,[cn,wtS a.1]),(4,z4),(5,z5),(6,[.lit (.int .i64 0),.lit (.int .i64 0),.lit (.int .i64 0),.lit (.int .i64 0),.lit (.bool false),a.2.2.1,.lit (.int .i64 0)])]⟩) (fun a=>a.2.2.2)
    (fun a=>a.1.length≤64∧(∀ w ∈ a.1,w.2.length < 100000)∧a.2.1++bq i d (gx d) a.1 = items++bq i d (gx d) ws∧dq i d a.1 = dq i d ws∧KB 4 a.2.2.1 a.2.2.2 (a.2.1.flatMap it4C) a.2.1.length∧Kp s0 a.2.2.2 (ae ev)∧∀ x ∈ ae a.2.2.1,x ∈ ae ev∨s0.boxes.length≤x)
    (ws,items,ev,s0) ⟨hwl,hll,rfl,rfl,hev,Kp.refl _ _,fun _ hx=>.inl hx⟩ (Sf.le_refl _) rfl ?_
  rintro ⟨w,its,e,s⟩ ⟨h1,h2,h3,h4,h5,h6,h7⟩ K2 hK2 hKe hKr
  simp only at h1 h2 h3 h4 h5 h6 h7
  try dsimp only
  have hcs:RefC cn s ch F:=hc.at fun x hx=>h6.2 x (hF x hx) fun q=>hsep x q hx
  obtain ⟨c1,c2,c3,c4,c5,c6,c7⟩:=hcs.isCh
  obtain ⟨w1,w2,w3,w4,w5,w6,w7,w8⟩:=aw w
  obtain ⟨r1,r2⟩:=cD hcs.isCh w
  obtain ⟨y1,y2,y3,y4,y5,y6,y7,y8⟩:=h5.facts
  have hits:its.length≤128:=by
    have a1:=congrArg List.length h3
    have a2:=nM i d (gx d) ws
    simp only [List.length_append] at a1
    omega
  cases hfw:bJ i d w with
  | none =>
    obtain ⟨q1,q2⟩:=first_end (gx d) hfw
    have hend:=hK e s (by rw [← h3,q1,List.append_nil]; exact h5) hcs h6 h7
    rw [← h4,q2] at hend
    simp only [cd]
    simp (config:=KF) (disch:=omega) only [bZ,cF,↓reduceIte,Nat.reduceEqDiff,Int.reduceNeg]
    exact hKe _ _ _ hend
  | some p =>
    obtain ⟨a,k⟩:=p
    obtain ⟨ha,hk,q1,q2⟩:=first_step (gx d) hfw
    obtain ⟨hw,hwg⟩:=jt ha
    obtain ⟨v1,v2,v3,v4,v5,v6,v7⟩:=bk w[a].2
    have hll2:∀ x ∈ w.eraseIdx a,x.2.length < 100000:=fun x hx=>h2 x (List.mem_of_mem_eraseIdx hx)
    have hel:(w.eraseIdx a).length = w.length - 1:=List.length_eraseIdx_of_lt ha
    have hdr:=fun st=>gS (st:=st) hcs.isCh (by omega) ha
    have hf:=fun st=>eK (st:=st) hcs.isCh (w.eraseIdx a) (by omega) hll2 i d
    obtain ⟨x1,x2,x3,x4,x5,x6,x7,x8⟩:=aw (w.eraseIdx a)
    obtain ⟨m1,m2⟩:=cD hcs.isCh (w.eraseIdx a)
    simp only [rfA] at hdr hf
    have hde:∀ z,([AV.lit (.int .i64 13),.lit (.int .i64 14)]:List AV).getD (ef d).toNat z = .lit (.int .i64 (gx d)):=fun z=>by cases d <;> rfl
    have hdi:(0:Int)≤ef d∧ef d < 2:=by cases d <;> simp [ef]
    have hdb:decide (ef d = 1) = d:=by cases d <;> rfl
    obtain ⟨it,hit⟩:∃ it:It4,it = (w[a].1,(k:Int),0,gx d):=⟨_,rfl⟩
    rw [← hit] at q1
    have h3':(its++[it])++bq i d (gx d) (w.eraseIdx a) = items++bq i d (gx d) ws:=by rw [List.append_assoc,← h3,q1]; rfl
    have hnx:=fun (e':AV) (s':St) (sf':Sf) (a1:KB 4 e' s' ((its++[it]).flatMap it4C) (its++[it]).length) (a2:Kp s0 s' (ae ev)) (a3:∀ x ∈ ae e',x ∈ ae ev∨s0.boxes.length≤x)=>hK2 (w.eraseIdx a,its++[it],e',s') sf' ⟨by simp only; omega,hll2,h3',q2.trans h4,a1,a2,a3⟩ (by simp only; omega)
    simp only [cd]
    rw [hw] at r1 r2 w1 w2 w3 w4 w5 w6 w7 hdr ⊢
    simp (config:=KF) (disch:=omega) only [bZ,bW,np,kL,ixSV,aY,List.reduceReplicate,addA,aa,srcA,cF,cR,bu,↓reduceIte,Nat.reduceEqDiff,Nat.reduceAdd,Nat.reduceLT,Nat.reduceLeDiff,w1,y1,hwg,wtA2,hde]
    refine KB.grow h5 (it4C_own its) (new:=[.agg [.lit (.int .i64 w[a].1),.lit (.int .i64 (k:Nat)),.lit (.int .i64 0),.lit (.int .i64 (gx d))]]) rfl (bytes:=32) (ba (by simp only [List.length_cons,List.length_nil]; omega)) fun e' s' g1 g2 g3=>?_
    obtain ⟨z1',z2',z3',z4',z5',z6',z7',z8'⟩:=g1.facts
    have g1':KB 4 e' s' ((its++[it]).flatMap it4C) (its++[it]).length:=by
      rw [List.flatMap_append,List.length_append,hit]
      exact g1
    have hcs':RefC cn s' ch F:=hcs.at fun x hx=>g2.2 x (Nat.lt_of_lt_of_le (hF x hx) h6.1) fun q=>(h7 x q).elim (fun q=>hsep x q hx) fun q=>by have:=hF x hx; omega
    have hnx2:=hnx e' s'
    simp only at hnx2
    simp (config:=KF) (disch:=omega) only [bZ,bh,ag,addA,aa,id,↓reduceIte,Nat.reduceEqDiff,Nat.reduceAdd,Nat.reduceLeDiff,c2,w2,z1',z4',z6']
    refine aj (by simp only [List.map_cons,List.map_nil,r1]; rfl) e_f79 (hdr _) (by simp only [List.all_cons,List.all_nil,r2]; rfl) ?_
    simp (config:=KF) (disch:=omega) only [bZ,ag,aa,id,↓reduceIte,Nat.reduceEqDiff,Nat.reduceAdd,Nat.reduceLeDiff,c2,c4,x2,x4,hdb]
    refine aj (by simp only [List.map_cons,List.map_nil,m1]; rfl) e_f76 (hf _) (by simp only [List.all_cons,List.all_nil,m2]; rfl) ?_
    simp (config:=KF) (disch:=omega) only [bZ,↓reduceIte,Nat.reduceEqDiff]
    refine hnx2 _ g1' (h6.trans g2 h7) (fun x hx=>?_) (Sf.le_refl _)
    rcases g3 x hx with q | q
    · exact h7 x q
    · exact .inr (Nat.le_trans h6.1 q)
end
end Go.Fx.YtbomoaajkinfpaaFx

