/- What the functions that the statement reaches compute: part 36. -/
import Derived.Test.YtbomoaajkinfpaaFxW35
namespace Go.Fx.YtbomoaajkinfpaaFx
open Go Go.Fx
attribute [local irreducible] aC runI aw aB

set_option maxRecDepth 100000
set_option maxHeartbeats 4000000

theorem rnew_calls {l:List Int} (hl:l.length≤9223372036854775807) (st:St):aA Go.Proofs.Try.prog n_f23 [.sl false 1 (ints l)] st
    (fun r st'=>Kp st st' []∧if okL l = true then ∃ cv F,r = .tup [rfA cv [],.lit (.int .i64 0)]∧RefC cv st' (newR l).ch F∧∀ x ∈ F,st.boxes.length≤x∧x < st'.boxes.length else r = .tup [rfA (.lit (.slice none 0 0)) [],.lit (.int .i64 2)]):=by
  refine ap hmix k_f23 rfl rfl fun Q hQ=>?_
  unfold aFun c_f23
  have e0:wtS [] = .lit (.slice none 0 0):=rfl
  simp only [rfA,e0] at hQ
  have hbad:∀ st',Kp st st' []→okL l = false→Q (.tup [.agg [.lit (.slice none 0 0),.lit (.slice none 0 0)],.lit (.int .i64 2)]) st':=fun st' hk hb=>hQ _ _ ⟨hk,by rw [if_neg (by simp [hb])]⟩
  simp (config:=KF) (disch:=omega) only [bZ,AI.dst,lenI,bN,↓reduceIte,Nat.reduceEqDiff,reduceCtorEq,al]
  refine bw (fun h1=>?_) (fun h1=>?_)
  · simp (config:=KF) (disch:=omega) only [bZ,retI,AI.dst,am,aa,bM,↓reduceIte,Nat.reduceEqDiff,Nat.reduceAdd,Nat.reduceLeDiff,reduceCtorEq]
    exact hbad _ (Kp.refl _ _) (by unfold okL; rw [decide_eq_false (by omega)]; rfl)
  simp (config:=KF) (disch:=omega) only [bZ,AI.dst,lenI,dZ,↓reduceIte,Nat.reduceEqDiff,reduceCtorEq,al]
  refine aP (fun h2=>?_) (fun h2=>?_)
  · simp (config:=KF) (disch:=omega) only [bZ,retI,am,aa,bM,↓reduceIte,Nat.reduceEqDiff,Nat.reduceAdd,Nat.reduceLeDiff,reduceCtorEq]
    exact hbad _ (Kp.refl _ _) (by unfold okL; rw [decide_eq_false (by omega)]; rfl)
  have hlen:1≤l.length∧l.length≤16:=by omega
  simp (config:=KF) (disch:=omega) only [bZ,bg,bN,↓reduceIte,Nat.reduceEqDiff,reduceCtorEq]
  rw [f23_15w]
  refine bj (A:=Nat×AV×St) (fun a=>l.length - a.1) (fun a=>⟨[(0,.sl false 1 (ints l)),(2,.lptr 2 0),(4,.lptr 4 0),(5,.lit (.int .i64 (a.1:Nat)))],[(2,[.lit (.slice none 0 0),.lit (.slice none 0 0)]),(4,[a.2.1,.lit (.slice none 0 0)])]⟩) (fun a=>a.2.2)
    (fun a=>a.1≤l.length∧Kp st a.2.2 []∧KB 3 a.2.1 a.2.2 (chC ((newR l).ch.take a.1) (List.replicate a.1 (.lit (.slice none 0 0)))) a.1∧(∀ x ∈ ae a.2.1,st.boxes.length≤x)∧∀ x ∈ l.take a.1,okC x = true)
    (0,.lit (.slice none 0 0),st) ⟨Nat.zero_le _,Kp.refl _ _,.inl ⟨rfl,rfl,rfl⟩,by simp [ae],by simp⟩ (Sf.le_refl _) rfl ?_
  rintro ⟨k,cv,s⟩ ⟨h3,h4,h5,h6,h7⟩ K hK hKe hKr
  simp only at h3 h4 h5 h6 h7
  try dsimp only
  obtain ⟨c1,c2,c3,c4,c5,c6,c7,c8⟩:=h5.facts
  have hcl:(newR l).ch.length = l.length:=by simp [newR]
  by_cases hk:k < l.length
  · have hgd:(ints l).getD k .any = .lit (.int .i64 l[k]):=by simp [ints,hk]
    have htk:l.take (k + 1) = l.take k++[l[k]]:=List.take_succ_eq_append_getElem hk
    simp (config:=KF) (disch:=omega) only [bZ,AI.dst,ixSV,lenI,aa,↓reduceIte,Nat.reduceEqDiff,reduceCtorEq,aM,hgd,al]
    have hno:¬ (0≤l[k]∧l[k]≤4096)→okL l = false:=fun hc=>by
      unfold okL
      rw [Bool.and_eq_false_iff]
      refine .inr ?_
      rw [List.all_eq_false]
      exact ⟨l[k],List.getElem_mem hk,by unfold okC; rw [decide_eq_false hc]; simp⟩
    refine bw (fun q1=>?_) (fun q1=>?_)
    · simp (config:=KF) (disch:=omega) only [bZ,AI.dst,am,↓reduceIte,Nat.reduceEqDiff,Nat.reduceAdd,Nat.reduceLeDiff,reduceCtorEq]
      refine hKr _ _ ?_
      simp (config:=KF) (disch:=omega) only [bZ,retI,aa,bM,↓reduceIte,Nat.reduceEqDiff,Nat.reduceAdd,Nat.reduceLeDiff]
      exact hbad _ h4 (hno fun q=>by omega)
    simp (config:=KF) (disch:=omega) only [bZ,AI.dst,ixSV,aa,dZ,↓reduceIte,Nat.reduceEqDiff,reduceCtorEq,hgd,al]
    refine aP (fun q2=>?_) (fun q2=>?_)
    · simp (config:=KF) (disch:=omega) only [bZ,am,↓reduceIte,Nat.reduceEqDiff,Nat.reduceAdd,Nat.reduceLeDiff,reduceCtorEq]
      refine hKr _ _ ?_
      simp (config:=KF) (disch:=omega) only [bZ,retI,aa,bM,↓reduceIte,Nat.reduceEqDiff,Nat.reduceAdd,Nat.reduceLeDiff]
      exact hbad _ h4 (hno fun q=>by omega)
    obtain ⟨m,hm⟩:∃ m:Nat,l[k] = (m:Int):=⟨l[k].toNat,by omega⟩
    simp (config:=KF) (disch:=omega) only [bZ,dk,hh_bsl,hh_bst,o_x,ixSV,bslV,bb,List.reduceReplicate,addA,aa,srcA,bL,bV,↓reduceIte,Nat.reduceEqDiff,Nat.reduceAdd,Nat.reduceLT,Nat.reduceLeDiff,reduceCtorEq,hgd,al,c1]
    have hown:(chC ((newR l).ch.take k) (List.replicate k (AV.lit (.slice none 0 0)))).map AV.own1 = chC ((newR l).ch.take k) (List.replicate k (.lit (.slice none 0 0))):=by
      have key:∀ (ch:List Ch3) k,(chC ch (List.replicate k (AV.lit (.slice none 0 0)))).map AV.own1 = chC ch (List.replicate k (.lit (.slice none 0 0))):=fun ch=>by
        induction ch with
        | nil=>intro k; cases k <;> rfl
        | cons c ch ih =>
          intro k
          cases k with
          | zero=>rfl
          | succ k=>simp only [List.replicate_succ,chC,List.map_cons,ih]; rfl
      exact key _ _
    refine KB.grow h5 hown (new:=[.agg [.lit (.int .i64 l[k]),.lit (.slice none 0 0),.lit (.bool false)]]) rfl (bytes:=40) (cy (by simp only [List.length_cons,List.length_nil]; omega)) fun cv' s3 g1 g2 g3=>?_
    obtain ⟨w1,w2,w3,w4,w5,w6,w7,w8⟩:=g1.facts
    simp (config:=KF) (disch:=omega) only [bZ,bB,am,addA,↓reduceIte,Nat.reduceEqDiff,Nat.reduceAdd,Nat.reduceLeDiff,reduceCtorEq,w1,w4,w6]
    refine hK (k + 1,cv',s3) _ ⟨by simp only; omega,?_,?_,fun x hx=>?_,fun x hx=>?_⟩ (by simp only; omega) (Sf.le_refl _)
    · refine ⟨Nat.le_trans h4.1 g2.1,fun i hi _=>?_⟩
      rw [g2.2 i (Nat.lt_of_lt_of_le hi h4.1) fun e=>by have:=h6 i e; omega,h4.2 i hi (by simp)]
    · simp only
      have e1:(newR l).ch.take (k + 1) = (newR l).ch.take k++[(m,[],false)]:=by
        rw [List.take_succ_eq_append_getElem (by omega)]
        simp [newR,hm]
      rw [e1,List.replicate_succ',chC_snoc _ _ (by rw [List.length_replicate,List.length_take]; omega)]
      rw [hm] at g1
      exact g1
    · simp only at hx
      rcases g3 x hx with q | q
      · exact h6 x q
      · have:=h4.1; omega
    · simp only at hx
      rw [htk] at hx
      rcases List.mem_append.1 hx with hx | hx
      · exact h7 x hx
      · simp only [List.mem_singleton] at hx
        subst hx
        exact decide_eq_true (by omega)
  · simp (config:=KF) (disch:=omega) only [bZ,aH,bf,lenI,↓reduceIte,Nat.reduceEqDiff,reduceCtorEq,aY,al]
    refine hKe _ _ _ ?_
    simp (config:=KF) (disch:=omega) only [bZ,retI,am,aa,bM,↓reduceIte,Nat.reduceEqDiff,Nat.reduceAdd,Nat.reduceLeDiff,c2,c4]
    have hkl:k = l.length:=by omega
    subst hkl
    rw [List.take_length] at h7
    rw [List.take_of_length_le (by omega)] at h5
    have hok:okL l = true:=by
      unfold okL
      rw [decide_eq_true hlen,Bool.true_and,List.all_eq_true]
      exact h7
    refine hQ _ _ ⟨h4,?_⟩
    rw [if_pos hok]
    refine ⟨cv,ae cv,rfl,⟨List.replicate l.length (.lit (.slice none 0 0)),by rw [List.length_replicate,hcl],by rw [hcl]; exact h5,fun i b c hb hc=>?_,fun x hx=>hx,fun b hb x hx=>?_⟩,fun x hx=>⟨h6 x hx,h5.lt x hx⟩⟩
    · have:b = .lit (.slice none 0 0):=by
        rw [List.getElem?_replicate] at hb
        split at hb
        · exact (Option.some.inj hb).symm
        · cases hb
      subst this
      have:c.2.1 = []:=by
        simp only [newR,List.getElem?_map,Option.map_eq_some_iff] at hc
        obtain ⟨z,_,rfl⟩:=hc
        rfl
      rw [this]
      exact .inl (.inl (.inl (.inl rfl)))
    · rw [List.eq_of_mem_replicate hb] at hx
      simp [ae] at hx

section
variable {st:St} {s mid n:Nat} {cv ov rv:AV} {L:List CL} {R:RS} {F:List Nat}
end

end Go.Fx.YtbomoaajkinfpaaFx

