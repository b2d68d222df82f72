/- What the functions that the statement reaches compute: part 38. -/
import Derived.Test.YtbdjfccgkdgbfaaFxW37
namespace Go.Fx.YtbdjfccgkdgbfaaFx
open Go Go.Fx
attribute [local irreducible] aC runI az aA

set_option maxRecDepth 100000
set_option maxHeartbeats 4000000

theorem wtR_app (t:Int):∀ a b:List WW,wtR t (a++b) = wtR t a + wtR t b
  | [],b=>by simp [wtR]
  | w::r,b=>by simp only [List.cons_append,wtR,wtR_app t r b]; omega
theorem wtR_le (t:Int):∀ a:List WW,wtR t a≤a.length
  | []=>Nat.le_refl _
  | w :: r => by
    have:=wtR_le t r
    simp only [wtR,List.length_cons]
    split <;> omega
section
variable {es:List AV} {ws:List WW}
theorem oa (h:es.length≤1000) (hl:ws.length≤1000) (n:Int) (st:St):aB Go.Proofs.Try.prog n_f36 [.agg [.sl false 6 es,wsV ws],.lit (.int .i64 n)] st (.lit (.int .i64 (wtR n ws:Nat))):=by
  obtain ⟨w1,w2,w3,w4,w5,w6,w7,w8⟩:=aw ws
  refine aE hmix k_f36 rfl rfl fun Q hQ=>?_
  unfold aFun c_f36
  simp (config:=KF) (disch:=omega) only [bZ,↓reduceIte,Nat.reduceEqDiff,Nat.reduceAdd,reduceCtorEq,w2,w4]
  rw [f36_9w]
  refine bf (A:=Nat) (fun i=>ws.length - i) (fun i=>⟨[(1,.lit (.int .i64 n)),(2,.lptr 2 0),(5,.lit (.int .i64 (wtR n (ws.take i):Nat))),(6,.lit (.int .i64 (i:Nat)))],[(2,[.sl false 6 es,wsV ws])]⟩) (fun _=>st)
    (fun i=>i≤ws.length) 0 (Nat.zero_le _) (Sf.le_refl _) rfl ?_
  intro i i1 K hK hKe hKr
  by_cases h3:i < ws.length
  · have hg:=j7 h3
    have hwv:wsV ws = .sl false 3 (ws.map wwV):=by unfold wsV; rw [if_neg (fun e=>by rw [e] at h3; simp at h3)]
    have hst:wtR n (ws.take (i + 1)) = wtR n (ws.take i) + if ws[i].2.1 = n then 1 else 0:=by
      rw [List.take_succ_eq_append_getElem h3,wtR_app]; simp [wtR]
    have hle:=wtR_le n (ws.take i)
    rw [List.length_take] at hle
    have hK2:=hK (i + 1)
    simp only [hst] at hK2
    generalize ws[i] = w at hg hK2
    generalize wtR n (ws.take i) = u at hK2 hle
    rw [hwv] at hK2 w1 w2 w3 w4 w5 w6 w7 ⊢
    by_cases h4:w.2.1 = n
    · rw [if_pos h4] at hK2
      simp (config:=KF) (disch:=omega) only [bZ,ixSV,lenI,addA,aa,↓reduceIte,Nat.reduceEqDiff,hg]
      exact hK2 _ h3 (by omega) (Sf.le_refl _)
    · rw [if_neg h4] at hK2
      simp (config:=KF) (disch:=omega) only [bZ,ixSV,lenI,addA,aa,↓reduceIte,Nat.reduceEqDiff,hg]
      exact hK2 _ h3 (by omega) (Sf.le_refl _)
  · obtain rfl:i = ws.length:=by omega
    simp (config:=KF) (disch:=omega) only [bZ,addA,aa,↓reduceIte,Nat.reduceEqDiff,List.take_length,w1,w8]
    refine hKe _ _ _ ?_
    simp (config:=KF) (disch:=omega) only [bZ,retI,↓reduceIte,Nat.reduceEqDiff]
    exact hQ _
end
end Go.Fx.YtbdjfccgkdgbfaaFx

namespace Go.Fx.YtbdjfccgkdgbfaaFx
open Go Go.Fx
attribute [local irreducible] aC runI az aA

set_option maxRecDepth 100000
set_option maxHeartbeats 4000000

theorem numR_app (t:Int) (a b:List Sb):numR t (a++b) = numR t a++numR t b:=by simp [numR]
theorem qn (t:Int):∀ a:List Sb,(numR t a).length≤a.length
  | []=>Nat.le_refl _
  | w :: r => by
    have:=qn t r
    unfold numR at this ⊢
    rw [List.flatMap_cons,List.length_append,List.length_cons]
    split <;> simp only [List.length_cons,List.length_nil] <;> omega
section
variable {es:List AV} {subs:List Sb} {ws:List WW}
theorem rSubs_pure (h:Es es subs) (hl:subs.length≤64) (n:Int) (st:St):aB Go.Proofs.Try.prog n_f38 [.agg [.sl false 6 es,wsV ws],.lit (.int .i64 n)] st (ci (numR n subs)):=by
  obtain ⟨w1,w2,w3,w4,w5,w6,w7,w8⟩:=aw ws
  refine aE hmix k_f38 rfl rfl fun Q hQ=>?_
  unfold aFun c_f38
  have hel:=h.1
  simp (config:=KF) (disch:=omega) only [bZ,↓reduceIte,Nat.reduceEqDiff,Nat.reduceAdd,reduceCtorEq,w2,w4]
  rw [f38_9w]
  refine bf (A:=Nat) (fun i=>subs.length - i) (fun i=>⟨[(1,.lit (.int .i64 n)),(2,.lptr 2 0),(5,cn (numR n (subs.take i))),(6,.lit (.int .i64 (i:Nat)))],[(2,[.sl false 6 es,wsV ws])]⟩) (fun _=>st)
    (fun i=>i≤subs.length) 0 (Nat.zero_le _) (Sf.le_refl _) rfl ?_
  intro i i1 K hK hKe hKr
  by_cases h3:i < subs.length
  · obtain ⟨rv,hrv,hg⟩:=h.at h3
    unfold sbV at hg
    have hst:numR n (subs.take (i + 1)) = numR n (subs.take i)++if subs[i].topic = n then [subs[i].num] else []:=by
      rw [List.take_succ_eq_append_getElem h3,numR_app]; simp [numR]
    have hle:=qn n (subs.take i)
    rw [List.length_take] at hle
    have hK2:=hK (i + 1)
    simp only [hst] at hK2
    generalize subs[i] = S at hg hK2
    generalize numR n (subs.take i) = out at hK2 hle
    have hol:out.length≤64:=by omega
    have hid:(out.map intA).map AV.dis = out.map intA:=by rw [List.map_map]; exact List.map_congr_left fun _ _=>rfl
    by_cases h4:S.topic = n
    · rw [if_pos h4] at hK2
      have hsn:cn (out++[S.num]) = .sl true 1 (out.map intA++[intA S.num]):=by
        unfold cn
        rw [if_neg (by simp),List.map_append]; rfl
      rw [hsn] at hK2
      by_cases ho:out = []
      · have hia:cn out = .lit (.slice none 0 0):=by unfold cn; rw [if_pos ho]
        rw [hia]
        rw [ho] at hK2
        simp (config:=KF) (disch:=omega) only [bZ,ixSV,bt,List.reduceReplicate,lenI,addA,aa,aI,srcA,cf,↓reduceIte,Nat.reduceEqDiff,Nat.reduceLT,hg,hel]
        exact hK2 _ h3 (by omega) (Sf.le_refl _)
      · have hia:cn out = .sl true 1 (out.map intA):=by unfold cn; rw [if_neg ho]
        rw [hia]
        simp (config:=KF) (disch:=omega) only [bZ,ixSV,bt,List.reduceReplicate,lenI,addA,aa,bg,srcA,cf,↓reduceIte,Nat.reduceEqDiff,Nat.reduceLT,hg,hel]
        exact hK2 _ h3 (by omega) (Sf.le_refl _)
    · rw [if_neg h4,List.append_nil] at hK2
      simp (config:=KF) (disch:=omega) only [bZ,ixSV,lenI,addA,aa,↓reduceIte,Nat.reduceEqDiff,hg,hel]
      exact hK2 _ h3 (by omega) (Sf.le_refl _)
  · obtain rfl:i = subs.length:=by omega
    rw [List.take_length]
    simp (config:=KF) (disch:=omega) only [bZ,lenI,addA,aa,↓reduceIte,Nat.reduceEqDiff,hel]
    refine hKe _ _ _ ?_
    have hdd:=ints_dis (numR n subs)
    have hn:(cn (numR n subs)).noL = true:=by unfold cn; split <;> rfl
    have hn2:(ci (numR n subs)).noL = true:=by unfold ci; split <;> rfl
    have hd2:(ci (numR n subs)).dis = ci (numR n subs):=by unfold ci; split <;> rfl
    simp (config:=KF) (disch:=omega) only [bZ,retI,↓reduceIte,Nat.reduceEqDiff,hdd,hn2,hd2]
    exact hQ _
end
end Go.Fx.YtbdjfccgkdgbfaaFx

