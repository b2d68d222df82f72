/- What the functions that the statement reaches compute: part 14. -/
import Derived.Test.YtbomoaajkinfpaaFxW13
namespace Go.Fx.YtbomoaajkinfpaaFx
open Go Go.Fx
attribute [local irreducible] aC runI aw aB

set_option maxRecDepth 100000
set_option maxHeartbeats 4000000

theorem kn {st:St} {tb:Nat} {t:Int} (h:st.get tb = some [.lit (.int .i64 t)]) (x:Int):aL Go.Proofs.Try.prog n_f74 [.lit (.int .i64 x),.ptr tb 0] st (.lit (.bool (decide (x = t)))):=by
  refine aD hmix k_f74 rfl rfl fun Q hQ=>?_
  unfold aFun c_f74
  simp (config:=KF) (disch:=omega) only [bZ,retI,aa,↓reduceIte,Nat.reduceEqDiff,reduceCtorEq,h]
  exact hQ _

theorem told1_pure {st:St} {tb:Nat} {t:Int} (h:st.get tb = some [.lit (.int .i64 t)]) (x:Cs):aL Go.Proofs.Try.prog n_f72 [csAV x,.ptr tb 0] st (.lit (.bool (decide (x.1 = t)))):=by
  refine aD hmix k_f72 rfl rfl fun Q hQ=>?_
  unfold aFun c_f72
  simp (config:=KF) (disch:=omega) only [bZ,retI,lQ,addA,aa,↓reduceIte,Nat.reduceEqDiff,Nat.reduceAdd,reduceCtorEq,h,csAV]
  exact hQ _

def ixI (o:Option Nat):Int:=match o with | some k=>(k:Int) | none=>-1

theorem ey {l:List Int} {k:Nat} (h:k < l.length) (r:List AV):(ints l++r).drop k = .lit (.int .i64 l[k])::(ints l++r).drop (k + 1):=by
  have hk:k < (ints l++r).length:=by simp [ints]; omega
  rw [List.drop_eq_getElem_cons hk,List.getElem_append_left (by simpa [ints] using h)]
  simp [ints]

/-- The index of a number. -/
theorem ixfI_pure {st:St} {ov:AV} {l:List Int} {tb:Nat} {t:Int} (hm:MB ov st (ints l)) (ht:st.get tb = some [.lit (.int .i64 t)]) (hl:l.length < 100000) :
    aL Go.Proofs.Try.prog n_f83 [ov,.fn (.func n_f74) [] [.ptr tb 0]] st (.lit (.int .i64 (ixI (l.findIdx? fun x=>decide (x = t))))):=by
  refine aD hmix k_f83 rfl rfl fun Q hQ=>?_
  unfold aFun c_f83
  obtain ⟨v1,v2,v3,v4,v5,v6,v7,v8⟩:=hm.facts
  simp (config:=KF) (disch:=omega) only [bZ,jM,↓reduceIte,Nat.reduceEqDiff,reduceCtorEq,v1,v8,al]
  rw [f83_7w]
  refine bj (A:=Nat) (fun k=>l.length - k) (fun k=>⟨[(0,ov),(1,.fn (.func n_f74) [] [.ptr tb 0]),(7,.lit (.int .i64 (l.length:Nat))),(8,.lit (.int .i64 (k:Nat)))],[]⟩) (fun _=>st)
    (fun k=>k≤l.length∧∀ j (h:j < l.length),j < k→l[j]≠t) 0 ⟨Nat.zero_le _,fun _ _ h=>by omega⟩ (Sf.le_refl _) rfl ?_
  rintro k ⟨h1,h2⟩ K hK hKe hKr
  try dsimp only
  simp (config:=KF) (disch:=omega) only [bZ,↓reduceIte,Nat.reduceEqDiff,reduceCtorEq]
  by_cases hk:k < l.length
  · rw [decide_eq_true (show (k:Int) < (l.length:Int) by omega)]
    rcases hm with ⟨rfl,e⟩ | ⟨bi,cap,r,rfl,hg,h3,h4⟩
    · simp [ints] at e; subst e; simp at hk
    have hd:=ey hk r
    rw [al] at *
    simp (config:=KF) (disch:=omega) only [bZ,ixSV,aa,jM,bY,↓reduceIte,Nat.reduceEqDiff,reduceCtorEq,hg,hd]
    refine ao rfl e_f74 (kn ht l[k]) rfl ?_
    by_cases he:l[k] = t
    · rw [decide_eq_true he]
      simp (config:=KF) (disch:=omega) only [bZ,↓reduceIte,Nat.reduceEqDiff,reduceCtorEq]
      refine hKr _ _ ?_
      simp (config:=KF) (disch:=omega) only [bZ,retI,↓reduceIte]
      have:l.findIdx? (fun x=>decide (x = t)) = some k:=by
        rw [List.findIdx?_eq_some_iff_getElem]
        exact ⟨hk,by simp [he],fun j hj=>by simp [h2 j (by omega) hj]⟩
      rw [this] at hQ
      exact hQ _
    · rw [decide_eq_false he]
      simp (config:=KF) (disch:=omega) only [bZ,↓reduceIte,Nat.reduceEqDiff,reduceCtorEq]
      refine hK (k + 1) _ ⟨by omega,fun j hj hjk=>?_⟩ (by omega) (Sf.le_refl _)
      by_cases e:j = k
      · subst e; exact he
      · exact h2 j hj (by omega)
  · rw [decide_eq_false (show ¬ (k:Int) < (l.length:Int) by omega)]
    simp (config:=KF) (disch:=omega) only [bZ,aH,bf,↓reduceIte,Nat.reduceEqDiff,reduceCtorEq]
    refine hKe _ _ _ ?_
    simp (config:=KF) (disch:=omega) only [bZ,retI,↓reduceIte,Int.reduceNeg]
    have:l.findIdx? (fun x=>decide (x = t)) = none:=by
      rw [List.findIdx?_eq_none_iff]
      intro x hx
      obtain ⟨j,hj,rfl⟩:=List.getElem_of_mem hx
      simp [h2 j hj (by omega)]
    rw [this] at hQ
    exact hQ _

/-- The index of a case of a channel. -/
theorem ixfC_pure {st:St} {l:List Cs} {tb:Nat} {t:Int} (ht:st.get tb = some [.lit (.int .i64 t)]) (hl:l.length < 100000) :
    aL Go.Proofs.Try.prog n_f71 [csSl l,.fn (.func n_f72) [] [.ptr tb 0]] st (.lit (.int .i64 (ixI (l.findIdx? fun x=>decide (x.1 = t))))):=by
  refine aD hmix k_f71 rfl rfl fun Q hQ=>?_
  unfold aFun c_f71
  obtain ⟨v1,v2,v3,v4,v5,v6,v7⟩:=cg l
  have v8:∀ st',lenI .sl st' (csSl l) = .ok (.lit (.int .i64 (l.length:Nat))):=fun st'=>by
    unfold csSl
    split
    · rename_i e; subst e; rfl
    · simp [lenI]
  simp (config:=KF) (disch:=omega) only [bZ,jM,↓reduceIte,Nat.reduceEqDiff,reduceCtorEq,v1,v8]
  rw [f71_7w]
  refine bj (A:=Nat) (fun k=>l.length - k) (fun k=>⟨[(0,csSl l),(1,.fn (.func n_f72) [] [.ptr tb 0]),(7,.lit (.int .i64 (l.length:Nat))),(8,.lit (.int .i64 (k:Nat)))],[]⟩) (fun _=>st)
    (fun k=>k≤l.length∧∀ j (h:j < l.length),j < k→l[j].1≠t) 0 ⟨Nat.zero_le _,fun _ _ h=>by omega⟩ (Sf.le_refl _) rfl ?_
  rintro k ⟨h1,h2⟩ K hK hKe hKr
  try dsimp only
  simp (config:=KF) (disch:=omega) only [bZ,↓reduceIte,Nat.reduceEqDiff,reduceCtorEq]
  by_cases hk:k < l.length
  · rw [decide_eq_true (show (k:Int) < (l.length:Int) by omega)]
    have hne:l≠[]:=fun e=>by subst e; simp at hk
    have hv:csSl l = .sl false 3 (l.map csAV):=if_neg hne
    rw [hv]
    have hgd:(l.map csAV).getD k .any = csAV l[k]:=by simp [hk]
    simp (config:=KF) (disch:=omega) only [bZ,ixSV,aa,jM,↓reduceIte,Nat.reduceEqDiff,Nat.reduceAdd,Nat.reduceLeDiff,reduceCtorEq,hgd,csAV]
    refine ao rfl e_f72 (told1_pure ht l[k]) rfl ?_
    by_cases he:l[k].1 = t
    · rw [decide_eq_true he]
      simp (config:=KF) (disch:=omega) only [bZ,↓reduceIte,Nat.reduceEqDiff,reduceCtorEq]
      refine hKr _ _ ?_
      simp (config:=KF) (disch:=omega) only [bZ,retI,↓reduceIte]
      have:l.findIdx? (fun x=>decide (x.1 = t)) = some k:=by
        rw [List.findIdx?_eq_some_iff_getElem]
        exact ⟨hk,by simp [he],fun j hj=>by simp [h2 j (by omega) hj]⟩
      rw [this] at hQ
      exact hQ _
    · rw [decide_eq_false he]
      simp (config:=KF) (disch:=omega) only [bZ,↓reduceIte,Nat.reduceEqDiff,reduceCtorEq]
      rw [← hv]
      refine hK (k + 1) _ ⟨by omega,fun j hj hjk=>?_⟩ (by omega) (Sf.le_refl _)
      by_cases e:j = k
      · subst e; exact he
      · exact h2 j hj (by omega)
  · rw [decide_eq_false (show ¬ (k:Int) < (l.length:Int) by omega)]
    simp (config:=KF) (disch:=omega) only [bZ,aH,bf,↓reduceIte,Nat.reduceEqDiff,reduceCtorEq]
    refine hKe _ _ _ ?_
    simp (config:=KF) (disch:=omega) only [bZ,retI,↓reduceIte,Int.reduceNeg]
    have:l.findIdx? (fun x=>decide (x.1 = t)) = none:=by
      rw [List.findIdx?_eq_none_iff]
      intro x hx
      obtain ⟨j,hj,rfl⟩:=List.getElem_of_mem hx
      simp [h2 j hj (by omega)]
    rw [this] at hQ
    exact hQ _

/-- All but one number, in place. -/
theorem delF_calls {st:St} {ov:AV} {l:List Int} {tb:Nat} {t:Int} (hm:MB ov st (ints l)) (ht:st.get tb = some [.lit (.int .i64 t)]) (htb:tb ∉ ae ov) (hl:l.length < 100000) :
    aA Go.Proofs.Try.prog n_f73 [ov,.fn (.func n_f74) [] [.ptr tb 0]] st (fun r st'=>MB r st' (ints (l.filter fun x=>x != t))∧ae r = ae ov∧Oth st st' (ae ov)):=by
  refine ap hmix k_f73 rfl rfl fun Q hQ=>?_
  unfold aFun c_f73
  obtain ⟨v1,v2,v3,v4,v5,v6,v7,v8⟩:=hm.facts
  simp (config:=KF) (disch:=omega) only [bZ,id,jM,↓reduceIte,Nat.reduceEqDiff,reduceCtorEq,v1]
  refine ao (vs:=[ov,.fn (.func n_f74) [] [.ptr tb 0]]) (by simp [v1]; rfl) e_f83 (ixfI_pure hm ht hl) (by simp [v5]; rfl) ?_
  cases hf:l.findIdx? fun x=>decide (x = t) with
  | none =>
    simp (config:=KF) (disch:=omega) only [bZ,retI,↓reduceIte,Nat.reduceEqDiff,Int.reduceNeg,reduceCtorEq,ixI,v1,v5]
    have:l.filter (fun x=>x != t) = l:=by
      rw [List.filter_eq_self]
      intro x hx
      have:=List.findIdx?_eq_none_iff.1 hf x hx
      simpa using this
    exact hQ _ _ ⟨by rw [this]; exact hm,rfl,Oth.refl _ _⟩
  | some k =>
    obtain ⟨hk,hkt,hbef⟩:=List.findIdx?_eq_some_iff_getElem.1 hf
    have hne:((k:Int) = -1) = False:=by simp <;> omega
    rcases hm with ⟨rfl,e⟩ | ⟨bi,cap,r,rfl,hg,h3,h4⟩
    · simp [ints] at e; subst e; simp at hk
    rw [al] at *
    have hbl:=bq hg
    simp only [ae,List.mem_singleton] at htb
    simp only [List.length_append,al] at h4
    simp (config:=KF) (disch:=omega) only [bZ,↓reduceIte,Nat.reduceEqDiff,Int.reduceNeg,reduceCtorEq,ixI,hne]
    rw [f73_15w]
    refine bj (A:=Nat×Nat×List Int×St) (fun a=>l.length - a.2.1) (fun a=>⟨[(0,.bs bi 1 0 l.length cap),(1,.fn (.func n_f74) [] [.ptr tb 0]),(5,.lit (.int .i64 (a.1:Nat))),(6,.lit (.int .i64 (a.2.1:Nat)))],[]⟩) (fun a=>a.2.2.2)
      (fun a=>a.1≤a.2.1∧a.2.1≤l.length∧a.2.2.1.length = l.length∧a.2.2.1.take a.1 = (l.take a.2.1).filter (fun x=>x != t)∧a.2.2.1.drop a.2.1 = l.drop a.2.1∧a.2.2.2.get bi = some (ints a.2.2.1++r)∧Oth st a.2.2.2 [bi])
      (k,k + 1,l,st) ⟨by simp,by simp; omega,rfl,?_,rfl,hg,Oth.refl _ _⟩ (Sf.le_refl _) rfl ?_
    · simp only
      rw [List.take_succ_eq_append_getElem hk,List.filter_append,List.filter_cons]
      have:(l.take k).filter (fun x=>x != t) = l.take k:=by
        rw [List.filter_eq_self]
        intro x hx
        obtain ⟨j,hj,rfl⟩:=List.getElem_of_mem hx
        rw [List.length_take] at hj
        have:=hbef j (by omega)
        rw [List.getElem_take]
        simpa using this
      rw [this]
      have hkt':l[k] = t:=by simpa using hkt
      simp [hkt']
    rintro ⟨i,j,cur,s⟩ ⟨a1,a2,a3,a4,a5,a6,a7⟩ K hK hKe hKr
    simp only at a1 a2 a3 a4 a5 a6 a7
    dsimp only
    have hcl:(ints cur++r).length = l.length + r.length:=by simp [al,a3]
    have hts:s.get tb = some [.lit (.int .i64 t)]:=(a7.get (by simp; omega)).trans ht
    have hil:i = ((l.take j).filter (fun x=>x != t)).length:=by rw [← a4,List.length_take,a3]; omega
    simp (config:=KF) (disch:=omega) only [bZ,lenI,bY,↓reduceIte,Nat.reduceEqDiff,reduceCtorEq]
    by_cases hj:j < l.length
    · rw [decide_eq_true (show (j:Int) < (l.length:Int) by omega)]
      have hcj:cur[j]'(by omega) = l[j]:=by
        have h1:(cur.drop j)[0]? = (l.drop j)[0]?:=by rw [a5]
        rw [List.getElem?_drop,List.getElem?_drop,Nat.add_zero,List.getElem?_eq_getElem (by omega),List.getElem?_eq_getElem hj] at h1
        exact Option.some.inj h1
      have hd:=ey (l:=cur) (k:=j) (by omega) r
      rw [hcj] at hd
      have htk:(l.take (j + 1)).filter (fun x=>x != t) = (l.take j).filter (fun x=>x != t)++if l[j] = t then [] else [l[j]]:=by
        rw [List.take_succ_eq_append_getElem hj,List.filter_append,List.filter_cons]
        by_cases e:l[j] = t <;> simp [e]
      have hdj:cur.drop (j + 1) = l.drop (j + 1):=by
        have:=congrArg (List.drop 1) a5
        rwa [List.drop_drop,List.drop_drop] at this
      simp (config:=KF) (disch:=omega) only [bZ,ixSV,aa,jM,bY,↓reduceIte,Nat.reduceEqDiff,reduceCtorEq,a6,hd]
      refine ao rfl e_f74 (kn hts l[j]) rfl ?_
      by_cases he:l[j] = t
      · rw [decide_eq_true he]
        simp (config:=KF) (disch:=omega) only [bZ,unA,↓reduceIte,Nat.reduceEqDiff,reduceCtorEq]
        rw [if_pos he,List.append_nil] at htk
        exact hK (i,j + 1,cur,s) _ ⟨by simp only; omega,by simp only; omega,a3,by simp only; rw [htk]; exact a4,hdj,a6,a7⟩ (by simp only; omega) (Sf.le_refl _)
      · rw [decide_eq_false he]
        rw [if_neg he] at htk
        have hset:(ints cur++r).set i (.lit (.int .i64 l[j])) = ints (cur.set i l[j])++r:=by
          rw [List.set_append_left _ _ (by rw [al]; omega)]
          simp [ints,List.map_set]
        simp (config:=KF) (disch:=omega) only [bZ,ixSV,am,unA,bY,↓reduceIte,Nat.reduceEqDiff,reduceCtorEq,a6,hcl,hset]
        refine hK (i + 1,j + 1,cur.set i l[j],s.set bi (ints (cur.set i l[j])++r)) _ ⟨by simp only; omega,by simp only; omega,by simp [a3],?_,?_,aS (bq a6),a7.trans (Oth.set _ _ _ (by simp))⟩ (by simp only; omega) (Sf.le_refl _)
        · simp only
          rw [htk,← a4,List.take_set,List.take_succ_eq_append_getElem (show i < cur.length by omega)]
          rw [List.set_append_right _ _ (by rw [List.length_take]; omega)]
          simp [List.length_take,show min i cur.length = i by omega]
        · simp only
          rw [List.drop_set_of_lt (by omega)]
          exact hdj
    · rw [decide_eq_false (show ¬ (j:Int) < (l.length:Int) by omega)]
      simp (config:=KF) (disch:=omega) only [bZ,aH,bf,↓reduceIte,Nat.reduceEqDiff,reduceCtorEq]
      refine hKe _ _ _ ?_
      have hjl:j = l.length:=by omega
      subst hjl
      rw [List.take_length] at a4 hil
      have hilt:i≤l.length:=by omega
      have hsp:ints cur++r = ints (l.filter fun x=>x != t)++(ints (cur.drop i)++r):=by
        rw [← a4,← List.append_assoc,← gC,List.take_append_drop]
      have hlt:i < l.length:=by
        rw [hil]
        exact List.length_filter_lt_length_iff_exists.2 ⟨l[k],List.getElem_mem hk,by simpa using hkt⟩
      have hci:(cap = i) = False:=by simp; omega
      simp (config:=KF) (disch:=omega) only [bZ,retI,bB,o_sliS,o_sliOwn,o_x,lP,oB,bb,clrX,sliB,sl3,ixTo,putN,bY,noL_bs,Option.map_some,Option.map_none,↓reduceIte,Nat.reduceEqDiff,reduceCtorEq,Nat.sub_zero,if_pos,if_neg,a6,hcl,hci]
      rw [hsp]
      have hfl:(ints (l.filter fun x=>x != t)).length = i:=by rw [al]; exact hil.symm
      have hrep:((List.replicate (l.length - i) (AV.lit (Value.int IntKind.i64 0))).flatMap AV.cells).length = l.length - i:=by
        rw [List.length_flatMap]; simp [AV.cells]
      rw [fA hfl.symm (by rw [hrep,List.length_append,al,List.length_drop]; omega)]
      have:=hQ (.bs bi 1 0 i cap) (s.set bi (ints (l.filter fun x=>x != t)++((List.replicate (l.length - i) (AV.lit (Value.int IntKind.i64 0))).flatMap AV.cells++(ints (cur.drop i)++r).drop ((List.replicate (l.length - i) (AV.lit (Value.int IntKind.i64 0))).flatMap AV.cells).length)))
        ⟨.inr ⟨bi,cap,_,by rw [hfl],aS (bq a6),by rw [hfl]; omega,by simp only [List.length_append,hfl,hrep,List.length_drop,al,a3]; omega⟩,rfl,a7.trans (Oth.set _ _ _ (by simp))⟩
      simpa using this
end Go.Fx.YtbomoaajkinfpaaFx

