/- What the functions that the statement reaches compute: part 2. -/
import Derived.Test.YtgnockaonokmaaaFxW1
namespace Go.Fx.YtgnockaonokmaaaFx
open Go Go.Fx
attribute [local irreducible] aC runI az aU

set_option maxRecDepth 100000
set_option maxHeartbeats 4000000

theorem ixfF_pure {st:St} {ov:AV} {l:List Fl} {tb:Nat} {f1 f2:Int} { r0:List AV} (hm:RB flC 4 ov st l) (ht:st.get tb = some (.lit (.int .i64 f1)::.lit (.int .i64 f2)::r0)) (hl:l.length < 100000) :
  aE Go.Proofs.Try.prog n_f85 [ov,.fn (.func n_f79) [] [.ptr tb 0]] st (.lit (.int .i64 (ixI (l.findIdx? (bz f1 f2))))):=by
 refine aD hmix k_f85 rfl rfl fun Q hQ=>?_
 unfold aFun c_f85
 obtain ⟨v1,v2,v3,v4,v5,v6,v7,v8⟩:=hm.facts
 simp (config:=KF) (disch:=omega) only [bZ,b7,↓reduceIte,Nat.reduceEqDiff,reduceCtorEq,v1,v8]
 rw [f85_7w]
 refine b5 (A:=Nat) (fun k=>l.length - k) (fun k=>⟨[(0,ov),(1,.fn (.func n_f79) [] [.ptr tb 0]),(7,.lit (.int .i64 (l.length:Nat))),(8,.lit (.int .i64 (k:Nat)))],[]⟩) (fun _=>st)
  (fun k=>k≤l.length∧∀ j (h:j < l.length),j < k→bz f1 f2 l[j] = false) 0 ⟨Nat.zero_le _,fun _ _ h=>by omega⟩ (Sf.le_refl _) rfl ?_
 rintro k ⟨h1,h2⟩ K hK hKe hKr
 try dsimp only
 simp (config:=KF) (disch:=omega) only [bZ,↓reduceIte,Nat.reduceEqDiff,reduceCtorEq]
 by_cases hk:k < l.length
 ·rw [decide_eq_true (show (k:Int) < (l.length:Int) by omega)]
  rcases hm with ⟨rfl,e⟩ | ⟨bi,cap,r,rfl,hg,h3,h4⟩
  ·subst e; simp at hk
  obtain ⟨t,hd⟩:=eL dY hk r
  have h5:=fun h=>h2 k hk h
  have hop:=mA ht l[k]
  cases he:bz f1 f2 l[k] with
  | true =>
    rw [he] at hop
    have hf:l.findIdx? (bz f1 f2) = some k:=by
     rw [List.findIdx?_eq_some_iff_getElem]
     exact ⟨hk,he,fun j hj=>by simp [h2 j (by omega) hj]⟩
    rw [hf] at hQ
    generalize l[k] = x at hd hop
    have hrd:=ff dY x
    have hrn:(rcA flC x).noL = true:=by unfold rcA flC; simp [bH,cL,eM]
    simp only [gH,List.cons_append,List.nil_append] at hd
    simp (config:=KF) (disch:=omega) only [bZ,ixSV,aa,b7,cR,↓reduceIte,Nat.reduceEqDiff,Nat.reduceLeDiff,reduceCtorEq,hg,hd]
    refine aH (vs:=[rcA flC x,.ptr tb 0]) (by show [(rcA flC x).dis,_] = _; rw [hrd]) e_f79 hop (by show [rcA flC x].all AV.noL = true; simp [hrn]) ?_
    simp (config:=KF) (disch:=omega) only [bZ,↓reduceIte,Nat.reduceEqDiff,reduceCtorEq]
    refine hKr _ _ ?_
    simp (config:=KF) (disch:=omega) only [bZ,retI,↓reduceIte]
    exact hQ _
  | false =>
    rw [he] at hop
    generalize l[k] = x at hd hop
    have hrd:=ff dY x
    have hrn:(rcA flC x).noL = true:=by unfold rcA flC; simp [bH,cL,eM]
    simp only [gH,List.cons_append,List.nil_append] at hd
    simp (config:=KF) (disch:=omega) only [bZ,ixSV,aa,b7,cR,↓reduceIte,Nat.reduceEqDiff,Nat.reduceLeDiff,reduceCtorEq,hg,hd]
    refine aH (vs:=[rcA flC x,.ptr tb 0]) (by show [(rcA flC x).dis,_] = _; rw [hrd]) e_f79 hop (by show [rcA flC x].all AV.noL = true; simp [hrn]) ?_
    simp (config:=KF) (disch:=omega) only [bZ,↓reduceIte,Nat.reduceEqDiff,reduceCtorEq]
    refine hK (k + 1) _ ⟨by omega,fun j hj hjk=>?_⟩ (by omega) (Sf.le_refl _)
    by_cases e:j = k
    ·subst e; exact he
    ·exact h2 j hj (by omega)
 ·rw [decide_eq_false (show ¬ (k:Int) < (l.length:Int) by omega)]
  simp (config:=KF) (disch:=omega) only [bZ,↓reduceIte,Nat.reduceEqDiff,reduceCtorEq]
  refine hKe _ _ _ ?_
  simp (config:=KF) (disch:=omega) only [bZ,retI,↓reduceIte,Int.reduceNeg]
  have:l.findIdx? (bz f1 f2) = none:=by
   rw [List.findIdx?_eq_none_iff]
   intro x hx
   obtain ⟨j,hj,rfl⟩:=List.getElem_of_mem hx
   exact h2 j hj (by omega)
  rw [this] at hQ
  exact hQ _

theorem delFF_calls {st:St} {ov:AV} {l:List Fl} {tb:Nat} {f1 f2:Int} { r0:List AV} (hm:RB flC 4 ov st l) (ht:st.get tb = some (.lit (.int .i64 f1)::.lit (.int .i64 f2)::r0)) (htb:tb ∉ ag ov) (hl:l.length < 100000) :
  aG Go.Proofs.Try.prog n_f78 [ov,.fn (.func n_f79) [] [.ptr tb 0]] st (fun r st'=>RB flC 4 r st' (l.filter fun x=>!bz f1 f2 x)∧ag r = ag ov∧Oth st st' (ag ov)):=by
 refine a8 hmix k_f78 rfl rfl fun Q hQ=>?_
 unfold aFun c_f78
 obtain ⟨v1,v2,v3,v4,v5,v6,v7,v8⟩:=hm.facts
 simp (config:=KF) (disch:=omega) only [bZ,id,b7,↓reduceIte,Nat.reduceEqDiff,reduceCtorEq,v1]
 refine aH (vs:=[ov,.fn (.func n_f79) [] [.ptr tb 0]]) (by simp [v1]; rfl) e_f85 (ixfF_pure hm ht hl) (by simp [v5]; rfl) ?_
 cases hf:l.findIdx? (bz f1 f2) with
 | none =>
   simp (config:=KF) (disch:=omega) only [bZ,retI,↓reduceIte,Nat.reduceEqDiff,Int.reduceNeg,reduceCtorEq,ixI,v1,v5]
   have:l.filter (fun x=>!bz f1 f2 x) = l:=by
    rw [List.filter_eq_self]
    intro x hx
    have:=List.findIdx?_eq_none_iff.1 hf x hx
    simpa using this
   exact hQ _ _ ⟨by rw [this]; exact hm,rfl,Oth.refl _ _⟩
 | some k =>
   obtain ⟨hk,hkt,hbef⟩:=List.findIdx?_eq_some_iff_getElem.1 hf
   have hne:((k:Int) = -1) = False:=by simp <;> omega
   rcases hm with ⟨rfl,e⟩ | ⟨bi,cap,r,rfl,hg,h3,h4⟩
   ·subst e; simp at hk
   have hbl:=bQ hg
   simp only [ag,List.mem_singleton] at htb
   rw [List.length_append,aT dY] at h4
   simp (config:=KF) (disch:=omega) only [bZ,↓reduceIte,Nat.reduceEqDiff,Int.reduceNeg,reduceCtorEq,decide_false,ixI,hne]
   rw [f78_15w]
   refine b5 (A:=Nat×Nat×List Fl×St) (fun a=>l.length - a.2.1) (fun a=>⟨[(0,.bs bi 4 0 l.length cap),(1,.fn (.func n_f79) [] [.ptr tb 0]),(5,.lit (.int .i64 (a.1:Nat))),(6,.lit (.int .i64 (a.2.1:Nat)))],[]⟩) (fun a=>a.2.2.2)
    (fun a=>a.1≤a.2.1∧a.2.1≤l.length∧a.2.2.1.length = l.length∧a.2.2.1.take a.1 = (l.take a.2.1).filter (fun x=>!bz f1 f2 x)∧a.2.2.1.drop a.2.1 = l.drop a.2.1∧a.2.2.2.get bi = some (rcs flC a.2.2.1++r)∧Oth st a.2.2.2 [bi])
    (k,k + 1,l,st) ⟨by simp,by simp; omega,rfl,?_,rfl,hg,Oth.refl _ _⟩ (Sf.le_refl _) rfl ?_
   ·simp only
    rw [List.take_succ_eq_append_getElem hk,List.filter_append,List.filter_cons]
    have:(l.take k).filter (fun x=>!bz f1 f2 x) = l.take k:=by
     rw [List.filter_eq_self]
     intro x hx
     obtain ⟨j,hj,rfl⟩:=List.getElem_of_mem hx
     rw [List.length_take] at hj
     have:=hbef j (by omega)
     rw [List.getElem_take]
     simpa using this
    rw [this]
    simp [hkt]
   rintro ⟨i,j,cur,s⟩ ⟨a1,a2,a3,a4,a5,a6,a7⟩ K hK hKe hKr
   simp only at a1 a2 a3 a4 a5 a6 a7
   dsimp only
   have hcl:(rcs flC cur++r).length = l.length * 4 + r.length:=by rw [List.length_append,aT dY,a3]
   have hts:s.get tb = some (.lit (.int .i64 f1)::.lit (.int .i64 f2)::r0):=(a7.get (by simp; omega)).trans ht
   have hil:i = ((l.take j).filter (fun x=>!bz f1 f2 x)).length:=by rw [← a4,List.length_take,a3]; omega
   simp (config:=KF) (disch:=omega) only [bZ,lenI,cR,↓reduceIte,Nat.reduceEqDiff,reduceCtorEq]
   by_cases hj:j < l.length
   ·rw [decide_eq_true (show (j:Int) < (l.length:Int) by omega)]
    have hcj:cur[j]'(by omega) = l[j]:=by
     have h1:(cur.drop j)[0]? = (l.drop j)[0]?:=by rw [a5]
     rw [List.getElem?_drop,List.getElem?_drop,Nat.add_zero,List.getElem?_eq_getElem (by omega),List.getElem?_eq_getElem hj] at h1
     exact Option.some.inj h1
    obtain ⟨t,hd⟩:=eL dY (l:=cur) (j:=j) (by omega) r
    rw [hcj] at hd
    have htk:(l.take (j + 1)).filter (fun x=>!bz f1 f2 x) = (l.take j).filter (fun x=>!bz f1 f2 x)++if bz f1 f2 l[j] = true then [] else [l[j]]:=by
     rw [List.take_succ_eq_append_getElem hj,List.filter_append,List.filter_cons]
     by_cases e:bz f1 f2 l[j] = true <;> simp [e]
    have hdj:cur.drop (j + 1) = l.drop (j + 1):=by
     have:=congrArg (List.drop 1) a5
     rwa [List.drop_drop,List.drop_drop] at this
    have hop:=mA hts l[j]
    have hrd:=ff dY l[j]
    have hrn:(rcA flC l[j]).noL = true:=by unfold rcA flC; simp [bH,cL,eM]
    have hset:=fun (hi:i < cur.length)=>rcs_set dY hi l[j] r
    generalize l[j] = x at hd hop hrd hrn htk hset
    simp only [gH,List.cons_append,List.nil_append] at hd
    simp (config:=KF) (disch:=omega) only [bZ,ixSV,am,aa,b7,cR,kill_fn,gW,↓reduceIte,Nat.reduceEqDiff,Nat.reduceAdd,Nat.reduceLeDiff,reduceCtorEq,ae,a6,hd]
    refine aH (vs:=[rcA flC x,.ptr tb 0]) (by show [(rcA flC x).dis,_] = _; rw [hrd]) e_f79 hop (by show [rcA flC x].all AV.noL = true; simp [hrn]) ?_
    cases he:bz f1 f2 x with
    | true =>
      simp (config:=KF) (disch:=omega) only [bZ,o_un,unA,↓reduceIte,Nat.reduceEqDiff,reduceCtorEq]
      rw [if_pos he,List.append_nil] at htk
      exact hK (i,j + 1,cur,s) _ ⟨by simp only; omega,by simp only; omega,a3,by simp only; rw [htk]; exact a4,hdj,a6,a7⟩ (by simp only; omega) (Sf.le_refl _)
    | false =>
      rw [if_neg (by simp [he])] at htk
      have hset:=hset (by omega)
      have hset2:aP (rcs flC cur++r) (i * 4) [AV.lit (.int .i64 x.f1),.lit (.int .i64 x.f2),.lit (.int .i64 x.kind),.lit (.bool x.on)] = rcs flC (cur.set i x)++r:=hset
      have hbd:i * 4 + 4≤l.length * 4 + r.length:=by omega
      simp (config:=KF) (disch:=omega) only [bZ,o_un,ixSV,am,aa,unA,cR,↓reduceIte,Nat.reduceEqDiff,Nat.reduceAdd,Nat.reduceLeDiff,reduceCtorEq,a6,hcl,hset2]
      refine hK (i + 1,j + 1,cur.set i x,s.set bi (rcs flC (cur.set i x)++r)) _ ⟨by simp only; omega,by simp only; omega,by simp [a3],?_,?_,cv (bQ a6),a7.trans (Oth.set _ _ _ (by simp))⟩ (by simp only; omega) (Sf.le_refl _)
      ·simp only
       rw [htk,← a4,List.take_set,List.take_succ_eq_append_getElem (show i < cur.length by omega)]
       rw [List.set_append_right _ _ (by rw [List.length_take]; omega)]
       simp [List.length_take,show min i cur.length = i by omega]
      ·simp only
       rw [List.drop_set_of_lt (by omega)]
       exact hdj
   ·rw [decide_eq_false (show ¬ (j:Int) < (l.length:Int) by omega)]
    simp (config:=KF) (disch:=omega) only [bZ,↓reduceIte,Nat.reduceEqDiff,reduceCtorEq]
    refine hKe _ _ _ ?_
    have hjl:j = l.length:=by omega
    subst hjl
    rw [List.take_length] at a4 hil
    have hilt:i≤l.length:=by omega
    have hlt:i < l.length:=by
     rw [hil]
     exact List.length_filter_lt_length_iff_exists.2 ⟨l[k],List.getElem_mem hk,by simpa using hkt⟩
    have hci:(cap = i) = False:=by simp; omega
    simp (config:=KF) (disch:=omega) only [bZ,retI,gU,fm,l8,o_x,eZ,je,au,clrX,sliB,sl3,ixTo,putN,cR,noL_bs,↓reduceIte,Nat.reduceEqDiff,Nat.reduceMul,reduceCtorEq,Nat.sub_zero,if_pos,if_neg,a6,hcl,hci]
    have hz:(AV.agg [.lit (.int .i64 0),.lit (.int .i64 0),.lit (.int .i64 0),.lit (.bool false)]) = rcA flC ⟨0,0,0,false⟩:=rfl
    rw [hz,oS,rcs_clr dY (by omega) (by rw [List.length_replicate,a3]; omega),a4]
    refine hQ _ _ ⟨.inr ⟨bi,cap,rcs flC (List.replicate (l.length - i) ⟨0,0,0,false⟩)++r,?_,cv (bQ a6),by omega,?_⟩,rfl,a7.trans (Oth.set _ _ _ (by simp))⟩
    ·rw [← hil]
    ·simp only [List.length_append,aT dY,List.length_replicate,← hil]
     rw [Nat.sub_mul]
     have:=Nat.mul_le_mul_right 4 hilt
     omega

theorem ixfE_pure {st:St} {ov:AV} {l:List En} {tb:Nat} {f1 f2:Int} {k0:AV} { r0:List AV} (hm:RB enC 12 ov st l) (ht:st.get tb = some (k0::.lit (.int .i64 f1)::.lit (.int .i64 f2)::r0)) (hl:l.length < 100000) :
  aE Go.Proofs.Try.prog n_f57 [ov,.fn (.func n_f70) [] [.ptr tb 0]] st (.lit (.int .i64 (ixI (l.findIdx? (dc f1 f2))))):=by
 refine aD hmix k_f57 rfl rfl fun Q hQ=>?_
 unfold aFun c_f57
 obtain ⟨v1,v2,v3,v4,v5,v6,v7,v8⟩:=hm.facts
 simp (config:=KF) (disch:=omega) only [bZ,b7,↓reduceIte,Nat.reduceEqDiff,reduceCtorEq,v1,v8]
 rw [f57_7w]
 refine b5 (A:=Nat) (fun k=>l.length - k) (fun k=>⟨[(0,ov),(1,.fn (.func n_f70) [] [.ptr tb 0]),(7,.lit (.int .i64 (l.length:Nat))),(8,.lit (.int .i64 (k:Nat)))],[]⟩) (fun _=>st)
  (fun k=>k≤l.length∧∀ j (h:j < l.length),j < k→dc f1 f2 l[j] = false) 0 ⟨Nat.zero_le _,fun _ _ h=>by omega⟩ (Sf.le_refl _) rfl ?_
 rintro k ⟨h1,h2⟩ K hK hKe hKr
 try dsimp only
 simp (config:=KF) (disch:=omega) only [bZ,↓reduceIte,Nat.reduceEqDiff,reduceCtorEq]
 by_cases hk:k < l.length
 ·rw [decide_eq_true (show (k:Int) < (l.length:Int) by omega)]
  rcases hm with ⟨rfl,e⟩ | ⟨bi,cap,r,rfl,hg,h3,h4⟩
  ·subst e; simp at hk
  obtain ⟨t,hd⟩:=eL fH hk r
  have h5:=fun h=>h2 k hk h
  have hop:=mB ht l[k]
  cases he:dc f1 f2 l[k] with
  | true =>
    rw [he] at hop
    have hf:l.findIdx? (dc f1 f2) = some k:=by
     rw [List.findIdx?_eq_some_iff_getElem]
     exact ⟨hk,he,fun j hj=>by simp [h2 j (by omega) hj]⟩
    rw [hf] at hQ
    generalize l[k] = x at hd hop
    have hrd:=ff fH x
    have hrn:(rcA enC x).noL = true:=by unfold rcA enC; simp [bH,cL,eM]
    simp only [kg,List.cons_append,List.nil_append] at hd
    simp (config:=KF) (disch:=omega) only [bZ,ixSV,aa,b7,cR,↓reduceIte,Nat.reduceEqDiff,Nat.reduceLeDiff,reduceCtorEq,hg,hd,aj]
    refine aH (vs:=[rcA enC x,.ptr tb 0]) (by show [(rcA enC x).dis,_] = _; rw [hrd]) e_f70 hop (by show [rcA enC x].all AV.noL = true; simp [hrn]) ?_
    simp (config:=KF) (disch:=omega) only [bZ,↓reduceIte,Nat.reduceEqDiff,reduceCtorEq]
    refine hKr _ _ ?_
    simp (config:=KF) (disch:=omega) only [bZ,retI,↓reduceIte]
    exact hQ _
  | false =>
    rw [he] at hop
    generalize l[k] = x at hd hop
    have hrd:=ff fH x
    have hrn:(rcA enC x).noL = true:=by unfold rcA enC; simp [bH,cL,eM]
    simp only [kg,List.cons_append,List.nil_append] at hd
    simp (config:=KF) (disch:=omega) only [bZ,ixSV,aa,b7,cR,↓reduceIte,Nat.reduceEqDiff,Nat.reduceLeDiff,reduceCtorEq,hg,hd,aj]
    refine aH (vs:=[rcA enC x,.ptr tb 0]) (by show [(rcA enC x).dis,_] = _; rw [hrd]) e_f70 hop (by show [rcA enC x].all AV.noL = true; simp [hrn]) ?_
    simp (config:=KF) (disch:=omega) only [bZ,↓reduceIte,Nat.reduceEqDiff,reduceCtorEq]
    refine hK (k + 1) _ ⟨by omega,fun j hj hjk=>?_⟩ (by omega) (Sf.le_refl _)
    by_cases e:j = k
    ·subst e; exact he
    ·exact h2 j hj (by omega)
 ·rw [decide_eq_false (show ¬ (k:Int) < (l.length:Int) by omega)]
  simp (config:=KF) (disch:=omega) only [bZ,↓reduceIte,Nat.reduceEqDiff,reduceCtorEq]
  refine hKe _ _ _ ?_
  simp (config:=KF) (disch:=omega) only [bZ,retI,↓reduceIte,Int.reduceNeg]
  have:l.findIdx? (dc f1 f2) = none:=by
   rw [List.findIdx?_eq_none_iff]
   intro x hx
   obtain ⟨j,hj,rfl⟩:=List.getElem_of_mem hx
   exact h2 j hj (by omega)
  rw [this] at hQ
  exact hQ _

theorem delFE_calls {st:St} {ov:AV} {l:List En} {tb:Nat} {f1 f2:Int} {k0:AV} { r0:List AV} (hm:RB enC 12 ov st l) (ht:st.get tb = some (k0::.lit (.int .i64 f1)::.lit (.int .i64 f2)::r0)) (htb:tb ∉ ag ov) (hl:l.length < 100000) :
  aG Go.Proofs.Try.prog n_f69 [ov,.fn (.func n_f70) [] [.ptr tb 0]] st (fun r st'=>RB enC 12 r st' (l.filter fun x=>!dc f1 f2 x)∧ag r = ag ov∧Oth st st' (ag ov)):=by
 refine a8 hmix k_f69 rfl rfl fun Q hQ=>?_
 unfold aFun c_f69
 obtain ⟨v1,v2,v3,v4,v5,v6,v7,v8⟩:=hm.facts
 simp (config:=KF) (disch:=omega) only [bZ,id,b7,↓reduceIte,Nat.reduceEqDiff,reduceCtorEq,v1]
 refine aH (vs:=[ov,.fn (.func n_f70) [] [.ptr tb 0]]) (by simp [v1]; rfl) e_f57 (ixfE_pure hm ht hl) (by simp [v5]; rfl) ?_
 cases hf:l.findIdx? (dc f1 f2) with
 | none =>
   simp (config:=KF) (disch:=omega) only [bZ,retI,↓reduceIte,Nat.reduceEqDiff,Int.reduceNeg,reduceCtorEq,ixI,v1,v5]
   have:l.filter (fun x=>!dc f1 f2 x) = l:=by
    rw [List.filter_eq_self]
    intro x hx
    have:=List.findIdx?_eq_none_iff.1 hf x hx
    simpa using this
   exact hQ _ _ ⟨by rw [this]; exact hm,rfl,Oth.refl _ _⟩
 | some k =>
   obtain ⟨hk,hkt,hbef⟩:=List.findIdx?_eq_some_iff_getElem.1 hf
   have hne:((k:Int) = -1) = False:=by simp <;> omega
   rcases hm with ⟨rfl,e⟩ | ⟨bi,cap,r,rfl,hg,h3,h4⟩
   ·subst e; simp at hk
   have hbl:=bQ hg
   simp only [ag,List.mem_singleton] at htb
   rw [List.length_append,aT fH] at h4
   simp (config:=KF) (disch:=omega) only [bZ,↓reduceIte,Nat.reduceEqDiff,Int.reduceNeg,reduceCtorEq,decide_false,ixI,hne]
   rw [f69_15w]
   refine b5 (A:=Nat×Nat×List En×St) (fun a=>l.length - a.2.1) (fun a=>⟨[(0,.bs bi 12 0 l.length cap),(1,.fn (.func n_f70) [] [.ptr tb 0]),(5,.lit (.int .i64 (a.1:Nat))),(6,.lit (.int .i64 (a.2.1:Nat)))],[]⟩) (fun a=>a.2.2.2)
    (fun a=>a.1≤a.2.1∧a.2.1≤l.length∧a.2.2.1.length = l.length∧a.2.2.1.take a.1 = (l.take a.2.1).filter (fun x=>!dc f1 f2 x)∧a.2.2.1.drop a.2.1 = l.drop a.2.1∧a.2.2.2.get bi = some (rcs enC a.2.2.1++r)∧Oth st a.2.2.2 [bi])
    (k,k + 1,l,st) ⟨by simp,by simp; omega,rfl,?_,rfl,hg,Oth.refl _ _⟩ (Sf.le_refl _) rfl ?_
   ·simp only
    rw [List.take_succ_eq_append_getElem hk,List.filter_append,List.filter_cons]
    have:(l.take k).filter (fun x=>!dc f1 f2 x) = l.take k:=by
     rw [List.filter_eq_self]
     intro x hx
     obtain ⟨j,hj,rfl⟩:=List.getElem_of_mem hx
     rw [List.length_take] at hj
     have:=hbef j (by omega)
     rw [List.getElem_take]
     simpa using this
    rw [this]
    simp [hkt]
   rintro ⟨i,j,cur,s⟩ ⟨a1,a2,a3,a4,a5,a6,a7⟩ K hK hKe hKr
   simp only at a1 a2 a3 a4 a5 a6 a7
   dsimp only
   have hcl:(rcs enC cur++r).length = l.length * 12 + r.length:=by rw [List.length_append,aT fH,a3]
   have hts:s.get tb = some (k0::.lit (.int .i64 f1)::.lit (.int .i64 f2)::r0):=(a7.get (by simp; omega)).trans ht
   have hil:i = ((l.take j).filter (fun x=>!dc f1 f2 x)).length:=by rw [← a4,List.length_take,a3]; omega
   simp (config:=KF) (disch:=omega) only [bZ,lenI,cR,↓reduceIte,Nat.reduceEqDiff,reduceCtorEq]
   by_cases hj:j < l.length
   ·rw [decide_eq_true (show (j:Int) < (l.length:Int) by omega)]
    have hcj:cur[j]'(by omega) = l[j]:=by
     have h1:(cur.drop j)[0]? = (l.drop j)[0]?:=by rw [a5]
     rw [List.getElem?_drop,List.getElem?_drop,Nat.add_zero,List.getElem?_eq_getElem (by omega),List.getElem?_eq_getElem hj] at h1
     exact Option.some.inj h1
    obtain ⟨t,hd⟩:=eL fH (l:=cur) (j:=j) (by omega) r
    rw [hcj] at hd
    have htk:(l.take (j + 1)).filter (fun x=>!dc f1 f2 x) = (l.take j).filter (fun x=>!dc f1 f2 x)++if dc f1 f2 l[j] = true then [] else [l[j]]:=by
     rw [List.take_succ_eq_append_getElem hj,List.filter_append,List.filter_cons]
     by_cases e:dc f1 f2 l[j] = true <;> simp [e]
    have hdj:cur.drop (j + 1) = l.drop (j + 1):=by
     have:=congrArg (List.drop 1) a5
     rwa [List.drop_drop,List.drop_drop] at this
    have hop:=mB hts l[j]
    have hrd:=ff fH l[j]
    have hrn:(rcA enC l[j]).noL = true:=by unfold rcA enC; simp [bH,cL,eM]
    have hset:=fun (hi:i < cur.length)=>rcs_set fH hi l[j] r
    generalize l[j] = x at hd hop hrd hrn htk hset
    simp only [kg,List.cons_append,List.nil_append] at hd
    simp (config:=KF) (disch:=omega) only [bZ,ixSV,am,aa,b7,cR,kill_fn,gW,↓reduceIte,Nat.reduceEqDiff,Nat.reduceAdd,Nat.reduceLeDiff,reduceCtorEq,ae,a6,hd,aj,ak]
    refine aH (vs:=[rcA enC x,.ptr tb 0]) (by show [(rcA enC x).dis,_] = _; rw [hrd]) e_f70 hop (by show [rcA enC x].all AV.noL = true; simp [hrn]) ?_
    cases he:dc f1 f2 x with
    | true =>
      simp (config:=KF) (disch:=omega) only [bZ,o_un,unA,↓reduceIte,Nat.reduceEqDiff,reduceCtorEq]
      rw [if_pos he,List.append_nil] at htk
      exact hK (i,j + 1,cur,s) _ ⟨by simp only; omega,by simp only; omega,a3,by simp only; rw [htk]; exact a4,hdj,a6,a7⟩ (by simp only; omega) (Sf.le_refl _)
    | false =>
      rw [if_neg (by simp [he])] at htk
      have hset:=hset (by omega)
      have hset2:aP (rcs enC cur++r) (i * 12) [AV.lit (.int .i64 x.task),.lit (.int .i64 x.kind),.lit (.int .i64 x.err),.lit (.int .i64 x.n),x.data.v,.lit (.int .i64 x.f1),.lit (.int .i64 x.f2),.lit (.int .i64 x.t1),.lit (.int .i64 x.t2),.lit (.string x.nm),.lit (.int .i64 x.port),.lit (.int .u64 (x.at_:Nat))] = rcs enC (cur.set i x)++r:=hset
      have hbd:i * 12 + 12≤l.length * 12 + r.length:=by omega
      simp (config:=KF) (disch:=omega) only [bZ,o_un,ixSV,am,aa,unA,cR,↓reduceIte,Nat.reduceEqDiff,Nat.reduceAdd,Nat.reduceLeDiff,reduceCtorEq,a6,hcl,hset2,aj,ak]
      refine hK (i + 1,j + 1,cur.set i x,s.set bi (rcs enC (cur.set i x)++r)) _ ⟨by simp only; omega,by simp only; omega,by simp [a3],?_,?_,cv (bQ a6),a7.trans (Oth.set _ _ _ (by simp))⟩ (by simp only; omega) (Sf.le_refl _)
      ·simp only
       rw [htk,← a4,List.take_set,List.take_succ_eq_append_getElem (show i < cur.length by omega)]
       rw [List.set_append_right _ _ (by rw [List.length_take]; omega)]
       simp [List.length_take,show min i cur.length = i by omega]
      ·simp only
       rw [List.drop_set_of_lt (by omega)]
       exact hdj
   ·rw [decide_eq_false (show ¬ (j:Int) < (l.length:Int) by omega)]
    simp (config:=KF) (disch:=omega) only [bZ,↓reduceIte,Nat.reduceEqDiff,reduceCtorEq]
    refine hKe _ _ _ ?_
    have hjl:j = l.length:=by omega
    subst hjl
    rw [List.take_length] at a4 hil
    have hilt:i≤l.length:=by omega
    have hlt:i < l.length:=by
     rw [hil]
     exact List.length_filter_lt_length_iff_exists.2 ⟨l[k],List.getElem_mem hk,by simpa using hkt⟩
    have hci:(cap = i) = False:=by simp; omega
    simp (config:=KF) (disch:=omega) only [bZ,retI,gU,fm,l8,o_x,eZ,je,au,clrX,sliB,sl3,ixTo,putN,cR,noL_bs,↓reduceIte,Nat.reduceEqDiff,Nat.reduceMul,reduceCtorEq,Nat.sub_zero,if_pos,if_neg,a6,hcl,hci]
    have hz:(AV.agg [.lit (.int .i64 0),.lit (.int .i64 0),.lit (.int .i64 0),.lit (.int .i64 0),.lit (.slice none 0 0),.lit (.int .i64 0),.lit (.int .i64 0),.lit (.int .i64 0),.lit (.int .i64 0),.lit (.string ⟨#[]⟩),.lit (.int .i64 0),.lit (.int .u64 0)]) = rcA enC ⟨0,0,0,0,fv0,0,0,0,0,⟨#[]⟩,0,0⟩:=rfl
    rw [hz,oS,rcs_clr fH (by omega) (by rw [List.length_replicate,a3]; omega),a4]
    refine hQ _ _ ⟨.inr ⟨bi,cap,rcs enC (List.replicate (l.length - i) ⟨0,0,0,0,fv0,0,0,0,0,⟨#[]⟩,0,0⟩)++r,?_,cv (bQ a6),by omega,?_⟩,rfl,a7.trans (Oth.set _ _ _ (by simp))⟩
    ·rw [← hil]
    ·simp only [List.length_append,aT fH,List.length_replicate,← hil]
     rw [Nat.sub_mul]
     have:=Nat.mul_le_mul_right 12 hilt
     omega
end Go.Fx.YtgnockaonokmaaaFx

