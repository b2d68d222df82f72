/- What the functions that the statement reaches compute: part 2. -/
import Derived.Test.YtgnockaonokmaaaFxW1
namespace Go.Fx.YtgnockaonokmaaaFx
open Go Go.Fx
attribute [local irreducible] aC runI az bj

set_option maxRecDepth 100000
set_option maxHeartbeats 4000000

theorem ixfF_pure {st:St} {ov:AV} {l:List Fl} {tb:Nat} {f1 f2:Int} { r0:List AV} (hm:RB flC 4 ov st l) (ht:st.get tb = some (.lit (.int .i64 f1)::.lit (.int .i64 f2)::r0)) (hl:l.length < 100000) :
  aI Go.Proofs.Try.prog n_f85 [ov,.fn (.func n_f79) [] [.ptr tb 0]] st (.lit (.int .i64 (ixI (l.findIdx? (bJ f1 f2))))):=by
 refine aP hmix k_f85 rfl rfl fun Q hQ=>?_
 unfold aFun c_f85
 obtain ⟨v1,v2,v3,v4,v5,v6,v7,v8⟩:=hm.facts
 simp (config:=KF) (disch:=omega) only [bZ,b5,↓reduceIte,Nat.reduceEqDiff,reduceCtorEq,v1,v8]
 rw [f85_7w]
 refine cJ (A:=Nat) (fun k=>l.length - k) (fun k=>⟨[(0,ov),(1,.fn (.func n_f79) [] [.ptr tb 0]),(7,.lit (.int .i64 (l.length:Nat))),(8,.lit (.int .i64 (k:Nat)))],[]⟩) (fun _=>st)
  (fun k=>k≤l.length∧∀ j (h:j < l.length),j < k→bJ f1 f2 l[j] = false) 0 ⟨Nat.zero_le _,fun _ _ h=>by omega⟩ (Sf.le_refl _) rfl ?_
 rintro k ⟨h1,h2⟩ K hK hKe hKr
 try dsimp only
 simp (config:=KF) (disch:=omega) only [bZ,↓reduceIte,Nat.reduceEqDiff,reduceCtorEq]
 by_cases hk:k < l.length
 ·rw [decide_eq_true (show (k:Int) < (l.length:Int) by omega)]
  rcases hm with ⟨rfl,e⟩ | ⟨bi,cap,r,rfl,hg,h3,h4⟩
  ·subst e; simp at hk
  obtain ⟨t,hd⟩:=eF dR hk r
  have h5:=fun h=>h2 k hk h
  have hop:=me ht l[k]
  cases he:bJ f1 f2 l[k] with
  | true =>
    rw [he] at hop
    have hf:l.findIdx? (bJ f1 f2) = some k:=by
     rw [List.findIdx?_eq_some_iff_getElem]
     exact ⟨hk,he,fun j hj=>by simp [h2 j (by omega) hj]⟩
    rw [hf] at hQ
    generalize l[k] = x at hd hop
    have hrd:=e7 dR x
    have hrn:(rcA flC x).noL = true:=by unfold rcA flC; simp [bG,cI,eG]
    simp only [gG,List.cons_append,List.nil_append] at hd
    simp (config:=KF) (disch:=omega) only [bZ,b9,ixSV,aa,b5,cP,↓reduceIte,Nat.reduceEqDiff,Nat.reduceLeDiff,reduceCtorEq,hg,hd]
    refine aQ (vs:=[rcA flC x,.ptr tb 0]) (by show [(rcA flC x).dis,_] = _; rw [hrd]) e_f79 hop (by show [rcA flC x].all AV.noL = true; simp [hrn]) ?_
    simp (config:=KF) (disch:=omega) only [bZ,aD,↓reduceIte,Nat.reduceEqDiff,reduceCtorEq]
    refine hKr _ _ ?_
    simp (config:=KF) (disch:=omega) only [bZ,aD,retI,↓reduceIte]
    exact hQ _
  | false =>
    rw [he] at hop
    generalize l[k] = x at hd hop
    have hrd:=e7 dR x
    have hrn:(rcA flC x).noL = true:=by unfold rcA flC; simp [bG,cI,eG]
    simp only [gG,List.cons_append,List.nil_append] at hd
    simp (config:=KF) (disch:=omega) only [bZ,b9,ixSV,aa,b5,cP,↓reduceIte,Nat.reduceEqDiff,Nat.reduceLeDiff,reduceCtorEq,hg,hd]
    refine aQ (vs:=[rcA flC x,.ptr tb 0]) (by show [(rcA flC x).dis,_] = _; rw [hrd]) e_f79 hop (by show [rcA flC x].all AV.noL = true; simp [hrn]) ?_
    simp (config:=KF) (disch:=omega) only [bZ,↓reduceIte,Nat.reduceEqDiff,reduceCtorEq,aR]
    refine hK (k + 1) _ ⟨by omega,fun j hj hjk=>?_⟩ (by omega) (Sf.le_refl _)
    by_cases e:j = k
    ·subst e; exact he
    ·exact h2 j hj (by omega)
 ·rw [decide_eq_false (show ¬ (k:Int) < (l.length:Int) by omega)]
  simp (config:=KF) (disch:=omega) only [bZ,↓reduceIte,Nat.reduceEqDiff,reduceCtorEq]
  refine hKe _ _ _ ?_
  simp (config:=KF) (disch:=omega) only [bZ,retI,↓reduceIte,Int.reduceNeg]
  have:l.findIdx? (bJ f1 f2) = none:=by
   rw [List.findIdx?_eq_none_iff]
   intro x hx
   obtain ⟨j,hj,rfl⟩:=List.getElem_of_mem hx
   exact h2 j hj (by omega)
  rw [this] at hQ
  exact hQ _

theorem delFF_calls {st:St} {ov:AV} {l:List Fl} {tb:Nat} {f1 f2:Int} { r0:List AV} (hm:RB flC 4 ov st l) (ht:st.get tb = some (.lit (.int .i64 f1)::.lit (.int .i64 f2)::r0)) (htb:tb ∉ ae ov) (hl:l.length < 100000) :
  aF Go.Proofs.Try.prog n_f78 [ov,.fn (.func n_f79) [] [.ptr tb 0]] st (fun r st'=>RB flC 4 r st' (l.filter fun x=>!bJ f1 f2 x)∧ae r = ae ov∧Oth st st' (ae ov)):=by
 refine a8 hmix k_f78 rfl rfl fun Q hQ=>?_
 unfold aFun c_f78
 obtain ⟨v1,v2,v3,v4,v5,v6,v7,v8⟩:=hm.facts
 simp (config:=KF) (disch:=omega) only [bZ,id,b5,↓reduceIte,Nat.reduceEqDiff,reduceCtorEq,v1]
 refine aQ (vs:=[ov,.fn (.func n_f79) [] [.ptr tb 0]]) (by simp [v1]; rfl) e_f85 (ixfF_pure hm ht hl) (by simp [v5]; rfl) ?_
 cases hf:l.findIdx? (bJ f1 f2) with
 | none =>
   simp (config:=KF) (disch:=omega) only [bZ,retI,↓reduceIte,Nat.reduceEqDiff,Int.reduceNeg,reduceCtorEq,ixI,v1,v5]
   have:l.filter (fun x=>!bJ f1 f2 x) = l:=by
    rw [List.filter_eq_self]
    intro x hx
    have:=List.findIdx?_eq_none_iff.1 hf x hx
    simpa using this
   exact hQ _ _ ⟨by rw [this]; exact hm,rfl,Oth.refl _ _⟩
 | some k =>
   obtain ⟨hk,hkt,hbef⟩:=List.findIdx?_eq_some_iff_getElem.1 hf
   have hne:((k:Int) = -1) = False:=by simp <;> omega
   rcases hm with ⟨rfl,e⟩ | ⟨bi,cap,r,rfl,hg,h3,h4⟩
   ·subst e; simp at hk
   have hbl:=bP hg
   simp only [ae,List.mem_singleton] at htb
   rw [List.length_append,aV dR] at h4
   simp (config:=KF) (disch:=omega) only [bZ,↓reduceIte,Nat.reduceEqDiff,Int.reduceNeg,reduceCtorEq,decide_false,aR,ixI,hne]
   rw [f78_15w]
   refine cJ (A:=Nat×Nat×List Fl×St) (fun a=>l.length - a.2.1) (fun a=>⟨[(0,.bs bi 4 0 l.length cap),(1,.fn (.func n_f79) [] [.ptr tb 0]),(5,.lit (.int .i64 (a.1:Nat))),(6,.lit (.int .i64 (a.2.1:Nat)))],[]⟩) (fun a=>a.2.2.2)
    (fun a=>a.1≤a.2.1∧a.2.1≤l.length∧a.2.2.1.length = l.length∧a.2.2.1.take a.1 = (l.take a.2.1).filter (fun x=>!bJ f1 f2 x)∧a.2.2.1.drop a.2.1 = l.drop a.2.1∧a.2.2.2.get bi = some (rcs flC a.2.2.1++r)∧Oth st a.2.2.2 [bi])
    (k,k + 1,l,st) ⟨by simp,by simp; omega,rfl,?_,rfl,hg,Oth.refl _ _⟩ (Sf.le_refl _) rfl ?_
   ·simp only
    rw [List.take_succ_eq_append_getElem hk,List.filter_append,List.filter_cons]
    have:(l.take k).filter (fun x=>!bJ f1 f2 x) = l.take k:=by
     rw [List.filter_eq_self]
     intro x hx
     obtain ⟨j,hj,rfl⟩:=List.getElem_of_mem hx
     rw [List.length_take] at hj
     have:=hbef j (by omega)
     rw [List.getElem_take]
     simpa using this
    rw [this]
    simp [hkt]
   rintro ⟨i,j,cur,s⟩ ⟨a1,a2,a3,a4,a5,a6,a7⟩ K hK hKe hKr
   simp only at a1 a2 a3 a4 a5 a6 a7
   dsimp only
   have hcl:(rcs flC cur++r).length = l.length * 4 + r.length:=by rw [List.length_append,aV dR,a3]
   have hts:s.get tb = some (.lit (.int .i64 f1)::.lit (.int .i64 f2)::r0):=(a7.get (by simp; omega)).trans ht
   have hil:i = ((l.take j).filter (fun x=>!bJ f1 f2 x)).length:=by rw [← a4,List.length_take,a3]; omega
   simp (config:=KF) (disch:=omega) only [bZ,lenI,cP,↓reduceIte,Nat.reduceEqDiff,reduceCtorEq]
   by_cases hj:j < l.length
   ·rw [decide_eq_true (show (j:Int) < (l.length:Int) by omega)]
    have hcj:cur[j]'(by omega) = l[j]:=by
     have h1:(cur.drop j)[0]? = (l.drop j)[0]?:=by rw [a5]
     rw [List.getElem?_drop,List.getElem?_drop,Nat.add_zero,List.getElem?_eq_getElem (by omega),List.getElem?_eq_getElem hj] at h1
     exact Option.some.inj h1
    obtain ⟨t,hd⟩:=eF dR (l:=cur) (j:=j) (by omega) r
    rw [hcj] at hd
    have htk:(l.take (j + 1)).filter (fun x=>!bJ f1 f2 x) = (l.take j).filter (fun x=>!bJ f1 f2 x)++if bJ f1 f2 l[j] = true then [] else [l[j]]:=by
     rw [List.take_succ_eq_append_getElem hj,List.filter_append,List.filter_cons]
     by_cases e:bJ f1 f2 l[j] = true <;> simp [e]
    have hdj:cur.drop (j + 1) = l.drop (j + 1):=by
     have:=congrArg (List.drop 1) a5
     rwa [List.drop_drop,List.drop_drop] at this
    have hop:=me hts l[j]
    have hrd:=e7 dR l[j]
    have hrn:(rcA flC l[j]).noL = true:=by unfold rcA flC; simp [bG,cI,eG]
    have hset:=fun (hi:i < cur.length)=>rcs_set dR hi l[j] r
    generalize l[j] = x at hd hop hrd hrn htk hset
    simp only [gG,List.cons_append,List.nil_append] at hd
    simp (config:=KF) (disch:=omega) only [bZ,b9,bw,ixSV,aw,aa,b5,cP,kill_fn,gW,↓reduceIte,Nat.reduceEqDiff,Nat.reduceAdd,Nat.reduceLeDiff,reduceCtorEq,ai,a6,hd]
    refine aQ (vs:=[rcA flC x,.ptr tb 0]) (by show [(rcA flC x).dis,_] = _; rw [hrd]) e_f79 hop (by show [rcA flC x].all AV.noL = true; simp [hrn]) ?_
    cases he:bJ f1 f2 x with
    | true =>
      simp (config:=KF) (disch:=omega) only [bZ,o_un,unA,↓reduceIte,Nat.reduceEqDiff,reduceCtorEq,aR]
      rw [if_pos he,List.append_nil] at htk
      exact hK (i,j + 1,cur,s) _ ⟨by simp only; omega,by simp only; omega,a3,by simp only; rw [htk]; exact a4,hdj,a6,a7⟩ (by simp only; omega) (Sf.le_refl _)
    | false =>
      rw [if_neg (by simp [he])] at htk
      have hset:=hset (by omega)
      have hset2:aS (rcs flC cur++r) (i * 4) [AV.lit (.int .i64 x.f1),.lit (.int .i64 x.f2),.lit (.int .i64 x.kind),.lit (.bool x.on)] = rcs flC (cur.set i x)++r:=hset
      have hbd:i * 4 + 4≤l.length * 4 + r.length:=by omega
      simp (config:=KF) (disch:=omega) only [bZ,o_un,b9,ixSV,aw,aa,unA,cP,↓reduceIte,Nat.reduceEqDiff,Nat.reduceAdd,Nat.reduceLeDiff,reduceCtorEq,aR,a6,hcl,hset2]
      refine hK (i + 1,j + 1,cur.set i x,s.set bi (rcs flC (cur.set i x)++r)) _ ⟨by simp only; omega,by simp only; omega,by simp [a3],?_,?_,cr (bP a6),a7.trans (Oth.set _ _ _ (by simp))⟩ (by simp only; omega) (Sf.le_refl _)
      ·simp only
       rw [htk,← a4,List.take_set,List.take_succ_eq_append_getElem (show i < cur.length by omega)]
       rw [List.set_append_right _ _ (by rw [List.length_take]; omega)]
       simp [List.length_take,show min i cur.length = i by omega]
      ·simp only
       rw [List.drop_set_of_lt (by omega)]
       exact hdj
   ·rw [decide_eq_false (show ¬ (j:Int) < (l.length:Int) by omega)]
    simp (config:=KF) (disch:=omega) only [bZ,↓reduceIte,Nat.reduceEqDiff,reduceCtorEq]
    refine hKe _ _ _ ?_
    have hjl:j = l.length:=by omega
    subst hjl
    rw [List.take_length] at a4 hil
    have hilt:i≤l.length:=by omega
    have hlt:i < l.length:=by
     rw [hil]
     exact List.length_filter_lt_length_iff_exists.2 ⟨l[k],List.getElem_mem hk,by simpa using hkt⟩
    have hci:(cap = i) = False:=by simp; omega
    simp (config:=KF) (disch:=omega) only [bZ,retI,gU,fc,lO,o_x,eS,i8,ar,clrX,sliB,sl3,ixTo,putN,cP,noL_bs,↓reduceIte,Nat.reduceEqDiff,Nat.reduceMul,reduceCtorEq,Nat.sub_zero,if_pos,if_neg,a6,hcl,hci]
    have hz:(AV.agg [.lit (.int .i64 0),.lit (.int .i64 0),.lit (.int .i64 0),.lit (.bool false)]) = rcA flC ⟨0,0,0,false⟩:=rfl
    rw [hz,ol,rcs_clr dR (by omega) (by rw [List.length_replicate,a3]; omega),a4]
    refine hQ _ _ ⟨.inr ⟨bi,cap,rcs flC (List.replicate (l.length - i) ⟨0,0,0,false⟩)++r,?_,cr (bP a6),by omega,?_⟩,rfl,a7.trans (Oth.set _ _ _ (by simp))⟩
    ·rw [← hil]
    ·simp only [List.length_append,aV dR,List.length_replicate,← hil]
     rw [Nat.sub_mul]
     have:=Nat.mul_le_mul_right 4 hilt
     omega

theorem ixfE_pure {st:St} {ov:AV} {l:List En} {tb:Nat} {f1 f2:Int} {k0:AV} { r0:List AV} (hm:RB enC 12 ov st l) (ht:st.get tb = some (k0::.lit (.int .i64 f1)::.lit (.int .i64 f2)::r0)) (hl:l.length < 100000) :
  aI Go.Proofs.Try.prog n_f57 [ov,.fn (.func n_f70) [] [.ptr tb 0]] st (.lit (.int .i64 (ixI (l.findIdx? (c9 f1 f2))))):=by
 refine aP hmix k_f57 rfl rfl fun Q hQ=>?_
 unfold aFun c_f57
 obtain ⟨v1,v2,v3,v4,v5,v6,v7,v8⟩:=hm.facts
 simp (config:=KF) (disch:=omega) only [bZ,b5,↓reduceIte,Nat.reduceEqDiff,reduceCtorEq,v1,v8]
 rw [f57_7w]
 refine cJ (A:=Nat) (fun k=>l.length - k) (fun k=>⟨[(0,ov),(1,.fn (.func n_f70) [] [.ptr tb 0]),(7,.lit (.int .i64 (l.length:Nat))),(8,.lit (.int .i64 (k:Nat)))],[]⟩) (fun _=>st)
  (fun k=>k≤l.length∧∀ j (h:j < l.length),j < k→c9 f1 f2 l[j] = false) 0 ⟨Nat.zero_le _,fun _ _ h=>by omega⟩ (Sf.le_refl _) rfl ?_
 rintro k ⟨h1,h2⟩ K hK hKe hKr
 try dsimp only
 simp (config:=KF) (disch:=omega) only [bZ,↓reduceIte,Nat.reduceEqDiff,reduceCtorEq]
 by_cases hk:k < l.length
 ·rw [decide_eq_true (show (k:Int) < (l.length:Int) by omega)]
  rcases hm with ⟨rfl,e⟩ | ⟨bi,cap,r,rfl,hg,h3,h4⟩
  ·subst e; simp at hk
  obtain ⟨t,hd⟩:=eF fF hk r
  have h5:=fun h=>h2 k hk h
  have hop:=mf ht l[k]
  cases he:c9 f1 f2 l[k] with
  | true =>
    rw [he] at hop
    have hf:l.findIdx? (c9 f1 f2) = some k:=by
     rw [List.findIdx?_eq_some_iff_getElem]
     exact ⟨hk,he,fun j hj=>by simp [h2 j (by omega) hj]⟩
    rw [hf] at hQ
    generalize l[k] = x at hd hop
    have hrd:=e7 fF x
    have hrn:(rcA enC x).noL = true:=by unfold rcA enC; simp [bG,cI,eG]
    simp only [j8,List.cons_append,List.nil_append] at hd
    simp (config:=KF) (disch:=omega) only [bZ,b9,ixSV,aa,b5,cP,↓reduceIte,Nat.reduceEqDiff,Nat.reduceLeDiff,reduceCtorEq,hg,hd,ak]
    refine aQ (vs:=[rcA enC x,.ptr tb 0]) (by show [(rcA enC x).dis,_] = _; rw [hrd]) e_f70 hop (by show [rcA enC x].all AV.noL = true; simp [hrn]) ?_
    simp (config:=KF) (disch:=omega) only [bZ,aD,↓reduceIte,Nat.reduceEqDiff,reduceCtorEq]
    refine hKr _ _ ?_
    simp (config:=KF) (disch:=omega) only [bZ,aD,retI,↓reduceIte]
    exact hQ _
  | false =>
    rw [he] at hop
    generalize l[k] = x at hd hop
    have hrd:=e7 fF x
    have hrn:(rcA enC x).noL = true:=by unfold rcA enC; simp [bG,cI,eG]
    simp only [j8,List.cons_append,List.nil_append] at hd
    simp (config:=KF) (disch:=omega) only [bZ,b9,ixSV,aa,b5,cP,↓reduceIte,Nat.reduceEqDiff,Nat.reduceLeDiff,reduceCtorEq,hg,hd,ak]
    refine aQ (vs:=[rcA enC x,.ptr tb 0]) (by show [(rcA enC x).dis,_] = _; rw [hrd]) e_f70 hop (by show [rcA enC x].all AV.noL = true; simp [hrn]) ?_
    simp (config:=KF) (disch:=omega) only [bZ,↓reduceIte,Nat.reduceEqDiff,reduceCtorEq,aR]
    refine hK (k + 1) _ ⟨by omega,fun j hj hjk=>?_⟩ (by omega) (Sf.le_refl _)
    by_cases e:j = k
    ·subst e; exact he
    ·exact h2 j hj (by omega)
 ·rw [decide_eq_false (show ¬ (k:Int) < (l.length:Int) by omega)]
  simp (config:=KF) (disch:=omega) only [bZ,↓reduceIte,Nat.reduceEqDiff,reduceCtorEq]
  refine hKe _ _ _ ?_
  simp (config:=KF) (disch:=omega) only [bZ,retI,↓reduceIte,Int.reduceNeg]
  have:l.findIdx? (c9 f1 f2) = none:=by
   rw [List.findIdx?_eq_none_iff]
   intro x hx
   obtain ⟨j,hj,rfl⟩:=List.getElem_of_mem hx
   exact h2 j hj (by omega)
  rw [this] at hQ
  exact hQ _

theorem delFE_calls {st:St} {ov:AV} {l:List En} {tb:Nat} {f1 f2:Int} {k0:AV} { r0:List AV} (hm:RB enC 12 ov st l) (ht:st.get tb = some (k0::.lit (.int .i64 f1)::.lit (.int .i64 f2)::r0)) (htb:tb ∉ ae ov) (hl:l.length < 100000) :
  aF Go.Proofs.Try.prog n_f69 [ov,.fn (.func n_f70) [] [.ptr tb 0]] st (fun r st'=>RB enC 12 r st' (l.filter fun x=>!c9 f1 f2 x)∧ae r = ae ov∧Oth st st' (ae ov)):=by
 refine a8 hmix k_f69 rfl rfl fun Q hQ=>?_
 unfold aFun c_f69
 obtain ⟨v1,v2,v3,v4,v5,v6,v7,v8⟩:=hm.facts
 simp (config:=KF) (disch:=omega) only [bZ,id,b5,↓reduceIte,Nat.reduceEqDiff,reduceCtorEq,v1]
 refine aQ (vs:=[ov,.fn (.func n_f70) [] [.ptr tb 0]]) (by simp [v1]; rfl) e_f57 (ixfE_pure hm ht hl) (by simp [v5]; rfl) ?_
 cases hf:l.findIdx? (c9 f1 f2) with
 | none =>
   simp (config:=KF) (disch:=omega) only [bZ,retI,↓reduceIte,Nat.reduceEqDiff,Int.reduceNeg,reduceCtorEq,ixI,v1,v5]
   have:l.filter (fun x=>!c9 f1 f2 x) = l:=by
    rw [List.filter_eq_self]
    intro x hx
    have:=List.findIdx?_eq_none_iff.1 hf x hx
    simpa using this
   exact hQ _ _ ⟨by rw [this]; exact hm,rfl,Oth.refl _ _⟩
 | some k =>
   obtain ⟨hk,hkt,hbef⟩:=List.findIdx?_eq_some_iff_getElem.1 hf
   have hne:((k:Int) = -1) = False:=by simp <;> omega
   rcases hm with ⟨rfl,e⟩ | ⟨bi,cap,r,rfl,hg,h3,h4⟩
   ·subst e; simp at hk
   have hbl:=bP hg
   simp only [ae,List.mem_singleton] at htb
   rw [List.length_append,aV fF] at h4
   simp (config:=KF) (disch:=omega) only [bZ,↓reduceIte,Nat.reduceEqDiff,Int.reduceNeg,reduceCtorEq,decide_false,aR,ixI,hne]
   rw [f69_15w]
   refine cJ (A:=Nat×Nat×List En×St) (fun a=>l.length - a.2.1) (fun a=>⟨[(0,.bs bi 12 0 l.length cap),(1,.fn (.func n_f70) [] [.ptr tb 0]),(5,.lit (.int .i64 (a.1:Nat))),(6,.lit (.int .i64 (a.2.1:Nat)))],[]⟩) (fun a=>a.2.2.2)
    (fun a=>a.1≤a.2.1∧a.2.1≤l.length∧a.2.2.1.length = l.length∧a.2.2.1.take a.1 = (l.take a.2.1).filter (fun x=>!c9 f1 f2 x)∧a.2.2.1.drop a.2.1 = l.drop a.2.1∧a.2.2.2.get bi = some (rcs enC a.2.2.1++r)∧Oth st a.2.2.2 [bi])
    (k,k + 1,l,st) ⟨by simp,by simp; omega,rfl,?_,rfl,hg,Oth.refl _ _⟩ (Sf.le_refl _) rfl ?_
   ·simp only
    rw [List.take_succ_eq_append_getElem hk,List.filter_append,List.filter_cons]
    have:(l.take k).filter (fun x=>!c9 f1 f2 x) = l.take k:=by
     rw [List.filter_eq_self]
     intro x hx
     obtain ⟨j,hj,rfl⟩:=List.getElem_of_mem hx
     rw [List.length_take] at hj
     have:=hbef j (by omega)
     rw [List.getElem_take]
     simpa using this
    rw [this]
    simp [hkt]
   rintro ⟨i,j,cur,s⟩ ⟨a1,a2,a3,a4,a5,a6,a7⟩ K hK hKe hKr
   simp only at a1 a2 a3 a4 a5 a6 a7
   dsimp only
   have hcl:(rcs enC cur++r).length = l.length * 12 + r.length:=by rw [List.length_append,aV fF,a3]
   have hts:s.get tb = some (k0::.lit (.int .i64 f1)::.lit (.int .i64 f2)::r0):=(a7.get (by simp; omega)).trans ht
   have hil:i = ((l.take j).filter (fun x=>!c9 f1 f2 x)).length:=by rw [← a4,List.length_take,a3]; omega
   simp (config:=KF) (disch:=omega) only [bZ,lenI,cP,↓reduceIte,Nat.reduceEqDiff,reduceCtorEq]
   by_cases hj:j < l.length
   ·rw [decide_eq_true (show (j:Int) < (l.length:Int) by omega)]
    have hcj:cur[j]'(by omega) = l[j]:=by
     have h1:(cur.drop j)[0]? = (l.drop j)[0]?:=by rw [a5]
     rw [List.getElem?_drop,List.getElem?_drop,Nat.add_zero,List.getElem?_eq_getElem (by omega),List.getElem?_eq_getElem hj] at h1
     exact Option.some.inj h1
    obtain ⟨t,hd⟩:=eF fF (l:=cur) (j:=j) (by omega) r
    rw [hcj] at hd
    have htk:(l.take (j + 1)).filter (fun x=>!c9 f1 f2 x) = (l.take j).filter (fun x=>!c9 f1 f2 x)++if c9 f1 f2 l[j] = true then [] else [l[j]]:=by
     rw [List.take_succ_eq_append_getElem hj,List.filter_append,List.filter_cons]
     by_cases e:c9 f1 f2 l[j] = true <;> simp [e]
    have hdj:cur.drop (j + 1) = l.drop (j + 1):=by
     have:=congrArg (List.drop 1) a5
     rwa [List.drop_drop,List.drop_drop] at this
    have hop:=mf hts l[j]
    have hrd:=e7 fF l[j]
    have hrn:(rcA enC l[j]).noL = true:=by unfold rcA enC; simp [bG,cI,eG]
    have hset:=fun (hi:i < cur.length)=>rcs_set fF hi l[j] r
    generalize l[j] = x at hd hop hrd hrn htk hset
    simp only [j8,List.cons_append,List.nil_append] at hd
    simp (config:=KF) (disch:=omega) only [bZ,b9,bw,ixSV,aw,aa,b5,cP,kill_fn,gW,↓reduceIte,Nat.reduceEqDiff,Nat.reduceAdd,Nat.reduceLeDiff,reduceCtorEq,ai,a6,hd,ak,al]
    refine aQ (vs:=[rcA enC x,.ptr tb 0]) (by show [(rcA enC x).dis,_] = _; rw [hrd]) e_f70 hop (by show [rcA enC x].all AV.noL = true; simp [hrn]) ?_
    cases he:c9 f1 f2 x with
    | true =>
      simp (config:=KF) (disch:=omega) only [bZ,o_un,unA,↓reduceIte,Nat.reduceEqDiff,reduceCtorEq,aR]
      rw [if_pos he,List.append_nil] at htk
      exact hK (i,j + 1,cur,s) _ ⟨by simp only; omega,by simp only; omega,a3,by simp only; rw [htk]; exact a4,hdj,a6,a7⟩ (by simp only; omega) (Sf.le_refl _)
    | false =>
      rw [if_neg (by simp [he])] at htk
      have hset:=hset (by omega)
      have hset2:aS (rcs enC cur++r) (i * 12) [AV.lit (.int .i64 x.task),.lit (.int .i64 x.kind),.lit (.int .i64 x.err),.lit (.int .i64 x.n),x.data.v,.lit (.int .i64 x.f1),.lit (.int .i64 x.f2),.lit (.int .i64 x.t1),.lit (.int .i64 x.t2),.lit (.string x.nm),.lit (.int .i64 x.port),.lit (.int .u64 (x.at_:Nat))] = rcs enC (cur.set i x)++r:=hset
      have hbd:i * 12 + 12≤l.length * 12 + r.length:=by omega
      simp (config:=KF) (disch:=omega) only [bZ,o_un,b9,ixSV,aw,aa,unA,cP,↓reduceIte,Nat.reduceEqDiff,Nat.reduceAdd,Nat.reduceLeDiff,reduceCtorEq,aR,a6,hcl,hset2,ak,al]
      refine hK (i + 1,j + 1,cur.set i x,s.set bi (rcs enC (cur.set i x)++r)) _ ⟨by simp only; omega,by simp only; omega,by simp [a3],?_,?_,cr (bP a6),a7.trans (Oth.set _ _ _ (by simp))⟩ (by simp only; omega) (Sf.le_refl _)
      ·simp only
       rw [htk,← a4,List.take_set,List.take_succ_eq_append_getElem (show i < cur.length by omega)]
       rw [List.set_append_right _ _ (by rw [List.length_take]; omega)]
       simp [List.length_take,show min i cur.length = i by omega]
      ·simp only
       rw [List.drop_set_of_lt (by omega)]
       exact hdj
   ·rw [decide_eq_false (show ¬ (j:Int) < (l.length:Int) by omega)]
    simp (config:=KF) (disch:=omega) only [bZ,↓reduceIte,Nat.reduceEqDiff,reduceCtorEq]
    refine hKe _ _ _ ?_
    have hjl:j = l.length:=by omega
    subst hjl
    rw [List.take_length] at a4 hil
    have hilt:i≤l.length:=by omega
    have hlt:i < l.length:=by
     rw [hil]
     exact List.length_filter_lt_length_iff_exists.2 ⟨l[k],List.getElem_mem hk,by simpa using hkt⟩
    have hci:(cap = i) = False:=by simp; omega
    simp (config:=KF) (disch:=omega) only [bZ,retI,gU,fc,lO,o_x,eS,i8,ar,clrX,sliB,sl3,ixTo,putN,cP,noL_bs,↓reduceIte,Nat.reduceEqDiff,Nat.reduceMul,reduceCtorEq,Nat.sub_zero,if_pos,if_neg,a6,hcl,hci]
    have hz:(AV.agg [.lit (.int .i64 0),.lit (.int .i64 0),.lit (.int .i64 0),.lit (.int .i64 0),.lit (.slice none 0 0),.lit (.int .i64 0),.lit (.int .i64 0),.lit (.int .i64 0),.lit (.int .i64 0),.lit (.string ⟨#[]⟩),.lit (.int .i64 0),.lit (.int .u64 0)]) = rcA enC ⟨0,0,0,0,fv0,0,0,0,0,⟨#[]⟩,0,0⟩:=rfl
    rw [hz,ol,rcs_clr fF (by omega) (by rw [List.length_replicate,a3]; omega),a4]
    refine hQ _ _ ⟨.inr ⟨bi,cap,rcs enC (List.replicate (l.length - i) ⟨0,0,0,0,fv0,0,0,0,0,⟨#[]⟩,0,0⟩)++r,?_,cr (bP a6),by omega,?_⟩,rfl,a7.trans (Oth.set _ _ _ (by simp))⟩
    ·rw [← hil]
    ·simp only [List.length_append,aV fF,List.length_replicate,← hil]
     rw [Nat.sub_mul]
     have:=Nat.mul_le_mul_right 12 hilt
     omega
end Go.Fx.YtgnockaonokmaaaFx

