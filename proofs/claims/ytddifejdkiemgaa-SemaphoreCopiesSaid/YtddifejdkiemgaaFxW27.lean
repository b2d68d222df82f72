/- What the functions that the statement reaches compute: part 27. -/
import Derived.Test.YtddifejdkiemgaaFxW26
namespace Go.Fx.YtddifejdkiemgaaFx
open Go Go.Fx
attribute [local irreducible] aC runI a9 cd

set_option maxRecDepth 100000
set_option maxHeartbeats 4000000

section
variable {H:List Int} {V:List Vt} {sz nw:Int}
theorem radv_outer {st0:St} (h:RfOk sz nw H V) (to:Int) (hto:to < nev) (Z:List AV) (Q:Exit→Sf→St→Prop)
    (hQ:∀ v st',GB v st' (advV sz to (V.length + 1) H V).2.2→RfOk sz nw (advV sz to (V.length + 1) H V).1 (advV sz to (V.length + 1) H V).2.1→Rw st0 st' (.lit (.slice none 0 0)) v →
      Q (.exit 0) ⟨[(1,.lit (.int .u64 to)),(2,.lptr 2 0),(4,.lptr 4 0),(7,v)],[(2,rfC sz nw (advV sz to (V.length + 1) H V).1 (advV sz to (V.length + 1) H V).2.1),(4,Z)]⟩ st') :
    aC Go.Proofs.Try.prog id false f75_13 ⟨[(1,.lit (.int .u64 to)),(2,.lptr 2 0),(4,.lptr 4 0),(7,.lit (.slice none 0 0))],[(2,rfC sz nw H V),(4,Z)]⟩ st0 Q:=by
  have hcn0:=h.cnt
  rw [f75_13w]
  refine dh (A:=Nat×List Int×List Vt×List Gt×AV×St) (fun a=>a.2.2.1.length) (fun a=>⟨[(1,.lit (.int .u64 to)),(2,.lptr 2 0),(4,.lptr 4 0),(7,a.2.2.2.2.1)],[(2,rfC sz nw a.2.1 a.2.2.1),(4,Z)]⟩) (fun a=>a.2.2.2.2.2)
    (fun a=>a.2.2.1.length < a.1∧RfOk sz nw a.2.1 a.2.2.1∧GB a.2.2.2.2.1 a.2.2.2.2.2 a.2.2.2.1∧Rw st0 a.2.2.2.2.2 (.lit (.slice none 0 0)) a.2.2.2.2.1∧a.2.2.1.length + a.2.2.2.1.length≤V.length ∧
      advV sz to (V.length + 1) H V = ((advV sz to a.1 a.2.1 a.2.2.1).1,(advV sz to a.1 a.2.1 a.2.2.1).2.1,a.2.2.2.1++(advV sz to a.1 a.2.1 a.2.2.1).2.2)) (V.length + 1,H,V,[],.lit (.slice none 0 0),st0) ⟨by simp,h,.inl ⟨rfl,rfl⟩,.refl _ _,by simp,by simp⟩ (Sf.le_refl _) rfl ?_
  rintro ⟨k,H1,V1,l,v,st⟩ ⟨h1,h2,hv,hw,hln,he⟩ K hK hKe hKr
  simp only at h1 h2 hv hw hln he
  dsimp only
  obtain ⟨k,rfl⟩:∃ k',k = k' + 1:=⟨k - 1,by omega⟩
  have hcn:=h2.cnt
  have f1:=fun H V=>cz (H:=H) (V:=V)
  have f2:=fun H V=>co (H:=H) (V:=V)
  have f3:=fun V=>bL (V:=V) h2.hl
  have f6:=fun V=>bW (V:=V) h2.hl
  have hnx:=fun st=>mY (sz:=sz) (nw:=nw) (V:=V1) h2.hl (by omega) st
  by_cases hc:to < bf V1
  · have e1:advV sz to (k + 1) H1 V1 = (H1,V1,[]):=by rw [advV,if_pos hc]
    rw [e1] at he
    rw [he] at hQ
    have hr:=hQ v st (by simpa using hv) h2 hw
    rcases hv.k with rfl | ⟨ib,ln,cap,rfl⟩
    all_goals
      simp (config:=KF) (disch:=omega) only [bZ,ap,au,aq,aj,ai,ak,aA,ev_f,putS,Sf.set,Sf.reg,getR,setR,look,id,ah,aa,List.length_cons,List.drop_zero,List.take_succ_cons,↓reduceIte,Nat.reduceEqDiff,Nat.reduceAdd,Nat.reduceLeDiff,decide_true,f75_14e,f75_15e,f75_16e,f75_16l,f1,f3,f6]
      refine aL (vs:=[rfAV sz nw H1 V1]) (by simp only [List.map_cons,List.map_nil,List.nil_append,List.append_nil,ah,aa,bH,f1]) e_f57 (hnx _) rfl ?_
      simp (config:=KF) (disch:=omega) only [bZ,b8,cL,fI,putS,Sf.set,Sf.reg,getR,setR,ae,look,↓reduceIte,Nat.reduceEqDiff,a8,f75_17e]
      refine hKe _ _ _ ?_
      exact hr
  have e1:advV sz to (k + 1) H1 V1 = ((advV sz to k (aP sz H1 (bV (bf V1) V1)).1 (aP sz H1 (bV (bf V1) V1)).2.1).1,(advV sz to k (aP sz H1 (bV (bf V1) V1)).1 (aP sz H1 (bV (bf V1) V1)).2.1).2.1,
      expD (bf V1) V1++(aP sz H1 (bV (bf V1) V1)).2.2++(advV sz to k (aP sz H1 (bV (bf V1) V1)).1 (aP sz H1 (bV (bf V1) V1)).2.1).2.2):=by rw [advV,if_neg hc]
  rw [e1] at he
  obtain ⟨kd1,kd2⟩:=mV hto hc
  have hsl:=eN sz (bV (bf V1) V1) H1
  have hk2:RfOk sz nw H1 (bV (bf V1) V1):=h2.sub List.filter_sublist
  obtain ⟨H2,hH2⟩:∃ H2,H2 = (aP sz H1 (bV (bf V1) V1)).1:=⟨_,rfl⟩
  obtain ⟨V2,hV2⟩:∃ V2,V2 = (aP sz H1 (bV (bf V1) V1)).2.1:=⟨_,rfl⟩
  have hfin:∀ v1 st2,GB v1 st2 (l++expD (bf V1) V1)→Rw st0 st2 (.lit (.slice none 0 0)) v1 →
      bz Go.Proofs.Try.prog n_f80 [rfAV sz nw H1 (bV (bf V1) V1),v1] st2 (fun r st'=>∃ v,r = .tup [rfAV sz nw H2 V2,v]∧GBk v∧H2.length = 64 ∧
        ∀ sf,sf = (⟨[(1,.lit (.int .u64 to)),(2,.lptr 2 0),(4,.lptr 4 0),(7,v)],[(2,rfC sz nw H2 V2),(4,Z)]⟩:Sf)→K .normal sf st'):=fun v1 st2 b1 b3=>by
    refine (kh hk2 b1 (by simp only [List.length_append]; omega)).mono fun r st3 ⟨v,c0,c1,c2,c3,c4⟩=>⟨v,by rw [hH2,hV2]; exact c0,c1.k,by rw [hH2]; exact c2.hl,fun sf hsf=>?_⟩
    subst hsf
    rw [hH2,hV2]
    refine hK (k,(aP sz H1 (bV (bf V1) V1)).1,(aP sz H1 (bV (bf V1) V1)).2.1,l++expD (bf V1) V1++(aP sz H1 (bV (bf V1) V1)).2.2,v,st3) _ ⟨by simp only; omega,c2,c1,b3.trans ⟨c3,c4⟩,by simp only [List.length_append]; omega,by rw [he]; simp⟩ (by simp only; omega) ?_
    rcases c1.k with rfl | ⟨ib,ln,cap,rfl⟩ <;> exact Sf.le_refl _
  rcases hv.k with rfl | ⟨ib,ln,cap,rfl⟩
  all_goals
    simp (config:=KF) (disch:=omega) only [bZ,ap,au,aq,aj,ai,ak,aA,ev_f,putS,Sf.set,Sf.reg,getR,setR,look,id,ah,aa,List.length_cons,List.drop_zero,List.take_succ_cons,↓reduceIte,Nat.reduceEqDiff,Nat.reduceAdd,Nat.reduceLeDiff,decide_true,f75_14e,f75_15e,f75_16e,f75_16l,f1,f3,f6]
    refine aL (vs:=[rfAV sz nw H1 V1]) (by simp only [List.map_cons,List.map_nil,List.nil_append,List.append_nil,ah,aa,bH,f1]) e_f57 (hnx _) rfl ?_
    simp (config:=KF) (disch:=omega) only [bZ,ap,au,aq,aj,ai,fI,ak,aA,ev_f,putS,Sf.set,Sf.reg,getR,setR,ae,look,id,ah,aa,List.length_cons,List.drop_zero,List.take_succ_cons,↓reduceIte,Nat.reduceEqDiff,Nat.reduceAdd,Nat.reduceLeDiff,decide_true,aS,f75_17e,f75_18e,f75_19e,f75_20e,f75_20l,f1,f3,f6]
    refine aL (vs:=[rfAV sz nw H1 V1]) (by simp only [List.map_cons,List.map_nil,List.nil_append,List.append_nil,ah,aa,bH,f1]) e_f57 (hnx _) rfl ?_
    simp (config:=KF) (disch:=omega) only [bZ,aw,putS,Sf.set,Sf.reg,getR,setR,ae,Sf.disAt,look,↓reduceIte,Nat.reduceEqDiff,f75_21e,f75_22e,f75_23e,f75_23l,f75_24e]
    refine radv_inner h2 hv (by omega) (bf V1) to Z _ fun v1 st2 b1 b3=>?_
    have hsv:=hfin v1 st2 b1 (hw.trans b3)
    rcases b1.k with rfl | ⟨ib',ln',cap',rfl⟩
    all_goals
      simp (config:=KF) (disch:=omega) only [bZ,bM,ap,au,aq,aj,ai,ak,aA,ev_f,putS,Sf.set,Sf.reg,getR,setR,look,id,ah,b4,aa,List.length_cons,List.drop_zero,List.take_succ_cons,↓reduceIte,Nat.reduceEqDiff,Nat.reduceAdd,Nat.reduceLeDiff,decide_true,f75_40e,f75_40l,f1,f3,f6]
      refine bE (by simp only [List.map_cons,List.map_nil,List.nil_append,List.append_nil,ah,aa,bH,b4,f1]) e_f80 hsv rfl fun r st3 hr=>?_
      obtain ⟨v,rfl,c1,c2,c3⟩:=hr
      have g3:=fun V=>bL (V:=V) c2
      have g6:=fun V=>bW (V:=V) c2
      have g7:=fun V V' a b=>eR (V:=V) (V':=V') h2.hl c2 a b
      rcases c1 with rfl | ⟨ib2,ln2,cap2,rfl⟩
      all_goals
        simp (config:=KF) (disch:=omega) only [bZ,aJ,cy,aw,aH,extV,boxX,aU,ar,aG,putS,Sf.set,Sf.reg,getR,setR,ae,Sf.disAt,Sf.setLoc,look,aM,ah,bS,b4,aa,bC,cq,d5,ag,af,al,List.length_cons,List.getElem?_cons_zero,List.getElem?_cons_succ,List.all_cons,List.set_cons_zero,List.set_cons_succ,↓reduceIte,Nat.reduceEqDiff,Nat.reduceAdd,Nat.reduceLeDiff,Bool.true_and,Bool.and_true,and_true,true_and,Nat.zero_add,am,f1,f2,f3,g3,g7]
        exact c3 _ rfl

theorem radv_calls {st:St} (h:RfOk sz nw H V) (to:Int) (hto0:0≤to) (hto:to≤nev):bz Go.Proofs.Try.prog n_f75 [rfAV sz nw H V,.lit (.int .u64 to)] st (fun r st' =>
    RGr st sz (sAdv sz nw H V to).2 (sAdv sz nw H V to).1 r st'):=by
  refine bB hmix k_f75 rfl rfl fun Q hQ=>?_
  unfold aFun c_f75
  unfold sAdv at hQ
  have f1:=fun H V=>cz (H:=H) (V:=V)
  have f2:=fun H V=>co (H:=H) (V:=V)
  have f3:=fun V=>bL (V:=V) h.hl
  have f6:=fun V=>bW (V:=V) h.hl
  have f7:=fun V=>dF (V:=V) h.hl
  by_cases h1:to < nw
  · rw [if_pos (.inl h1)] at hQ
    have hr:=hQ _ _ (.err h 3)
    simp (config:=KF) (disch:=omega) only [bZ,retI,resI,resL,ao,bY,AI.dst,bj,aI,az,ap,bA,bR,aH,ba,aq,boxX,aU,addA,aj,ai,bd,ak,aA,ar,aG,putS,Sf.set,Sf.reg,getR,setR,ae,Sf.disAt,Sf.newLoc,Sf.setLoc,look,bt,aM,aO,ah,aa,ag,af,al,bO,aR,aF,aV,aB,List.length_cons,List.length_nil,List.all_cons,List.all_nil,List.drop_zero,List.drop_succ_cons,List.take_succ_cons,List.set_cons_zero,List.set_cons_succ,↓reduceIte,Nat.reduceEqDiff,Nat.reduceAdd,Nat.reduceLeDiff,Bool.true_and,Bool.and_true,and_true,true_and,reduceCtorEq,Nat.zero_add,decide_true,Bool.false_eq_true,cc,bh,am,f75_1e,f75_2e,f75_2l,f75_3e,f75_4e,f75_5e,f75_5l,f75_6e,f75_7e,f75_8e,f75_8l,f1,f2,f3,f6,f7]
    exact hr
  by_cases h2:to = nev
  · rw [if_pos (.inr h2)] at hQ
    have h2':to = 18446744073709551615:=h2
    have hr:=hQ _ _ (.err h 3)
    simp (config:=KF) (disch:=omega) only [bZ,retI,resI,resL,ao,AI.dst,aD,aI,az,ap,bA,bR,aH,aW,aq,boxX,aU,addA,aj,ai,ci,bd,ak,aA,ar,aG,putS,Sf.set,Sf.reg,getR,setR,ae,Sf.disAt,Sf.newLoc,Sf.setLoc,look,bt,aM,aO,ah,aa,ag,af,al,bO,aR,aF,aV,aB,List.length_cons,List.length_nil,List.all_cons,List.all_nil,List.drop_zero,List.drop_succ_cons,List.take_succ_cons,List.set_cons_zero,List.set_cons_succ,↓reduceIte,Nat.reduceEqDiff,Nat.reduceAdd,Nat.reduceLeDiff,Bool.true_and,Bool.and_true,and_true,true_and,reduceCtorEq,Nat.zero_add,decide_true,Bool.false_eq_true,aS,bk,bh,am,f75_1e,f75_2e,f75_2l,f75_3e,f75_4e,f75_5e,f75_5l,f75_6e,f75_7e,f75_8e,f75_8l,f1,f2,f3,f6,f7]
    exact hr
  rw [if_neg (by rintro (e | e); exact h1 e; exact h2 e)] at hQ
  have h2':¬ to = 18446744073709551615:=h2
  obtain ⟨Z,hZ⟩:∃ Z,Z = hR (List.replicate 64 0) []:=⟨_,rfl⟩
  have hZl:Z.length = 65:=by rw [hZ]; exact bL (by simp)
  have fz:∀ (H:List Int) (V:List Vt) (a b:AV),H.length = 64→cG (a::b::Z) 2 (hR H V) = a::b::hR H V:=fun H V a b hl=>by rw [hZ]; exact eR (by simp) hl a b
  have hst:∀ v st',GB v st' (advV sz to (V.length + 1) H V).2.2→RfOk sz nw (advV sz to (V.length + 1) H V).1 (advV sz to (V.length + 1) H V).2.1→Rw st st' (.lit (.slice none 0 0)) v →
      seqQ (aC Go.Proofs.Try.prog id false f75_41) (retQ [RI.cell 4 (some 67),RI.tmp 5,RI.tmp 6] Q) .normal ⟨[(1,.lit (.int .u64 to)),(2,.lptr 2 0),(4,.lptr 4 0),(7,v)],[(2,rfC sz nw (advV sz to (V.length + 1) H V).1 (advV sz to (V.length + 1) H V).2.1),(4,.lit (.int .i64 0)::.lit (.int .u64 0)::Z)]⟩ st':=by
    intro v st' a1 a2 a3
    have hr:=hQ _ st' ⟨v,rfl,a1,⟨a2.hl,a2.hb,a2.hs,a2.szb,⟨hto0,by unfold nev at *; simp only; omega⟩,a2.cnt,a2.wk,a2.nd⟩,by simpa [aY] using a3.fr,fun i hi=>by simpa [aY] using a3.ids i hi⟩
    obtain ⟨H',hH⟩:∃ H',H' = (advV sz to (V.length + 1) H V).1:=⟨_,rfl⟩
    obtain ⟨V',hV⟩:∃ V',V' = (advV sz to (V.length + 1) H V).2.1:=⟨_,rfl⟩
    simp only at hr
    rw [← hH,← hV] at hr a2 ⊢
    have g3:=fun V=>bL (V:=V) a2.hl
    have g6:=fun V=>bW (V:=V) a2.hl
    have g7:=fun V a b=>fz H' V a b a2.hl
    rcases a1.k with rfl | ⟨ib,ln,cap,rfl⟩
    all_goals
      simp (config:=KF) (disch:=omega) only [bZ,retI,resI,resL,az,ap,aw,aH,aq,boxX,aU,addA,aj,ai,ak,aA,ar,aG,putS,Sf.set,Sf.reg,getR,setR,ae,Sf.disAt,Sf.setLoc,look,aM,ah,b4,aa,aZ,ag,af,al,bO,aR,gk,List.length_cons,List.length_nil,List.all_cons,List.all_nil,List.drop_zero,List.take_succ_cons,List.set_cons_zero,List.set_cons_succ,↓reduceIte,Nat.reduceEqDiff,Nat.reduceAdd,Nat.reduceLeDiff,Bool.true_and,Bool.and_true,and_true,true_and,Nat.zero_add,decide_true,bh,aQ,am,f75_41e,f75_42e,f75_42l,f75_43e,f75_44e,f75_44l,f1,f2,g3,g6,g7,hZl]
      exact hr
  have hfin:=radv_outer h to (by unfold nev at *; omega) (.lit (.int .i64 0)::.lit (.int .u64 0)::Z) (st0:=st) (fF 0 (seqQ (aC Go.Proofs.Try.prog id false f75_41) (retQ [RI.cell 4 (some 67),RI.tmp 5,RI.tmp 6] Q))) fun v st' a1 a2 a3=>hst v st' a1 a2 a3
  rw [hZ,ow] at hfin
  simp (config:=KF) (disch:=omega) only [bZ,ao,AI.dst,aD,aI,az,ap,bA,bR,aW,aq,boxX,addA,aj,ci,bd,ar,putS,Sf.set,Sf.reg,getR,setR,ae,Sf.newLoc,look,bt,aM,aO,ah,aa,ag,af,al,aF,aV,aB,List.length_cons,List.all_cons,List.drop_zero,List.drop_succ_cons,↓reduceIte,Nat.reduceEqDiff,Nat.reduceAdd,Bool.true_and,Bool.and_true,and_true,true_and,reduceCtorEq,Nat.zero_add,Bool.false_eq_true,a8,bk,f75_1e,f75_2e,f75_2l,f75_3e,f75_4e,f75_5e,f75_5l,f75_6e,f75_9e,f75_10e,f75_10l,f75_11e,f75_12e,f1,f2,f3]
  exact hfin
end
end Go.Fx.YtddifejdkiemgaaFx

