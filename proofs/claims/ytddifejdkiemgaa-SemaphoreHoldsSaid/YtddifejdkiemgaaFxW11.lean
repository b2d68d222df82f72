/- What the functions that the statement reaches compute: part 11. -/
import Derived.Test.YtddifejdkiemgaaFxW10
namespace Go.Fx.YtddifejdkiemgaaFx
open Go Go.Fx
attribute [local irreducible] aC runI dg ep

set_option maxRecDepth 100000
set_option maxHeartbeats 4000000

/-! Ranges over maps. -/
section
variable {β:Type} {st:St} {id:Nat} {k:IntKind} {ev:β→AV} {m:List (Int×β)}

theorem nxt_step (h:MapIs st id k ev m) {seen:List Nat} {stp s:Nat} {d:Option Nat} {sf:Sf} {K:Sf→St→Prop}
    (hm:∀ (i:Nat) (hi:i < m.length) (b:Nat),(st.getB id).1[i]? = some b→b ∉ seen→K ((sf.set s (.mit (some id) (st.getB id).2 (seen++[b]) (st.getB id).2)).put d (.tup [.lit (.bool true),.lit (.int k m[i].1),(ev m[i].2).dis])) st)
    (hd:(∀ b ∈ (st.getB id).1,b ∈ seen)→K (sf.put d (.tup [.lit (.bool false)])) st):nxtX s d (.mit (some id) (st.getB id).2 seen stp) K sf st:=by
  unfold nxtX
  simp only [h.get,Res.ofOpt,Res.wp]
  refine ⟨h.bc,Nat.le_refl _,fun i kk x b hi hb hn=>?_,hd⟩
  simp only [encM,List.getElem?_map,Option.map_eq_some_iff] at hi
  obtain ⟨p,hp,he⟩:=hi
  obtain ⟨hi,hpe⟩:=List.getElem?_eq_some_iff.1 hp
  have:=hm i hi b hb hn
  rw [hpe] at this
  cases he
  exact this

theorem ent_step (h:MapIs st id k ev m) {seen:List Nat} {C:AV→St→Prop} {i b:Nat} (hi:i < m.length) (hb:(st.getB id).1[i]? = some b) (hC:C (.tup [.lit (.int k m[i].1),(ev m[i].2).dis]) st) :
    entX (.mit (some id) (st.getB id).2 (seen++[b]) (st.getB id).2) C st:=by
  unfold entX
  simp only [h.get,Res.ofOpt,Res.wp]
  refine ⟨trivial,i,.lit (.int k m[i].1),ev m[i].2,b,by simp,?_,hb,hC⟩
  simp [encM,encE,hi]

/-- What has not been visited. -/
def left (bs seen:List Nat):Nat:=(bs.filter fun b=>!seen.contains b).length
theorem left_lt {bs seen:List Nat} {b:Nat} (hb:b ∈ bs) (hn:b ∉ seen):left bs (seen++[b]) < left bs seen:=by
  unfold left
  induction bs with
  | nil=>cases hb
  | cons a bs ih =>
    have key:∀ l:List Nat,(l.filter fun x=>!(seen++[b]).contains x).length≤(l.filter fun x=>!seen.contains x).length:=by
      intro l
      induction l with
      | nil=>simp
      | cons x l ih =>
        simp only [List.filter_cons]
        by_cases h1:x ∈ seen
        · simp [h1]; simpa using ih
        · by_cases h2:x = b
          · subst h2; simp [h1]; simp at ih; omega
          · simp [h1,h2]; simpa using ih
    simp only [List.filter_cons]
    rcases List.mem_cons.1 hb with rfl | hb
    · have:=key bs
      simp [hn]; simp at this; omega
    · have ih:=ih hb
      by_cases h1:a ∈ seen
      · simp [h1]; simpa using ih
      · by_cases h2:a = b
        · have:=key bs
          subst h2
          simp [h1]; simp at this; omega
        · simp [h1,h2]; simpa using ih
end

theorem og {β:Type} {t:Int} {b:β}:∀ {m:List (Int×β)},(ej m).Nodup→(t,b) ∈ m→dB t m = some b
  | (k, c) :: r, hn, hm => by
    simp only [ej,List.map_cons,List.nodup_cons] at hn
    simp only [dB]
    rcases List.mem_cons.1 hm with e | hm
    · cases e; simp
    · have:t≠k:=fun e=>hn.1 (e ▸ List.mem_map.2 ⟨(t,b),hm,rfl⟩)
      rw [if_neg this]; exact og hn.2 hm
theorem oh {β:Type} {t:Int} {b:β}:∀ {m:List (Int×β)},dB t m = some b→(t,b) ∈ m
  | (k, c) :: r, h => by
    simp only [dB] at h
    split at h
    · rename_i e; subst e; cases h; simp
    · exact List.mem_cons_of_mem _ (oh h)

/-- The earliest deadline. -/
def dy:List Vt→Int
  | []=>nev
  | v::V=>min v.2.2 (dy V)
theorem qf:∀ (V:List Vt),dy V≤nev∧∀ v ∈ V,dy V≤v.2.2
  | []=>⟨Int.le_refl _,fun v h=>by cases h⟩
  | u :: V => by
    obtain ⟨h1,h2⟩:=qf V
    refine ⟨by unfold dy; omega,fun v hv=>?_⟩
    unfold dy
    rcases List.mem_cons.1 hv with rfl | hv
    · omega
    · have:=h2 v hv; omega
theorem nx:∀ (V:List Vt),dy V = nev∨∃ v ∈ V,v.2.2 = dy V
  | []=>.inl rfl
  | u :: V => by
    unfold dy
    rcases Int.le_total u.2.2 (dy V) with h | h
    · exact .inr ⟨u,by simp,by omega⟩
    · rw [Int.min_eq_right h]
      rcases nx V with e | ⟨v,hv,e⟩
      · exact .inl e
      · exact .inr ⟨v,List.mem_cons_of_mem _ hv,e⟩
theorem nextV_eq {V:List Vt} {a:Int} (h1:a≤nev) (h2:∀ v ∈ V,a≤v.2.2) (h3:a = nev∨∃ v ∈ V,v.2.2 = a):a = dy V:=by
  obtain ⟨k1,k2⟩:=qf V
  have:a≤dy V:=by
    rcases nx V with e | ⟨v,hv,e⟩
    · omega
    · have:=h2 v hv; omega
  have:dy V≤a:=by
    rcases h3 with rfl | ⟨v,hv,rfl⟩
    · exact k1
    · exact k2 v hv
  omega

theorem smin_pure (a b:Int) (st:St):dJ Go.Proofs.Try.prog n_f76 [.sl false 1 [.lit (.int .u64 a),.lit (.int .u64 b)]] st (.lit (.int .u64 (min a b))):=by
  refine eo hmix k_f76 rfl rfl fun Q hQ=>?_
  unfold aFun c_f76
  simp (config:=KF) (disch:=omega) only [bZ,and_self,kV,ca,er,bH,ixSV,bK,ixA,lenI,a8,dx,cE,eY,putS,Sf.set,Sf.reg,getR,setR,aD,Sf.disAt,da,di,cN,List.length_cons,List.length_nil,List.getD_cons_zero,Int.toNat_zero,Int.cast_ofNat_Int,↓reduceIte,Nat.reduceEqDiff,Nat.reduceAdd,Int.reduceLT,Int.reduceLE,reduceCtorEq,Nat.zero_add,decide_true,decide_false,f76_1e,f76_2e,f76_2l,f76_3e,f76_4e,f76_5e,f76_5l,f76_6e,f76_8e,f76_9e,f76_9l,f76_10e,f76_11e,f76_12e,f76_12l,f76_13e]
  rw [f76_14w]
  refine loop_rounds 2 ?_
  rw [p7]
  simp (config:=KF) (disch:=omega) only [bZ,and_self,bG,unrQ_normal,kV,ca,er,o_mn,bH,ixSV,bK,ixA,lenI,a8,ke,gC,dx,cE,eY,putS,Sf.set,Sf.reg,getR,setR,aD,Sf.disAt,di,cN,List.length_cons,List.length_nil,List.getD_cons_zero,List.getD_cons_succ,Int.toNat_one,Int.cast_ofNat_Int,↓reduceIte,Nat.reduceEqDiff,Nat.reduceAdd,Int.reduceLT,Int.reduceLE,Int.reduceAdd,reduceCtorEq,Nat.zero_add,decide_true,IntWalk.i64_in,f76_15e,f76_16e,f76_17e,f76_17l,f76_18e,f76_19e,f76_20e,f76_21e,f76_21l,f76_22e,f76_22l]
  rw [p7]
  simp (config:=KF) (disch:=omega) only [bZ,en,dV,fP,retI,unrQ_exit,er,bH,lenI,dx,putS,Sf.set,Sf.reg,getR,setR,aD,Sf.disAt,di,List.length_cons,List.length_nil,Int.cast_ofNat_Int,↓reduceIte,Nat.reduceEqDiff,Nat.reduceAdd,Int.reduceLT,Bool.true_and,true_and,reduceCtorEq,Nat.zero_add,decide_false,f76_15e,f76_16e,f76_17e,f76_17l,f76_18e,f76_23e,f76_24e,f76_24l]
  have e:(if b < a then b else a) = min a b:=by
    rw [Int.min_def]; split <;> split <;> omega
  rw [e]
  exact hQ _
theorem vmin_pure (a b:Int) (st:St):dJ Go.Proofs.Try.prog n_f66 [.sl false 1 [.lit (.int .u64 a),.lit (.int .u64 b)]] st (.lit (.int .u64 (min a b))):=by
  refine eo hmix k_f66 rfl rfl fun Q hQ=>?_
  unfold aFun c_f66
  simp (config:=KF) (disch:=omega) only [bZ,er,aI,lenI,fa,ev_f,putS,Sf.set,Sf.reg,getR,setR,aD,da,id,di,List.length_cons,List.length_nil,Int.cast_ofNat_Int,↓reduceIte,Nat.reduceEqDiff,Nat.reduceAdd,Int.reduceEq,reduceCtorEq,Nat.zero_add,decide_false,f66_1e,f66_2e,f66_2l,f66_3e,f66_4e,f66_5e,f66_5l,f66_6e,f66_9e,f66_10e,f66_10l]
  refine cF rfl e_f76 (smin_pure a b st) rfl ?_
  simp (config:=KF) (disch:=omega) only [bZ,retI,bH,putS,Sf.set,Sf.reg,getR,setR,aD,Sf.disAt,↓reduceIte,Nat.reduceEqDiff,Bool.true_and,true_and,reduceCtorEq]
  exact hQ _

section
variable {st:St} {b q mid wid g:Nat} {sz nw:Int} {H:List Int} {V:List Vt}

/-- What is known of the deadlines by way of the map. -/
theorem SmIs.ents (h:SmIs st b q mid wid sz nw H V g):∃ m,MapIs st wid .i64 seAV m∧(∀ (i:Nat) (hi:i < m.length),∃ v ∈ V,v.1 = m[i].1∧v.2.1 = m[i].2.1∧v.2.2 = m[i].2.2.1)∧(∀ v ∈ V,∃ (i:Nat) (hi:i < m.length),v.2.2 = m[i].2.2.1):=by
  obtain ⟨W,h1,h2,m,hm,hl⟩:=h.qi
  have hndW:(ej (entW W)).Nodup:=by rw [kb,h1]; exact h.nd
  refine ⟨m,hm,fun i hi=>?_,fun v hv=>?_⟩
  · have hx:dB m[i].1 m = some m[i].2:=og hm.nd (List.getElem_mem hi)
    rw [hl] at hx
    have:=oh hx
    simp only [entW,List.mem_map] at this
    obtain ⟨w,hw,e⟩:=this
    refine ⟨w.2,by rw [← h1]; exact List.mem_map.2 ⟨w,hw,rfl⟩,?_⟩
    have e1:=congrArg Prod.fst e
    have e2:=congrArg Prod.snd e
    simp only at e1 e2
    refine ⟨e1,?_,?_⟩ <;> rw [← e2]
  · rw [← h1] at hv
    obtain ⟨w,hw,rfl⟩:=List.mem_map.1 hv
    have hx:dB w.2.1 (entW W) = some (w.2.2.1,w.2.2.2,w.1):=og hndW (List.mem_map.2 ⟨w,hw,rfl⟩)
    rw [← hl] at hx
    obtain ⟨i,hi,e⟩:=List.getElem_of_mem (oh hx)
    exact ⟨i,hi,by rw [e]⟩

theorem kw (h:SmIs st b q mid wid sz nw H V g):dJ Go.Proofs.Try.prog n_f42 [.ptr b 0] st (.lit (.int .u64 (dy V))):=by
  have hg:=h.get
  have h65:=qp (q:=q) (wid:=wid) h.hl
  obtain ⟨m,hm,hV1,hV2⟩:=h.ents
  have hgm:=hm.get
  refine eo hmix k_f42 rfl rfl fun Q hQ=>?_
  unfold aFun c_f42
  simp (config:=KF) (disch:=omega) only [bZ,aI,ev_f,putS,Sf.set,Sf.reg,getR,setR,aD,da,id,↓reduceIte,reduceCtorEq,f42_1e,f42_2e,f42_2l,f42_3e,f42_4e,f42_5e,f42_5l]
  refine cF rfl e_f59 h.z rfl ?_
  simp (config:=KF) (disch:=omega) only [bZ,cf,ca,ce,o_x,bK,cB,eg,addA,a8,putS,Sf.set,Sf.reg,getR,setR,aD,dK,List.drop_succ_cons,↓reduceIte,Nat.reduceEqDiff,reduceCtorEq,Nat.zero_add,f42_6e,f42_9e,f42_10e,f42_10l,f42_11e,f42_12e,f42_13e,f42_13l,hg,h65]
  show rngX _ _ _
  unfold rngX
  simp only [hgm,Res.ofOpt,Res.wp,m9]
  simp (config:=KF) (disch:=omega) only [bZ,putS,Sf.set,getR,setR,aD,↓reduceIte,Nat.reduceEqDiff,reduceCtorEq,f42_14e]
  rw [f42_15w]
  refine im (A:=List Nat×Nat×Int) (fun a=>left (st.getB wid).1 a.1) (fun a=>⟨[(3,.lit (.int .u64 a.2.2)),(12,.mit (some wid) (st.getB wid).2 a.1 a.2.1)],[]⟩) (fun _=>st)
    (fun a=>a.2.2≤nev∧(∀ (i:Nat) (hi:i < m.length) (k:Nat),(st.getB wid).1[i]? = some k→k ∈ a.1→a.2.2≤m[i].2.2.1)∧(a.2.2 = nev∨∃ v ∈ V,v.2.2 = a.2.2)) ([],(st.getB wid).2,nev) ⟨Int.le_refl _,by simp,.inl rfl⟩ (Sf.le_refl _) rfl ?_
  rintro ⟨seen,stp,at'⟩ ⟨h1,h2,h3⟩ K hK hKe hKr
  simp only at h1 h2 h3
  simp (config:=KF) (disch:=omega) only [bZ,o_x,eg,Sf.reg,getR,↓reduceIte,Nat.reduceEqDiff,f42_16e,f42_17e,f42_17l]
  refine nxt_step hm (fun i hi k hk hn=>?_) fun hd=>?_
  · simp (config:=KF) (disch:=omega) only [bZ,fH,o_x,extV,eg,putS,Sf.set,Sf.reg,getR,setR,aD,List.getElem?_cons_zero,↓reduceIte,Nat.reduceEqDiff,f42_18e,f42_19e,f42_20e,f42_21e,f42_22e,f42_22l]
    refine ent_step hm hi hk ?_
    rw [m9]
    simp (config:=KF) (disch:=omega) only [bZ,and_self,fH,cf,ca,pW,iz,dT,aI,extV,bK,bslV,boxX,d9,List.reduceReplicate,addA,a8,iL,ev_f,dG,dH,putS,Sf.set,Sf.reg,getR,setR,aD,Sf.disAt,Sf.newLoc,Sf.setLoc,look,gh,fo,id,dD,dk,cN,cP,bU,cR,ey,eA,j0,List.length_cons,List.length_nil,List.getElem?_cons_zero,List.getElem?_cons_succ,List.all_cons,List.all_nil,List.drop_zero,List.drop_succ_cons,List.set_cons_zero,List.set_cons_succ,↓reduceIte,Nat.reduceEqDiff,Nat.reduceAdd,Nat.reduceLT,Nat.reduceLeDiff,Bool.true_and,Bool.and_true,and_true,true_and,Nat.zero_add,cD,b4,f42_23e,f42_23l,seAV]
    refine cF rfl e_f66 (vmin_pure _ _ st) rfl ?_
    simp (config:=KF) (disch:=omega) only [bZ,bG,bH,putS,Sf.set,Sf.reg,getR,setR,aD,Sf.disAt,↓reduceIte,Nat.reduceEqDiff]
    refine hK (seen++[k],(st.getB wid).2,min at' m[i].2.2.1) _ ⟨by simp only; omega,fun j hj k' hk' hs=>?_,?_⟩ (left_lt (List.mem_of_getElem? hk) hn) (Sf.le_refl _)
    · simp only
      rcases List.mem_append.1 hs with hs | hs
      · have:=h2 j hj k' hk' hs; omega
      · simp at hs
        subst hs
        have:j = i:=by
          have hb:=hm.bn
          obtain ⟨a1,a2⟩:=List.getElem?_eq_some_iff.1 hk'
          obtain ⟨b1,b2⟩:=List.getElem?_eq_some_iff.1 hk
          exact (List.getElem_inj hb).1 (a2.trans b2.symm)
        subst this; omega
    · simp only
      rcases Int.le_total at' m[i].2.2.1 with e | e
      · rw [Int.min_eq_left e]; exact h3
      · rw [Int.min_eq_right e]
        obtain ⟨v,hv,_,_,e3⟩:=hV1 i hi
        exact .inr ⟨v,hv,e3⟩
  · have hfin:at' = dy V:=nextV_eq h1 (fun v hv=>by
      obtain ⟨i,hi,e⟩:=hV2 v hv
      have hbl:=hm.bl
      have hib:i < (st.getB wid).1.length:=by omega
      rw [e]
      exact h2 i hi _ (List.getElem?_eq_getElem hib) (hd _ (List.getElem_mem hib))) h3
    subst hfin
    simp (config:=KF) (disch:=omega) only [bZ,en,fP,fH,extV,putS,Sf.set,Sf.reg,getR,setR,aD,List.getElem?_cons_zero,↓reduceIte,Nat.reduceEqDiff,f42_18e,f42_19e]
    refine hKe _ _ _ ?_
    simp (config:=KF) (disch:=omega) only [bZ,dV,retI,bH,putS,Sf.set,Sf.reg,getR,setR,aD,Sf.disAt,↓reduceIte,Nat.reduceEqDiff,Bool.true_and,true_and,f42_24e,f42_25e,f42_25l]
    exact hQ _
end
end Go.Fx.YtddifejdkiemgaaFx

