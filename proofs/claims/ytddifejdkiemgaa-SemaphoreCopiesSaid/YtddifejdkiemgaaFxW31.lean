/- What the functions that the statement reaches compute: part 31. -/
import Derived.Test.YtddifejdkiemgaaFxW30
namespace Go.Fx.YtddifejdkiemgaaFx
open Go Go.Fx
attribute [local irreducible] aC runI a9 cd

set_option maxRecDepth 100000
set_option maxHeartbeats 8000000

section
variable {H:List Int} {q wid:Nat}
theorem hC_own1:(hC H q wid).map AV.own1 = hC H q wid:=by
  unfold hC
  rw [List.map_append]
  congr 1
  simp [ints,Function.comp_def,AV.own1]
theorem hC_solid:(hC H q wid).all AV.solid1 = true:=by
  unfold hC
  simp only [List.all_append,List.all_cons,List.all_nil,Bool.and_true]
  simp [ints,AV.solid1]
theorem hC_len (hl:H.length = 64):(hC H q wid).length = 66:=by simp [hC,cn,hl]
theorem hC_take (hl:H.length = 64):(hC H q wid).take 66 = hC H q wid:=List.take_of_length_le (by rw [hC_len hl]; omega)
theorem hC_setq (hl:H.length = 64) (q':Nat):(hC H q wid).set 64 (.ptr q' 0) = hC H q' wid:=by
  unfold hC
  rw [List.set_append_right _ _ (by simp [cn,hl])]
  simp [cn,hl]
theorem hC_setw (hl:H.length = 64) (w':Nat):(hC H q wid).set 65 (.map w') = hC H q w':=by
  unfold hC
  rw [List.set_append_right _ _ (by simp [cn,hl])]
  simp [cn,hl]
theorem set_hC (hl:H.length = 64) (a b c:AV):cG (a::b::c::AV.lit (.int .i64 0)::AV.lit (.int .i64 0)::AV.lit (.int .i64 0)::AV.lit (.int .i64 0)::AV.lit (.int .i64 0)::AV.lit (.int .i64 0)::AV.lit (.int .i64 0)::AV.lit (.int .i64 0)::AV.lit (.int .i64 0)::AV.lit (.int .i64 0)::AV.lit (.int .i64 0)::AV.lit (.int .i64 0)::AV.lit (.int .i64 0)::AV.lit (.int .i64 0)::AV.lit (.int .i64 0)::AV.lit (.int .i64 0)::AV.lit (.int .i64 0)::AV.lit (.int .i64 0)::AV.lit (.int .i64 0)::AV.lit (.int .i64 0)::AV.lit (.int .i64 0)::AV.lit (.int .i64 0)::AV.lit (.int .i64 0)::AV.lit (.int .i64 0)::AV.lit (.int .i64 0)::AV.lit (.int .i64 0)::AV.lit (.int .i64 0)::AV.lit (.int .i64 0)::AV.lit (.int .i64 0)::AV.lit (.int .i64 0)::AV.lit (.int .i64 0)::AV.lit (.int .i64 0)::AV.lit (.int .i64 0)::AV.lit (.int .i64 0)::AV.lit (.int .i64 0)::AV.lit (.int .i64 0)::AV.lit (.int .i64 0)::AV.lit (.int .i64 0)::AV.lit (.int .i64 0)::AV.lit (.int .i64 0)::AV.lit (.int .i64 0)::AV.lit (.int .i64 0)::AV.lit (.int .i64 0)::AV.lit (.int .i64 0)::AV.lit (.int .i64 0)::AV.lit (.int .i64 0)::AV.lit (.int .i64 0)::AV.lit (.int .i64 0)::AV.lit (.int .i64 0)::AV.lit (.int .i64 0)::AV.lit (.int .i64 0)::AV.lit (.int .i64 0)::AV.lit (.int .i64 0)::AV.lit (.int .i64 0)::AV.lit (.int .i64 0)::AV.lit (.int .i64 0)::AV.lit (.int .i64 0)::AV.lit (.int .i64 0)::AV.lit (.int .i64 0)::AV.lit (.int .i64 0)::AV.lit (.int .i64 0)::AV.lit (.int .i64 0)::AV.lit (.int .i64 0)::AV.lit (.int .i64 0)::AV.lit (.pointer none)::AV.lit (.map none)::[]) 3 (hC H q wid) = a::b::c::hC H q wid:=by
  have h1:=hC_len (q:=q) (wid:=wid) hl
  have:=gH (vs:=hC H q wid) (xs:=[a,b,c]) (rs:=AV.lit (.int .i64 0)::AV.lit (.int .i64 0)::AV.lit (.int .i64 0)::AV.lit (.int .i64 0)::AV.lit (.int .i64 0)::AV.lit (.int .i64 0)::AV.lit (.int .i64 0)::AV.lit (.int .i64 0)::AV.lit (.int .i64 0)::AV.lit (.int .i64 0)::AV.lit (.int .i64 0)::AV.lit (.int .i64 0)::AV.lit (.int .i64 0)::AV.lit (.int .i64 0)::AV.lit (.int .i64 0)::AV.lit (.int .i64 0)::AV.lit (.int .i64 0)::AV.lit (.int .i64 0)::AV.lit (.int .i64 0)::AV.lit (.int .i64 0)::AV.lit (.int .i64 0)::AV.lit (.int .i64 0)::AV.lit (.int .i64 0)::AV.lit (.int .i64 0)::AV.lit (.int .i64 0)::AV.lit (.int .i64 0)::AV.lit (.int .i64 0)::AV.lit (.int .i64 0)::AV.lit (.int .i64 0)::AV.lit (.int .i64 0)::AV.lit (.int .i64 0)::AV.lit (.int .i64 0)::AV.lit (.int .i64 0)::AV.lit (.int .i64 0)::AV.lit (.int .i64 0)::AV.lit (.int .i64 0)::AV.lit (.int .i64 0)::AV.lit (.int .i64 0)::AV.lit (.int .i64 0)::AV.lit (.int .i64 0)::AV.lit (.int .i64 0)::AV.lit (.int .i64 0)::AV.lit (.int .i64 0)::AV.lit (.int .i64 0)::AV.lit (.int .i64 0)::AV.lit (.int .i64 0)::AV.lit (.int .i64 0)::AV.lit (.int .i64 0)::AV.lit (.int .i64 0)::AV.lit (.int .i64 0)::AV.lit (.int .i64 0)::AV.lit (.int .i64 0)::AV.lit (.int .i64 0)::AV.lit (.int .i64 0)::AV.lit (.int .i64 0)::AV.lit (.int .i64 0)::AV.lit (.int .i64 0)::AV.lit (.int .i64 0)::AV.lit (.int .i64 0)::AV.lit (.int .i64 0)::AV.lit (.int .i64 0)::AV.lit (.int .i64 0)::AV.lit (.int .i64 0)::AV.lit (.int .i64 0)::AV.lit (.pointer none)::AV.lit (.map none)::[]) (n:=3) rfl (by rw [h1]; simp)
  rw [h1] at this
  refine Eq.trans this ?_
  simp
end

/-- What is copied so far. -/
structure Cpd (m M:List (Int×(Int×Int×Nat))) (bs seen:List Nat):Prop where
  le:∀ c v,bP c M = some v→bP c m = some v
  has:∀ (i:Nat) (hi:i < m.length) (b:Nat),bs[i]? = some b→b ∈ seen→bP m[i].1 M = some m[i].2
theorem Cpd.nil (m:List (Int×(Int×Int×Nat))) (bs:List Nat):Cpd m [] bs []:=⟨fun c v h=>by simp [bP] at h,fun i hi b _ h=>by simp at h⟩
theorem Cpd.snoc {m M:List (Int×(Int×Int×Nat))} {bs seen:List Nat} (h:Cpd m M bs seen) (hn:(cD m).Nodup) (hb:bs.Nodup) {i b:Nat} (hi:i < m.length) (hbi:bs[i]? = some b):Cpd m (updP m[i].1 m[i].2 M) bs (seen++[b]):=by
  have hx:bP m[i].1 m = some m[i].2:=gL hn (List.getElem_mem hi)
  refine ⟨fun c v hc=>?_,fun j hj b' hbj hs=>?_⟩
  · rw [dG] at hc
    split at hc
    · rename_i e; subst e; rw [hx]; exact hc
    · exact h.le c v hc
  · rw [dG]
    split
    · rename_i e
      have hy:bP m[j].1 m = some m[j].2:=gL hn (List.getElem_mem hj)
      rw [e,hx] at hy
      rw [hy]
    · rename_i e
      rcases List.mem_append.1 hs with hs | hs
      · exact h.has j hj b' hbj hs
      · simp only [List.mem_singleton] at hs
        subst hs
        obtain ⟨p1,p2⟩:=List.getElem?_eq_some_iff.1 hbi
        obtain ⟨r1,r2⟩:=List.getElem?_eq_some_iff.1 hbj
        have:i = j:=(List.getElem_inj hb).1 (p2.trans r2.symm)
        subst this
        exact absurd rfl e
theorem Cpd.all {m M:List (Int×(Int×Int×Nat))} {bs seen:List Nat} (h:Cpd m M bs seen) (hn:(cD m).Nodup) (hl:bs.length = m.length) (ha:∀ b ∈ bs,b ∈ seen) (c:Int):bP c M = bP c m:=by
  cases hm:bP c m with
  | none =>
    cases hM:bP c M with
    | none=>rfl
    | some v=>have:=h.le c v hM; rw [hm] at this; cases this
  | some v =>
    obtain ⟨i,hi,e⟩:=List.getElem_of_mem (i0 hm)
    have hb:bs[i]? = some bs[i]:=List.getElem?_eq_getElem (by omega)
    have:=h.has i hi _ hb (ha _ (List.getElem_mem (by omega)))
    rw [e] at this
    exact this

section
variable {st:St} {b q mid wid g:Nat} {sz nw:Int} {H:List Int} {V:List Vt}
/-- A copy: new boxes only. -/
theorem scopy_calls (h:SmIs st b q mid wid sz nw H V g):bz Go.Proofs.Try.prog n_f44 [.ptr b 0] st
    (fun r st'=>∃ n,n = st.boxes.length∧r = .ptr n 0∧SmIs st' n (n + 2) (n + 1) (n + 3) sz nw H V g∧st.boxes.length≤st'.boxes.length∧∀ i,i < st.boxes.length→st'.boxes[i]? = st.boxes[i]?):=by
  have hg:=h.get
  have hlt:=h.lts
  have h64:=m7 (q:=q) (wid:=wid) h.hl
  have h65:=ki (q:=q) (wid:=wid) h.hl
  have f1:=fun q wid=>hC_own1 (H:=H) (q:=q) (wid:=wid)
  have f2:=fun q wid=>hC_solid (H:=H) (q:=q) (wid:=wid)
  have f3:=fun q wid=>hC_len (H:=H) (q:=q) (wid:=wid) h.hl
  have f6:=fun q wid=>hC_take (H:=H) (q:=q) (wid:=wid) h.hl
  have f7:=set_hC (q:=q) (wid:=wid) h.hl
  have f8:=fun q wid=>hC_setq (H:=H) (q:=q) (wid:=wid) h.hl
  have f9:=fun q wid=>hC_setw (H:=H) (q:=q) (wid:=wid) h.hl
  obtain ⟨W,hW,hq,m,hm,hlk⟩:=h.qi
  refine bB hmix k_f44 rfl rfl fun Q hQ=>?_
  unfold aFun c_f44
  simp (config:=KF) (disch:=omega) only [bZ,au,ev_f,putS,Sf.set,Sf.reg,getR,setR,ae,aO,id,↓reduceIte,reduceCtorEq,f44_1e,f44_2e,f44_2l,f44_3e,f44_4e,f44_5e,f44_5l]
  refine aL rfl e_f59 h.z rfl ?_
  simp (config:=KF) (disch:=omega) only [bZ,az,ap,a7,o_newB,aH,aq,bg,boxX,aU,addA,aj,ai,ak,aA,ar,aG,putS,Sf.set,Sf.reg,getR,setR,ae,Sf.disAt,ah,aa,ag,af,al,List.length_cons,List.length_nil,List.all_cons,List.drop_zero,List.take_succ_cons,List.set_cons_zero,List.set_cons_succ,↓reduceIte,Nat.reduceEqDiff,Nat.reduceAdd,Nat.reduceLeDiff,Bool.true_and,Bool.and_true,and_true,true_and,reduceCtorEq,Nat.zero_add,decide_true,dw,set_push,am,f44_6e,f44_9e,f44_10e,f44_10l,f44_11e,f44_12e,f44_12l,hg,f1,f2,f3,f6,f7]
  have lb:b < st.boxes.length:=hlt b (by simp)
  have lq:q < st.boxes.length:=hlt q (by simp)
  have lm:mid < st.boxes.length:=hlt mid (by simp)
  have lw:wid < st.boxes.length:=hlt wid (by simp)
  obtain ⟨st1,hs1⟩:∃ s,s = st.push (.cells (smC sz (sz - H.sum) nw H q wid)):=⟨_,rfl⟩
  rw [← hs1]
  have hl1:st1.boxes.length = st.boxes.length + 1:=by rw [hs1,cM]
  have hk1:∀ i,i < st.boxes.length→st1.boxes[i]? = st.boxes[i]?:=fun i hi=>by rw [hs1]; exact cY hi
  have hc1:st1.get st.boxes.length = some (smC sz (sz - H.sum) nw H q wid):=by rw [hs1]; exact dw _ _
  obtain ⟨n,hn⟩:∃ n,n = st.boxes.length:=⟨_,rfl⟩
  have hg1:st1.get b = _:=(dY (hk1 b lb)).trans hg
  have hq1:QIs st1 q mid (quW W) g:=hq.at (hk1 q lq) (hk1 mid lm)
  rw [← hn] at hl1 hk1 hc1 lb lq lm lw ⊢
  clear hs1
  simp (config:=KF) (disch:=omega) only [bZ,au,ev_f,putS,Sf.set,Sf.reg,getR,setR,id,List.drop_succ_cons,↓reduceIte,Nat.reduceEqDiff,reduceCtorEq,hg1,h64]
  refine bE rfl e_f67 (ly hq1) rfl fun r st2 hr=>?_
  obtain ⟨rfl,hq2,hl2,hk2⟩:=hr
  rw [hl1] at hq2 hl2 hk2 ⊢
  have hc2:st2.get n = _:=(dY (hk2 n (by omega))).trans hc1
  simp (config:=KF) (disch:=omega) only [bZ,az,ap,a7,aH,oU,aq,bg,boxX,aU,addA,aj,ar,aG,putS,Sf.set,Sf.reg,getR,setR,ae,Sf.disAt,b7,kL,iU,jy,fH,al,List.length_cons,List.length_nil,List.all_cons,List.all_nil,List.set_cons_succ,↓reduceIte,Nat.reduceEqDiff,Nat.reduceAdd,Nat.reduceLeDiff,Bool.true_and,Bool.and_true,and_true,true_and,reduceCtorEq,Nat.zero_add,f0,aQ,am,f44_13e,f44_14e,f44_14l,f44_15e,f44_16e,f44_17e,f44_17l,hc2,f3,f8]
  obtain ⟨st3,hs3⟩:∃ s,s = (st2.set n (smC sz (sz - H.sum) nw H (n + 1 + 1) wid)).push (.mp [] [] 0):=⟨_,rfl⟩
  rw [← hs3]
  have lc2:n < st2.boxes.length:=by omega
  have e23:st2.boxes.length = n + 3:=by omega
  have hl3:st3.boxes.length = n + 4:=by rw [hs3,cM,f0]; omega
  have hc3:st3.get n = some (smC sz (sz - H.sum) nw H (n + 1 + 1) wid):=by rw [hs3,eB (by rw [f0]; exact lc2)]; exact cE lc2
  have hk3:∀ i,i < n + 3→i≠n→st3.boxes[i]? = st2.boxes[i]?:=fun i hi hne=>by
    rw [hs3,cY (by rw [f0]; omega)]; exact gn hne
  have hm3:MapIs st3 (n + 3) .i64 seAV []:=by
    have:=MapIs.new (st2.set n (smC sz (sz - H.sum) nw H (n + 1 + 1) wid)) .i64 seAV
    rw [f0,e23] at this
    rw [hs3]; exact this
  clear hs3
  rw [e23]
  simp (config:=KF) (disch:=omega) only [bZ,List.length_cons,List.set_cons_succ,Nat.reduceAdd,Nat.reduceLeDiff,Bool.true_and,true_and,hc3,f3,f9]
  obtain ⟨st4,hs4⟩:∃ s,s = st3.set n (smC sz (sz - H.sum) nw H (n + 1 + 1) (n + 3)):=⟨_,rfl⟩
  rw [← hs4]
  have hk4:∀ i,i≠n→st4.boxes[i]? = st3.boxes[i]?:=fun i hi=>by rw [hs4]; exact gn hi
  have hc4:st4.get n = some (smC sz (sz - H.sum) nw H (n + 1 + 1) (n + 3)):=by rw [hs4]; exact cE (by omega)
  have hl4:st4.boxes.length = n + 4:=by rw [hs4,f0]; exact hl3
  clear hs4
  have hk:∀ i,i < n→st4.boxes[i]? = st.boxes[i]?:=fun i hi=>((hk4 i (by omega)).trans (hk3 i (by omega) (by omega))).trans ((hk2 i (by omega)).trans (hk1 i hi))
  have hm4:MapIs st4 (n + 3) .i64 seAV []:=hm3.at (hk4 _ (by omega))
  have hq4:QIs st4 (n + 1 + 1) (n + 1) (quW W) g:=(hq2.at (hk3 _ (by omega) (by omega)) (hk3 _ (by omega) (by omega))).at (hk4 _ (by omega)) (hk4 _ (by omega))
  have hg4:st4.get b = _:=(dY (hk b lb)).trans hg
  have hms:MapIs st4 wid .i64 seAV m:=hm.at (hk wid lw)
  have hgm:=hms.get
  have h65n:=ki (q:=n + 1 + 1) (wid:=n + 3) h.hl
  simp (config:=KF) (disch:=omega) only [bZ,o_x,cv,putS,Sf.set,Sf.reg,getR,setR,b7,List.drop_succ_cons,↓reduceIte,Nat.reduceEqDiff,reduceCtorEq,hg4,h65]
  show rngX _ _ _
  unfold rngX
  simp only [hgm,Res.ofOpt,Res.wp,fd]
  simp (config:=KF) (disch:=omega) only [bZ,putS,Sf.set,getR,setR,ae,↓reduceIte,Nat.reduceEqDiff,reduceCtorEq,f44_18e]
  rw [f44_19w]
  refine dh (A:=List Nat×Nat×List (Int×Int×Int×Nat)×St) (fun a=>left (st4.getB wid).1 a.1) (fun a=>⟨[(3,.ptr n 0),(23,.mit (some wid) (st4.getB wid).2 a.1 a.2.1)],[]⟩) (fun a=>a.2.2.2)
    (fun a=>Cpd m a.2.2.1 (st4.getB wid).1 a.1∧MapIs a.2.2.2 (n + 3) .i64 seAV a.2.2.1∧Oth st4 a.2.2.2 [n + 3]) ([],(st4.getB wid).2,[],st4) ⟨.nil _ _,hm4,.refl _ _⟩ (Sf.le_refl _) rfl ?_
  rintro ⟨seen,stp,M,s⟩ ⟨h1,h2,h3⟩ K hK hKe hKr
  simp only at h1 h2 h3
  dsimp only
  have hB:s.getB wid = st4.getB wid:=getB_at (h3.2 wid (by simp; omega))
  have hms':MapIs s wid .i64 seAV m:=hms.at (h3.2 wid (by simp; omega))
  have hcs:s.get n = _:=(dY (h3.2 n (by simp))).trans hc4
  rw [← hB]
  simp (config:=KF) (disch:=omega) only [bZ,o_x,cv,Sf.reg,getR,↓reduceIte,Nat.reduceEqDiff,f44_20e,f44_21e,f44_21l]
  refine nxt_step hms' (fun i hi k hk hn=>?_) fun hd=>?_
  · simp (config:=KF) (disch:=omega) only [bZ,cy,o_x,extV,cv,putS,Sf.set,Sf.reg,getR,setR,ae,List.getElem?_cons_zero,↓reduceIte,Nat.reduceEqDiff,f44_22e,f44_23e,f44_24e,f44_25e,f44_26e,f44_26l]
    refine ent_step hms' hi hk ?_
    rw [fd]
    simp (config:=KF) (disch:=omega) only [bZ,cy,az,ap,aw,bA,aH,j5,extV,aq,boxX,aU,addA,aj,ai,ak,aA,ar,aG,putS,Sf.set,Sf.reg,getR,setR,ae,Sf.disAt,Sf.newLoc,Sf.setLoc,look,bt,aM,b7,ah,aa,ag,af,al,aF,cb,aB,cC,List.length_cons,List.length_nil,List.getElem?_cons_zero,List.getElem?_cons_succ,List.all_cons,List.all_nil,List.drop_zero,List.drop_succ_cons,List.take_succ_cons,List.take_zero,List.set_cons_zero,List.set_cons_succ,↓reduceIte,Nat.reduceEqDiff,Nat.reduceAdd,Nat.reduceLeDiff,Bool.true_and,Bool.and_true,and_true,true_and,Nat.zero_add,decide_true,aQ,am,f44_27e,f44_27l,seAV,hcs,h65n]
    refine eS h2 (b:=m[i].2) rfl rfl fun s' hm' ho'=>?_
    simp (config:=KF) (disch:=omega) only [bZ,aJ,getR,ae,↓reduceIte,Nat.reduceEqDiff]
    rw [hB] at hk ⊢
    exact hK (seen++[k],_,updP m[i].1 m[i].2 M,s') _ ⟨h1.snoc hms.nd hms.bn hi hk,hm',h3.trans ho'⟩ (left_lt (List.mem_of_getElem? hk) hn) (Sf.le_refl _)
  · simp (config:=KF) (disch:=omega) only [bZ,b8,cL,cy,extV,putS,Sf.set,Sf.reg,getR,setR,ae,List.getElem?_cons_zero,↓reduceIte,Nat.reduceEqDiff,f44_22e,f44_23e]
    refine hKe _ _ _ ?_
    simp (config:=KF) (disch:=omega) only [bZ,bM,retI,aw,Sf.set,Sf.reg,getR,setR,ae,Sf.disAt,iV,↓reduceIte,Nat.reduceEqDiff,Bool.true_and,true_and,f44_28e,f44_29e,f44_29l]
    rw [hB] at hd
    have hall:=h1.all hms.nd hms.bl hd
    refine hQ _ _ ⟨n,hn,rfl,⟨hcs,⟨W,hW,hq4.at (h3.2 _ (by simp)) (h3.2 _ (by simp)),M,h2,fun c=>(hall c).trans (hlk c)⟩,h.hl,h.hb,h.hs,h.szb,h.nwb,h.nd,h.wk,by omega⟩,by have:=h3.1; omega,fun i hi=>(h3.2 i (by simp; omega)).trans (hk i (by omega))⟩
end
end Go.Fx.YtddifejdkiemgaaFx

