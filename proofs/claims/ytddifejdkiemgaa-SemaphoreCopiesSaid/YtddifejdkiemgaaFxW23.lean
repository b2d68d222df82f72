/- What the functions that the statement reaches compute: part 23. -/
import Derived.Test.YtddifejdkiemgaaFxW22
namespace Go.Fx.YtddifejdkiemgaaFx
open Go Go.Fx
attribute [local irreducible] aC runI a9 cd

set_option maxRecDepth 100000
set_option maxHeartbeats 4000000

structure RfOk (sz nw:Int) (H:List Int) (V:List Vt):Prop where
  hl:H.length = 64
  hb:∀ h ∈ H,0≤h
  hs:H.sum≤sz
  szb:1≤sz∧sz≤1048576
  nwb:0≤nw∧nw < nev
  cnt:V.length≤64
  wk:∀ v ∈ V,(0≤v.1∧v.1 < 64)∧(1≤v.2.1∧v.2.1≤sz)
  nd:(vtk V).Nodup
theorem SmIs.rf {st:St} {b q mid wid g:Nat} {sz nw:Int} {H:List Int} {V:List Vt} (h:SmIs st b q mid wid sz nw H V g):RfOk sz nw H V :=
  ⟨h.hl,h.hb,h.hs,h.szb,h.nwb,h.cnt,fun v hv=>⟨(h.wk v hv).1,(h.wk v hv).2.1⟩,h.nd⟩

section
variable {H:List Int} {V:List Vt} {sz nw:Int}
theorem RfOk.getb (h:RfOk sz nw H V) (i:Int) (h0:0≤i) (h1:i < 64):0≤getH H i∧getH H i≤sz:=by
  have hm:=m6 H i (by rw [h.hl]; omega)
  have h2:=h.hb _ hm
  have h3:=(fR H h.hb).2 _ hm
  have h4:=h.hs
  omega
theorem RfOk.add (h:RfOk sz nw H V) {i x:Int} (h0:0≤i∧i < 64) (h1:0≤getH H i + x) (h2:H.sum + x≤sz):RfOk sz nw (addH H i x) V:=by
  refine ⟨by rw [eC]; exact h.hl,fun y hy=>?_,by rw [addH_sum H i x (by rw [h.hl]; omega)]; exact h2,h.szb,h.nwb,h.cnt,h.wk,h.nd⟩
  unfold addH at hy
  rcases List.mem_or_eq_of_mem_set hy with hy | rfl
  · exact h.hb y hy
  · exact h1
theorem RfOk.sub (h:RfOk sz nw H V) {V':List Vt} (hs:V'.Sublist V):RfOk sz nw H V' :=
  ⟨h.hl,h.hb,h.hs,h.szb,h.nwb,Nat.le_trans hs.length_le h.cnt,fun v hv=>h.wk v (hs.subset hv),(vtk_s hs).nodup h.nd⟩
where vtk_s {A B:List Vt} (h:A.Sublist B):(vtk A).Sublist (vtk B):=h.map _

theorem rwo0_pure (hl:H.length = 64) {v:Vt} (hV:(v::V).length≤1000) (st:St):bF Go.Proofs.Try.prog n_f81 [rfAV sz nw H (v::V),.lit (.int .i64 0)] st (rfAV sz nw H V):=by
  have:=m3 (sz:=sz) (nw:=nw) (V:=v::V) hl (i:=0) (by simp) hV st
  simpa [wo] using this

theorem kh {st0:St} (h:RfOk sz nw H V) {v0:AV} {l0:List Gt} (hv0:GB v0 st0 l0) (hl0:l0.length≤1000) :
    bz Go.Proofs.Try.prog n_f80 [rfAV sz nw H V,v0] st0 (fun r st'=>∃ v,r = .tup [rfAV sz nw (aP sz H V).1 (aP sz H V).2.1,v] ∧
      GB v st' (l0++(aP sz H V).2.2)∧RfOk sz nw (aP sz H V).1 (aP sz H V).2.1∧GFr st0 st' (aY v0)∧(∀ i ∈ aY v,i ∈ aY v0∨st0.boxes.length≤i)):=by
  refine bB hmix k_f80 rfl rfl fun Q hQ=>?_
  unfold aFun c_f80
  have f1:=fun H V=>cz (H:=H) (V:=V)
  have f2:=fun H V=>co (H:=H) (V:=V)
  have f3:=bL (V:=V) h.hl
  obtain ⟨Z,hZ⟩:∃ Z,Z = hR (List.replicate 64 0) []:=⟨_,rfl⟩
  have hZl:Z.length = 65:=by rw [hZ]; exact bL (by simp)
  have fz:∀ (H:List Int) (V:List Vt) (a b:AV),H.length = 64→cG (a::b::Z) 2 (hR H V) = a::b::hR H V:=fun H V a b hl=>by rw [hZ]; exact eR (by simp) hl a b
  have hcn0:=h.cnt
  have hst:aC Go.Proofs.Try.prog id false f80_5 ⟨[(1,v0),(2,.lptr 2 0),(4,.lptr 4 0)],[(2,rfC sz nw H V),(4,.lit (.int .i64 0)::.lit (.int .u64 0)::Z)]⟩ st0 (fF 0 (seqQ (aC Go.Proofs.Try.prog id false f80_18) (retQ [RI.cell 4 (some 67),RI.tmp 5] Q))):=by
    rw [f80_5w]
    refine dh (A:=List Int×List Vt×List Gt×AV×St) (fun a=>a.2.1.length) (fun a=>⟨[(1,a.2.2.2.1),(2,.lptr 2 0),(4,.lptr 4 0)],[(2,rfC sz nw a.1 a.2.1),(4,.lit (.int .i64 0)::.lit (.int .u64 0)::Z)]⟩) (fun a=>a.2.2.2.2)
      (fun a=>RfOk sz nw a.1 a.2.1∧GB a.2.2.2.1 a.2.2.2.2 (l0++a.2.2.1)∧GFr st0 a.2.2.2.2 (aY v0)∧(∀ i ∈ aY a.2.2.2.1,i ∈ aY v0∨st0.boxes.length≤i) ∧
        aP sz H V = ((aP sz a.1 a.2.1).1,(aP sz a.1 a.2.1).2.1,a.2.2.1++(aP sz a.1 a.2.1).2.2)∧a.2.1.length + a.2.2.1.length = V.length) (H,V,[],v0,st0) ⟨h,by simpa using hv0,.refl _ _,fun i hi=>.inl hi,by simp,by simp⟩ (Sf.le_refl _) rfl ?_
    rintro ⟨H1,V1,d,v,st⟩ ⟨h1,hv,hfr,hid,hsv,hln⟩ K hK hKe hKr
    simp only at h1 hv hfr hid hsv hln
    have hcn:=h1.cnt
    have f3:=fun V=>bL (V:=V) h1.hl
    have f4:=jn (V:=V1) h1.hl
    have f6:=fun V=>bW (V:=V) h1.hl
    have hszb:=h1.szb
    have hs1:=h1.hs
    have hs0:=(fR H1 h1.hb).1
    have fz1:=fun V a b=>fz H1 V a b h1.hl
    rcases V1 with _ | ⟨⟨t,n,dl⟩,V1⟩
    · have f5:qR [] = .lit (.slice none 0 0):=rfl
      rw [f5] at f4
      have hr:=hQ _ st ⟨v,rfl,by rw [hsv]; simpa [aP] using hv,by rw [hsv]; exact h1,hfr,hid⟩
      rw [hsv] at hr
      rcases hv.k with rfl | ⟨ib,ln,cap,rfl⟩
      all_goals
        simp (config:=KF) (disch:=omega) only [bZ,List.contains_nil,cO,b5,kP,cB,dR,cw,bQ,hh_len,oo,cons_skip,bp,bG,b8,cL,ao,bY,AI.dst,aD,aI,aW,aq,lenI,addA,aj,cr,putS,Sf.set,Sf.reg,getR,setR,ae,look,bu,List.drop_succ_cons,↓reduceIte,Nat.reduceEqDiff,Nat.zero_add,Bool.false_eq_true,guardH_no,f80_6e,f80_7e,f80_8e,f80_8h,f80_8l,f80_9e,f4]
        refine hKe _ _ _ ?_
        simp (config:=KF) (disch:=omega) only [bZ,bM,retI,resI,resL,ap,aw,aH,aq,boxX,aU,aj,ai,ak,aA,ar,aG,putS,Sf.set,Sf.reg,getR,setR,ae,Sf.disAt,Sf.setLoc,look,aM,ah,b4,aa,ag,af,al,bO,aR,gk,List.length_cons,List.all_cons,List.all_nil,List.drop_zero,List.take_succ_cons,List.set_cons_zero,List.set_cons_succ,↓reduceIte,Nat.reduceEqDiff,Nat.reduceAdd,Nat.reduceLeDiff,Bool.true_and,Bool.and_true,and_true,true_and,Nat.zero_add,decide_true,bh,am,f80_18e,f80_19e,f80_19l,f1,f2,f3,f6,fz1,hZl]
        exact hr
    have f5:qR ((t,n,dl)::V1) = .sl false 3 (wtR (t,n,dl)::V1.map wtR):=by unfold qR; rw [if_neg (by simp)]; rfl
    rw [f5] at f4
    have hml:(V1.map wtR).length = V1.length:=by simp
    have hwk:=h1.wk (t,n,dl) (by simp)
    simp only at hwk
    obtain ⟨⟨t0,t1⟩,⟨n0,n1⟩⟩:=hwk
    have hgb:=h1.getb t t0 t1
    have hlf:=ik (V:=(t,n,dl)::V1) (nw:=nw) h1.hl h1.hb h1.hs (by omega) st
    have hvd:(.agg (rfC sz nw H1 ((t,n,dl)::V1)):AV).dis = rfAV sz nw H1 ((t,n,dl)::V1):=by simp only [ah,List.map_cons,aa,f1]
    by_cases hc:sz - H1.sum < n
    · have hs:aP sz H1 ((t,n,dl)::V1) = (H1,(t,n,dl)::V1,[]):=by unfold aP; rw [if_pos hc]
      have hr:=hQ _ st ⟨v,rfl,by rw [hsv,hs]; simpa using hv,by rw [hsv,hs]; exact h1,hfr,hid⟩
      rw [hsv,hs] at hr
      rcases hv.k with rfl | ⟨ib,ln,cap,rfl⟩
      all_goals
        simp (config:=KF) (disch:=omega) only [bZ,List.contains_nil,b5,kP,cB,dR,cw,eY,bQ,hh_len,iX,cN,bp,AI.dst,ixSV,aq,ixA,lenI,addA,aj,ai,cr,ak,aA,ev_f,putS,Sf.set,Sf.reg,getR,setR,look,bu,id,br,ah,aa,ag,List.length_cons,List.getD_cons_zero,List.drop_zero,List.drop_succ_cons,List.take_succ_cons,Int.toNat_zero,↓reduceIte,Nat.reduceEqDiff,Nat.reduceAdd,Nat.reduceLeDiff,Int.reduceLE,Bool.true_and,true_and,Nat.zero_add,decide_true,Bool.false_eq_true,bD,mR,f80_6e,f80_7e,f80_8e,f80_8h,f80_8l,f1,f3,f4,f6,wtR,hml]
        refine kQ (vs:=[rfAV sz nw H1 ((t,n,dl)::V1)]) (by simp only [List.map_cons,List.map_nil,List.nil_append,List.append_nil,hvd]) e_f55 hlf rfl ?_
        simp (config:=KF) (disch:=omega) only [bZ,cO,fL,bG,b8,cL,ao,AI.dst,bj,aI,ba,fI,putS,Sf.set,Sf.reg,getR,setR,ae,look,↓reduceIte,Nat.reduceEqDiff,a8,f80_9e]
        refine hKe _ _ _ ?_
        simp (config:=KF) (disch:=omega) only [bZ,bM,retI,resI,resL,ap,aw,aH,aq,boxX,aU,aj,ai,ak,aA,ar,aG,putS,Sf.set,Sf.reg,getR,setR,ae,Sf.disAt,Sf.setLoc,look,aM,ah,b4,aa,ag,af,al,bO,aR,gk,List.length_cons,List.all_cons,List.all_nil,List.drop_zero,List.take_succ_cons,List.set_cons_zero,List.set_cons_succ,↓reduceIte,Nat.reduceEqDiff,Nat.reduceAdd,Nat.reduceLeDiff,Bool.true_and,Bool.and_true,and_true,true_and,Nat.zero_add,decide_true,bh,am,f80_18e,f80_19e,f80_19l,f1,f2,f3,f6,fz1,hZl]
        exact hr
    have hs:aP sz H1 ((t,n,dl)::V1) = ((aP sz (addH H1 t n) V1).1,(aP sz (addH H1 t n) V1).2.1,(t,0)::(aP sz (addH H1 t n) V1).2.2):=by
      rw [aP]; simp only; rw [if_neg hc]
    have h2:RfOk sz nw (addH H1 t n) ((t,n,dl)::V1):=h1.add ⟨t0,t1⟩ (by omega) (by omega)
    have h3:RfOk sz nw (addH H1 t n) V1:=h2.sub (List.sublist_cons_self _ _)
    have happ:∀ C:AV→St→Prop,(∀ v' st',K .normal ⟨[(1,v'),(2,.lptr 2 0),(4,.lptr 4 0)],[(2,rfC sz nw (addH H1 t n) V1),(4,.lit (.int .i64 0)::.lit (.int .u64 0)::Z)]⟩ st'→GBk v'→C v' st')→appX false 2 16 v C st [.agg [.lit (.int .i64 t),.lit (.int .i64 0)]]:=by
      intro C hC
      refine hv.app (by simp only [List.length_append]; omega) _ _ fun v' st' b1 b2 b3=>?_
      refine hC v' st' ?_ b1.k
      refine hK (addH H1 t n,V1,d++[(t,0)],v',st') _ ⟨h3,by simpa [List.append_assoc] using b1,hfr.trans b2 (fun x hx=>(hid x hx).imp id id),fun i hi=>?_,by rw [hsv,hs]; simp,by simp only [List.length_append,List.length_cons,List.length_nil] at hln ⊢; omega⟩ (by simp) (by
        rcases b1.k with rfl | ⟨ib,ln,cap,rfl⟩ <;> exact Sf.le_refl _)
      rcases b3 i hi with e | e
      · exact hid i e
      · exact .inr (Nat.le_trans hfr.1 e)
    have hset:=fun y=>o4 (sz:=sz) (nw:=nw) (H:=H1) (V:=(t,n,dl)::V1) h1.hl (i:=t) (x:=y) ⟨t0,t1⟩
    obtain ⟨r,hr⟩:=jB (sz:=sz) (nw:=nw) (V:=(t,n,dl)::V1) h1.hl (i:=t) t0 t1
    have hadd:H1.set t.toNat (getH H1 t + n) = addH H1 t n:=rfl
    have g3:=fun V=>bL (V:=V) h2.hl
    have g6:=fun V=>bW (V:=V) h2.hl
    have g7:=fun V V' a b=>eR (V:=V) (V':=V') h2.hl h2.hl a b
    have hw0:=rwo0_pure (sz:=sz) (nw:=nw) (H:=addH H1 t n) (v:=(t,n,dl)) (V:=V1) h2.hl (by omega) st
    have hvd2:∀ V,(.agg (rfC sz nw (addH H1 t n) V):AV).dis = rfAV sz nw (addH H1 t n) V:=fun V=>by simp only [ah,List.map_cons,aa,f1]
    rcases hv.k with rfl | ⟨ib,ln,cap,rfl⟩
    all_goals
      simp (config:=KF) (disch:=omega) only [bZ,List.contains_nil,b5,kP,cB,dR,cw,eY,bQ,hh_len,iX,cN,bp,AI.dst,ixSV,aq,ixA,lenI,addA,aj,ai,cr,ak,aA,ev_f,putS,Sf.set,Sf.reg,getR,setR,look,bu,id,br,ah,aa,ag,List.length_cons,List.getD_cons_zero,List.drop_zero,List.drop_succ_cons,List.take_succ_cons,Int.toNat_zero,↓reduceIte,Nat.reduceEqDiff,Nat.reduceAdd,Nat.reduceLeDiff,Int.reduceLE,Bool.true_and,true_and,Nat.zero_add,decide_true,Bool.false_eq_true,bD,mR,f80_6e,f80_7e,f80_8e,f80_8h,f80_8l,f1,f3,f4,f6,wtR,hml]
      refine kQ (vs:=[rfAV sz nw H1 ((t,n,dl)::V1)]) (by simp only [List.map_cons,List.map_nil,List.nil_append,List.append_nil,hvd]) e_f55 hlf rfl ?_
      simp (config:=KF) (disch:=omega) only [bZ,List.contains_nil,cO,b5,dR,cw,gm,bQ,fL,bp,bG,ao,AI.dst,bj,aI,az,gB,jk,ap,bA,aH,au,ba,ixSV,aq,boxX,aU,ixA,addA,aj,ai,cZ,fI,ak,aA,ev_f,ar,aG,putS,Sf.set,Sf.reg,getR,setR,ae,Sf.disAt,Sf.newLoc,Sf.setLoc,look,bt,aM,bu,id,br,ah,aa,aZ,ag,af,al,aF,aV,ob,eQ,aB,gY,List.length_cons,List.length_nil,List.getD_cons_zero,List.all_cons,List.all_nil,List.drop_zero,List.drop_succ_cons,List.take_succ_cons,List.take_zero,List.set_cons_zero,List.set_cons_succ,Int.toNat_zero,Int.cast_ofNat_Int,↓reduceIte,Nat.reduceEqDiff,Nat.reduceAdd,Nat.reduceLeDiff,Int.reduceLE,Bool.true_and,Bool.and_true,and_true,true_and,Nat.zero_add,Nat.add_zero,decide_true,Bool.false_eq_true,bD,aS,IntWalk.i64_in,bK,aQ,am,Nat.mul_one,f80_9e,f80_10e,f80_11e,f80_12e,f80_12l,f80_13e,f80_14e,f80_14h,f80_14l,f80_15e,f80_16e,f80_16l,f1,f3,f4,g3,g6,wtR,hml,hr,hset,hadd]
      refine aL (vs:=[rfAV sz nw (addH H1 t n) ((t,n,dl)::V1),.lit (.int .i64 0)]) (by simp only [List.map_cons,List.map_nil,List.nil_append,List.append_nil,ah,aa,bH,f1]) e_f81 hw0 rfl ?_
      simp (config:=KF) (disch:=omega) only [bZ,and_self,az,ap,gC,eZ,aw,aH,o_x,aq,bslV,bstV,boxX,aU,cv,List.reduceReplicate,addA,aj,srcA,d7,cu,ar,aG,putS,Sf.set,Sf.reg,getR,setR,ae,Sf.disAt,Sf.setLoc,look,aM,ah,b4,aa,aZ,ag,af,al,List.length_cons,List.length_nil,List.getElem?_cons_zero,List.all_cons,List.all_nil,List.drop_zero,List.set_cons_zero,List.set_cons_succ,↓reduceIte,Nat.reduceEqDiff,Nat.reduceAdd,Nat.reduceLT,Nat.reduceLeDiff,Bool.true_and,Bool.and_true,and_true,true_and,Nat.zero_add,Nat.add_zero,aQ,am,f80_17e,f80_17l,f1,f2,g3,g7]
      refine happ _ fun v' st' hk' hv'=>?_
      rcases hv' with rfl | ⟨ib',ln',cap',rfl⟩
      all_goals
        simp (config:=KF) (disch:=omega) only [bZ,aJ,fd,aw,putS,Sf.set,Sf.reg,getR,setR,ae,Sf.disAt,look,b4,↓reduceIte,Nat.reduceEqDiff]
        exact hk'
  rw [hZ,ow] at hst
  rcases hv0.k with rfl | ⟨ib,ln,cap,rfl⟩
  all_goals
    simp (config:=KF) (disch:=omega) only [bZ,bA,bR,boxX,ar,putS,Sf.set,Sf.reg,getR,setR,ae,Sf.newLoc,look,bt,aM,aO,ah,b4,aa,ag,af,al,aF,aV,aB,gY,List.length_cons,List.all_cons,↓reduceIte,Nat.reduceEqDiff,Nat.reduceAdd,Bool.true_and,Bool.and_true,and_true,true_and,reduceCtorEq,Nat.zero_add,f80_1e,f80_2e,f80_2l,f80_3e,f80_4e,f1,f2,f3]
    exact hst
end
end Go.Fx.YtddifejdkiemgaaFx

