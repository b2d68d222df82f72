/- What the functions that the statement reaches compute: part 26. -/
import Derived.Test.YtddifejdkiemgaaFxW25
namespace Go.Fx.YtddifejdkiemgaaFx
open Go Go.Fx
attribute [local irreducible] aC runI a9 cd

set_option maxRecDepth 100000
set_option maxHeartbeats 4000000

/-- What a part of the reference's Advance leaves alone, and where its list lies. -/
structure Rw (st0 st:St) (v0 v:AV):Prop where
  fr:GFr st0 st (aY v0)
  ids:∀ i ∈ aY v,i ∈ aY v0∨st0.boxes.length≤i
theorem Rw.refl (st:St) (v:AV):Rw st st v v:=⟨.refl _ _,fun i hi=>.inl hi⟩
theorem Rw.trans {a c d:St} {v0 v1 v2:AV} (h:Rw a c v0 v1) (k:Rw c d v1 v2):Rw a d v0 v2 :=
  ⟨h.fr.trans k.fr fun x hx=>h.ids x hx,fun i hi=>(k.ids i hi).elim (h.ids i) fun e=>.inr (Nat.le_trans h.fr.1 e)⟩

section
variable {H:List Int} {V:List Vt} {sz nw:Int}
theorem keep_sub (d:Int) (V:List Vt) (a:Nat):(bV d (V.take a)++V.drop a).Sublist V:=by
  conv=>rhs; rw [← List.take_append_drop a V]
  exact (List.filter_sublist).append (List.Sublist.refl _)

theorem radv_inner {st0:St} (h:RfOk sz nw H V) {v0:AV} {l0:List Gt} (hv0:GB v0 st0 l0) (hl0:l0.length≤1000) (d to:Int) (Z:List AV) (Q:Exit→Sf→St→Prop)
    (hQ:∀ v st',GB v st' (l0++expD d V)→Rw st0 st' v0 v→Q (.exit 2) ⟨[(1,.lit (.int .u64 to)),(2,.lptr 2 0),(4,.lptr 4 0),(7,v)],[(2,rfC sz nw H (bV d V)),(4,Z)]⟩ st') :
    aC Go.Proofs.Try.prog id false f75_25 ⟨[(1,.lit (.int .u64 to)),(2,.lptr 2 0),(4,.lptr 4 0),(7,v0),(8,.lit (.int .u64 d)),(9,.lit (.int .i64 0))],[(2,rfC sz nw H V),(4,Z)]⟩ st0 Q:=by
  have hcn0:=h.cnt
  rw [f75_25w]
  refine dh (A:=Nat×AV×St) (fun a=>V.length - a.1) (fun a=>⟨[(1,.lit (.int .u64 to)),(2,.lptr 2 0),(4,.lptr 4 0),(7,a.2.1),(8,.lit (.int .u64 d)),(9,.lit (.int .i64 ((bV d (V.take a.1)).length:Nat)))],[(2,rfC sz nw H (bV d (V.take a.1)++V.drop a.1)),(4,Z)]⟩) (fun a=>a.2.2)
    (fun a=>a.1≤V.length∧GB a.2.1 a.2.2 (l0++expD d (V.take a.1))∧Rw st0 a.2.2 v0 a.2.1) (0,v0,st0) ⟨by simp,by simpa [expD] using hv0,.refl _ _⟩ (Sf.le_refl _) rfl ?_
  rintro ⟨a,v,st⟩ ⟨h1,hv,hw⟩ K hK hKe hKr
  simp only at h1 hv hw
  dsimp only
  have h2:RfOk sz nw H (bV d (V.take a)++V.drop a):=h.sub (keep_sub d V a)
  obtain ⟨A,hA⟩:∃ A,A = bV d (V.take a):=⟨_,rfl⟩
  rw [← hA] at h2 ⊢
  have hAl:A.length≤64:=by
    have:=h2.cnt
    simp only [List.length_append] at this; omega
  have hel:=expD_len d (V.take a)
  have htl:(V.take a).length≤64:=by rw [List.length_take]; omega
  have f1:=fun H V=>cz (H:=H) (V:=V)
  have f2:=fun H V=>co (H:=H) (V:=V)
  have f3:=fun V=>bL (V:=V) h.hl
  have f6:=fun V=>bW (V:=V) h.hl
  have f7:=fun V V' a b=>eR (V:=V) (V':=V') h.hl h.hl a b
  by_cases hi:a < V.length
  · obtain ⟨⟨t,n,dl⟩,hvi⟩:∃ x,x = V[a]:=⟨_,rfl⟩
    have e2:V.drop a = (t,n,dl)::V.drop (a + 1):=by rw [List.drop_eq_getElem_cons hi,← hvi]
    have e3:V.take (a + 1) = V.take a++[(t,n,dl)]:=by rw [List.take_succ_eq_append_getElem hi,← hvi]
    obtain ⟨B,hB⟩:∃ B,B = V.drop (a + 1):=⟨_,rfl⟩
    rw [e2,← hB] at h2 ⊢
    obtain ⟨V1,hV1⟩:∃ V1,V1 = A++(t,n,dl)::B:=⟨_,rfl⟩
    have hln:V1.length = A.length + B.length + 1:=by rw [hV1]; simp; omega
    rw [← hV1] at h2 ⊢
    have hcn:=h2.cnt
    have hwoe:wo V1 A.length = A++B:=by rw [hV1]; unfold wo; simp
    have hwo:=fun st=>m3 (sz:=sz) (nw:=nw) (V:=V1) h.hl (i:=A.length) (by omega) (by omega) st
    rw [hwoe] at hwo
    have f4:=jn (V:=V1) h.hl
    have f5:qR V1 = .sl false 3 (V1.map wtR):=by unfold qR; rw [if_neg (by rw [hV1]; simp)]
    rw [f5] at f4
    have e1:(V1.map wtR).getD A.length .any = .agg [.lit (.int .i64 t),.lit (.int .i64 n),.lit (.int .u64 dl)]:=by rw [hV1]; simp [List.getD,wtR]
    have hml:(V1.map wtR).length = A.length + B.length + 1:=by simp [hln]
    have hnx:∀ A' v' st' (i':Int),bV d (V.take (a + 1)) = A'→GB v' st' (l0++expD d (V.take (a + 1)))→Rw st0 st' v0 v'→GBk v'→i' = ((A'.length:Nat):Int)→∀ sf,sf = (⟨[(1,.lit (.int .u64 to)),(2,.lptr 2 0),(4,.lptr 4 0),(7,v'),(8,.lit (.int .u64 d)),(9,.lit (.int .i64 i'))],[(2,rfC sz nw H (A'++B)),(4,Z)]⟩:Sf)→K .normal sf st':=by
      intro A' v' st' i' a1 a2 a3 a4 a5 sf hsf
      subst hsf a5
      refine hK (a + 1,v',st') _ ⟨by simp only; omega,a2,a3⟩ (by simp only; omega) ?_
      simp only [a1,← hB]
      rcases a4 with rfl | ⟨ib,ln,cap,rfl⟩ <;> exact Sf.le_refl _
    by_cases hdl:dl = d
    · subst hdl
      rw [e3,ij,i6,if_pos rfl,if_pos rfl,List.append_nil,← hA] at hnx
      have happ:∀ C:AV→St→Prop,(∀ v' st',K .normal ⟨[(1,.lit (.int .u64 to)),(2,.lptr 2 0),(4,.lptr 4 0),(7,v'),(8,.lit (.int .u64 dl)),(9,.lit (.int .i64 (A.length:Nat)))],[(2,rfC sz nw H (A++B)),(4,Z)]⟩ st'→GBk v'→C v' st') →
          appX false 2 16 v C st [.agg [.lit (.int .i64 t),.lit (.int .i64 12)]]:=by
        intro C hC
        refine hv.app (by simp only [List.length_append]; omega) _ _ fun v' st' b1 b2 b3=>?_
        exact hC v' st' (hnx A v' st' _ rfl (by simpa [List.append_assoc] using b1) (hw.trans ⟨b2,b3⟩) b1.k rfl _ rfl) b1.k
      rcases hv.k with rfl | ⟨ib,ln,cap,rfl⟩
      all_goals
        simp (config:=KF) (disch:=omega) only [bZ,and_self,az,gB,ap,gC,eZ,ce,aw,o_x,ixSV,aq,bslV,bstV,cv,List.reduceReplicate,ixA,lenI,addA,aj,srcA,d7,cu,cA,bd,ak,putS,Sf.set,Sf.reg,getR,setR,ae,Sf.disAt,look,br,ah,b4,aa,aZ,ag,af,al,List.length_cons,List.length_nil,List.getElem?_cons_zero,List.getElem?_cons_succ,List.all_cons,List.all_nil,List.drop_zero,List.drop_succ_cons,List.set_cons_zero,List.set_cons_succ,Int.toNat_natCast,↓reduceIte,Nat.reduceEqDiff,Nat.reduceAdd,Nat.reduceLT,Nat.reduceLeDiff,Bool.and_true,and_true,Nat.zero_add,not_true_eq_false,decide_false,bD,aS,bK,aQ,am,f75_26e,f75_27e,f75_28e,f75_28l,f75_29e,f75_30e,f75_31e,f75_32e,f75_33e,f75_33l,f75_34e,f75_37e,f75_38e,f75_38l,f4,e1,hml]
        refine happ _ fun v' st' hk' hv'=>?_
        rcases hv' with rfl | ⟨ib',ln',cap',rfl⟩
        all_goals
          simp (config:=KF) (disch:=omega) only [bZ,fd,ap,aw,au,aq,aj,ai,ak,aA,ev_f,putS,Sf.set,Sf.reg,getR,setR,ae,Sf.disAt,look,id,ah,b4,aa,List.length_cons,List.drop_zero,List.take_succ_cons,↓reduceIte,Nat.reduceEqDiff,Nat.reduceAdd,Nat.reduceLeDiff,decide_true,f75_39e,f75_39l,f1,f3,f6]
          refine aL (vs:=[rfAV sz nw H V1,.lit (.int .i64 (A.length:Nat))]) (by simp only [List.map_cons,List.map_nil,List.nil_append,List.append_nil,ah,aa,bH,f1]) e_f81 (hwo _) rfl ?_
          simp (config:=KF) (disch:=omega) only [bZ,aJ,aH,boxX,aU,ar,aG,putS,Sf.set,Sf.reg,getR,setR,ae,Sf.disAt,Sf.setLoc,look,aM,ah,aa,ag,af,al,List.length_cons,List.all_cons,List.set_cons_zero,List.set_cons_succ,↓reduceIte,Nat.reduceEqDiff,Nat.reduceAdd,Nat.reduceLeDiff,Bool.true_and,Bool.and_true,and_true,true_and,Nat.zero_add,am,f1,f2,f3,f7]
          exact hk'
    · rw [e3,ij,i6,if_neg hdl,if_neg hdl,List.append_nil,← hA] at hnx
      have hnx2:=hnx (A++[(t,n,dl)]) v st ((A.length:Int) + 1) rfl hv hw hv.k (by simp) _ rfl
      rw [show A++[(t,n,dl)]++B = V1 by rw [hV1]; simp] at hnx2
      rcases hv.k with rfl | ⟨ib,ln,cap,rfl⟩
      all_goals
        simp (config:=KF) (disch:=omega) only [bZ,b8,bM,cL,az,gB,ap,ce,aw,ixSV,aq,ixA,lenI,addA,aj,cZ,cA,bd,ak,putS,Sf.set,Sf.reg,getR,setR,ae,Sf.disAt,look,br,ag,List.drop_zero,List.drop_succ_cons,Int.toNat_natCast,↓reduceIte,Nat.reduceEqDiff,Nat.zero_add,bD,aS,IntWalk.i64_in,cP,bK,f75_26e,f75_27e,f75_28e,f75_28l,f75_29e,f75_30e,f75_31e,f75_32e,f75_33e,f75_33l,f75_34e,f75_35e,f75_36e,f75_36l,f4,e1,hml]
        exact hnx2
  · have hie:a = V.length:=by omega
    subst hie
    rw [List.take_length] at hv hA
    rw [List.drop_length,List.append_nil] at h2 ⊢
    subst hA
    have hr:=hQ v st hv hw
    have f4:=jn (V:=bV d V) h.hl
    have hml:((bV d V).map wtR).length = (bV d V).length:=by simp
    rcases fQ (bV d V) with ⟨e,hz⟩ | ⟨e,hz⟩
    · rw [e] at f4
      rw [hz] at f4 hr ⊢
      rcases hv.k with rfl | ⟨ib,ln,cap,rfl⟩
      all_goals
        simp (config:=KF) (disch:=omega) only [bZ,b8,cL,az,ap,ce,aq,lenI,addA,aj,bd,putS,Sf.set,Sf.reg,getR,setR,ae,look,List.length_nil,List.drop_succ_cons,Int.cast_ofNat_Int,↓reduceIte,Nat.reduceEqDiff,Int.reduceLT,Nat.zero_add,decide_false,f75_26e,f75_27e,f75_28e,f75_28l,f75_29e,f4]
        refine hKe _ _ _ ?_
        exact hr
    · rw [e] at f4
      rcases hv.k with rfl | ⟨ib,ln,cap,rfl⟩
      all_goals
        simp (config:=KF) (disch:=omega) only [bZ,b8,cL,az,ap,ce,aq,lenI,addA,aj,bd,putS,Sf.set,Sf.reg,getR,setR,ae,look,br,List.drop_succ_cons,↓reduceIte,Nat.reduceEqDiff,Nat.zero_add,a8,f75_26e,f75_27e,f75_28e,f75_28l,f75_29e,f4,hml]
        refine hKe _ _ _ ?_
        exact hr
end
end Go.Fx.YtddifejdkiemgaaFx

