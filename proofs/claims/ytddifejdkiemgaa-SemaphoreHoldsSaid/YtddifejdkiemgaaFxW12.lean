/- What the functions that the statement reaches compute: part 12. -/
import Derived.Test.YtddifejdkiemgaaFxW11
namespace Go.Fx.YtddifejdkiemgaaFx
open Go Go.Fx
attribute [local irreducible] aC runI dg ep

set_option maxRecDepth 100000
set_option maxHeartbeats 4000000

def GBk (v:AV):Prop:=v = .lit (.slice none 0 0)∨∃ ib ln cap,v = .bs ib 2 0 ln cap
theorem GB.k {v:AV} {st:St} {l:List Gt} (h:GB v st l):GBk v:=by
  rcases h with h | ⟨id,cap,r,h,_⟩
  · exact .inl h.1
  · exact .inr ⟨id,_,cap,h⟩
/-- What a part of Advance leaves alone, and where its list lies. -/
structure Gw (st0 st:St) (b q mid wid:Nat) (v0 v:AV):Prop where
  fr:GFr st0 st ([b,q,mid,wid]++cL v0)
  ids:∀ i ∈ cL v,i ∈ cL v0∨st0.boxes.length≤i
  dj:∀ i ∈ cL v,i ∉ [b,q,mid,wid]
theorem Gw.refl {st:St} {b q mid wid:Nat} {v:AV} (h:∀ i ∈ cL v,i ∉ [b,q,mid,wid]):Gw st st b q mid wid v v:=⟨.refl _ _,fun i hi=>.inl hi,h⟩
theorem Gw.trans {a c d:St} {b q mid wid:Nat} {v0 v1 v2:AV} (h:Gw a c b q mid wid v0 v1) (k:Gw c d b q mid wid v1 v2):Gw a d b q mid wid v0 v2 :=
  ⟨h.fr.trans k.fr fun x hx=>by
      rcases List.mem_append.1 hx with hx | hx
      · exact .inl (List.mem_append_left _ hx)
      · exact (h.ids x hx).imp (List.mem_append_right _) id,
    fun i hi=>(k.ids i hi).elim (h.ids i) fun e=>.inr (Nat.le_trans h.fr.1 e),k.dj⟩
theorem Gw.oth {st st':St} {b q mid wid:Nat} {v:AV} (h:Oth st st' [b,q,mid,wid]) (hd:∀ i ∈ cL v,i ∉ [b,q,mid,wid]):Gw st st' b q mid wid v v:=⟨.oth h fun x hx=>List.mem_append_left _ hx,fun i hi=>.inl hi,hd⟩
theorem Gw.of {st st':St} {b q mid wid:Nat} {v v':AV} (hlt:∀ i ∈ [b,q,mid,wid],i < st.boxes.length) (hd:∀ i ∈ cL v,i ∉ [b,q,mid,wid]) (h1:GFr st st' ([b,q,mid,wid]++cL v)) (h2:∀ i ∈ cL v',i ∈ cL v∨st.boxes.length≤i):Gw st st' b q mid wid v v' :=
  ⟨h1,h2,fun i hi=>(h2 i hi).elim (hd i) fun e hx=>by have:=hlt i hx; omega⟩

def eC (d:Int) (V:List Vt):List Vt:=V.filter fun v=>v.2.2≠d
def expD (d:Int) (V:List Vt):List Gt:=(V.filter fun v=>v.2.2 = d).map fun v=>(v.1,12)
theorem qg (d:Int) (A:List Vt) (v:Vt):eC d (A++[v]) = eC d A++(if v.2.2 = d then [] else [v]):=by
  unfold eC; rw [List.filter_append]; by_cases h:v.2.2 = d <;> simp [h]
theorem rH (d:Int) (A:List Vt) (v:Vt):expD d (A++[v]) = expD d A++(if v.2.2 = d then [(v.1,12)] else []):=by
  unfold expD; rw [List.filter_append]; by_cases h:v.2.2 = d <;> simp [h]
theorem expD_len (d:Int) (A:List Vt):(expD d A).length≤A.length:=by simpa [expD] using List.length_filter_le _ A

section
variable {b q mid wid g:Nat} {sz nw:Int} {H:List Int} {V:List Vt}

theorem sadv_inner {st0:St} (h:SmIs st0 b q mid wid sz nw H V g) (hg0:g < 1000000) {v0:AV} {l0:List Gt} (hv0:GB v0 st0 l0) (hd0:∀ i ∈ cL v0,i ∉ [b,q,mid,wid]) (hl0:l0.length≤1000) (d to:Int) (Q:Exit→Sf→St→Prop)
    (hQ:∀ v st',GB v st' (l0++expD d V)→SmIs st' b q mid wid sz nw H (eC d V) g→Gw st0 st' b q mid wid v0 v→Q (.exit 2) ⟨[(0,.ptr b 0),(1,.lit (.int .u64 to)),(6,v)],[]⟩ st') :
    aC Go.Proofs.Try.prog id false f39_32 ⟨[(0,.ptr b 0),(1,.lit (.int .u64 to)),(6,v0),(7,.lit (.int .u64 d)),(30,.sl false 1 (ints (vtk V))),(31,.lit (.int .i64 (V.length:Nat))),(32,.lit (.int .i64 0))],[]⟩ st0 Q:=by
  have hcn0:=h.cnt
  rw [f39_32w]
  refine im (A:=Nat×AV×St) (fun a=>V.length - a.1) (fun a=>⟨[(0,.ptr b 0),(1,.lit (.int .u64 to)),(6,a.2.1),(7,.lit (.int .u64 d)),(30,.sl false 1 (ints (vtk V))),(31,.lit (.int .i64 (V.length:Nat))),(32,.lit (.int .i64 (a.1:Nat)))],[]⟩) (fun a=>a.2.2)
    (fun a=>a.1≤V.length∧SmIs a.2.2 b q mid wid sz nw H (eC d (V.take a.1)++V.drop a.1) g∧GB a.2.1 a.2.2 (l0++expD d (V.take a.1))∧Gw st0 a.2.2 b q mid wid v0 a.2.1) (0,v0,st0) ⟨by simp,by simpa [eC] using h,by simpa [expD] using hv0,.refl hd0⟩ (Sf.le_refl _) rfl ?_
  rintro ⟨i,v,st⟩ ⟨h1,h2,hv,hw⟩ K hK hKe hKr
  simp only at h1 h2 hv hw
  have hg:=h2.get
  have h65:=qp (q:=q) (wid:=wid) h2.hl
  by_cases hi:i < V.length
  · obtain ⟨⟨t,n,dl⟩,hvi⟩:∃ x,x = V[i]:=⟨_,rfl⟩
    have e1:(ints (vtk V)).getD i .any = .lit (.int .i64 t):=by
      simp [ints,vtk,List.getD,hi,← hvi]
    have e2:V.drop i = (t,n,dl)::V.drop (i + 1):=by rw [List.drop_eq_getElem_cons hi,← hvi]
    have e3:V.take (i + 1) = V.take i++[(t,n,dl)]:=by rw [List.take_succ_eq_append_getElem hi,← hvi]
    have hlv:(vtk V).length = V.length:=by simp [vtk]
    have hll:=eZ (vtk V)
    rw [e2] at h2
    obtain ⟨k,hk⟩:=(h2.look t (.agg [.lit (.int .i64 0),.lit (.int .u64 0),.lit (.int .u64 0)]) false).2 (eC d (V.take i)) n dl (V.drop (i + 1)) rfl
    simp only [Bool.false_eq_true,if_false] at hk
    have hnx:∀ v' st',SmIs st' b q mid wid sz nw H (eC d (V.take (i + 1))++V.drop (i + 1)) g→GB v' st' (l0++expD d (V.take (i + 1)))→Gw st0 st' b q mid wid v0 v'→GBk v'→∀ sf,sf = (⟨[(0,.ptr b 0),(1,.lit (.int .u64 to)),(6,v'),(7,.lit (.int .u64 d)),(30,.sl false 1 (ints (vtk V))),(31,.lit (.int .i64 (V.length:Nat))),(32,.lit (.int .i64 ((i:Int) + 1)))],[]⟩:Sf)→K .normal sf st':=by
      intro v' st' a1 a2 a3 a4 sf hsf
      subst hsf
      refine hK (i + 1,v',st') _ ⟨by simp only; omega,a1,a2,a3⟩ (by simp only; omega) ?_
      rcases a4 with rfl | ⟨ib,ln,cap,rfl⟩ <;> exact Sf.le_refl _
    have hel:=expD_len d (V.take i)
    have htl:(V.take i).length≤64:=by rw [List.length_take]; omega
    by_cases hdl:dl = d
    · subst hdl
      rw [e3,qg,rH,if_pos rfl,if_pos rfl,List.append_nil] at hnx
      have happ:∀ st1,SmIs st1 b q mid wid sz nw H (eC dl (V.take i)++V.drop (i + 1)) g→Oth st st1 [b,q,mid,wid]→∀ C:AV→St→Prop,(∀ v' st',K .normal ⟨[(0,.ptr b 0),(1,.lit (.int .u64 to)),(6,v'),(7,.lit (.int .u64 dl)),(30,.sl false 1 (ints (vtk V))),(31,.lit (.int .i64 (V.length:Nat))),(32,.lit (.int .i64 ((i:Int) + 1)))],[]⟩ st'→GBk v'→C v' st') →
          appX false 2 16 v C st1 [.agg [.lit (.int .i64 t),.lit (.int .i64 12)]]:=by
        intro st1 a1 a2 C hC
        have hv1:GB v st1 (l0++expD dl (V.take i)):=hv.at fun j hj=>a2.2 j (hw.dj j hj)
        have hw1:=hw.trans (Gw.oth a2 hw.dj)
        refine hv1.app (by simp only [List.length_append]; omega) _ _ fun v' st' b1 b2 b3=>?_
        have hlt1:=a1.lts
        have hb':=b1.k
        refine hC v' st' (hnx v' st' (a1.at fun j hj=>b2.2 j (hlt1 j hj) fun e=>hw.dj j e hj) (by simpa [List.append_assoc] using b1) (hw1.trans (.of hlt1 hw.dj (b2.mono fun x hx=>List.mem_append_right _ hx) b3)) hb' _ rfl) hb'
      rcases hv.cases with ⟨rfl,hz⟩ | ⟨ib,ln,cap,rfl,hz⟩
      all_goals
        simp (config:=KF) (disch:=omega) only [bZ,cf,kV,ca,ce,bH,ixSV,bK,cB,ixA,addA,a8,dx,cE,putS,Sf.set,Sf.reg,getR,setR,aD,Sf.disAt,cN,Int.toNat_natCast,↓reduceIte,Nat.reduceEqDiff,reduceCtorEq,Nat.zero_add,dC,cU,dI,f39_33e,f39_34e,f39_34l,f39_35e,f39_36e,f39_37e,f39_38e,f39_39e,f39_40e,f39_40l,f39_41e,f39_42e,f39_42l,e1,hll,hlv]
        simp (config:=KF) (disch:=omega) only [bZ,oY,gm,aI,kU,fa,ev_f,putS,Sf.set,Sf.reg,getR,setR,aD,id,dK,List.drop_zero,List.drop_succ_cons,↓reduceIte,Nat.reduceEqDiff,reduceCtorEq,decide_true,f39_43e,f39_44e,f39_45e,f39_45l,hg,h65,hk,seAV]
        refine du rfl e_f65 (li h2 hg0) rfl fun r st1 hr=>?_
        obtain ⟨rfl,a1,a2⟩:=hr
        simp (config:=KF) (disch:=omega) only [bZ,and_self,pW,oF,bH,o_x,bslV,bstV,eg,List.reduceReplicate,srcA,iL,eF,putS,Sf.set,Sf.reg,getR,setR,aD,Sf.disAt,dD,d4,dk,cN,cP,bU,cR,List.length_cons,List.length_nil,List.getElem?_cons_zero,List.getElem?_cons_succ,List.all_cons,List.all_nil,List.set_cons_zero,List.set_cons_succ,↓reduceIte,Nat.reduceEqDiff,Nat.reduceAdd,Nat.reduceLT,Nat.reduceLeDiff,Bool.and_true,and_true,reduceCtorEq,Nat.zero_add,cD,b4,f39_46e,f39_46l]
        refine happ st1 a1 a2 _ fun v' st' hk' hv'=>?_
        rcases hv' with rfl | ⟨ib',ln',cap',rfl⟩
        all_goals
          simp (config:=KF) (disch:=omega) only [bZ,bG,m9,bH,gC,putS,Sf.set,Sf.reg,getR,setR,aD,Sf.disAt,d4,↓reduceIte,Nat.reduceEqDiff,reduceCtorEq,IntWalk.i64_in,fk,f39_47e,f39_47l]
          exact hk'
    · rw [e3,qg,rH,if_neg hdl,if_neg hdl,List.append_nil] at hnx
      have hnx2:=hnx v st (by simpa [List.append_assoc] using h2) hv hw hv.k _ rfl
      rcases hv.cases with ⟨rfl,hz⟩ | ⟨ib,ln,cap,rfl,hz⟩
      all_goals
        simp (config:=KF) (disch:=omega) only [bZ,cf,kV,ca,ce,bH,ixSV,bK,cB,ixA,addA,a8,dx,cE,putS,Sf.set,Sf.reg,getR,setR,aD,Sf.disAt,cN,Int.toNat_natCast,↓reduceIte,Nat.reduceEqDiff,reduceCtorEq,Nat.zero_add,dC,cU,dI,f39_33e,f39_34e,f39_34l,f39_35e,f39_36e,f39_37e,f39_38e,f39_39e,f39_40e,f39_40l,f39_41e,f39_42e,f39_42l,e1,hll,hlv]
        simp (config:=KF) (disch:=omega) only [bZ,bG,oY,gm,kU,gC,fa,putS,Sf.set,Sf.reg,getR,setR,aD,dK,List.drop_zero,List.drop_succ_cons,↓reduceIte,Nat.reduceEqDiff,reduceCtorEq,dL,IntWalk.i64_in,fk,f39_43e,f39_47e,f39_47l,hg,h65,hk,seAV]
        exact hnx2
  · have hie:i = V.length:=by omega
    subst hie
    rw [List.take_length] at hv h2
    rw [List.drop_length,List.append_nil] at h2
    have hr:=hQ v st hv h2 hw
    rcases hv.cases with ⟨rfl,hz⟩ | ⟨ib,ln,cap,rfl,hz⟩
    all_goals
      simp (config:=KF) (disch:=omega) only [bZ,en,fP,dx,putS,Sf.set,Sf.reg,getR,setR,aD,↓reduceIte,Nat.reduceEqDiff,reduceCtorEq,dL,f39_33e,f39_34e,f39_34l,f39_35e,f39_36e]
      refine hKe _ _ _ ?_
      exact hr
end
end Go.Fx.YtddifejdkiemgaaFx

