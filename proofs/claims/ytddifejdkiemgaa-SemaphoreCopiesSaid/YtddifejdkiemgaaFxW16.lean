/- What the functions that the statement reaches compute: part 16. -/
import Derived.Test.YtddifejdkiemgaaFxW15
namespace Go.Fx.YtddifejdkiemgaaFx
open Go Go.Fx
attribute [local irreducible] aC runI a9 cd

set_option maxRecDepth 100000
set_option maxHeartbeats 4000000

/-! The reference's state. -/
def wtR (v:Vt):AV:=.agg [.lit (.int .i64 v.1),.lit (.int .i64 v.2.1),.lit (.int .u64 v.2.2)]
def qR (V:List Vt):AV:=if V = [] then .lit (.slice none 0 0) else .sl false 3 (V.map wtR)
def hR (H:List Int) (V:List Vt):List AV:=ints H++[qR V]
abbrev rfC (sz nw:Int) (H:List Int) (V:List Vt):List AV:=.lit (.int .i64 sz)::.lit (.int .u64 nw)::hR H V
abbrev rfAV (sz nw:Int) (H:List Int) (V:List Vt):AV:=.agg (rfC sz nw H V)
theorem fQ (V:List Vt):(qR V = .lit (.slice none 0 0)∧V = [])∨(qR V = .sl false 3 (V.map wtR)∧V≠[]):=by
  unfold qR
  by_cases h:V = []
  · rw [if_pos h]; exact .inl ⟨rfl,h⟩
  · rw [if_neg h]; exact .inr ⟨rfl,h⟩
theorem qR_facts (V:List Vt):(qR V).own1 = qR V∧(qR V).solid1 = true∧(qR V).own2 = qR V∧(qR V).dis = qR V:=by
  rcases fQ V with ⟨e,_⟩ | ⟨e,_⟩ <;> rw [e] <;> exact ⟨rfl,rfl,rfl,rfl⟩
section
variable {H:List Int} {V:List Vt}
theorem cz:(hR H V).map AV.own1 = hR H V:=by
  unfold hR
  rw [List.map_append,List.map_cons,(qR_facts V).1]
  congr 1
  simp [ints,Function.comp_def,AV.own1]
theorem co:(hR H V).all AV.solid1 = true:=by
  unfold hR
  simp only [List.all_append,List.all_cons,List.all_nil,Bool.and_true,(qR_facts V).2.1]
  simp [ints,AV.solid1]
theorem bL (hl:H.length = 64):(hR H V).length = 65:=by simp [hR,cn,hl]
theorem bW (hl:H.length = 64):(hR H V).take 65 = hR H V:=List.take_of_length_le (by rw [bL hl]; omega)
theorem jn (hl:H.length = 64):(hR H V).drop 64 = [qR V]:=by
  unfold hR
  rw [List.drop_append_of_le_length (by simp [cn,hl]),List.drop_of_length_le (by simp [cn,hl])]; rfl
theorem dF (hl:H.length = 64) (a b:AV):cG (a::b::AV.lit (.int .i64 0)::AV.lit (.int .i64 0)::AV.lit (.int .i64 0)::AV.lit (.int .i64 0)::AV.lit (.int .i64 0)::AV.lit (.int .i64 0)::AV.lit (.int .i64 0)::AV.lit (.int .i64 0)::AV.lit (.int .i64 0)::AV.lit (.int .i64 0)::AV.lit (.int .i64 0)::AV.lit (.int .i64 0)::AV.lit (.int .i64 0)::AV.lit (.int .i64 0)::AV.lit (.int .i64 0)::AV.lit (.int .i64 0)::AV.lit (.int .i64 0)::AV.lit (.int .i64 0)::AV.lit (.int .i64 0)::AV.lit (.int .i64 0)::AV.lit (.int .i64 0)::AV.lit (.int .i64 0)::AV.lit (.int .i64 0)::AV.lit (.int .i64 0)::AV.lit (.int .i64 0)::AV.lit (.int .i64 0)::AV.lit (.int .i64 0)::AV.lit (.int .i64 0)::AV.lit (.int .i64 0)::AV.lit (.int .i64 0)::AV.lit (.int .i64 0)::AV.lit (.int .i64 0)::AV.lit (.int .i64 0)::AV.lit (.int .i64 0)::AV.lit (.int .i64 0)::AV.lit (.int .i64 0)::AV.lit (.int .i64 0)::AV.lit (.int .i64 0)::AV.lit (.int .i64 0)::AV.lit (.int .i64 0)::AV.lit (.int .i64 0)::AV.lit (.int .i64 0)::AV.lit (.int .i64 0)::AV.lit (.int .i64 0)::AV.lit (.int .i64 0)::AV.lit (.int .i64 0)::AV.lit (.int .i64 0)::AV.lit (.int .i64 0)::AV.lit (.int .i64 0)::AV.lit (.int .i64 0)::AV.lit (.int .i64 0)::AV.lit (.int .i64 0)::AV.lit (.int .i64 0)::AV.lit (.int .i64 0)::AV.lit (.int .i64 0)::AV.lit (.int .i64 0)::AV.lit (.int .i64 0)::AV.lit (.int .i64 0)::AV.lit (.int .i64 0)::AV.lit (.int .i64 0)::AV.lit (.int .i64 0)::AV.lit (.int .i64 0)::AV.lit (.int .i64 0)::AV.lit (.int .i64 0)::AV.lit (.slice none 0 0)::[]) 2 (hR H V) = a::b::hR H V:=by
  have h1:=bL (V:=V) hl
  have:=gH (vs:=hR H V) (xs:=[a,b]) (rs:=AV.lit (.int .i64 0)::AV.lit (.int .i64 0)::AV.lit (.int .i64 0)::AV.lit (.int .i64 0)::AV.lit (.int .i64 0)::AV.lit (.int .i64 0)::AV.lit (.int .i64 0)::AV.lit (.int .i64 0)::AV.lit (.int .i64 0)::AV.lit (.int .i64 0)::AV.lit (.int .i64 0)::AV.lit (.int .i64 0)::AV.lit (.int .i64 0)::AV.lit (.int .i64 0)::AV.lit (.int .i64 0)::AV.lit (.int .i64 0)::AV.lit (.int .i64 0)::AV.lit (.int .i64 0)::AV.lit (.int .i64 0)::AV.lit (.int .i64 0)::AV.lit (.int .i64 0)::AV.lit (.int .i64 0)::AV.lit (.int .i64 0)::AV.lit (.int .i64 0)::AV.lit (.int .i64 0)::AV.lit (.int .i64 0)::AV.lit (.int .i64 0)::AV.lit (.int .i64 0)::AV.lit (.int .i64 0)::AV.lit (.int .i64 0)::AV.lit (.int .i64 0)::AV.lit (.int .i64 0)::AV.lit (.int .i64 0)::AV.lit (.int .i64 0)::AV.lit (.int .i64 0)::AV.lit (.int .i64 0)::AV.lit (.int .i64 0)::AV.lit (.int .i64 0)::AV.lit (.int .i64 0)::AV.lit (.int .i64 0)::AV.lit (.int .i64 0)::AV.lit (.int .i64 0)::AV.lit (.int .i64 0)::AV.lit (.int .i64 0)::AV.lit (.int .i64 0)::AV.lit (.int .i64 0)::AV.lit (.int .i64 0)::AV.lit (.int .i64 0)::AV.lit (.int .i64 0)::AV.lit (.int .i64 0)::AV.lit (.int .i64 0)::AV.lit (.int .i64 0)::AV.lit (.int .i64 0)::AV.lit (.int .i64 0)::AV.lit (.int .i64 0)::AV.lit (.int .i64 0)::AV.lit (.int .i64 0)::AV.lit (.int .i64 0)::AV.lit (.int .i64 0)::AV.lit (.int .i64 0)::AV.lit (.int .i64 0)::AV.lit (.int .i64 0)::AV.lit (.int .i64 0)::AV.lit (.int .i64 0)::AV.lit (.slice none 0 0)::[]) (n:=2) rfl (by rw [h1]; simp)
  rw [h1] at this
  refine Eq.trans this ?_
  simp
theorem jB {sz nw:Int} (hl:H.length = 64) {i:Int} (h0:0≤i) (h1:i < 64):∃ r,(rfC sz nw H V).drop (2 + i.toNat) = .lit (.int .i64 (getH H i))::r:=by
  obtain ⟨k,rfl⟩:∃ k:Nat,i = (k:Int):=⟨i.toNat,by omega⟩
  refine ⟨(hR H V).drop (k + 1),?_⟩
  have hk:k < H.length:=by omega
  rw [Int.toNat_natCast,show 2 + k = k + 2 by omega]
  unfold rfC
  simp only [List.drop_succ_cons]
  rw [List.drop_eq_getElem_cons (by simp [hR,cn]; omega)]
  congr 1
  unfold hR getH
  rw [List.getElem_append_left (by simp [cn]; omega)]
  simp [ints,List.getD,hk]

theorem sum_take {H:List Int} {i:Nat} (h:i < H.length):(H.take (i + 1)).sum = (H.take i).sum + getH H i:=by
  have e:getH H i = H[i]:=by simp [getH,List.getD,h]
  rw [e,List.take_succ_eq_append_getElem h,List.sum_append]
  simp only [List.sum_cons,List.sum_nil,Int.add_zero]

theorem ik {sz nw:Int} (hl:H.length = 64) (hb:∀ h ∈ H,0≤h) (hs:H.sum≤sz) (hz:0≤sz∧sz≤1048576) (st:St):bF Go.Proofs.Try.prog n_f55 [rfAV sz nw H V] st (.lit (.int .i64 (sz - H.sum))):=by
  refine bU hmix k_f55 rfl rfl fun Q hQ=>?_
  unfold aFun c_f55
  have f1:=cz (H:=H) (V:=V)
  have f2:=co (H:=H) (V:=V)
  have f3:=bL (V:=V) hl
  simp (config:=KF) (disch:=omega) only [bZ,az,ap,aw,bR,aq,boxX,addA,aj,ar,putS,Sf.set,Sf.reg,getR,setR,ae,Sf.disAt,Sf.newLoc,look,bt,aM,aO,ah,aa,ag,af,al,aB,List.length_cons,List.all_cons,List.drop_zero,↓reduceIte,Nat.reduceEqDiff,Nat.reduceAdd,Bool.true_and,Bool.and_true,and_true,true_and,reduceCtorEq,Nat.add_zero,f55_1e,f55_2e,f55_2l,f55_3e,f55_4e,f55_4l,f55_5e,f55_6e,f55_7e,f55_7l,f55_8e,f1,f2,f3]
  rw [f55_9w]
  refine dh (A:=Nat) (fun a=>64 - a) (fun a=>⟨[(1,.lptr 1 0),(3,.lit (.int .i64 (sz - (H.take a).sum))),(4,.lit (.int .i64 (a:Nat)))],[(1,rfC sz nw H V)]⟩) (fun _=>st) (fun a=>a≤64) 0 (by omega) (by simp only [List.take_zero,List.sum_nil,Int.sub_zero]; exact Sf.le_refl _) rfl ?_
  rintro i h1 K hK hKe hKr
  by_cases h:i < 64
  · obtain ⟨r,hr⟩:=jB (sz:=sz) (nw:=nw) (V:=V) hl (i:=(i:Int)) (by omega) (by omega)
    rw [Int.toNat_natCast] at hr
    have hst:=sum_take (H:=H) (i:=i) (by omega)
    have hg1:=m6 H i (by simp; omega)
    have hg2:=hb _ hg1
    have hg3:=(fR H hb).2 _ hg1
    have ht:∀ k,0≤(H.take k).sum∧(H.take k).sum≤H.sum:=fun k=>by
      have h1:=fR (H.take k) fun x hx=>hb x (List.mem_of_mem_take hx)
      have h2:=fR (H.drop k) fun x hx=>hb x (List.mem_of_mem_drop hx)
      have h3:H.sum = (H.take k).sum + (H.drop k).sum:=by rw [← List.sum_append,List.take_append_drop]
      exact ⟨h1.1,by have:=h2.1; omega⟩
    obtain ⟨t1,t2⟩:=ht i
    simp (config:=KF) (disch:=omega) only [bZ,aJ,az,jk,ap,aw,aq,ixA,addA,aj,cZ,n_sub,bd,ak,putS,Sf.set,Sf.reg,getR,setR,ae,Sf.disAt,look,Int.toNat_natCast,Int.cast_ofNat_Int,↓reduceIte,Nat.reduceEqDiff,Nat.zero_add,bD,aS,IntWalk.i64_in,cP,bK,Nat.mul_one,f55_10e,f55_11e,f55_12e,f55_12l,f55_13e,f55_14e,f55_15e,f55_16e,f55_16l,f55_17e,f55_17l,hr]
    refine hK (i + 1) _ (by omega) (by omega) ?_
    simp only [hst,show ∀ a b c:Int,a - (b + c) = a - b - c from fun a b c=>by omega]
    exact Sf.le_refl _
  · simp (config:=KF) (disch:=omega) only [bZ,b8,cL,bd,putS,Sf.set,Sf.reg,getR,setR,ae,look,↓reduceIte,Nat.reduceEqDiff,a8,f55_10e,f55_11e,f55_12e,f55_12l,f55_13e]
    refine hKe _ _ _ ?_
    have:H.take i = H:=List.take_of_length_le (by omega)
    rw [this]
    simp (config:=KF) (disch:=omega) only [bZ,bM,retI,aw,putS,Sf.set,Sf.reg,getR,setR,ae,Sf.disAt,↓reduceIte,Nat.reduceEqDiff,Bool.true_and,true_and,f55_18e,f55_19e,f55_19l]
    exact hQ _

theorem nA {sz nw:Int} (hl:H.length = 64) (hV:V.length≤1000) (st:St):bF Go.Proofs.Try.prog n_f56 [rfAV sz nw H V] st (lAV (vtk V)):=by
  refine bU hmix k_f56 rfl rfl fun Q hQ=>?_
  unfold aFun c_f56
  have f1:=cz (H:=H) (V:=V)
  have f2:=co (H:=H) (V:=V)
  have f3:=bL (V:=V) hl
  have f4:=jn (V:=V) hl
  have hml:(V.map wtR).length = V.length:=by simp
  simp (config:=KF) (disch:=omega) only [bZ,bR,boxX,ar,putS,Sf.set,Sf.reg,getR,setR,ae,Sf.newLoc,look,bt,aM,aO,ah,aa,ag,af,al,aB,List.length_cons,List.all_cons,↓reduceIte,Nat.reduceEqDiff,Nat.reduceAdd,Bool.true_and,Bool.and_true,and_true,true_and,reduceCtorEq,f56_1e,f56_2e,f56_2l,f56_3e,f56_4e,f56_4l,f56_5e,f56_6e,f56_7e,f56_7l,f56_8e,f1,f2,f3]
  rw [f56_9w]
  refine dh (A:=Nat) (fun a=>V.length - a) (fun a=>⟨[(1,.lptr 1 0),(3,gAV ((vtk V).take a)),(4,.lit (.int .i64 (a:Nat)))],[(1,rfC sz nw H V)]⟩) (fun _=>st) (fun a=>a≤V.length) 0 (by omega) (Sf.le_refl _) rfl ?_
  rintro i h1 K hK hKe hKr
  have hvl:(vtk V).length = V.length:=by simp [vtk]
  have htl:(ints ((vtk V).take i)).length = i:=by simp [ints]; omega
  by_cases h:i < V.length
  · have hV0:V≠[]:=by rintro rfl; simp at h
    have f5:qR V = .sl false 3 (V.map wtR):=by unfold qR; rw [if_neg hV0]
    rw [f5] at f4
    have e1:(V.map wtR).getD i .any = .agg [.lit (.int .i64 V[i].1),.lit (.int .i64 V[i].2.1),.lit (.int .u64 V[i].2.2)]:=by simp [List.getD,h,wtR]
    have htk:(vtk V).take (i + 1) = (vtk V).take i++[V[i].1]:=by rw [List.take_succ_eq_append_getElem (by omega)]; simp [vtk]
    have hgs:gAV ((vtk V).take (i + 1)) = .sl true 1 (ints ((vtk V).take i)++[.lit (.int .i64 V[i].1)]):=by
      rw [htk]; unfold gAV; rw [if_neg (by simp),ints_app]; rfl
    have hfin:=hK (i + 1) ⟨[(1,.lptr 1 0),(3,gAV ((vtk V).take (i + 1))),(4,.lit (.int .i64 ((i:Int) + 1)))],[(1,rfC sz nw H V)]⟩ (by omega) (by omega) (Sf.le_refl _)
    rw [hgs] at hfin
    rcases kV ((vtk V).take i) with ⟨e,hz⟩ | ⟨e,hz⟩
    · rw [e]
      rw [hz] at hfin
      simp (config:=KF) (disch:=omega) only [bZ,and_self,aJ,az,gB,ap,gC,ce,aw,gX,ixSV,aq,bslV,iG,List.isEmpty_cons,List.reduceReplicate,ixA,lenI,addA,aj,dt,srcA,d7,cZ,bd,ak,aA,putS,Sf.set,Sf.reg,getR,setR,ae,Sf.disAt,look,br,aZ,ag,af,al,List.length_cons,List.length_nil,List.all_cons,List.all_nil,List.drop_zero,List.drop_succ_cons,List.set_cons_zero,Int.toNat_natCast,↓reduceIte,Nat.reduceEqDiff,Nat.reduceLT,Bool.and_true,and_true,Nat.zero_add,Bool.false_eq_true,bD,fZ,aS,IntWalk.i64_in,cP,bK,f56_10e,f56_11e,f56_12e,f56_12l,f56_13e,f56_14e,f56_15e,f56_16e,f56_16l,f56_17e,f56_17l,f4,e1,hml]
      exact hfin
    · rw [e]
      simp (config:=KF) (disch:=omega) only [bZ,and_self,aJ,az,gB,ap,gC,ce,aw,gX,ixSV,aq,bslV,iG,List.reduceReplicate,ixA,lenI,addA,aj,eO,srcA,d7,cZ,bd,ak,aA,putS,Sf.set,Sf.reg,getR,setR,ae,Sf.disAt,look,br,aZ,ag,af,al,List.length_cons,List.length_nil,List.all_cons,List.all_nil,List.drop_zero,List.drop_succ_cons,List.set_cons_zero,Int.toNat_natCast,↓reduceIte,Nat.reduceEqDiff,Nat.reduceLT,Bool.and_true,and_true,Nat.zero_add,bD,fZ,aS,IntWalk.i64_in,cP,bK,f56_10e,f56_11e,f56_12e,f56_12l,f56_13e,f56_14e,f56_15e,f56_16e,f56_16l,f56_17e,f56_17l,f4,e1,hml,htl]
      exact hfin
  · have hie:(vtk V).take i = vtk V:=List.take_of_length_le (by omega)
    rw [hie]
    have hf:=hQ st
    rcases fQ V with ⟨e,hz⟩ | ⟨e,hz⟩
    · rw [e] at f4
      have hz2:vtk V = []:=by rw [hz]; rfl
      rw [hz2] at hf ⊢
      rw [show gAV [] = .lit (.slice none 0 0) from rfl]
      rw [show lAV [] = .lit (.slice none 0 0) from rfl] at hf
      simp (config:=KF) (disch:=omega) only [bZ,b8,cL,az,ap,ce,aq,lenI,addA,aj,bd,putS,Sf.set,Sf.reg,getR,setR,ae,look,List.drop_succ_cons,↓reduceIte,Nat.reduceEqDiff,Nat.zero_add,a8,f56_10e,f56_11e,f56_12e,f56_12l,f56_13e,f4]
      refine hKe _ _ _ ?_
      simp (config:=KF) (disch:=omega) only [bZ,bM,retI,aw,putS,Sf.set,Sf.reg,getR,setR,ae,Sf.disAt,↓reduceIte,Nat.reduceEqDiff,Bool.true_and,true_and,f56_18e,f56_19e,f56_19l]
      exact hf
    · rw [e] at f4
      have hz2:vtk V≠[]:=by intro q; exact hz (by simpa [vtk] using q)
      rw [show gAV (vtk V) = .sl true 1 (ints (vtk V)) by unfold gAV; rw [if_neg hz2]]
      rw [show lAV (vtk V) = .sl false 1 (ints (vtk V)) by unfold lAV; rw [if_neg hz2]] at hf
      simp (config:=KF) (disch:=omega) only [bZ,b8,cL,az,ap,ce,aq,lenI,addA,aj,bd,putS,Sf.set,Sf.reg,getR,setR,ae,look,br,List.drop_succ_cons,↓reduceIte,Nat.reduceEqDiff,Nat.zero_add,a8,f56_10e,f56_11e,f56_12e,f56_12l,f56_13e,f4,hml]
      refine hKe _ _ _ ?_
      simp (config:=KF) (disch:=omega) only [bZ,bM,retI,aw,putS,Sf.set,Sf.reg,getR,setR,ae,Sf.disAt,br,kM,↓reduceIte,Nat.reduceEqDiff,Bool.true_and,true_and,f56_18e,f56_19e,f56_19l]
      exact hf

theorem nextV_take {V:List Vt} {i:Nat} (h:i < V.length):bf (V.take (i + 1)) = min (bf (V.take i)) V[i].2.2:=by
  rw [List.take_succ_eq_append_getElem h]
  have key:∀ (A:List Vt) (x:Vt),x.2.2≤nev∨True→bf (A++[x]) = min (bf A) (min x.2.2 nev):=by
    intro A x _
    induction A with
    | nil=>simp only [List.nil_append,bf]; omega
    | cons a A ih=>simp only [List.cons_append,bf,ih]; omega
  rw [key _ _ (.inr trivial)]
  have:=(ke (V.take i)).1
  omega

theorem mY {sz nw:Int} (hl:H.length = 64) (hV:V.length≤1000) (st:St):bF Go.Proofs.Try.prog n_f57 [rfAV sz nw H V] st (.lit (.int .u64 (bf V))):=by
  refine bU hmix k_f57 rfl rfl fun Q hQ=>?_
  unfold aFun c_f57
  have f1:=cz (H:=H) (V:=V)
  have f2:=co (H:=H) (V:=V)
  have f3:=bL (V:=V) hl
  have f4:=jn (V:=V) hl
  have hml:(V.map wtR).length = V.length:=by simp
  simp (config:=KF) (disch:=omega) only [bZ,bR,boxX,ar,putS,Sf.set,Sf.reg,getR,setR,ae,Sf.newLoc,look,bt,aM,aO,ah,aa,ag,af,al,aB,List.length_cons,List.all_cons,↓reduceIte,Nat.reduceEqDiff,Nat.reduceAdd,Bool.true_and,Bool.and_true,and_true,true_and,reduceCtorEq,f57_1e,f57_2e,f57_2l,f57_3e,f57_4e,f57_4l,f57_5e,f57_6e,f57_7e,f57_7l,f57_8e,f1,f2,f3]
  rw [f57_9w]
  refine dh (A:=Nat) (fun a=>V.length - a) (fun a=>⟨[(1,.lptr 1 0),(3,.lit (.int .u64 (bf (V.take a)))),(4,.lit (.int .i64 (a:Nat)))],[(1,rfC sz nw H V)]⟩) (fun _=>st) (fun a=>a≤V.length) 0 (by omega) (Sf.le_refl _) rfl ?_
  rintro i h1 K hK hKe hKr
  by_cases h:i < V.length
  · have hV0:V≠[]:=by rintro rfl; simp at h
    have f5:qR V = .sl false 3 (V.map wtR):=by unfold qR; rw [if_neg hV0]
    rw [f5] at f4
    have e1:(V.map wtR).getD i .any = .agg [.lit (.int .i64 V[i].1),.lit (.int .i64 V[i].2.1),.lit (.int .u64 V[i].2.2)]:=by simp [List.getD,h,wtR]
    have hn:=nextV_take h
    have hmin:(if V[i].2.2 < bf (V.take i) then V[i].2.2 else bf (V.take i)) = bf (V.take (i + 1)):=by rw [hn]; split <;> omega
    have hfin:=hK (i + 1) ⟨[(1,.lptr 1 0),(3,.lit (.int .u64 (bf (V.take (i + 1))))),(4,.lit (.int .i64 ((i:Int) + 1)))],[(1,rfC sz nw H V)]⟩ (by omega) (by omega) (Sf.le_refl _)
    simp (config:=KF) (disch:=omega) only [bZ,aJ,az,gB,ap,ce,o_mn,aw,ixSV,aq,ixA,lenI,addA,aj,fU,cZ,bd,ak,putS,Sf.set,Sf.reg,getR,setR,ae,Sf.disAt,look,br,ag,List.drop_zero,List.drop_succ_cons,Int.toNat_natCast,↓reduceIte,Nat.reduceEqDiff,Nat.zero_add,bD,aS,IntWalk.i64_in,cP,bK,f57_10e,f57_11e,f57_12e,f57_12l,f57_13e,f57_14e,f57_15e,f57_16e,f57_16l,f57_17e,f57_17l,f4,e1,hml]
    rw [hmin]
    exact hfin
  · have hie:V.take i = V:=List.take_of_length_le (by omega)
    rw [hie]
    have hf:=hQ st
    rcases fQ V with ⟨e,hz⟩ | ⟨e,hz⟩
    all_goals
      rw [e] at f4
      simp (config:=KF) (disch:=omega) only [bZ,b8,cL,az,ap,ce,aq,lenI,addA,aj,bd,putS,Sf.set,Sf.reg,getR,setR,ae,look,br,List.drop_succ_cons,↓reduceIte,Nat.reduceEqDiff,Nat.zero_add,a8,f57_10e,f57_11e,f57_12e,f57_12l,f57_13e,f4,hml]
      refine hKe _ _ _ ?_
      simp (config:=KF) (disch:=omega) only [bZ,bM,retI,aw,putS,Sf.set,Sf.reg,getR,setR,ae,Sf.disAt,↓reduceIte,Nat.reduceEqDiff,Bool.true_and,true_and,f57_18e,f57_19e,f57_19l]
      exact hf
end
end Go.Fx.YtddifejdkiemgaaFx

