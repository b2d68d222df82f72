/- What the functions that the statement reaches compute: part 4. -/
import Derived.Test.YtddifejdkiemgaaFxW3
namespace Go.Fx.YtddifejdkiemgaaFx
open Go Go.Fx
attribute [local irreducible] aC runI dg ep

set_option maxRecDepth 100000
set_option maxHeartbeats 4000000

/-! A semaphore in its boxes. -/
/-- Task, units, deadline; ahead of them the ticket. -/
abbrev Vt:=Int×Int×Int
abbrev Wt:=Nat×Vt
def vtk (V:List Vt):List Int:=V.map fun v=>v.1
def quW (W:List Wt):Qu:=W.map fun w=>(w.1,w.2.1)
def entW (W:List Wt):List (Int×(Int×Int×Nat)):=W.map fun w=>(w.2.1,w.2.2.1,w.2.2.2,w.1)
def noT (W:List Wt):List Vt:=W.map fun w=>w.2
def seAV (x:Int×Int×Nat):AV:=.agg [.lit (.int .i64 x.1),.lit (.int .u64 x.2.1),.lit (.int .u64 (x.2.2:Nat))]
def hC (H:List Int) (q wid:Nat):List AV:=ints H++[.ptr q 0,.map wid]
abbrev smC (sz lf nw:Int) (H:List Int) (q wid:Nat):List AV:=.lit (.int .i64 sz)::.lit (.int .i64 lf)::.lit (.int .u64 nw)::hC H q wid
abbrev nev:Int:=18446744073709551615
def getH (H:List Int) (i:Int):Int:=H.getD i.toNat 0
def addH (H:List Int) (i x:Int):List Int:=H.set i.toNat (getH H i + x)

theorem kb (W:List Wt):ej (entW W) = vtk (noT W):=by simp [ej,entW,vtk,noT]
theorem iH (A B:List Wt):entW (A++B) = entW A++entW B:=by simp [entW]
theorem sy (A B:List Wt):quW (A++B) = quW A++quW B:=by simp [quW]
theorem o7 (W:List Wt):(quW W).length = (noT W).length:=by simp [quW,noT]
theorem noT_app (A B:List Wt):noT (A++B) = noT A++noT B:=by simp [noT]
theorem o8 (A B:List Vt):vtk (A++B) = vtk A++vtk B:=by simp [vtk]

theorem addH_len (H:List Int) (i x:Int):(addH H i x).length = H.length:=by simp [addH]
theorem sum_set:∀ (H:List Int) (k:Nat) (v:Int),k < H.length→(H.set k v).sum = H.sum - H.getD k 0 + v
  | [],k,v,h=>by simp at h
  | a::H,0,v,_=>by simp; omega
  | a :: H, k + 1, v, h => by
    have:=sum_set H k v (by simpa using h)
    simp only [List.set_cons_succ,List.sum_cons,List.getD_cons_succ,this]; omega
theorem addH_sum (H:List Int) (i x:Int) (hi:i.toNat < H.length):(addH H i x).sum = H.sum + x:=by
  unfold addH
  rw [sum_set H _ _ hi]; unfold getH; omega
theorem getH_mem (H:List Int) (i:Int) (hi:i.toNat < H.length):getH H i ∈ H:=by
  unfold getH
  simp [List.getD,hi]
theorem qo:∀ (H:List Int),(∀ h ∈ H,0≤h)→0≤H.sum∧∀ h ∈ H,h≤H.sum
  | [],_=>⟨by simp,fun h hm=>by cases hm⟩
  | a :: H, hp => by
    obtain ⟨h1,h2⟩:=qo H fun h hm=>hp h (by simp [hm])
    have ha:=hp a (by simp)
    refine ⟨by simp only [List.sum_cons]; omega,fun h hm=>?_⟩
    simp only [List.sum_cons]
    rcases List.mem_cons.1 hm with rfl | hm
    · omega
    · have:=h2 h hm; omega

section
variable {H:List Int} {q wid:Nat}
theorem rI (hl:H.length = 64):(hC H q wid).drop 64 = [.ptr q 0,.map wid]:=by
  unfold hC
  rw [List.drop_append_of_le_length (by simp [eZ,hl]),List.drop_of_length_le (by simp [eZ,hl])]; rfl
theorem qp (hl:H.length = 64):(hC H q wid).drop 65 = [.map wid]:=by
  rw [show (65:Nat) = 64 + 1 from rfl,← List.drop_drop,rI hl]; rfl
theorem qq {sz lf nw:Int} (hl:H.length = 64) {i:Int} (h0:0≤i) (h1:i < 64):∃ r,(smC sz lf nw H q wid).drop (3 + i.toNat) = .lit (.int .i64 (getH H i))::r:=by
  obtain ⟨k,rfl⟩:∃ k:Nat,i = (k:Int):=⟨i.toNat,by omega⟩
  refine ⟨(hC H q wid).drop (k + 1),?_⟩
  have hk:k < H.length:=by omega
  rw [Int.toNat_natCast,show 3 + k = k + 3 by omega]
  unfold smC
  simp only [List.drop_succ_cons]
  rw [List.drop_eq_getElem_cons (by simp [hC,eZ]; omega)]
  congr 1
  unfold hC getH
  rw [List.getElem_append_left (by simp [eZ]; omega)]
  simp [ints,List.getD,hk]
theorem smC_set {sz lf nw:Int} {i x:Int} (h1:i.toNat < H.length):(smC sz lf nw H q wid).set (3 + i.toNat) (.lit (.int .i64 x)) = smC sz lf nw (H.set i.toNat x) q wid:=by
  rw [show 3 + i.toNat = i.toNat + 3 by omega]
  unfold smC
  simp only [List.set_cons_succ]
  unfold hC
  rw [List.set_append_left _ _ (by simpa [eZ] using h1)]
  simp [ints,List.map_set]
end

structure SmIs (st:St) (b q mid wid:Nat) (sz nw:Int) (H:List Int) (V:List Vt) (g:Nat):Prop where
  get:st.get b = some (smC sz (sz - H.sum) nw H q wid)
  qi:∃ W,noT W = V∧QIs st q mid (quW W) g∧∃ m,MapIs st wid .i64 seAV m∧∀ c,dB c m = dB c (entW W)
  hl:H.length = 64
  hb:∀ h ∈ H,0≤h
  hs:H.sum≤sz
  szb:1≤sz∧sz≤1048576
  nwb:0≤nw∧nw < nev
  nd:(vtk V).Nodup
  wk:∀ v ∈ V,(0≤v.1∧v.1 < 64)∧(1≤v.2.1∧v.2.1≤sz)∧(nw < v.2.2∧v.2.2≤nev)
  ids:b≠q∧b≠mid∧b≠wid∧wid≠q∧wid≠mid

section
variable {st:St} {b q mid wid g:Nat} {sz nw:Int} {H:List Int} {V:List Vt}

theorem SmIs.at {st':St} (h:SmIs st b q mid wid sz nw H V g) (he:∀ i ∈ [b,q,mid,wid],st'.boxes[i]? = st.boxes[i]?):SmIs st' b q mid wid sz nw H V g:=by
  obtain ⟨W,h1,h2,m,hm,hl⟩:=h.qi
  exact ⟨(iB (he _ (by simp))).trans h.get,⟨W,h1,h2.at (he _ (by simp)) (he _ (by simp)),m,hm.at (he _ (by simp)),hl⟩,h.hl,h.hb,h.hs,h.szb,h.nwb,h.nd,h.wk,h.ids⟩
theorem SmIs.lts (h:SmIs st b q mid wid sz nw H V g):∀ i ∈ [b,q,mid,wid],i < st.boxes.length:=by
  obtain ⟨W,h0,h5,m,hm,hl⟩:=h.qi
  have h1:=fA h.get
  have h2:=h5.ltq
  have h3:=h5.ltm
  have h4:=hm.lt
  intro i hi
  simp only [List.mem_cons,List.not_mem_nil,or_false] at hi
  rcases hi with rfl | rfl | rfl | rfl <;> assumption
theorem SmIs.getb (h:SmIs st b q mid wid sz nw H V g) {i:Int} (h0:0≤i) (h1:i < 64):0≤getH H i∧getH H i≤sz:=by
  have hm:=getH_mem H i (by rw [h.hl]; omega)
  have h2:=h.hb _ hm
  have h3:=(qo H h.hb).2 _ hm
  have h4:=h.hs
  omega
theorem SmIs.sum0 (h:SmIs st b q mid wid sz nw H V g):0≤H.sum:=(qo H h.hb).1
theorem SmIs.cnt (h:SmIs st b q mid wid sz nw H V g):V.length≤64:=by
  have h1:(vtk V).Nodup:=h.nd
  have h2:(vtk V).length≤(List.range 64).length:=by
    have hp:(vtk V).Pairwise fun a b=>a≠b∧0≤a∧0≤b:=by
      refine List.Pairwise.imp_of_mem ?_ h1
      intro a b ha hb hne
      simp only [vtk,List.mem_map] at ha hb
      obtain ⟨v,hv,rfl⟩:=ha
      obtain ⟨u,hu,rfl⟩:=hb
      exact ⟨hne,(h.wk v hv).1.1,(h.wk u hu).1.1⟩
    have hd:((vtk V).map Int.toNat).Nodup:=by
      refine List.Pairwise.map Int.toNat ?_ hp
      intro a b h; omega
    have:=hd.length_le_of_subset (l₂:=List.range 64) fun x hx=>by
      obtain ⟨y,hy,rfl⟩:=List.mem_map.1 hx
      simp only [vtk,List.mem_map] at hy
      obtain ⟨v,hv,rfl⟩:=hy
      have:=(h.wk v hv).1
      simp only [List.mem_range]; omega
    simpa using this
  simpa [vtk] using h2

theorem szero_pure {x y:AV} {r:List AV} {sz:Int} (hs:sz≠0) (hg:st.get b = some (.lit (.int .i64 sz)::x::y::r)):dJ Go.Proofs.Try.prog n_f59 [.ptr b 0] st (.lit (.bool false)):=by
  refine eo hmix k_f59 rfl rfl fun Q hQ=>?_
  unfold aFun c_f59
  simp (config:=KF) (disch:=omega) only [bZ,retI,aS,AI.dst,ck,c8,cf,ca,ce,bH,cV,bK,cB,lx,iw,fv,addA,a8,fa,putS,Sf.set,Sf.reg,getR,setR,aD,Sf.disAt,da,List.drop_zero,↓reduceIte,Nat.reduceEqDiff,Bool.true_and,true_and,reduceCtorEq,Nat.add_zero,decide_false,Bool.false_eq_true,f59_1e,f59_2e,f59_2l,f59_3e,f59_4e,f59_4l,hg,hs]
  exact hQ _
theorem SmIs.z (h:SmIs st b q mid wid sz nw H V g):dJ Go.Proofs.Try.prog n_f59 [.ptr b 0] st (.lit (.bool false)) :=
  szero_pure (by have:=h.szb; omega) h.get

theorem sheld_pure (h:SmIs st b q mid wid sz nw H V g) (i:Int):dJ Go.Proofs.Try.prog n_f40 [.ptr b 0,.lit (.int .i64 i)] st (.lit (.int .i64 (if i < 0∨64≤i then 0 else getH H i))):=by
  have hg:=h.get
  refine eo hmix k_f40 rfl rfl fun Q hQ=>?_
  unfold aFun c_f40
  by_cases h0:i < 0
  · rw [if_pos (.inl h0)] at hQ
    simp (config:=KF) (disch:=omega) only [bZ,aI,ev_f,putS,Sf.set,Sf.reg,getR,setR,aD,da,id,↓reduceIte,Nat.reduceEqDiff,reduceCtorEq,Nat.zero_add,f40_1e,f40_2e,f40_2l,f40_3e,f40_4e,f40_5e,f40_5l]
    refine cF rfl e_f59 h.z rfl ?_
    simp (config:=KF) (disch:=omega) only [bZ,retI,aS,eX,AI.dst,dY,ck,c8,ea,cV,dx,putS,Sf.set,Sf.reg,getR,setR,aD,↓reduceIte,Nat.reduceEqDiff,Bool.true_and,true_and,reduceCtorEq,Bool.false_eq_true,fd,f40_6e,f40_7e,f40_8e,f40_8l]
    exact hQ _
  by_cases h1:64≤i
  · rw [if_pos (.inr h1)] at hQ
    simp (config:=KF) (disch:=omega) only [bZ,aI,ev_f,putS,Sf.set,Sf.reg,getR,setR,aD,da,id,↓reduceIte,Nat.reduceEqDiff,reduceCtorEq,Nat.zero_add,f40_1e,f40_2e,f40_2l,f40_3e,f40_4e,f40_5e,f40_5l]
    refine cF rfl e_f59 h.z rfl ?_
    simp (config:=KF) (disch:=omega) only [bZ,retI,aS,AI.dst,ck,c8,cV,dx,j1,putS,Sf.set,Sf.reg,getR,setR,aD,↓reduceIte,Nat.reduceEqDiff,Bool.true_and,true_and,reduceCtorEq,Bool.false_eq_true,cU,d8,f40_6e,f40_7e,f40_8e,f40_8l]
    exact hQ _
  rw [if_neg (by omega)] at hQ
  obtain ⟨r,hr⟩:=qq (sz:=sz) (lf:=sz - H.sum) (nw:=nw) (q:=q) (wid:=wid) h.hl (i:=i) (by omega) (by omega)
  simp (config:=KF) (disch:=omega) only [bZ,aI,ev_f,putS,Sf.set,Sf.reg,getR,setR,aD,da,id,↓reduceIte,Nat.reduceEqDiff,reduceCtorEq,Nat.zero_add,f40_1e,f40_2e,f40_2l,f40_3e,f40_4e,f40_5e,f40_5l]
  refine cF rfl e_f59 h.z rfl ?_
  simp (config:=KF) (disch:=omega) only [bZ,retI,aS,AI.dst,ck,c8,cf,o_ixA,ca,ce,bH,cV,bK,cB,ixA,addA,a8,dx,j1,cE,putS,Sf.set,Sf.reg,getR,setR,aD,Sf.disAt,Int.cast_ofNat_Int,↓reduceIte,Nat.reduceEqDiff,Bool.true_and,true_and,reduceCtorEq,Nat.zero_add,Bool.false_eq_true,dC,dL,d8,dI,Nat.mul_one,f40_6e,f40_9e,f40_10e,f40_10l,hg,hr]
  exact hQ _
theorem ky (h:SmIs st b q mid wid sz nw H V g):dJ Go.Proofs.Try.prog n_f41 [.ptr b 0] st (.lit (.int .i64 (sz - H.sum))):=by
  have hg:=h.get
  refine eo hmix k_f41 rfl rfl fun Q hQ=>?_
  unfold aFun c_f41
  simp (config:=KF) (disch:=omega) only [bZ,aI,ev_f,putS,Sf.set,Sf.reg,getR,setR,aD,da,id,↓reduceIte,reduceCtorEq,f41_1e,f41_2e,f41_2l,f41_3e,f41_4e,f41_5e,f41_5l]
  refine cF rfl e_f59 h.z rfl ?_
  simp (config:=KF) (disch:=omega) only [bZ,retI,cf,ca,ce,bH,bK,cB,addA,a8,putS,Sf.set,Sf.reg,getR,setR,aD,Sf.disAt,List.drop_zero,List.drop_succ_cons,↓reduceIte,Nat.reduceEqDiff,Bool.true_and,true_and,reduceCtorEq,Nat.zero_add,f41_6e,f41_9e,f41_10e,f41_10l,hg]
  exact hQ _
theorem snow_pure (h:SmIs st b q mid wid sz nw H V g):dJ Go.Proofs.Try.prog n_f43 [.ptr b 0] st (.lit (.int .u64 nw)):=by
  have hg:=h.get
  refine eo hmix k_f43 rfl rfl fun Q hQ=>?_
  unfold aFun c_f43
  simp (config:=KF) (disch:=omega) only [bZ,aI,ev_f,putS,Sf.set,Sf.reg,getR,setR,aD,da,id,↓reduceIte,reduceCtorEq,f43_1e,f43_2e,f43_2l,f43_3e,f43_4e,f43_5e,f43_5l]
  refine cF rfl e_f59 h.z rfl ?_
  simp (config:=KF) (disch:=omega) only [bZ,retI,cf,ca,ce,bH,bK,cB,addA,a8,putS,Sf.set,Sf.reg,getR,setR,aD,Sf.disAt,List.drop_zero,List.drop_succ_cons,↓reduceIte,Nat.reduceEqDiff,Bool.true_and,true_and,reduceCtorEq,Nat.zero_add,f43_6e,f43_9e,f43_10e,f43_10l,hg]
  exact hQ _
end
end Go.Fx.YtddifejdkiemgaaFx

