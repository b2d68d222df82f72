/- What the functions that the statement reaches compute: part 17. -/
import Derived.Test.YtddifejdkiemgaaFxW16
namespace Go.Fx.YtddifejdkiemgaaFx
open Go Go.Fx
attribute [local irreducible] aC runI a9 cd

set_option maxRecDepth 100000
set_option maxHeartbeats 4000000

theorem ow:hR (List.replicate 64 0) [] = [.lit (.int .i64 0),.lit (.int .i64 0),.lit (.int .i64 0),.lit (.int .i64 0),.lit (.int .i64 0),.lit (.int .i64 0),.lit (.int .i64 0),.lit (.int .i64 0),.lit (.int .i64 0),.lit (.int .i64 0),.lit (.int .i64 0),.lit (.int .i64 0),.lit (.int .i64 0),.lit (.int .i64 0),.lit (.int .i64 0),.lit (.int .i64 0),.lit (.int .i64 0),.lit (.int .i64 0),.lit (.int .i64 0),.lit (.int .i64 0),.lit (.int .i64 0),.lit (.int .i64 0),.lit (.int .i64 0),.lit (.int .i64 0),.lit (.int .i64 0),.lit (.int .i64 0),.lit (.int .i64 0),.lit (.int .i64 0),.lit (.int .i64 0),.lit (.int .i64 0),.lit (.int .i64 0),.lit (.int .i64 0),.lit (.int .i64 0),.lit (.int .i64 0),.lit (.int .i64 0),.lit (.int .i64 0),.lit (.int .i64 0),.lit (.int .i64 0),.lit (.int .i64 0),.lit (.int .i64 0),.lit (.int .i64 0),.lit (.int .i64 0),.lit (.int .i64 0),.lit (.int .i64 0),.lit (.int .i64 0),.lit (.int .i64 0),.lit (.int .i64 0),.lit (.int .i64 0),.lit (.int .i64 0),.lit (.int .i64 0),.lit (.int .i64 0),.lit (.int .i64 0),.lit (.int .i64 0),.lit (.int .i64 0),.lit (.int .i64 0),.lit (.int .i64 0),.lit (.int .i64 0),.lit (.int .i64 0),.lit (.int .i64 0),.lit (.int .i64 0),.lit (.int .i64 0),.lit (.int .i64 0),.lit (.int .i64 0),.lit (.int .i64 0),.lit (.slice none 0 0)]:=by rfl

theorem rnew_err {sz nw:Int} (h:sz < 1∨1048576 < sz∨nw = nev) (st:St):bF Go.Proofs.Try.prog n_f30 [.lit (.int .i64 sz),.lit (.int .u64 nw)] st (.tup [rfAV 0 0 (List.replicate 64 0) [],.lit (.int .i64 2)]):=by
  refine bU hmix k_f30 rfl rfl fun Q hQ=>?_
  unfold aFun c_f30
  simp only [rfAV,rfC,ow] at hQ
  by_cases h1:sz < 1
  · simp (config:=KF) (disch:=omega) only [bZ,retI,resI,resL,ao,bY,AI.dst,bj,aI,eZ,bA,aH,ba,bstV,boxX,aU,aj,ai,cu,bd,ak,aA,ar,aG,putS,Sf.set,Sf.reg,getR,setR,ae,Sf.disAt,Sf.newLoc,Sf.setLoc,look,bt,aM,aO,ah,aa,ag,af,al,bO,aR,aF,List.length_cons,List.length_nil,List.all_cons,List.all_nil,List.drop_zero,List.take_succ_cons,List.take_zero,List.set_cons_zero,List.set_cons_succ,↓reduceIte,Nat.reduceEqDiff,Nat.reduceAdd,Nat.reduceLeDiff,Bool.true_and,Bool.and_true,and_true,true_and,reduceCtorEq,Nat.zero_add,decide_true,Bool.false_eq_true,cc,aQ,am,f30_1e,f30_2e,f30_2l,f30_3e,f30_4e,f30_5e,f30_5l,f30_6e,f30_7e,f30_8e,f30_8l]
    exact hQ _
  by_cases h2:1048576 < sz
  · simp (config:=KF) (disch:=omega) only [bZ,retI,resI,resL,ao,bY,AI.dst,bj,aD,aI,eZ,bA,aH,ba,aW,bstV,boxX,aU,aj,ai,cu,bd,cr,ak,aA,ar,aG,putS,Sf.set,Sf.reg,getR,setR,ae,Sf.disAt,Sf.newLoc,Sf.setLoc,look,bt,aM,aO,ah,aa,ag,af,al,bO,aR,aF,List.length_cons,List.length_nil,List.all_cons,List.all_nil,List.drop_zero,List.take_succ_cons,List.take_zero,List.set_cons_zero,List.set_cons_succ,↓reduceIte,Nat.reduceEqDiff,Nat.reduceAdd,Nat.reduceLeDiff,Bool.true_and,Bool.and_true,and_true,true_and,reduceCtorEq,Nat.zero_add,decide_true,Bool.false_eq_true,cc,bk,aQ,am,f30_1e,f30_2e,f30_2l,f30_3e,f30_4e,f30_5e,f30_5l,f30_6e,f30_7e,f30_8e,f30_8l]
    exact hQ _
  have h3:nw = 18446744073709551615:=by rcases h with h | h | h <;> first | omega | exact h
  simp (config:=KF) (disch:=omega) only [bZ,retI,resI,resL,ao,AI.dst,aD,aI,eZ,bA,aH,aW,bstV,boxX,aU,aj,ai,cu,ci,bd,cr,ak,aA,ar,aG,putS,Sf.set,Sf.reg,getR,setR,ae,Sf.disAt,Sf.newLoc,Sf.setLoc,look,bt,aM,aO,ah,aa,ag,af,al,bO,aR,aF,List.length_cons,List.length_nil,List.all_cons,List.all_nil,List.drop_zero,List.take_succ_cons,List.take_zero,List.set_cons_zero,List.set_cons_succ,↓reduceIte,Nat.reduceEqDiff,Nat.reduceAdd,Nat.reduceLeDiff,Bool.true_and,Bool.and_true,and_true,true_and,reduceCtorEq,Nat.zero_add,decide_true,Bool.false_eq_true,aS,bk,aQ,am,f30_1e,f30_2e,f30_2l,f30_3e,f30_4e,f30_5e,f30_5l,f30_6e,f30_7e,f30_8e,f30_8l]
  exact hQ _
theorem rnew_pure {sz nw:Int} (hs:1≤sz∧sz≤1048576) (hn:nw < nev) (st:St):bF Go.Proofs.Try.prog n_f30 [.lit (.int .i64 sz),.lit (.int .u64 nw)] st (.tup [rfAV sz nw (List.replicate 64 0) [],.lit (.int .i64 0)]):=by
  refine bU hmix k_f30 rfl rfl fun Q hQ=>?_
  unfold aFun c_f30
  simp only [rfAV,rfC,ow] at hQ
  have hnw:¬ nw = 18446744073709551615:=by unfold nev at hn; omega
  simp (config:=KF) (disch:=omega) only [bZ,and_self,retI,resI,resL,ao,AI.dst,aD,aI,eZ,bA,aH,aW,bstV,boxX,aU,aj,ai,cu,ci,bd,cr,ak,aA,ar,aG,putS,Sf.set,Sf.reg,getR,setR,ae,Sf.disAt,Sf.newLoc,Sf.setLoc,look,bt,aM,aO,ah,aa,aZ,ag,af,al,bO,aR,aF,List.length_cons,List.length_nil,List.getElem?_cons_zero,List.getElem?_cons_succ,List.all_cons,List.all_nil,List.drop_zero,List.take_succ_cons,List.take_zero,List.set_cons_zero,List.set_cons_succ,↓reduceIte,Nat.reduceEqDiff,Nat.reduceAdd,Nat.reduceLeDiff,Bool.true_and,Bool.and_true,and_true,true_and,reduceCtorEq,Nat.zero_add,decide_true,Bool.false_eq_true,a8,bk,aQ,am,f30_1e,f30_2e,f30_2l,f30_3e,f30_4e,f30_5e,f30_5l,f30_6e,f30_9e,f30_10e,f30_10l]
  exact hQ _

section
variable {st:St} {b q mid wid g:Nat} {sz nw:Int} {H:List Int} {V:List Vt}
theorem SmIs.sub (h:SmIs st b q mid wid sz nw H V g) {s:St} (hs:St.sub st s):SmIs s b q mid wid sz nw H V g:=by
  have hlt:=h.lts
  have key:∀ i cs,st.get i = some cs→s.boxes[i]? = st.boxes[i]?:=fun i cs hg=>by
    have hb:st.boxes[i]? = some (some (.cells cs)):=by
      unfold St.get at hg
      split at hg
      · rename_i hb; cases hg; exact hb
      · cases hg
    rw [hs i _ hb,hb]
  have keym:∀ i es,st.getM i = some es→s.boxes[i]? = st.boxes[i]?:=fun i es hg=>by
    unfold St.getM at hg
    split at hg
    · rename_i hb; rw [hs i _ hb,hb]
    · cases hg
  obtain ⟨W,h1,h2,m,hm,hl⟩:=h.qi
  obtain ⟨m2,hm2,_⟩:=h2.mp
  refine h.at fun i hi=>?_
  simp only [List.mem_cons,List.not_mem_nil,or_false] at hi
  rcases hi with rfl | rfl | rfl | rfl
  · exact key _ _ h.get
  · exact key _ _ h2.get
  · exact keym _ _ hm2.get
  · exact keym _ _ hm.get

theorem swaiting_g (h:SmIs st b q mid wid sz nw H V g) (s:St) (hs:St.sub st s) (_:st.boxes.length≤s.boxes.length):bz Go.Proofs.Try.prog n_f34 [.ptr b 0] s (Grow (.sl false 1 (ints (vtk V))) s) :=
  (fP (h.sub hs)).mono fun r st' ⟨h1,h2,h3⟩=>⟨h1,St.sub_of h3,h2⟩

theorem rsame_wr (V:List Vt) (hV:V.length≤1000) (st:St):bF Go.Proofs.Try.prog n_f53 [.sl false 1 (ints (vtk V)),lAV (vtk V)] st (.lit (.bool true)):=by
  have hl:(vtk V).length = V.length:=by simp [vtk]
  have:=(mW (vtk V) (vtk V) (by omega) (by omega) st).weak (vs:=[.sl false 1 (ints (vtk V)),lAV (vtk V)]) ⟨.refl _,lAV_le _,trivial⟩ (.refl _)
  simpa using this

theorem gc (h:SmIs st b q mid wid sz nw H V g):bz Go.Proofs.Try.prog n_f32 [.ptr b 0,rfAV sz nw H V] st (fun r st'=>r = .lit (.bool true)∧St.sub st st'∧st.boxes.length≤st'.boxes.length):=by
  refine bB hmix k_f32 rfl rfl fun Q hQ=>?_
  unfold aFun c_f32
  have hcn:=h.cnt
  have hszb:=h.szb
  have hs0:=h.sum0
  have hs1:=h.hs
  have f1:=cz (H:=H) (V:=V)
  have f2:=co (H:=H) (V:=V)
  have f3:=bL (V:=V) h.hl
  have f6:=bW (V:=V) h.hl
  simp (config:=KF) (disch:=omega) only [bZ,bR,boxX,ar,putS,Sf.set,Sf.reg,getR,setR,ae,Sf.newLoc,look,bt,aM,aO,ah,aa,ag,af,al,cb,aB,List.length_cons,List.all_cons,↓reduceIte,Nat.reduceEqDiff,Nat.reduceAdd,Bool.true_and,Bool.and_true,and_true,true_and,reduceCtorEq,Nat.zero_add,f32_1e,f32_2e,f32_2l,f32_3e,f32_4e,f32_5e,f32_5l,f32_6e,f1,f2,f3]
  rw [f32_7w]
  refine dh (A:=Nat) (fun a=>64 - a) (fun a=>⟨[(0,.ptr b 0),(3,.lptr 3 0),(5,.lit (.int .i64 (a:Nat)))],[(3,rfC sz nw H V)]⟩) (fun _=>st) (fun a=>a≤64) 0 (by omega) (Sf.le_refl _) rfl ?_
  rintro i h1 K hK hKe hKr
  by_cases hi:i < 64
  · obtain ⟨r,hr⟩:=jB (sz:=sz) (nw:=nw) (V:=V) h.hl (i:=(i:Int)) (by omega) (by omega)
    rw [Int.toNat_natCast] at hr
    have hh:=jD h (i:Int)
    rw [if_neg (by omega)] at hh
    simp (config:=KF) (disch:=omega) only [bZ,List.contains_nil,b5,cB,iX,bp,bd,ev_f,putS,Sf.set,Sf.reg,getR,setR,ae,look,bu,id,↓reduceIte,Nat.reduceEqDiff,reduceCtorEq,Bool.false_eq_true,aS,f32_8e,f32_9e,f32_10e,f32_10l,f32_11e,f32_12e,f32_13e,f32_14e,f32_15e,f32_15h,f32_15l]
    refine kQ rfl e_f40 hh rfl ?_
    simp (config:=KF) (disch:=omega) only [bZ,cO,b5,cB,cw,gm,bQ,fL,bp,bG,aJ,aw,aq,ixA,addA,aj,cZ,cA,ak,putS,Sf.set,Sf.reg,getR,setR,ae,Sf.disAt,look,Int.toNat_natCast,Int.cast_ofNat_Int,↓reduceIte,Nat.reduceEqDiff,reduceCtorEq,Nat.zero_add,not_true_eq_false,decide_false,bD,IntWalk.i64_in,cP,bK,Nat.mul_one,f32_16e,f32_19e,f32_19l,hr]
    exact hK (i + 1) _ (by omega) (by omega) (Sf.le_refl _)
  · simp (config:=KF) (disch:=omega) only [bZ,b8,cL,bd,putS,Sf.set,Sf.reg,getR,setR,ae,look,↓reduceIte,Nat.reduceEqDiff,reduceCtorEq,a8,f32_8e,f32_9e,f32_10e,f32_10l,f32_11e]
    refine hKe _ _ _ ?_
    simp (config:=KF) (disch:=omega) only [bZ,List.contains_nil,im,fg,gI,iL,bM,ev_f,putS,Sf.set,Sf.reg,getR,setR,bu,id,↓reduceIte,Nat.reduceEqDiff,Int.reduceNeg,Bool.true_and,true_and,reduceCtorEq,Bool.false_eq_true,f32_20e,f32_21e,f32_21h,f32_21l]
    have hh1:=fun s (hs:St.sub st s)=>jD (h.sub hs) (-1)
    have hh2:=fun s (hs:St.sub st s)=>jD (h.sub hs) 64
    rw [if_pos (.inl (by omega))] at hh1
    rw [if_pos (.inr (by omega))] at hh2
    obtain ⟨w1,w2⟩:(lAV (vtk V)).dis = lAV (vtk V)∧(lAV (vtk V)).noL = true:=by unfold lAV; split <;> exact ⟨rfl,rfl⟩
    refine ic rfl e_f40 hh1 rfl ?_
    simp (config:=KF) (disch:=omega) only [bZ,im,mN,fg,gI,eg,iL,cN,AI.dst,ci,ev_f,putS,Sf.set,Sf.reg,getR,setR,id,↓reduceIte,Nat.reduceEqDiff,reduceCtorEq,decide_true]
    refine ic rfl e_f40 hh2 rfl ?_
    simp (config:=KF) (disch:=omega) only [bZ,im,lE,mN,fg,gI,eg,iL,cN,AI.dst,ba,ci,ev_f,putS,Sf.set,Sf.reg,getR,setR,id,↓reduceIte,Nat.reduceEqDiff,reduceCtorEq,decide_true]
    refine ic rfl e_f41 (fun s hs=>jE (h.sub hs)) rfl ?_
    simp (config:=KF) (disch:=omega) only [bZ,ia,fg,eg,iL,cN,AI.dst,aq,aj,ai,ak,aA,ev_f,putS,Sf.set,Sf.reg,getR,setR,look,id,ah,aa,List.length_cons,List.drop_zero,List.take_succ_cons,↓reduceIte,Nat.reduceEqDiff,Nat.reduceAdd,Nat.reduceLeDiff,reduceCtorEq,decide_true,f1,f3,f6]
    refine ic (vs:=[rfAV sz nw H V]) (by simp only [List.map_cons,List.map_nil,List.nil_append,List.append_nil,ah,aa,f1,f6]) e_f55 (fun s hs=>ik h.hl h.hb h.hs (by omega) s) rfl ?_
    simp (config:=KF) (disch:=omega) only [bZ,im,lE,mN,gI,eg,g_some_t,iL,g_call,cN,AI.dst,ba,ci,ev_f,putS,Sf.set,Sf.reg,getR,setR,id,↓reduceIte,Nat.reduceEqDiff,reduceCtorEq,decide_true]
    refine call_g rfl e_f34 (swaiting_g h) rfl ?_
    simp (config:=KF) (disch:=omega) only [bZ,ia,fg,eg,iL,g_mkv,cN,AI.dst,aq,aj,ai,ak,aA,ev_f,putS,Sf.set,Sf.reg,getR,setR,look,id,ah,aa,List.length_cons,List.drop_zero,List.take_succ_cons,↓reduceIte,Nat.reduceEqDiff,Nat.reduceAdd,Nat.reduceLeDiff,reduceCtorEq,decide_true,f1,f3,f6]
    refine ic (vs:=[rfAV sz nw H V]) (by simp only [List.map_cons,List.map_nil,List.nil_append,List.append_nil,ah,aa,f1,f6]) e_f56 (fun s hs=>nA h.hl (by omega) s) rfl ?_
    simp (config:=KF) (disch:=omega) only [bZ,fg,eg,iL,cN,AI.dst,ev_f,putS,Sf.set,Sf.reg,getR,setR,id,↓reduceIte,Nat.reduceEqDiff,reduceCtorEq]
    refine ic (by simp only [List.map_cons,List.map_nil,List.nil_append,List.append_nil,br,w1]) e_f53 (fun s hs=>rsame_wr V (by omega) s) (by simp [w2,kM]) ?_
    simp (config:=KF) (disch:=omega) only [bZ,im,lE,fg,gI,eg,iL,cN,AI.dst,ba,ev_f,putS,Sf.set,Sf.reg,getR,setR,id,↓reduceIte,Nat.reduceEqDiff,reduceCtorEq]
    refine ic rfl e_f42 (fun s hs=>ii (h.sub hs)) rfl ?_
    simp (config:=KF) (disch:=omega) only [bZ,ia,fg,eg,iL,cN,AI.dst,aq,aj,ai,ak,aA,ev_f,putS,Sf.set,Sf.reg,getR,setR,look,id,ah,aa,List.length_cons,List.drop_zero,List.take_succ_cons,↓reduceIte,Nat.reduceEqDiff,Nat.reduceAdd,Nat.reduceLeDiff,reduceCtorEq,decide_true,f1,f3,f6]
    refine ic (vs:=[rfAV sz nw H V]) (by simp only [List.map_cons,List.map_nil,List.nil_append,List.append_nil,ah,aa,f1,f6]) e_f57 (fun s hs=>mY h.hl (by omega) s) rfl ?_
    simp (config:=KF) (disch:=omega) only [bZ,im,lE,mN,fg,gI,eg,iL,cN,AI.dst,ba,ci,ev_f,putS,Sf.set,Sf.reg,getR,setR,id,↓reduceIte,Nat.reduceEqDiff,reduceCtorEq,decide_true]
    refine ic rfl e_f43 (fun s hs=>snow_pure (h.sub hs)) rfl ?_
    simp (config:=KF) (disch:=omega) only [bZ,oZ,ia,g_nil,eg,iL,tailG_nil,cN,retI,ao,AI.dst,bj,aI,aw,ba,aq,addA,aj,ci,putS,Sf.set,Sf.reg,getR,setR,ae,Sf.disAt,look,List.drop_zero,List.drop_succ_cons,↓reduceIte,Nat.reduceEqDiff,Bool.true_and,true_and,reduceCtorEq,Nat.zero_add,decide_true]
    intro s hs1 hs2
    exact hQ _ _ ⟨rfl,hs1,hs2⟩
end

end Go.Fx.YtddifejdkiemgaaFx

