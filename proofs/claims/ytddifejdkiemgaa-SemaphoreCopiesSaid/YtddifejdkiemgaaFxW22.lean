/- What the functions that the statement reaches compute: part 22. -/
import Derived.Test.YtddifejdkiemgaaFxW21
namespace Go.Fx.YtddifejdkiemgaaFx
open Go Go.Fx
attribute [local irreducible] aC runI a9 cd

set_option maxRecDepth 100000
set_option maxHeartbeats 4000000

section
variable {H:List Int} {V:List Vt} {sz nw:Int}
/-- The place of a task. -/
theorem rat_none (hl:H.length = 64) (hV:V.length≤1000) {t:Int} (hn:t ∉ vtk V) (st:St):bF Go.Proofs.Try.prog n_f79 [rfAV sz nw H V,.lit (.int .i64 t)] st (.lit (.int .i64 (-1))):=by
  refine bU hmix k_f79 rfl rfl fun Q hQ=>?_
  unfold aFun c_f79
  have f1:=cz (H:=H) (V:=V)
  have f2:=co (H:=H) (V:=V)
  have f3:=bL (V:=V) hl
  have f4:=jn (V:=V) hl
  have hml:(V.map wtR).length = V.length:=by simp
  simp (config:=KF) (disch:=omega) only [bZ,bR,boxX,ar,putS,Sf.set,Sf.reg,getR,setR,ae,Sf.newLoc,look,bt,aM,aO,ah,aa,ag,af,al,aF,aB,List.length_cons,List.all_cons,↓reduceIte,Nat.reduceEqDiff,Nat.reduceAdd,Bool.true_and,Bool.and_true,and_true,true_and,reduceCtorEq,Nat.zero_add,f79_1e,f79_2e,f79_2l,f79_3e,f79_4e,f79_5e,f79_5l,f79_6e,f1,f2,f3]
  rw [f79_7w]
  refine dh (A:=Nat) (fun a=>V.length - a) (fun a=>⟨[(1,.lit (.int .i64 t)),(2,.lptr 2 0),(5,.lit (.int .i64 (a:Nat)))],[(2,rfC sz nw H V)]⟩) (fun _=>st) (fun a=>a≤V.length) 0 (by omega) (Sf.le_refl _) rfl ?_
  rintro i h1 K hK hKe hKr
  by_cases h:i < V.length
  · have hV0:V≠[]:=by rintro rfl; simp at h
    have f5:qR V = .sl false 3 (V.map wtR):=by unfold qR; rw [if_neg hV0]
    rw [f5] at f4
    have e1:(V.map wtR).getD i .any = .agg [.lit (.int .i64 V[i].1),.lit (.int .i64 V[i].2.1),.lit (.int .u64 V[i].2.2)]:=by simp [List.getD,h,wtR]
    have hne:¬ V[i].1 = t:=fun e=>hn (e ▸ List.mem_map.2 ⟨V[i],List.getElem_mem h,rfl⟩)
    simp (config:=KF) (disch:=omega) only [bZ,aJ,az,gB,ap,ce,aw,ixSV,aq,ixA,lenI,addA,aj,cZ,ci,bd,ak,putS,Sf.set,Sf.reg,getR,setR,ae,Sf.disAt,look,br,ag,List.drop_zero,List.drop_succ_cons,Int.toNat_natCast,↓reduceIte,Nat.reduceEqDiff,Nat.zero_add,bD,aS,a8,IntWalk.i64_in,cP,bK,f79_8e,f79_9e,f79_10e,f79_10l,f79_11e,f79_12e,f79_13e,f79_14e,f79_15e,f79_15l,f79_16e,f79_19e,f79_19l,f4,e1,hml]
    exact hK (i + 1) _ (by omega) (by omega) (Sf.le_refl _)
  · have hf:=hQ st
    rcases fQ V with ⟨e,hz⟩ | ⟨e,hz⟩
    all_goals
      rw [e] at f4
      simp (config:=KF) (disch:=omega) only [bZ,b8,cL,az,ap,ce,aq,lenI,addA,aj,bd,putS,Sf.set,Sf.reg,getR,setR,ae,look,br,List.drop_succ_cons,↓reduceIte,Nat.reduceEqDiff,Nat.zero_add,a8,f79_8e,f79_9e,f79_10e,f79_10l,f79_11e,f4,hml]
      refine hKe _ _ _ ?_
      simp (config:=KF) (disch:=omega) only [bZ,bM,retI,putS,Sf.set,Sf.reg,getR,setR,ae,↓reduceIte,Int.reduceNeg,Bool.true_and,true_and,f79_20e,f79_21e,f79_21l]
      exact hf
theorem rat_some {A B:List Vt} {t n d:Int} (hl:H.length = 64) (hV:(A++(t,n,d)::B).length≤1000) (hn:t ∉ vtk A) (st:St):bF Go.Proofs.Try.prog n_f79 [rfAV sz nw H (A++(t,n,d)::B),.lit (.int .i64 t)] st (.lit (.int .i64 (A.length:Nat))):=by
  obtain ⟨V,hVe⟩:∃ V,V = A++(t,n,d)::B:=⟨_,rfl⟩
  rw [← hVe] at hV ⊢
  have hlen:A.length < V.length:=by rw [hVe]; simp
  refine bU hmix k_f79 rfl rfl fun Q hQ=>?_
  unfold aFun c_f79
  have f1:=cz (H:=H) (V:=V)
  have f2:=co (H:=H) (V:=V)
  have f3:=bL (V:=V) hl
  have f4:=jn (V:=V) hl
  have hml:(V.map wtR).length = V.length:=by simp
  have hV0:V≠[]:=by rintro rfl; simp at hlen
  have f5:qR V = .sl false 3 (V.map wtR):=by unfold qR; rw [if_neg hV0]
  rw [f5] at f4
  simp (config:=KF) (disch:=omega) only [bZ,bR,boxX,ar,putS,Sf.set,Sf.reg,getR,setR,ae,Sf.newLoc,look,bt,aM,aO,ah,aa,ag,af,al,aF,aB,List.length_cons,List.all_cons,↓reduceIte,Nat.reduceEqDiff,Nat.reduceAdd,Bool.true_and,Bool.and_true,and_true,true_and,reduceCtorEq,Nat.zero_add,f79_1e,f79_2e,f79_2l,f79_3e,f79_4e,f79_5e,f79_5l,f79_6e,f1,f2,f3]
  rw [f79_7w]
  refine dh (A:=Nat) (fun a=>V.length - a) (fun a=>⟨[(1,.lit (.int .i64 t)),(2,.lptr 2 0),(5,.lit (.int .i64 (a:Nat)))],[(2,rfC sz nw H V)]⟩) (fun _=>st) (fun a=>a≤A.length) 0 (by omega) (Sf.le_refl _) rfl ?_
  rintro i h1 K hK hKe hKr
  have h:i < V.length:=by omega
  have e1:(V.map wtR).getD i .any = .agg [.lit (.int .i64 V[i].1),.lit (.int .i64 V[i].2.1),.lit (.int .u64 V[i].2.2)]:=by simp [List.getD,h,wtR]
  by_cases hia:i = A.length
  · subst hia
    have hv:V[A.length].1 = t:=by simp [hVe]
    rw [hv] at e1
    have hf:=hQ st
    simp (config:=KF) (disch:=omega) only [bZ,ca,az,gB,ap,ce,aw,ixSV,aq,ixA,lenI,addA,aj,ci,bd,ak,putS,Sf.set,Sf.reg,getR,setR,ae,Sf.disAt,look,br,ag,List.drop_zero,List.drop_succ_cons,Int.toNat_natCast,↓reduceIte,Nat.reduceEqDiff,Nat.zero_add,decide_true,bD,aS,bK,f79_8e,f79_9e,f79_10e,f79_10l,f79_11e,f79_12e,f79_13e,f79_14e,f79_15e,f79_15l,f79_16e,f79_17e,f79_18e,f79_18l,f4,e1,hml]
    refine hKr _ _ ?_
    simp (config:=KF) (disch:=omega) only [bZ,ca,retI,Sf.reg,getR,↓reduceIte,Bool.true_and,true_and]
    exact hf
  · have hia2:i < A.length:=by omega
    have hv:V[i] = A[i]:=by simp [hVe,hia2]
    have hne:¬ V[i].1 = t:=fun e=>hn (by rw [← e,hv]; exact List.mem_map.2 ⟨A[i],List.getElem_mem hia2,rfl⟩)
    simp (config:=KF) (disch:=omega) only [bZ,aJ,az,gB,ap,ce,aw,ixSV,aq,ixA,lenI,addA,aj,cZ,ci,bd,ak,putS,Sf.set,Sf.reg,getR,setR,ae,Sf.disAt,look,br,ag,List.drop_zero,List.drop_succ_cons,Int.toNat_natCast,↓reduceIte,Nat.reduceEqDiff,Nat.zero_add,bD,aS,a8,IntWalk.i64_in,cP,bK,f79_8e,f79_9e,f79_10e,f79_10l,f79_11e,f79_12e,f79_13e,f79_14e,f79_15e,f79_15l,f79_16e,f79_19e,f79_19l,f4,e1,hml]
    exact hK (i + 1) _ (by omega) (by omega) (Sf.le_refl _)

/-- The place of a task, told by whether it waits. -/
theorem o5 (hl:H.length = 64) (hV:V.length≤1000) (t:Int) (st:St):∃ k:Int,bF Go.Proofs.Try.prog n_f79 [rfAV sz nw H V,.lit (.int .i64 t)] st (.lit (.int .i64 k))∧(0≤k↔t ∈ vtk V):=by
  by_cases h:t ∈ vtk V
  · obtain ⟨i,hi,hit⟩:∃ (A:List Vt) (n d:Int) (B:List Vt),V = A++(t,n,d)::B∧t ∉ vtk A:=by
      clear hV
      induction V with
      | nil=>simp [vtk] at h
      | cons v V ih =>
        by_cases e:v.1 = t
        · exact ⟨[],v.2.1,v.2.2,V,by subst e; rfl,by simp [vtk]⟩
        · have h2:t ∈ vtk V:=by
            simp only [vtk,List.map_cons,List.mem_cons] at h
            exact h.resolve_left fun q=>e q.symm
          obtain ⟨A,n,d,B,e2,e3⟩:=ih h2
          exact ⟨v::A,n,d,B,by rw [e2]; rfl,by simp only [vtk,List.map_cons,List.mem_cons,not_or]; exact ⟨fun q=>e q.symm,e3⟩⟩
    obtain ⟨d,B,rfl,hA⟩:=hit
    exact ⟨_,rat_some hl hV hA st,by simp only [h,iff_true]; omega⟩
  · exact ⟨-1,rat_none hl hV h st,by simp [h]⟩

/-- The error of a task that wants units. -/
def wantE (sz:Int) (H:List Int) (V:List Vt) (t n:Int):Int:=if sChk sz V t n≠0 then sChk sz V t n else if sz < getH H t + n then 7 else 0
theorem m4 (hl:H.length = 64) (hV:V.length≤1000) (hsz:1≤sz∧sz≤1048576) (hh:∀ i,0≤i→i < 64→0≤getH H i∧getH H i≤sz) (t n:Int) (st:St):bF Go.Proofs.Try.prog n_f78 [rfAV sz nw H V,.lit (.int .i64 t),.lit (.int .i64 n)] st (.lit (.int .i64 (wantE sz H V t n))):=by
  refine bU hmix k_f78 rfl rfl fun Q hQ=>?_
  unfold aFun c_f78
  have f1:=cz (H:=H) (V:=V)
  have f2:=co (H:=H) (V:=V)
  have f3:=bL (V:=V) hl
  have f6:=bW (V:=V) hl
  have hQ:=hQ st
  unfold wantE sChk at hQ
  by_cases hb:t < 0∨64≤t∨n < 1∨sz < n
  · rw [if_pos hb,if_pos (by decide)] at hQ
    by_cases h1:t < 0
    · simp (config:=KF) (disch:=omega) only [bZ,retI,ao,bY,AI.dst,bj,aI,bR,ba,boxX,bd,ar,putS,Sf.set,Sf.reg,getR,setR,ae,Sf.newLoc,look,bt,aM,aO,ah,aa,ag,af,al,aF,aB,List.length_cons,List.all_cons,↓reduceIte,Nat.reduceEqDiff,Nat.reduceAdd,Bool.true_and,Bool.and_true,and_true,true_and,reduceCtorEq,Nat.zero_add,Bool.false_eq_true,cc,f78_1e,f78_2e,f78_2l,f78_3e,f78_4e,f78_5e,f78_5l,f78_6e,f78_7e,f78_8e,f78_8l,f1,f2,f3]
      exact hQ
    by_cases h2:64≤t
    · simp (config:=KF) (disch:=omega) only [bZ,retI,ao,bY,AI.dst,bj,aD,aI,bR,ba,aW,boxX,bd,c8,ar,putS,Sf.set,Sf.reg,getR,setR,ae,Sf.newLoc,look,bt,aM,aO,ah,aa,ag,af,al,aF,aB,List.length_cons,List.all_cons,↓reduceIte,Nat.reduceEqDiff,Nat.reduceAdd,Bool.true_and,Bool.and_true,and_true,true_and,reduceCtorEq,Nat.zero_add,Bool.false_eq_true,cc,bk,f78_1e,f78_2e,f78_2l,f78_3e,f78_4e,f78_5e,f78_5l,f78_6e,f78_7e,f78_8e,f78_8l,f1,f2,f3]
      exact hQ
    by_cases h3:n < 1
    · simp (config:=KF) (disch:=omega) only [bZ,retI,ao,bY,AI.dst,bj,aD,aI,bR,ba,aW,boxX,bd,c8,ar,putS,Sf.set,Sf.reg,getR,setR,ae,Sf.newLoc,look,bt,aM,aO,ah,aa,ag,af,al,aF,aB,List.length_cons,List.all_cons,↓reduceIte,Nat.reduceEqDiff,Nat.reduceAdd,Bool.true_and,Bool.and_true,and_true,true_and,reduceCtorEq,Nat.zero_add,Bool.false_eq_true,cc,bk,f78_1e,f78_2e,f78_2l,f78_3e,f78_4e,f78_5e,f78_5l,f78_6e,f78_7e,f78_8e,f78_8l,f1,f2,f3]
      exact hQ
    have h4:sz < n:=by omega
    simp (config:=KF) (disch:=omega) only [bZ,retI,ao,AI.dst,aD,aI,az,ap,bR,aW,aq,boxX,addA,aj,bd,cr,c8,ar,putS,Sf.set,Sf.reg,getR,setR,ae,Sf.newLoc,look,bt,aM,aO,ah,aa,ag,af,al,aF,aB,List.length_cons,List.all_cons,List.drop_zero,↓reduceIte,Nat.reduceEqDiff,Nat.reduceAdd,Bool.true_and,Bool.and_true,and_true,true_and,reduceCtorEq,Nat.zero_add,Nat.add_zero,Bool.false_eq_true,aS,bk,f78_1e,f78_2e,f78_2l,f78_3e,f78_4e,f78_5e,f78_5l,f78_6e,f78_7e,f78_8e,f78_8l,f1,f2,f3]
    exact hQ
  rw [if_neg hb] at hQ
  obtain ⟨k,hk1,hk2⟩:=o5 (sz:=sz) (nw:=nw) hl hV t st
  obtain ⟨r,hr⟩:=jB (sz:=sz) (nw:=nw) (V:=V) hl (i:=t) (by omega) (by omega)
  have hgb:=hh t (by omega) (by omega)
  by_cases hm:t ∈ vtk V
  · rw [if_pos hm,if_pos (by decide)] at hQ
    have hk:=hk2.2 hm
    simp (config:=KF) (disch:=omega) only [bZ,ao,AI.dst,aD,aI,az,ap,bR,au,aW,aq,boxX,addA,aj,ai,bd,cr,c8,ak,aA,ev_f,ar,putS,Sf.set,Sf.reg,getR,setR,ae,Sf.newLoc,look,bt,aM,aO,id,ah,aa,ag,af,al,aF,aB,List.length_cons,List.all_cons,List.drop_zero,List.take_succ_cons,↓reduceIte,Nat.reduceEqDiff,Nat.reduceAdd,Nat.reduceLeDiff,Bool.true_and,Bool.and_true,and_true,true_and,reduceCtorEq,Nat.zero_add,Nat.add_zero,decide_true,Bool.false_eq_true,a8,bk,f78_1e,f78_2e,f78_2l,f78_3e,f78_4e,f78_5e,f78_5l,f78_6e,f78_9e,f78_10e,f78_11e,f78_11l,f1,f2,f3,f6]
    refine aL (vs:=[rfAV sz nw H V,.lit (.int .i64 t)]) (by simp only [List.map_cons,List.map_nil,List.nil_append,List.append_nil,ah,aa,bH,f1]) e_f79 hk1 rfl ?_
    simp (config:=KF) (disch:=omega) only [bZ,retI,c8,putS,Sf.set,Sf.reg,getR,setR,ae,look,↓reduceIte,Nat.reduceEqDiff,Bool.true_and,true_and,aS,f78_12e,f78_13e,f78_14e,f78_14l]
    exact hQ
  · rw [if_neg hm,if_neg (by decide)] at hQ
    have hk:k < 0:=Int.not_le.1 fun e=>hm (hk2.1 e)
    by_cases h5:sz < getH H t + n
    · rw [if_pos h5] at hQ
      simp (config:=KF) (disch:=omega) only [bZ,ao,AI.dst,aD,aI,az,ap,bR,au,aW,aq,boxX,addA,aj,ai,bd,cr,c8,ak,aA,ev_f,ar,putS,Sf.set,Sf.reg,getR,setR,ae,Sf.newLoc,look,bt,aM,aO,id,ah,aa,ag,af,al,aF,aB,List.length_cons,List.all_cons,List.drop_zero,List.take_succ_cons,↓reduceIte,Nat.reduceEqDiff,Nat.reduceAdd,Nat.reduceLeDiff,Bool.true_and,Bool.and_true,and_true,true_and,reduceCtorEq,Nat.zero_add,Nat.add_zero,decide_true,Bool.false_eq_true,a8,bk,f78_1e,f78_2e,f78_2l,f78_3e,f78_4e,f78_5e,f78_5l,f78_6e,f78_9e,f78_10e,f78_11e,f78_11l,f1,f2,f3,f6]
      refine aL (vs:=[rfAV sz nw H V,.lit (.int .i64 t)]) (by simp only [List.map_cons,List.map_nil,List.nil_append,List.append_nil,ah,aa,bH,f1]) e_f79 hk1 rfl ?_
      simp (config:=KF) (disch:=omega) only [bZ,List.contains_nil,cO,b5,cB,dR,cw,gm,bQ,bp,bG,retI,aq,ixA,addA,aj,cZ,cr,c8,ak,putS,Sf.set,Sf.reg,getR,setR,ae,look,bu,List.drop_zero,Int.cast_ofNat_Int,↓reduceIte,Nat.reduceEqDiff,Bool.true_and,true_and,Nat.zero_add,Nat.add_zero,Bool.false_eq_true,bD,aS,a8,IntWalk.i64_in,bK,Nat.mul_one,f78_12e,f78_15e,f78_16e,f78_17e,f78_17h,f78_17l,f78_18e,f78_19e,f78_20e,f78_20l,hr]
      exact hQ
    · rw [if_neg h5] at hQ
      simp (config:=KF) (disch:=omega) only [bZ,ao,AI.dst,aD,aI,az,ap,bR,au,aW,aq,boxX,addA,aj,ai,bd,cr,c8,ak,aA,ev_f,ar,putS,Sf.set,Sf.reg,getR,setR,ae,Sf.newLoc,look,bt,aM,aO,id,ah,aa,ag,af,al,aF,aB,List.length_cons,List.all_cons,List.drop_zero,List.take_succ_cons,↓reduceIte,Nat.reduceEqDiff,Nat.reduceAdd,Nat.reduceLeDiff,Bool.true_and,Bool.and_true,and_true,true_and,reduceCtorEq,Nat.zero_add,Nat.add_zero,decide_true,Bool.false_eq_true,a8,bk,f78_1e,f78_2e,f78_2l,f78_3e,f78_4e,f78_5e,f78_5l,f78_6e,f78_9e,f78_10e,f78_11e,f78_11l,f1,f2,f3,f6]
      refine aL (vs:=[rfAV sz nw H V,.lit (.int .i64 t)]) (by simp only [List.map_cons,List.map_nil,List.nil_append,List.append_nil,ah,aa,bH,f1]) e_f79 hk1 rfl ?_
      simp (config:=KF) (disch:=omega) only [bZ,List.contains_nil,cO,b5,cB,dR,cw,gm,bQ,bp,bG,retI,aq,ixA,addA,aj,cZ,cr,c8,ak,putS,Sf.set,Sf.reg,getR,setR,ae,look,bu,List.drop_zero,Int.cast_ofNat_Int,↓reduceIte,Nat.reduceEqDiff,Bool.true_and,true_and,Nat.zero_add,Nat.add_zero,Bool.false_eq_true,bD,a8,IntWalk.i64_in,bK,Nat.mul_one,f78_12e,f78_15e,f78_16e,f78_17e,f78_17h,f78_17l,f78_18e,f78_21e,f78_22e,f78_22l,hr]
      exact hQ
end
end Go.Fx.YtddifejdkiemgaaFx

