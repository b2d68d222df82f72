/- What the functions that the statement reaches compute: part 1. -/
import Derived.Test.YtenijlfcfmhmkaaFxT
namespace Go.Fx.YtenijlfcfmhmkaaFx
open Go Go.Fx
attribute [local irreducible] aC runI ap br

set_option maxRecDepth 100000
set_option maxHeartbeats 4000000

theorem join3_sl (P:Program) (a b c:List AV) (ha:Lits a) (hb:Lits b) (hc:Lits c) (st:St) (K:AV→St→Prop)
   (hl:a.length + b.length + c.length≤1000000) (ha0:0 < a.length)
   (hK : ∀ e : List AV, (∀ x ∈ e, x = .any) → K (.bs st.boxes.length 1 0 (a.length + b.length + c.length) (a.length + b.length + c.length)) (st.push (.cells (a ++ (b ++ (c ++ e)))))) :
    aFun P id false c_f59 [.sl false 1 [.sl false 1 a,.sl false 1 b,.sl false 1 c],.lit (.slice none 0 0)] st K:=by
  unfold aFun c_f59
  simp (config:=KF) (disch:=omega) only [bZ,lenI,iE,cu,↓reduceIte,Nat.reduceEqDiff,Nat.reduceAdd,Int.reduceEq,reduceCtorEq,bU]
  rw [f59_31w]
  refine dC 4 ?_
  simp (config:=KF) (disch:=omega) only [bZ,aV,ar,bT,bR,cA,bX,o_x,ixSV,ak,lenI,af,bQ,jK,cr,cu,aR,Int.reduceToNat,↓reduceIte,Nat.reduceEqDiff,Nat.reduceAdd,Int.reduceLT,Int.reduceLE,Int.reduceAdd,Int.reduceSub,reduceCtorEq,bU,jk,go,jV,Int.zero_add,bV]
  refine mknz_eq _ _ _ (by omega) (by omega) fun cap hcap=>?_
  have hcap:a.length + b.length + c.length≤cap:=by omega
  simp (config:=KF) (disch:=omega) only [bZ,cy,bX,o_sli3,bD,o_x,ixSV,c3,sli3V,bL,ak,eo,cutS,lenS,sliB,sl3,ixTo,lenI,af,srcA,eC,aR,Option.map_some,Option.map_none,↓reduceIte,Nat.reduceEqDiff,Nat.reduceAdd,Int.reduceLT,Int.reduceLE,reduceCtorEq,Nat.sub_zero,bN,eQ,if_pos,if_neg,List.length_replicate,Nat.mul_one,ha.cellsD]
  rw [f59_55w,kU (by simp; omega)]
  refine dC 3 ?_
  simp only [List.drop_replicate]
  generalize he:List.replicate (cap - a.length) AV.any = e0
  have he0:e0.length = cap - a.length:=by rw [← he]; simp
  rcases Nat.eq_zero_or_pos b.length with hb0 | hb0
  · rcases Nat.eq_zero_or_pos c.length with hc0 | hc0
    · have hb1:=List.eq_nil_of_length_eq_zero hb0
      have hc1:=List.eq_nil_of_length_eq_zero hc0
      subst hb1 hc1
      simp (config:=KF) (disch:=omega) only [bZ,aV,ar,bT,retI,cy,bR,cA,bX,bD,o_x,ixSV,c3,bL,ak,eo,cutS,lenS,sliB,sl3,ixTo,af,srcA,bQ,cr,eC,aR,jh,↓reduceIte,Nat.reduceEqDiff,Nat.reduceAdd,Nat.reduceLeDiff,Int.reduceLT,Int.reduceLE,Int.reduceAdd,Int.zero_add,Int.add_zero,Nat.mul_one,bV]
      exact hK _ (by rw [← he]; exact fun x hx=>List.eq_of_mem_replicate hx)
    · have hb1:=List.eq_nil_of_length_eq_zero hb0
      subst hb1
      simp (config:=KF) (disch:=omega) only [bZ,aV,ar,bT,retI,cy,bR,cA,bX,bD,o_x,ixSV,c3,bL,ak,eo,cutS,lenS,sliB,sl3,ixTo,af,srcA,bQ,cr,eC,aR,jh,↓reduceIte,Nat.reduceEqDiff,Nat.reduceAdd,Int.reduceLT,Int.reduceLE,Int.reduceAdd,jk,bN,eQ,Int.zero_add,Int.add_zero,if_pos,if_neg,Nat.mul_one,bV,hb.cellsD,hc.cellsD]
      rw [dD rfl (by omega)]
      exact hK _ (by rw [← he]; exact fun x hx=>List.eq_of_mem_replicate (List.mem_of_mem_drop hx))
  · rcases Nat.eq_zero_or_pos c.length with hc0 | hc0
    · have hc1:=List.eq_nil_of_length_eq_zero hc0
      subst hc1
      simp (config:=KF) (disch:=omega) only [bZ,aV,ar,bT,retI,cy,bR,cA,bX,bD,o_x,ixSV,c3,bL,ak,eo,cutS,lenS,sliB,sl3,ixTo,af,srcA,bQ,cr,eC,aR,jh,↓reduceIte,Nat.reduceEqDiff,Nat.reduceAdd,Nat.reduceLeDiff,Int.reduceLT,Int.reduceLE,Int.reduceAdd,jk,bN,eQ,Int.zero_add,Int.add_zero,if_pos,if_neg,Nat.mul_one,bV,hb.cellsD,hc.cellsD]
      rw [dD rfl (by omega)]
      exact hK _ (by rw [← he]; exact fun x hx=>List.eq_of_mem_replicate (List.mem_of_mem_drop hx))
    · simp (config:=KF) (disch:=omega) only [bZ,aV,ar,bT,retI,cy,bR,cA,bX,bD,o_x,ixSV,c3,bL,ak,eo,cutS,lenS,sliB,sl3,ixTo,af,srcA,bQ,cr,eC,aR,jh,↓reduceIte,Nat.reduceEqDiff,Nat.reduceAdd,Int.reduceLT,Int.reduceLE,Int.reduceAdd,jk,bN,eQ,Int.zero_add,Int.add_zero,if_pos,if_neg,me,kT,Nat.mul_one,bV,hb.cellsD,hc.cellsD]
      rw [dD rfl (by omega),← List.append_assoc,dD (by simp) (by simp; omega),List.append_assoc]
      exact hK _ (by rw [← he]; exact fun x hx=>List.eq_of_mem_replicate (List.mem_of_mem_drop (List.mem_of_mem_drop hx)))

theorem join3_nil (P:Program) (a b:List AV) (ha:Lits a) (hb:Lits b) (st:St) (K:AV→St→Prop)
   (hl:a.length + b.length≤1000000) (ha0:0 < a.length)
   (hK : ∀ e : List AV, (∀ x ∈ e, x = .any) → K (.bs st.boxes.length 1 0 (a.length + b.length) (a.length + b.length)) (st.push (.cells (a ++ (b ++ e))))) :
    aFun P id false c_f59 [.sl false 1 [.sl false 1 a,.sl false 1 b,.lit (.slice none 0 0)],.lit (.slice none 0 0)] st K:=by
  unfold aFun c_f59
  simp (config:=KF) (disch:=omega) only [bZ,lenI,iE,cu,↓reduceIte,Nat.reduceEqDiff,Nat.reduceAdd,Int.reduceEq,reduceCtorEq,bU]
  rw [f59_31w]
  refine dC 4 ?_
  simp (config:=KF) (disch:=omega) only [bZ,aV,ar,bT,bR,cA,bX,o_x,ixSV,ak,lenI,af,bQ,jK,cr,cu,ai,aR,Int.reduceToNat,↓reduceIte,Nat.reduceEqDiff,Nat.reduceAdd,Int.reduceLT,Int.reduceLE,Int.reduceAdd,Int.reduceSub,reduceCtorEq,bU,jk,go,jV,Int.zero_add,Int.add_zero,bV]
  refine mknz_eq _ _ _ (by omega) (by omega) fun cap hcap=>?_
  have hcap:a.length + b.length≤cap:=by omega
  simp (config:=KF) (disch:=omega) only [bZ,cy,bX,o_sli3,bD,o_x,ixSV,c3,sli3V,bL,ak,eo,cutS,lenS,sliB,sl3,ixTo,lenI,af,srcA,eC,aR,Option.map_some,Option.map_none,↓reduceIte,Nat.reduceEqDiff,Nat.reduceAdd,Int.reduceLT,Int.reduceLE,reduceCtorEq,Nat.sub_zero,bN,eQ,if_pos,if_neg,List.length_replicate,Nat.mul_one,ha.cellsD]
  rw [f59_55w,kU (by simp; omega)]
  refine dC 3 ?_
  simp only [List.drop_replicate]
  generalize he:List.replicate (cap - a.length) AV.any = e0
  have he0:e0.length = cap - a.length:=by rw [← he]; simp
  rcases Nat.eq_zero_or_pos b.length with hb0 | hb0
  · have hb1:=List.eq_nil_of_length_eq_zero hb0
    subst hb1
    simp (config:=KF) (disch:=omega) only [bZ,aV,ar,bT,retI,cy,bR,cA,bX,bD,o_x,ixSV,c3,bL,ak,eo,cutS,lenS,sliB,sl3,ixTo,af,srcA,bQ,cr,eC,ai,aR,jh,↓reduceIte,Nat.reduceEqDiff,Nat.reduceAdd,Nat.reduceLeDiff,Int.reduceLT,Int.reduceLE,Int.reduceAdd,Int.zero_add,Int.add_zero,Nat.mul_one,bV]
    exact hK _ (by rw [← he]; exact fun x hx=>List.eq_of_mem_replicate hx)
  · simp (config:=KF) (disch:=omega) only [bZ,aV,ar,bT,retI,cy,bR,cA,bX,bD,o_x,ixSV,c3,bL,ak,eo,cutS,lenS,sliB,sl3,ixTo,af,srcA,bQ,cr,eC,ai,aR,jh,↓reduceIte,Nat.reduceEqDiff,Nat.reduceAdd,Int.reduceLT,Int.reduceLE,Int.reduceAdd,jk,bN,eQ,Int.zero_add,Int.add_zero,if_pos,if_neg,kT,Nat.mul_one,bV,hb.cellsD]
    rw [dD rfl (by omega)]
    exact hK _ (by rw [← he]; exact fun x hx=>List.eq_of_mem_replicate (List.mem_of_mem_drop hx))

end Go.Fx.YtenijlfcfmhmkaaFx

