/- What the functions that the statement reaches compute: part 4. -/
import Derived.Test.YtbomoaajkinfpaaFxW3
namespace Go.Fx.YtbomoaajkinfpaaFx
open Go Go.Fx
attribute [local irreducible] aC runI ap aO

set_option maxRecDepth 100000
set_option maxHeartbeats 4000000

theorem mX (x:Int) (l:List Int) {bv:AV} {st:St} (hm:MB bv st (ints (x::l))) (hl:l.length < 100000) :
    aA Go.Proofs.Try.prog n_f61 [bv,.lit (.int .i64 0),.lit (.int .i64 1)] st (fun r st'=>MB r st' (ints l)∧ae r = ae bv∧Oth st st' (ae bv)):=by
  rcases hm with ⟨_,e⟩ | ⟨bi,cap,r0,rfl,hg,h1,h2⟩
  · simp [ints] at e
  rw [aq] at h1 ⊢
  simp only [List.length_cons] at h1 ⊢
  have hlt:=bA hg
  have hcs:(ints (x::l)++r0).length = l.length + 1 + r0.length:=by simp [aq]
  rw [hcs] at h2
  have hdr:(ints (x::l)++r0).drop 1 = ints l++r0:=rfl
  have hgr:grp 1 l.length (ints l++r0) = ints l:=by
    rw [grp_one (by simp [aq]),List.take_left' (aq l)]
  refine aw hmix k_f61 rfl rfl fun Q hQ=>?_
  unfold aFun c_f61
  by_cases hc:cap = 1
  · have hl0:l = []:=List.eq_nil_of_length_eq_zero (by omega)
    subst hl0
    subst hc
    simp (config:=KF) (disch:=omega) only [bZ,hh_sliS,retI,cD,o_sliS,o_sli3,o_x,l3,sli3V,aX,List.reduceReplicate,appX,clrX,sliB,sl3,ixTo,lenI,srcA,putN,bN,noL_bs,Option.map_some,Option.map_none,↓reduceIte,Nat.reduceEqDiff,Nat.reduceAdd,Nat.reduceLeDiff,Int.reduceLE,Int.reduceEq,reduceCtorEq,Nat.sub_zero,cE,bg,k9,cellsD_nil,f61_1e,f61_2l,f61_3e,f61_4l,f61_5e,f61_6e,f61_7l,f61_8e,f61_11e,f61_12l,f61_13e,f61_14e,f61_14h,f61_14l,f61_15e,f61_16l,f61_17e,f61_18l,hg,hcs]
    refine hQ _ _ ⟨.inr ⟨bi,1,.lit (.int .i64 0)::r0,rfl,?_,by simp [ints],by simp [ints]⟩,rfl,Oth.set _ _ _ (by simp [ae])⟩
    rw [bg hlt]
    simp [ints,bD,AV.cells]
  · have hbs:cn st bi 1 1 l.length = .req true (.ok (ints l)):=by
      unfold cn
      rw [hg]
      simp only [Res.ofOpt,Res.bind,hdr,hgr]
      congr 1
      rw [hcs]
      exact decide_eq_true (by omega)
    simp (config:=KF) (disch:=omega) only [bZ,hh_sliS,retI,cD,o_sliS,o_sli3,o_x,l3,sli3V,aX,appX,clrX,sliB,sl3,ixTo,lenI,srcA,putN,bN,noL_bs,Option.map_some,Option.map_none,↓reduceIte,Nat.reduceEqDiff,Nat.reduceAdd,Int.reduceLE,Int.reduceEq,reduceCtorEq,Nat.sub_zero,cE,bg,if_pos,if_neg,nS,k9,f61_1e,f61_2l,f61_3e,f61_4l,f61_5e,f61_6e,f61_7l,f61_8e,f61_11e,f61_12l,f61_13e,f61_14e,f61_14h,f61_14l,f61_15e,f61_16l,f61_17e,f61_18l,hg,hcs,hc,Nat.add_one_sub_one,hbs,aq]
    have hlast:bD (bD (ints (x::l)++r0) 0 (cellsD (ints l))) l.length (List.flatMap AV.cells (List.replicate (l.length + 1 - l.length) (AV.lit (Value.int IntKind.i64 0)))) = ints l++(.lit (.int .i64 0)::r0):=by
      rw [(dL l).cellsD,setAt_zero (by rw [hcs,aq]; omega),show l.length + 1 - l.length = 1 by omega]
      obtain ⟨y,hy⟩:=List.length_eq_one_iff.1 (show ((ints (x::l)).drop (ints l).length).length = 1 by simp [ints])
      have hd:(ints (x::l)++r0).drop (ints l).length = [y]++r0:=by
        rw [List.drop_append_of_le_length (by simp [ints]),hy]
      rw [hd]
      have h1:(List.replicate 1 (AV.lit (Value.int IntKind.i64 0))).flatMap AV.cells = [AV.lit (.int .i64 0)]:=rfl
      rw [h1,fM (aq l).symm (by simp)]
      rfl
    rw [hlast]
    refine hQ _ _ ⟨.inr ⟨bi,cap,.lit (.int .i64 0)::r0,by rw [aq],bg hlt,by rw [aq]; omega,by simp [aq]; omega⟩,rfl,Oth.set _ _ _ (by simp [ae])⟩
end Go.Fx.YtbomoaajkinfpaaFx

