/- What the functions that the statement reaches compute: part 4. -/
import Derived.Test.YtbomoaajkinfpaaFxW3
namespace Go.Fx.YtbomoaajkinfpaaFx
open Go Go.Fx
attribute [local irreducible] aC runI aw aB

set_option maxRecDepth 100000
set_option maxHeartbeats 4000000

theorem mO (x:Int) (l:List Int) {bv:AV} {st:St} (hm:MB bv st (ints (x::l))) (hl:l.length < 100000) :
    aA Go.Proofs.Try.prog n_f61 [bv,.lit (.int .i64 0),.lit (.int .i64 1)] st (fun r st'=>MB r st' (ints l)∧ae r = ae bv∧Oth st st' (ae bv)):=by
  rcases hm with ⟨_,e⟩ | ⟨bi,cap,r0,rfl,hg,h1,h2⟩
  · simp [ints] at e
  rw [al] at h1 ⊢
  simp only [List.length_cons] at h1 ⊢
  have hlt:=bq hg
  have hcs:(ints (x::l)++r0).length = l.length + 1 + r0.length:=by simp [al]
  rw [hcs] at h2
  have hdr:(ints (x::l)++r0).drop 1 = ints l++r0:=rfl
  have hgr:grp 1 l.length (ints l++r0) = ints l:=by
    rw [grp_one (by simp [al]),List.take_left' (al l)]
  refine ap hmix k_f61 rfl rfl fun Q hQ=>?_
  unfold aFun c_f61
  by_cases hc:cap = 1
  · have hl0:l = []:=List.eq_nil_of_length_eq_zero (by omega)
    subst hl0
    subst hc
    simp (config:=KF) (disch:=omega) only [bZ,hh_sliS,retI,bB,o_sliS,o_sli3,o_x,lP,sli3V,bb,List.reduceReplicate,appX,clrX,sliB,sl3,ixTo,lenI,srcA,putN,bY,noL_bs,Option.map_some,Option.map_none,↓reduceIte,Nat.reduceEqDiff,Nat.reduceAdd,Nat.reduceLeDiff,Int.reduceLE,Int.reduceEq,reduceCtorEq,Nat.sub_zero,cy,aS,kM,cellsD_nil,hg,hcs]
    refine hQ _ _ ⟨.inr ⟨bi,1,.lit (.int .i64 0)::r0,rfl,?_,by simp [ints],by simp [ints]⟩,rfl,Oth.set _ _ _ (by simp [ae])⟩
    rw [aS hlt]
    simp [ints,bK,AV.cells]
  · have hbs:cQ st bi 1 1 l.length = .req true (.ok (ints l)):=by
      unfold cQ
      rw [hg]
      simp only [Res.ofOpt,Res.bind,hdr,hgr]
      congr 1
      rw [hcs]
      exact decide_eq_true (by omega)
    simp (config:=KF) (disch:=omega) only [bZ,hh_sliS,retI,bB,o_sliS,o_sli3,o_x,lP,sli3V,bb,appX,clrX,sliB,sl3,ixTo,lenI,srcA,putN,bY,noL_bs,Option.map_some,Option.map_none,↓reduceIte,Nat.reduceEqDiff,Nat.reduceAdd,Int.reduceLE,Int.reduceEq,reduceCtorEq,Nat.sub_zero,cy,aS,if_pos,if_neg,nx,kM,hg,hcs,hc,Nat.add_one_sub_one,hbs,al]
    have hlast:bK (bK (ints (x::l)++r0) 0 (cellsD (ints l))) l.length (List.flatMap AV.cells (List.replicate (l.length + 1 - l.length) (AV.lit (Value.int IntKind.i64 0)))) = ints l++(.lit (.int .i64 0)::r0):=by
      rw [(dz l).cellsD,setAt_zero (by rw [hcs,al]; omega),show l.length + 1 - l.length = 1 by omega]
      obtain ⟨y,hy⟩:=List.length_eq_one_iff.1 (show ((ints (x::l)).drop (ints l).length).length = 1 by simp [ints])
      have hd:(ints (x::l)++r0).drop (ints l).length = [y]++r0:=by
        rw [List.drop_append_of_le_length (by simp [ints]),hy]
      rw [hd]
      have h1:(List.replicate 1 (AV.lit (Value.int IntKind.i64 0))).flatMap AV.cells = [AV.lit (.int .i64 0)]:=rfl
      rw [h1,fA (al l).symm (by simp)]
      rfl
    rw [hlast]
    refine hQ _ _ ⟨.inr ⟨bi,cap,.lit (.int .i64 0)::r0,by rw [al],aS hlt,by rw [al]; omega,by simp [al]; omega⟩,rfl,Oth.set _ _ _ (by simp [ae])⟩
end Go.Fx.YtbomoaajkinfpaaFx

