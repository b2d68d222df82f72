/- What the functions that the statement reaches compute: part 5. -/
import Derived.Test.YtohlpjfhkejjgaaFxW4
namespace Go.Fx.YtohlpjfhkejjgaaFx
open Go Go.Fx
attribute [local irreducible] aC runI aY cF

set_option maxRecDepth 100000
set_option maxHeartbeats 4000000

theorem mY (x:Int) (l:List Int) {bv:AV} {st:St} (hm:MB bv st (ints (x::l))) (hl:l.length < 100000) :
    bj Go.Proofs.Try.prog n_f33 [bv,.lit (.int .i64 0),.lit (.int .i64 1)] st (fun r st'=>MB r st' (ints l)∧bh r = bh bv∧Oth st st' (bh bv)):=by
  rcases hm with ⟨_,e⟩ | ⟨bi,cap,r0,rfl,hg,h1,h2⟩
  · simp [ints] at e
  rw [cg] at h1 ⊢
  simp only [List.length_cons] at h1 ⊢
  have hlt:=db hg
  have hcs:(ints (x::l)++r0).length = l.length + 1 + r0.length:=by simp [cg]
  rw [hcs] at h2
  have hdr:(ints (x::l)++r0).drop 1 = ints l++r0:=rfl
  have hgr:grp 1 l.length (ints l++r0) = ints l:=by
    rw [grp_one (by simp [cg]),List.take_left' (cg l)]
  refine bf hmix k_f33 rfl rfl fun Q hQ=>?_
  unfold aFun c_f33
  by_cases hc:cap = 1
  · have hl0:l = []:=List.eq_nil_of_length_eq_zero (by omega)
    subst hl0
    subst hc
    simp (config:=KF) (disch:=omega) only [bZ,da,cd,cX,jQ,bp,tail_nil,and_self,retI,d9,o_sliS,o_sli3,cM,aA,o_x,gS,sli3V,cf,List.reduceReplicate,appX,clrX,sliB,sl3,ixTo,lenI,srcA,bR,am,aG,putS,putN,Sf.set,Sf.reg,getR,setR,ae,Sf.disAt,bk,bt,kA,noL_bs,List.length_nil,Option.map_some,Option.map_none,Int.toNat_zero,Int.toNat_one,Int.cast_ofNat_Int,↓reduceIte,Nat.reduceEqDiff,Nat.reduceAdd,Nat.reduceLeDiff,Int.reduceLE,Int.reduceEq,Bool.true_and,true_and,reduceCtorEq,Nat.zero_add,Nat.add_zero,Nat.sub_zero,decide_true,decide_false,c9,cp,eA,ah,ly,cellsD_nil,Nat.mul_one,f33_1e,f33_2e,f33_2l,f33_3e,f33_4e,f33_4l,f33_5e,f33_6e,f33_7e,f33_7l,f33_8e,f33_11e,f33_12e,f33_12l,f33_13e,f33_14e,f33_14h,f33_14l,f33_15e,f33_16e,f33_16l,f33_17e,f33_18e,f33_18l,hg,hcs]
    refine hQ _ _ ⟨.inr ⟨bi,1,.lit (.int .i64 0)::r0,rfl,?_,by simp [ints],by simp [ints]⟩,rfl,Oth.set _ _ _ (by simp [bh])⟩
    rw [cp hlt]
    simp [ints,cy,AV.cells]
  · have hbs:d7 st bi 1 1 l.length = .req true (.ok (ints l)):=by
      unfold d7
      rw [hg]
      simp only [Res.ofOpt,Res.bind,hdr,hgr]
      congr 1
      rw [hcs]
      exact decide_eq_true (by omega)
    simp (config:=KF) (disch:=omega) only [bZ,da,cd,cX,jQ,bp,tail_nil,retI,d9,o_sliS,o_sli3,cM,aA,o_x,gS,sli3V,cf,appX,clrX,sliB,sl3,ixTo,lenI,srcA,bR,am,aG,putS,putN,Sf.set,Sf.reg,getR,setR,ae,Sf.disAt,bk,bt,kA,noL_bs,Option.map_some,Option.map_none,List.drop_zero,List.take_zero,Int.toNat_natCast,Int.toNat_zero,Int.toNat_one,Int.cast_ofNat_Int,↓reduceIte,Nat.reduceEqDiff,Nat.reduceAdd,Int.reduceLE,Int.reduceEq,Bool.true_and,true_and,reduceCtorEq,Nat.zero_add,Nat.add_zero,Nat.sub_zero,decide_true,decide_false,du,c9,cp,if_pos,if_neg,eA,kC,ly,Nat.mul_one,f33_1e,f33_2e,f33_2l,f33_3e,f33_4e,f33_4l,f33_5e,f33_6e,f33_7e,f33_7l,f33_8e,f33_11e,f33_12e,f33_12l,f33_13e,f33_14e,f33_14h,f33_14l,f33_15e,f33_16e,f33_16l,f33_17e,f33_18e,f33_18l,hg,hcs,hc,Nat.add_one_sub_one,hbs,cg]
    have hlast:cy (cy (ints (x::l)++r0) 0 (cellsD (ints l))) l.length (List.flatMap AV.cells (List.replicate (l.length + 1 - l.length) (AV.lit (Value.int IntKind.i64 0)))) = ints l++(.lit (.int .i64 0)::r0):=by
      rw [(em l).cellsD,setAt_zero (by rw [hcs,cg]; omega),show l.length + 1 - l.length = 1 by omega]
      obtain ⟨y,hy⟩:=List.length_eq_one_iff.1 (show ((ints (x::l)).drop (ints l).length).length = 1 by simp [ints])
      have hd:(ints (x::l)++r0).drop (ints l).length = [y]++r0:=by
        rw [List.drop_append_of_le_length (by simp [ints]),hy]
      rw [hd]
      have h1:(List.replicate 1 (AV.lit (Value.int IntKind.i64 0))).flatMap AV.cells = [AV.lit (.int .i64 0)]:=rfl
      rw [h1,im (cg l).symm (by simp)]
      rfl
    rw [hlast]
    refine hQ _ _ ⟨.inr ⟨bi,cap,.lit (.int .i64 0)::r0,by rw [cg],cp hlt,by rw [cg]; omega,by simp [cg]; omega⟩,rfl,Oth.set _ _ _ (by simp [bh])⟩
end Go.Fx.YtohlpjfhkejjgaaFx

