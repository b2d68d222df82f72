/- What the functions that the statement reaches compute: part 4. -/
import Derived.Test.YtbomoaajkinfpaaFxW3
namespace Go.Fx.YtbomoaajkinfpaaFx
open Go Go.Fx
attribute [local irreducible] aC runI aT bM

set_option maxRecDepth 100000
set_option maxHeartbeats 4000000

theorem nt (x:Int) (l:List Int) {bv:AV} {st:St} (hm:MB bv st (ints (x::l))) (hl:l.length < 100000) :
    bf Go.Proofs.Try.prog n_f61 [bv,.lit (.int .i64 0),.lit (.int .i64 1)] st (fun r st'=>MB r st' (ints l)∧aj r = aj bv∧Oth st st' (aj bv)):=by
  rcases hm with ⟨_,e⟩ | ⟨bi,cap,r0,rfl,hg,h1,h2⟩
  · simp [ints] at e
  rw [ba] at h1 ⊢
  simp only [List.length_cons] at h1 ⊢
  have hlt:=cw hg
  have hcs:(ints (x::l)++r0).length = l.length + 1 + r0.length:=by simp [ba]
  rw [hcs] at h2
  have hdr:(ints (x::l)++r0).drop 1 = ints l++r0:=rfl
  have hgr:grp 1 l.length (ints l++r0) = ints l:=by
    rw [grp_one (by simp [ba]),List.take_left' (ba l)]
  refine aZ hmix k_f61 rfl rfl fun Q hQ=>?_
  unfold aFun c_f61
  by_cases hc:cap = 1
  · have hl0:l = []:=List.eq_nil_of_length_eq_zero (by omega)
    subst hl0
    subst hc
    simp (config:=KF) (disch:=omega) only [bZ,cX,ci,cR,hh_sliS,bB,tail_nil,and_self,retI,en,o_sliS,o_sli3,cF,ao,o_x,mI,sli3V,cb,List.reduceReplicate,appX,clrX,sliB,sl3,ixTo,lenI,srcA,ce,aq,bg,putS,putN,Sf.set,Sf.reg,getR,setR,aa,Sf.disAt,bp,aY,dj,noL_bs,List.length_nil,Option.map_some,Option.map_none,Int.toNat_zero,Int.toNat_one,Int.cast_ofNat_Int,↓reduceIte,Nat.reduceEqDiff,Nat.reduceAdd,Nat.reduceLeDiff,Int.reduceLE,Int.reduceEq,Bool.true_and,true_and,reduceCtorEq,Nat.zero_add,Nat.add_zero,Nat.sub_zero,decide_true,decide_false,eo,ca,bL,am,lN,cellsD_nil,Nat.mul_one,f61_1e,f61_2e,f61_2l,f61_3e,f61_4e,f61_4l,f61_5e,f61_6e,f61_7e,f61_7l,f61_8e,f61_11e,f61_12e,f61_12l,f61_13e,f61_14e,f61_14h,f61_14l,f61_15e,f61_16e,f61_16l,f61_17e,f61_18e,f61_18l,hg,hcs]
    refine hQ _ _ ⟨.inr ⟨bi,1,.lit (.int .i64 0)::r0,rfl,?_,by simp [ints],by simp [ints]⟩,rfl,Oth.set _ _ _ (by simp [aj])⟩
    rw [ca hlt]
    simp [ints,cy,AV.cells]
  · have hbs:dM st bi 1 1 l.length = .req true (.ok (ints l)):=by
      unfold dM
      rw [hg]
      simp only [Res.ofOpt,Res.bind,hdr,hgr]
      congr 1
      rw [hcs]
      exact decide_eq_true (by omega)
    simp (config:=KF) (disch:=omega) only [bZ,cX,ci,cR,hh_sliS,bB,tail_nil,retI,en,o_sliS,o_sli3,cF,ao,o_x,mI,sli3V,cb,appX,clrX,sliB,sl3,ixTo,lenI,srcA,ce,aq,bg,putS,putN,Sf.set,Sf.reg,getR,setR,aa,Sf.disAt,bp,aY,dj,noL_bs,Option.map_some,Option.map_none,List.drop_zero,List.take_zero,Int.toNat_natCast,Int.toNat_zero,Int.toNat_one,Int.cast_ofNat_Int,↓reduceIte,Nat.reduceEqDiff,Nat.reduceAdd,Int.reduceLE,Int.reduceEq,Bool.true_and,true_and,reduceCtorEq,Nat.zero_add,Nat.add_zero,Nat.sub_zero,decide_true,decide_false,bK,eo,ca,if_pos,if_neg,bL,oq,lN,Nat.mul_one,f61_1e,f61_2e,f61_2l,f61_3e,f61_4e,f61_4l,f61_5e,f61_6e,f61_7e,f61_7l,f61_8e,f61_11e,f61_12e,f61_12l,f61_13e,f61_14e,f61_14h,f61_14l,f61_15e,f61_16e,f61_16l,f61_17e,f61_18e,f61_18l,hg,hcs,hc,Nat.add_one_sub_one,hbs,ba]
    have hlast:cy (cy (ints (x::l)++r0) 0 (cellsD (ints l))) l.length (List.flatMap AV.cells (List.replicate (l.length + 1 - l.length) (AV.lit (Value.int IntKind.i64 0)))) = ints l++(.lit (.int .i64 0)::r0):=by
      rw [(eF l).cellsD,setAt_zero (by rw [hcs,ba]; omega),show l.length + 1 - l.length = 1 by omega]
      obtain ⟨y,hy⟩:=List.length_eq_one_iff.1 (show ((ints (x::l)).drop (ints l).length).length = 1 by simp [ints])
      have hd:(ints (x::l)++r0).drop (ints l).length = [y]++r0:=by
        rw [List.drop_append_of_le_length (by simp [ints]),hy]
      rw [hd]
      have h1:(List.replicate 1 (AV.lit (Value.int IntKind.i64 0))).flatMap AV.cells = [AV.lit (.int .i64 0)]:=rfl
      rw [h1,gC (ba l).symm (by simp)]
      rfl
    rw [hlast]
    refine hQ _ _ ⟨.inr ⟨bi,cap,.lit (.int .i64 0)::r0,by rw [ba],ca hlt,by rw [ba]; omega,by simp [ba]; omega⟩,rfl,Oth.set _ _ _ (by simp [aj])⟩
end Go.Fx.YtbomoaajkinfpaaFx

