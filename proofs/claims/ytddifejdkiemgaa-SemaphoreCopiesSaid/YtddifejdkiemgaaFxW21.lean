/- What the functions that the statement reaches compute: part 21. -/
import Derived.Test.YtddifejdkiemgaaFxW20
namespace Go.Fx.YtddifejdkiemgaaFx
open Go Go.Fx
attribute [local irreducible] aC runI a9 cd

set_option maxRecDepth 100000
set_option maxHeartbeats 4000000

section
variable {H:List Int} {V:List Vt} {sz nw:Int}
theorem o4 (hl:H.length = 64) {i x:Int} (h0:0≤i∧i < 64):(rfC sz nw H V).set (2 + i.toNat) (.lit (.int .i64 x)) = rfC sz nw (H.set i.toNat x) V:=by
  rw [show 2 + i.toNat = i.toNat + 2 by omega]
  unfold rfC
  simp only [List.set_cons_succ]
  unfold hR
  rw [List.set_append_left _ _ (by simp [cn,hl]; omega)]
  simp [ints,List.map_set]
theorem hR_setq (hl:H.length = 64) (V':List Vt):(hR H V).set 64 (qR V') = hR H V':=by
  unfold hR
  rw [List.set_append_right _ _ (by simp [cn,hl])]
  simp [cn,hl]
theorem eR {H':List Int} {V':List Vt} (hl:H.length = 64) (hl':H'.length = 64) (a b:AV):cG (a::b::hR H V) 2 (hR H' V') = a::b::hR H' V':=by
  have h1:=bL (V:=V) hl
  have h2:=bL (V:=V') hl'
  have:=gH (vs:=hR H' V') (xs:=[a,b]) (rs:=hR H V) (n:=2) rfl (by omega)
  refine Eq.trans this ?_
  rw [h2,List.drop_of_length_le (by omega)]
  simp

theorem i7 (hl:H.length = 64) (l:List AV):((hR H V).set 64 (.sl true 3 l)).length = 65∧((hR H V).set 64 (.sl true 3 l)).take 65 = (hR H V).set 64 (.sl true 3 l)∧((hR H V).set 64 (.sl true 3 l)).map AV.own1 = (hR H V).set 64 (.sl false 3 l)∧((hR H V).set 64 (.sl true 3 l)).drop 64 = [.sl true 3 l]:=by
  have h1:=bL (V:=V) hl
  refine ⟨by simp [h1],List.take_of_length_le (by simp [h1]),by rw [List.map_set,cz]; rfl,?_⟩
  rw [List.drop_eq_getElem_cons (by simp [h1])]
  simp [h1]

/-- A list dS the element at a place. -/
def wo (V:List Vt) (i:Nat):List Vt:=V.take i++V.drop (i + 1)
theorem mZ (l:List Vt):(l.map wtR).map AV.own1 = l.map wtR∧(l.map wtR).map AV.dis = l.map wtR:=by
  constructor <;> (simp only [List.map_map]; congr 1)

theorem m3 (hl:H.length = 64) {i:Nat} (hi:i < V.length) (hV:V.length≤1000) (st:St):bF Go.Proofs.Try.prog n_f81 [rfAV sz nw H V,.lit (.int .i64 (i:Nat))] st (rfAV sz nw H (wo V i)):=by
  refine bU hmix k_f81 rfl rfl fun Q hQ=>?_
  unfold aFun c_f81
  have f1:=fun V=>cz (H:=H) (V:=V)
  have f2:=fun V=>co (H:=H) (V:=V)
  have f3:=fun V=>bL (V:=V) hl
  have f4:=jn (V:=V) hl
  have f6:=fun V=>bW (V:=V) hl
  have f7:=fun V=>dF (V:=V) hl
  have f8:=fun V V'=>hR_setq (V:=V) hl V'
  have hV0:V≠[]:=by rintro rfl; simp at hi
  have f5:qR V = .sl false 3 (V.map wtR):=by unfold qR; rw [if_neg hV0]
  rw [f5] at f4
  have hml:(V.map wtR).length = V.length:=by simp
  have hQ:=hQ st
  have m1:(V.map wtR).take i = (V.take i).map wtR:=by rw [List.map_take]
  have m2:(V.map wtR).drop (i + 1) = (V.drop (i + 1)).map wtR:=by rw [List.map_drop]
  have tk:(V.map wtR).take V.length = V.map wtR:=List.take_of_length_le (by simp)
  have gd:=fun l=>(mZ l).2
  have wd:∀ x,(wtR x).dis = wtR x:=fun _=>rfl
  have p1:=fun l=>(i7 (V:=V) hl l).1
  have p2:=fun l=>(i7 (V:=V) hl l).2.1
  have p3:=fun l=>(i7 (V:=V) hl l).2.2.1
  have go:=fun l=>(mZ l).1
  have hdl:(V.drop (i + 1)).length = V.length - (i + 1):=by simp
  have htl:(V.take i).length = i:=by simp; omega
  have f9:qR (wo V i) = if wo V i = [] then .lit (.slice none 0 0) else .sl false 3 ((V.take i).map wtR++(V.drop (i + 1)).map wtR):=by
    unfold qR; simp [wo]
  have f8:=f8 V (wo V i)
  obtain ⟨D,hD⟩:∃ D,D = V.drop (i + 1):=⟨_,rfl⟩
  obtain ⟨T,hT⟩:∃ T,T = V.take i:=⟨_,rfl⟩
  have hwo:wo V i = T++D:=by rw [hD,hT]; rfl
  rw [← hD] at m2 hdl f9
  rw [← hT] at m1 htl f9
  have hDl:D.length≤1000:=by omega
  have hTl:T.length≤1000:=by omega
  rcases T with _ | ⟨t0,T⟩
  · have hi0:i = 0:=by simpa using htl.symm
    subst hi0
    rcases D with _ | ⟨x,xs⟩
    · rw [hwo] at hQ f9 f8
      simp only [List.append_nil,if_true] at f9 f8 hQ
      rw [f9] at f8
      simp (config:=KF) (disch:=omega) only [bZ,List.contains_nil,cO,b5,cB,dR,cw,bQ,oY,hh_app,bp,bG,retI,resI,az,ap,gX,bA,bR,aH,aq,sliSV,iG,boxX,aU,List.isEmpty_nil,ixTo,addA,aj,ai,dt,srcA,cZ,ak,aA,ar,aG,putS,Sf.set,Sf.reg,getR,setR,ae,Sf.disAt,Sf.newLoc,Sf.setLoc,look,bt,aM,bu,aO,br,ah,aa,aZ,ag,af,al,bO,aF,aV,aB,List.length_cons,List.length_nil,Option.map_some,Option.map_none,List.all_cons,List.all_nil,List.drop_zero,List.drop_succ_cons,List.take_succ_cons,List.set_cons_zero,List.set_cons_succ,Int.toNat_zero,Int.toNat_one,Int.cast_ofNat_Int,↓reduceIte,Nat.reduceEqDiff,Nat.reduceAdd,Nat.reduceLeDiff,Int.reduceLE,Bool.true_and,Bool.and_true,and_true,true_and,reduceCtorEq,Nat.zero_add,decide_true,Bool.false_eq_true,bD,IntWalk.i64_in,Int.zero_add,bh,aQ,am,f81_1e,f81_2e,f81_2l,f81_3e,f81_4e,f81_4h,f81_4l,f81_5e,f81_6e,f81_6l,f1,f2,f3,f4,f6,f7,f8,hml,m1,m2,tk]
      exact hQ
    · rw [hwo] at hQ f9 f8
      simp only [List.nil_append,reduceCtorEq,if_false,List.map_nil] at f9 f8 hQ
      rw [f9] at f8
      have gx:=gd (x::xs)
      have hxl:xs.length≤1000:=by simp only [List.length_cons] at hDl; omega
      simp only [List.map_cons] at gx f8 m2
      simp (config:=KF) (disch:=omega) only [bZ,List.contains_nil,cO,b5,cB,dR,cw,bQ,oY,hh_app,bp,bG,retI,resI,az,ap,gX,bA,bR,aH,aq,sliSV,iG,boxX,aU,List.isEmpty_cons,List.isEmpty_nil,ixTo,addA,aj,ai,dt,srcA,cZ,ak,aA,ar,aG,putS,Sf.set,Sf.reg,getR,setR,ae,Sf.disAt,Sf.newLoc,Sf.setLoc,look,bt,aM,bu,aO,br,ah,aa,gE,ag,af,fo,al,bO,aF,aV,aB,List.length_cons,List.length_nil,Option.map_some,Option.map_none,List.all_cons,List.all_nil,List.drop_zero,List.drop_succ_cons,List.take_succ_cons,List.set_cons_zero,List.set_cons_succ,Int.toNat_zero,Int.toNat_one,Int.cast_ofNat_Int,↓reduceIte,Nat.reduceEqDiff,Nat.reduceAdd,Nat.reduceLeDiff,Int.reduceLE,Bool.true_and,Bool.and_true,and_true,true_and,reduceCtorEq,Nat.zero_add,decide_true,Bool.false_eq_true,List.length_map,bD,fZ,IntWalk.i64_in,Int.zero_add,bh,aQ,am,f81_1e,f81_2e,f81_2l,f81_3e,f81_4e,f81_4h,f81_4l,f81_5e,f81_6e,f81_6l,f1,f2,f3,f4,f6,f7,f8,hml,m1,m2,tk,gd,wd,p1,p2,p3]
      exact hQ
  · have hi0:0 < i:=by simp only [List.length_cons] at htl; omega
    have gx:=gd (t0::T)
    have go':=go (t0::T)
    have hxl:T.length≤1000:=by simp only [List.length_cons] at hTl; omega
    have hne:¬ (t0::T)++D = []:=by simp
    rw [hwo] at hQ f9 f8
    rw [if_neg hne] at f9
    rw [f9] at f8
    simp only [List.map_cons,List.cons_append] at gx go' f8 m1
    simp (config:=KF) (disch:=omega) only [bZ,List.contains_nil,cO,b5,cB,dR,cw,bQ,oY,hh_app,bp,bG,retI,resI,az,ap,gX,bA,bR,aH,aq,sliSV,iG,boxX,aU,List.isEmpty_cons,ixTo,addA,aj,ai,dt,eO,srcA,cZ,ak,aA,ar,aG,putS,Sf.set,Sf.reg,getR,setR,ae,Sf.disAt,Sf.newLoc,Sf.setLoc,look,bt,aM,bu,aO,br,ah,aa,gE,ag,af,fo,al,bO,aF,aV,aB,List.length_cons,List.length_nil,Option.map_some,Option.map_none,List.all_cons,List.all_nil,List.cons_append,List.drop_zero,List.drop_succ_cons,List.take_succ_cons,List.set_cons_zero,List.set_cons_succ,Int.toNat_natCast,↓reduceIte,Nat.reduceEqDiff,Nat.reduceAdd,Nat.reduceLeDiff,Bool.true_and,Bool.and_true,and_true,true_and,reduceCtorEq,Nat.zero_add,decide_true,Bool.false_eq_true,List.length_map,bD,fZ,IntWalk.i64_in,cP,bK,bh,aQ,am,f81_1e,f81_2e,f81_2l,f81_3e,f81_4e,f81_4h,f81_4l,f81_5e,f81_6e,f81_6l,f1,f2,f3,f4,f6,f7,f8,hml,m1,m2,tk,gd,wd,p1,p2,p3]
    exact hQ
end
end Go.Fx.YtddifejdkiemgaaFx

