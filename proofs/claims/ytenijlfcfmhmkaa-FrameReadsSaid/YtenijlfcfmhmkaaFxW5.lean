/- What the functions that the statement reaches compute: part 5. -/
import Derived.Test.YtenijlfcfmhmkaaFxW4
namespace Go.Fx.YtenijlfcfmhmkaaFx
open Go Go.Fx
attribute [local irreducible] aC runI ap br

set_option maxRecDepth 100000
set_option maxHeartbeats 4000000

theorem two_pure (n:Nat) (hn:n < 65536) (st:St):aw Go.Proofs.Try.prog n_f47 [.lit (.int .i64 n)] st (.sl false 1 (BB (twoB n))):=by
  refine gq ?_ (ff _ _) (by simp [AV.NB.lit]) st
  refine aW hmix k_f47 rfl rfl ?_
  unfold aFun c_f47
  simp (config:=KF) (disch:=omega) only [bZ,retI,gS,kI,bslV,List.reduceReplicate,d2,dA,eM,ai,mY,↓reduceIte,Nat.reduceEqDiff,Nat.reduceAdd,Nat.reduceLT,reduceCtorEq,n_shr8,IntWalk.u8_in]
  have h1:AV.lit (.int .u8 (n / 256:Int)) = .lit (.int .u8 (UInt8.ofNat (n / 256)).toNat):=w_u8' (n:=n / 256) (by omega)
  have h2:=w_u8 n
  rw [h1,h2]
  exact .own _ _

/-- The encoding of a frame. -/
def ef (k:UInt8) (b:List UInt8):List UInt8:=[k]++(twoB b.length++b)
def encB (k:UInt8) (b:List UInt8):List UInt8:=[197]++(ef k b++twoB (sumB 1 (ef k b)))
theorem inner_len (k:UInt8) (b:List UInt8):(ef k b).length = b.length + 3:=by simp [ef,twoB]
theorem equal_pure (a b:List UInt8) (st:St):aw Go.Proofs.Try.prog n_f58 [.sl false 1 (BB a),.sl false 1 (BB b)] st (.lit (.bool (decide (a = b)))):=by
  refine gq ?_ (.lit _) (by simp [ff]) st
  refine aW hmix k_f58 rfl rfl ?_
  unfold aFun c_f58
  simp (config:=KF) (disch:=omega) only [bZ,retI,gS,d2,↓reduceIte,Nat.reduceEqDiff,reduceCtorEq,kW,str_eql]
  exact .refl _

/-- The first frame of some bytes, how many bytes it has, and an error. -/
def nxt (b:List UInt8):(UInt8×List UInt8)×Nat×Nat :=
  if b.length = 0 then ((0,[]),0,0) else
  if ¬ b.getD 0 0 = 197 then ((0,[]),0,6) else
  if b.length < 4 then ((0,[]),0,0) else
  if 256 * (b.getD 2 0).toNat + (b.getD 3 0).toNat > 1024 then ((0,[]),0,5) else
  if b.length < 256 * (b.getD 2 0).toNat + (b.getD 3 0).toNat + 6 then ((0,[]),0,0) else
  if twoB (sumB 1 ((b.take (4 + (256 * (b.getD 2 0).toNat + (b.getD 3 0).toNat))).drop 1)) = (b.take (6 + (256 * (b.getD 2 0).toNat + (b.getD 3 0).toNat))).drop (4 + (256 * (b.getD 2 0).toNat + (b.getD 3 0).toNat)) then
    ((b.getD 1 0,(b.take (4 + (256 * (b.getD 2 0).toNat + (b.getD 3 0).toNat))).drop 4),256 * (b.getD 2 0).toNat + (b.getD 3 0).toNat + 6,0)
  else ((0,[]),0,10)

/-- A frame. -/
def frAV (f:UInt8×List UInt8):AV:=.agg [.lit (.int .u8 f.1.toNat),.sl false 1 (BB f.2)]
def dG (r:(UInt8×List UInt8)×Nat×Nat):AV:=.tup [frAV r.1,.lit (.int .i64 (r.2.1:Nat)),.lit (.int .i64 (r.2.2:Nat))]
theorem nh (f:UInt8×List UInt8):(frAV f).NB:=.agg _ (by simp [AV.NB.lit,ff])
theorem resAV_nb (r:(UInt8×List UInt8)×Nat×Nat):(dG r).NB:=.tup _ (by simp [AV.NB.lit,nh])
theorem eq_byte (x y:UInt8):((x.toNat:Int) = y.toNat) = (x = y):=by
  apply propext
  constructor
  · intro h; exact UInt8.toNat.inj (by omega)
  · rintro rfl; rfl

theorem fi {n e:Int} (n' e':Nat) (hn:n = n') (he:e = e'):(AV.tup [.agg [.lit (.int .u8 0),.lit (.slice none 0 0)],.lit (.int .i64 n),.lit (.int .i64 e)]).le (dG ((0,[]),n',e')):=by
  subst hn he
  exact .tupL ⟨.aggL ⟨.refl _,.nil _ _,trivial⟩,.refl _,.refl _,trivial⟩

theorem mh (b:List UInt8) (hl:b.length≤1000000) (st:St):aw Go.Proofs.Try.prog n_f45 [.sl false 1 (BB b)] st (dG (nxt b)):=by
  refine gq ?_ (resAV_nb _) (by simp [ff]) st
  refine aW hmix k_f45 rfl rfl ?_
  unfold aFun c_f45
  have hx:=(b.getD 2 0).toNat_lt
  have hy:=(b.getD 3 0).toNat_lt
  generalize hR:nxt b = R
  unfold nxt at hR
  simp (config:=KF) (disch:=omega) only [bZ,de,lenI,iE,cD,dL,↓reduceIte,Nat.reduceEqDiff,reduceCtorEq]
  refine aG (fun h=>?_) (fun h=>?_)
  · simp (config:=KF) (disch:=omega) only [bZ,retI,resI,resL,aD,af,al,ba,bk,↓reduceIte,Nat.reduceEqDiff,Nat.reduceAdd,Nat.reduceLeDiff,reduceCtorEq]
    rw [if_pos (by omega)] at hR
    subst hR
    exact fi _ _ rfl rfl
  · simp (config:=KF) (disch:=omega) only [bZ,bX,ixSV,af,ai,↓reduceIte,Nat.reduceEqDiff,Int.reduceLE,reduceCtorEq,dz]
    rw [if_neg (by omega)] at hR
    refine aG (fun h2=>?_) (fun h2=>?_)
    · simp (config:=KF) (disch:=omega) only [bZ,retI,resI,resL,aD,af,al,ba,bk,↓reduceIte,Nat.reduceEqDiff,Nat.reduceAdd,Nat.reduceLeDiff,reduceCtorEq]
      rw [if_pos (by intro e; rw [e] at h2; exact h2 rfl)] at hR
      subst hR
      exact fi _ _ rfl rfl
    · simp (config:=KF) (disch:=omega) only [bZ,lenI,cr,↓reduceIte,Nat.reduceEqDiff,reduceCtorEq]
      have e0:b.getD 0 0 = 197:=UInt8.toNat.inj (by have:=Classical.not_not.1 h2; simp only [UInt8.reduceToNat]; omega)
      rw [if_neg (by rw [e0]; exact fun h=>h rfl)] at hR
      refine aG (fun h3=>?_) (fun h3=>?_)
      · simp (config:=KF) (disch:=omega) only [bZ,retI,resI,resL,aD,af,al,ba,bk,↓reduceIte,Nat.reduceEqDiff,Nat.reduceAdd,Nat.reduceLeDiff,reduceCtorEq]
        rw [if_pos (by omega)] at hR
        subst hR
        exact fi _ _ rfl rfl
      · simp (config:=KF) (disch:=omega) only [bZ,kY,ec,iI,fX,m7,m8,gt,cM,fZ,ixSV,d2,af,cu,a8,ai,Int.reduceToNat,↓reduceIte,Nat.reduceEqDiff,Int.reduceLE,reduceCtorEq,dz,n_shl8,n_or8]
        rw [if_neg (by omega)] at hR
        generalize hn:256 * (b.getD 2 0).toNat + (b.getD 3 0).toNat = n at hR
        have hn2:n < 65536:=by omega
        refine aG (fun h4=>?_) (fun h4=>?_)
        · simp (config:=KF) (disch:=omega) only [bZ,cR,retI,resI,resL,aD,af,al,ba,bk,↓reduceIte,Nat.reduceEqDiff,Nat.reduceAdd,Nat.reduceLeDiff,reduceCtorEq]
          rw [if_pos (by omega)] at hR
          subst hR
          exact fi _ _ rfl rfl
        · simp (config:=KF) (disch:=omega) only [bZ,lenI,bQ,cr,↓reduceIte,Nat.reduceEqDiff,reduceCtorEq,cB]
          rw [if_neg (by omega)] at hR
          refine aG (fun h5=>?_) (fun h5=>?_)
          · simp (config:=KF) (disch:=omega) only [bZ,cR,retI,resI,resL,aD,af,al,ba,bk,↓reduceIte,Nat.reduceEqDiff,Nat.reduceAdd,Nat.reduceLeDiff,reduceCtorEq]
            rw [if_pos (by omega)] at hR
            subst hR
            exact fi _ _ rfl rfl
          · simp (config:=KF) (disch:=omega) only [bZ,ec,iI,fX,jX,jY,cM,c3,ixTo,bQ,a8,id,Option.map_some,↓reduceIte,Nat.reduceEqDiff,Int.reduceLE,reduceCtorEq,iG,ew,go]
            rw [if_neg (by omega)] at hR
            refine m9 rfl e_f48 (sum_pure _ (by simp; omega) _) rfl ?_
            have hs:=sumB_lt ((b.take (4 + n)).drop 1) (s:=1) (by omega)
            simp (config:=KF) (disch:=omega) only [bZ,ec,jY,fY,id,↓reduceIte,Nat.reduceEqDiff,reduceCtorEq]
            refine m9 rfl e_f47 (two_pure _ (by omega) _) rfl ?_
            simp (config:=KF) (disch:=omega) only [bZ,kY,ec,iI,fX,jX,fY,cM,fZ,bj,c3,ixTo,bQ,id,Option.map_some,↓reduceIte,Nat.reduceEqDiff,reduceCtorEq,iG,ew,go]
            refine df rfl e_f58 (equal_pure _ _ _) rfl ?_
            simp (config:=KF) (disch:=omega) only [bZ,o_un,unA,↓reduceIte,Nat.reduceEqDiff,reduceCtorEq,not_dec]
            refine aG (fun h6=>?_) (fun h6=>?_)
            · simp (config:=KF) (disch:=omega) only [bZ,cR,retI,resI,resL,aD,af,al,ba,bk,↓reduceIte,Nat.reduceEqDiff,Nat.reduceAdd,Nat.reduceLeDiff,reduceCtorEq]
              rw [if_neg h6] at hR
              subst hR
              exact fi _ _ rfl rfl
            · simp (config:=KF) (disch:=omega) only [bZ,List.contains_cons,Nat.reduceBEq,Bool.or_false,ec,iI,fX,m8,gt,jX,jY,cM,ixSV,c3,ixTo,af,bQ,a8,id,ai,Option.map_some,Int.reduceToNat,↓reduceIte,Nat.reduceEqDiff,Int.reduceLE,reduceCtorEq,or_false,iG,ew,dz,go]
              rw [if_pos (Classical.not_not.1 h6)] at hR
              refine m9 rfl e_f57 (lg (by rw [cd]; simp; omega) (gp _) _) rfl ?_
              simp (config:=KF) (disch:=omega) only [bZ,List.contains_cons,Nat.reduceBEq,Bool.or_false,ksB,aB,bg,bG,aU,bO,bp,nstB,bH,kY,ec,iI,fX,hh_bst,hh_store,jM,iJ,fY,cM,tail_eq,kZ,retI,resI,resL,bstV,af,al,aS,bQ,cP,ai,aR,ba,bk,List.nil_append,↓reduceIte,Nat.reduceEqDiff,Nat.reduceAdd,Nat.reduceLeDiff,reduceCtorEq,or_false,Bool.not_false,cB]
              subst hR
              exact .refl _
end Go.Fx.YtenijlfcfmhmkaaFx

