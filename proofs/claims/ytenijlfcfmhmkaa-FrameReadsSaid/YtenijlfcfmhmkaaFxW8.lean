/- What the functions that the statement reaches compute: part 8. -/
import Derived.Test.YtenijlfcfmhmkaaFxW7
namespace Go.Fx.YtenijlfcfmhmkaaFx
open Go Go.Fx
attribute [local irreducible] aC runI ap br

set_option maxRecDepth 100000
set_option maxHeartbeats 4000000

theorem enc_iff {b:List UInt8} {n:Nat} (h0:b.getD 0 0 = 197) (hn:256 * (b.getD 2 0).toNat + (b.getD 3 0).toNat = n) (hl:n + 6≤b.length) :
    encB (b.getD 1 0) ((b.take (4 + n)).drop 4) = b.take (n + 6)↔twoB (sumB 1 ((b.take (4 + n)).drop 1)) = (b.take (6 + n)).drop (4 + n):=by
  match b,hl with
  | x0 :: x1 :: x2 :: x3 :: r, hl =>
    simp only [List.getD_cons_zero,List.getD_cons_succ] at h0 hn
    simp only [List.length_cons] at hl
    subst h0
    have e1:List.take (4 + n) (197::x1::x2::x3::r) = 197::x1::x2::x3::r.take n:=by
      rw [show 4 + n = n + 1 + 1 + 1 + 1 by omega]; simp
    have e2:List.take (n + 6) (197::x1::x2::x3::r) = 197::x1::x2::x3::r.take (n + 2):=by
      rw [show n + 6 = (n + 2) + 1 + 1 + 1 + 1 by omega]; simp
    have e3:List.drop (4 + n) (List.take (6 + n) (197::x1::x2::x3::r)) = (r.take (n + 2)).drop n:=by
      rw [show 6 + n = (n + 2) + 1 + 1 + 1 + 1 by omega,show 4 + n = n + 1 + 1 + 1 + 1 by omega]; simp
    have e4:r.take (n + 2) = r.take n++(r.take (n + 2)).drop n:=by
      have h:=(List.take_append_drop n (r.take (n + 2))).symm
      rwa [List.take_take,show min n (n + 2) = n by omega] at h
    have e5:twoB n = [x2,x3]:=by rw [← hn]; exact twoB_of x2 x3
    have e6:(r.take n).length = n:=by simp; omega
    rw [e1,e2,e3]
    simp only [List.getD_cons_zero,List.getD_cons_succ,List.drop_succ_cons,List.drop_zero,encB,ef,e6,e5]
    generalize (r.take (n + 2)).drop n = t at e4 ⊢
    rw [e4]
    simp
  | [],hl=>simp at hl
  | [_],hl=>simp at hl
  | [_,_],hl=>simp at hl
  | [_,_,_],hl=>simp at hl

theorem first_calls (b:List UInt8) (hl:b.length≤1000000):az Go.Proofs.Try.prog n_f42 [.sl false 1 (BB b)] ⟨[]⟩ (fun v st=>Frz st v (dG (nxt b))):=by
  refine aW hmix k_f42 rfl rfl ?_
  unfold aFun c_f42
  have hx:=(b.getD 2 0).toNat_lt
  have hy:=(b.getD 3 0).toNat_lt
  have hfrz:∀ (st:St) (n e:Int) (n' e':Nat),n = n'→e = e'→Frz st (.tup [.agg [.lit (.int .u8 0),.lit (.slice none 0 0)],.lit (.int .i64 n),.lit (.int .i64 e)]) (dG ((0,[]),n',e')):=fun st n e n' e' h1 h2=>.le _ _ (fi _ _ h1 h2) (resAV_nb _)
  generalize hR:nxt b = R
  unfold nxt at hR
  simp (config:=KF) (disch:=omega) only [bZ,a9,AI.dst,de,lenI,cu,cD,dL,↓reduceIte,Nat.reduceEqDiff,reduceCtorEq]
  refine jL (fun h=>?_) (fun h=>?_)
  · simp (config:=KF) (disch:=omega) only [bZ,a9,AI.dst,kP,e9,bX,pick_tt,ixSV,af,ai,↓reduceIte,Nat.reduceEqDiff,Int.reduceLE,reduceCtorEq,dz]
    rw [if_neg (by omega)] at hR
    refine aG (fun h2=>?_) (fun h2=>?_)
    · simp (config:=KF) (disch:=omega) only [bZ,retI,resI,resL,fS,bstV,aD,af,al,aS,ba,bk,↓reduceIte,Nat.reduceEqDiff,Nat.reduceAdd,Nat.reduceLeDiff,reduceCtorEq]
      rw [if_pos (by intro e; rw [e] at h2; exact h2 rfl)] at hR
      subst hR
      exact hfrz _ _ _ _ _ rfl rfl
    · simp (config:=KF) (disch:=omega) only [bZ,lenI,cr,↓reduceIte,Nat.reduceEqDiff,reduceCtorEq]
      have e0:b.getD 0 0 = 197:=UInt8.toNat.inj (by have:=Classical.not_not.1 h2; simp only [UInt8.reduceToNat]; omega)
      rw [if_neg (by rw [e0]; exact fun h=>h rfl)] at hR
      refine aG (fun h3=>?_) (fun h3=>?_)
      · simp (config:=KF) (disch:=omega) only [bZ,retI,resI,resL,fS,bstV,aD,af,al,aS,ba,bk,↓reduceIte,Nat.reduceEqDiff,Nat.reduceAdd,Nat.reduceLeDiff,reduceCtorEq]
        rw [if_pos (by omega)] at hR
        subst hR
        exact hfrz _ _ _ _ _ rfl rfl
      · simp (config:=KF) (disch:=omega) only [bZ,kY,ec,iI,fX,m7,m8,gt,cM,fZ,ixSV,d2,af,bQ,n_mul,cu,a8,ai,Int.reduceToNat,↓reduceIte,Nat.reduceEqDiff,Int.reduceLE,reduceCtorEq,dz]
        rw [if_neg (by omega)] at hR
        have hn:256 * ((b.getD 2 0).toNat:Int) + ((b.getD 3 0).toNat:Int) = ((256 * (b.getD 2 0).toNat + (b.getD 3 0).toNat:Nat):Int):=by omega
        rw [hn]
        generalize hn:256 * (b.getD 2 0).toNat + (b.getD 3 0).toNat = n at hR
        have hn2:n < 65536:=by omega
        refine aG (fun h4=>?_) (fun h4=>?_)
        · simp (config:=KF) (disch:=omega) only [bZ,retI,resI,resL,fS,bstV,aD,af,al,aS,ba,bk,↓reduceIte,Nat.reduceEqDiff,Nat.reduceAdd,Nat.reduceLeDiff,reduceCtorEq]
          rw [if_pos (by omega)] at hR
          subst hR
          exact hfrz _ _ _ _ _ rfl rfl
        · simp (config:=KF) (disch:=omega) only [bZ,lenI,bQ,cr,↓reduceIte,Nat.reduceEqDiff,reduceCtorEq,cB]
          rw [if_neg (by omega)] at hR
          refine aG (fun h5=>?_) (fun h5=>?_)
          · simp (config:=KF) (disch:=omega) only [bZ,retI,resI,resL,fS,bstV,aD,af,al,aS,ba,bk,↓reduceIte,Nat.reduceEqDiff,Nat.reduceAdd,Nat.reduceLeDiff,reduceCtorEq]
            rw [if_pos (by omega)] at hR
            subst hR
            exact hfrz _ _ _ _ _ rfl rfl
          · simp (config:=KF) (disch:=omega) only [bZ,bX,fS,de,ixSV,bstV,aD,af,aS,cD,ai,d8,eN,kill_cptr,dL,dg,↓reduceIte,Nat.reduceEqDiff,Nat.reduceAdd,Nat.reduceLeDiff,Int.reduceLE,reduceCtorEq,dz]
            rw [if_neg (by omega)] at hR
            have hbl:((b.take (4 + n)).drop 4).length = n:=by simp; omega
            generalize hbd:(b.take (4 + n)).drop 4 = bd at hR hbl
            rw [f42_35w]
            refine fW (A:=Nat×AV×St) (fun a=>n - a.1) (fun a=>⟨[(0,.sl false 1 (BB b)),(2,.lptr 2 0),(5,.lit (.int .i64 (n:Nat))),(6,.lptr 6 0),(7,.lit (.int .i64 (a.1:Nat)))],[(2,[.lit (.int .u8 0),.lit (.slice none 0 0)]),(6,[.lit (.int .u8 (b.getD 1 0).toNat),a.2.1])]⟩) (fun a=>a.2.2)
              (fun a=>a.1≤n∧MB a.2.1 a.2.2 (BB (bd.take a.1))∧NBs a.2.2) (0,.lit (.slice none 0 0),⟨[]⟩) ⟨by simp,.inl ⟨rfl,rfl⟩,NBs.nil⟩ (Sf.le_refl _) rfl ?_
            rintro ⟨i,v,st⟩ ⟨i1,i2,i3⟩
            simp only at i1 i2 i3
            obtain ⟨v1,v2,v3,v4,v5,v6,v7,v8⟩:=i2.facts
            simp (config:=KF) (disch:=omega) only [bZ,cr,↓reduceIte,Nat.reduceEqDiff,reduceCtorEq]
            refine aG (fun h6=>?_) (fun h6=>?_)
            · simp (config:=KF) (disch:=omega) only [bZ,kY,ec,iI,fX,hh_addr,m8,gt,hh_bsl,cM,fZ,o_x,ixSV,bslV,ak,List.reduceReplicate,addA,af,srcA,dA,bQ,a8,eM,ai,↓reduceIte,Nat.reduceEqDiff,Nat.reduceLT,reduceCtorEq,dz,go,v1]
              have hi:i < n:=by omega
              refine i2.app (gp _) Lits.nil.cons (by apply dj; simp [cd]; omega) fun v' st' hv hk hnb=>?_
              obtain ⟨u1,u2,u3,u4,u5,u6,u7,u8⟩:=hv.facts
              simp (config:=KF) (disch:=omega) only [bZ,dN,cy,aD,addA,bQ,↓reduceIte,Nat.reduceEqDiff,Nat.reduceAdd,Nat.reduceLeDiff,reduceCtorEq,cB,u1,u4,u6]
              refine ⟨(i + 1,v',st'),⟨⟨by simp only; omega,?_,?_⟩,by simp only; omega⟩,Sf.le_refl _,rfl⟩
              · have:BB (List.take i bd)++[AV.lit (Value.int IntKind.u8 ↑(b.getD (4 + i) 0).toNat)] = BB (List.take (i + 1) bd):=by
                  have e:b.getD (4 + i) 0 = bd.getD i 0:=by
                    rw [← hbd]
                    simp [List.getD,List.getElem?_take,hi]
                  rw [e,BB_snoc,List.take_succ_eq_append_getElem (by omega)]
                  simp [List.getD,show i < bd.length by omega]
                rw [this] at hv
                exact hv
              · exact hnb i3
            · simp (config:=KF) (disch:=omega) only [bZ,ec,gt,jY,cM,fd,aV,ar,bT,af,al,a8,id,↓reduceIte,Nat.reduceEqDiff,Nat.reduceAdd,Nat.reduceLeDiff,reduceCtorEq,v2]
              have ei:i = bd.length:=by omega
              rw [ei,List.take_length] at i2
              have hfz:=i2.frz (gp _) i3
              refine m9 rfl e_f15 (aw.view (lh (b.getD 1 0) bd (by omega) _) (by simp [AV.freshB,iK,BB,bF]) ⟨.aggL ⟨.le _ _ (.refl _) (.lit _),by rw [v2]; exact hfz,trivial⟩ (by simp [AV.noOwn]),trivial⟩) (by simp (config:=KF) (disch:=omega) only [bZ,ba]) ?_
              simp (config:=KF) (disch:=omega) only [bZ,kY,ec,iI,fX,m7,jX,fY,cM,fZ,c3,ixTo,d2,bQ,Option.map_some,Option.map_none,↓reduceIte,Nat.reduceEqDiff,reduceCtorEq,iG,ew,kW,str_neq,cB]
              have e1:¬ encB (b.getD 1 0) bd = List.take (n + 6) b↔¬ twoB (sumB 1 (List.drop 1 (List.take (4 + n) b))) = List.drop (4 + n) (List.take (6 + n) b):=by
                rw [← hbd]
                exact not_congr (enc_iff e0 hn (by omega))
              refine aG (fun h7=>?_) (fun h7=>?_)
              · simp (config:=KF) (disch:=omega) only [bZ,retI,resI,resL,fS,bstV,aD,af,al,aS,ba,bk,↓reduceIte,Nat.reduceEqDiff,Nat.reduceAdd,Nat.reduceLeDiff]
                rw [if_neg (e1.1 h7)] at hR
                subst hR
                exact hfrz _ _ _ _ _ rfl rfl
              · simp (config:=KF) (disch:=omega) only [bZ,retI,resI,resL,aD,af,al,bQ,ba,bk,↓reduceIte,Nat.reduceEqDiff,Nat.reduceAdd,Nat.reduceLeDiff,cB,v2,v4]
                rw [if_pos (Classical.not_not.1 fun h=>h7 (e1.2 h))] at hR
                subst hR
                exact .tupL ⟨.aggL ⟨.le _ _ (.refl _) (.lit _),hfz,trivial⟩ (by simp [AV.noOwn]),.le _ _ (.refl _) (.lit _),.le _ _ (.refl _) (.lit _),trivial⟩
  · simp (config:=KF) (disch:=omega) only [bZ,retI,resI,resL,a9,iu,AI.dst,di,e9,fS,fc,bstV,aD,lenI,af,al,aS,cr,ba,bk,↓reduceIte,Nat.reduceEqDiff,Nat.reduceAdd,Nat.reduceLeDiff,reduceCtorEq,dh]
    have h0:b = []:=List.eq_nil_of_length_eq_zero (by omega)
    subst h0
    subst hR
    exact hfrz _ _ _ _ _ rfl rfl

theorem first_pure (b:List UInt8) (hl:b.length≤1000000) (st:St):aw Go.Proofs.Try.prog n_f42 [.sl false 1 (BB b)] st (dG (nxt b)) :=
  e8 (first_calls b hl) (by simp [ff]) st

end Go.Fx.YtenijlfcfmhmkaaFx

