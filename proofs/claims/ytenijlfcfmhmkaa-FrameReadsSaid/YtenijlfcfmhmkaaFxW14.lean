/- What the functions that the statement reaches compute: part 14. -/
import Derived.Test.YtenijlfcfmhmkaaFxW13
namespace Go.Fx.YtenijlfcfmhmkaaFx
open Go Go.Fx
attribute [local irreducible] aC runI ap br

set_option maxRecDepth 100000
set_option maxHeartbeats 8000000

theorem nx_bounds (L:List UInt8) (e:Nat) (he:e < 1000):(nx L e).2.2 < 1000∧(nx L e).2.1≤L.length:=by
  obtain ⟨n1,n2,n3,n4,n5,n6⟩:=ni L
  unfold nx
  split
  · exact ⟨he,Nat.zero_le _⟩
  · exact ⟨by omega,n1⟩

theorem first_any {w:AV} {L:List UInt8} (hw:Own1 w L) (hL:L.length≤100000) (st:St):aw Go.Proofs.Try.prog n_f42 [w.dis] st (dG (nxt L)) :=
  (first_pure L (by omega) st).weak ⟨nj hw,trivial⟩ (.refl _)
theorem same_zz (st:St):aw Go.Proofs.Try.prog n_f41 [zfr,frAV (0,[])] st (.lit (.bool true)):=by
  have:=mi (0,[]) (0,[]) st
  simp only [decide_true] at this
  exact this.weak ⟨AV.le.aggL (l:=[.lit (.int .u8 0),.lit (.slice none 0 0)]) (k:=[.lit (.int .u8 0),.sl false 1 []]) ⟨.refl _,.nil _ _,trivial⟩,.refl _,trivial⟩ (.refl _)

/-- The next frame. -/
theorem reads_next {l:List Ac} {i r:Nat} {d:List UInt8} {w:AV} {L:List UInt8} {e:Nat} {st:St} (hi:i < l.length) (ha:l[i] = (1,d)) (hw:Own1 w L) (hr:Rd st r L e) (hL:L.length≤60000) (he:e < 1000) {K:Exit→Sf→St→Prop}
    (hK:∀ w' st',Own1 w' (L.drop (nx L e).2.1)→Rd st' r (L.drop (nx L e).2.1) (nx L e).2.2→K .normal (rSf2 l r w' (nx L e).2.2 i) st') :
    aC Go.Proofs.Try.prog id false f12_33 (rSf l r w e i) st (seqQ (aC Go.Proofs.Try.prog id false f12_102) K):=by
  unfold rSf
  have e1:(l.map acAV).getD i .any = acAV (1,d):=by simp [List.getD,hi,ha]
  have hn:=next_any hr (by omega) he
  have hf:=first_any hw (by omega)
  have hend:∀ X w' st',(X = []∨X = [(80,AV.lit (.bool false))])→Own1 w' (L.drop (nx L e).2.1)→Rd st' r (L.drop (nx L e).2.1) (nx L e).2.2→aC Go.Proofs.Try.prog id false f12_102 ⟨(0,cN l)::(3,.ptr r 0)::(4,w')::(5,.lit (.int .i64 ((nx L e).2.2:Nat)))::(6,.lit (.int .i64 (i:Nat)))::X,[]⟩ st' K :=
    fun X w' st' hX h1 h2=>f7 hX h1 h2 (hK w' st' h1 h2)
  have hq0:(false == decide ((0:Int) > 0)) = true:=rfl
  obtain ⟨n1,n2,n3,n4,n5,n6⟩:=ni L
  have n7:=nx_err (L:=L)
  have hz:e = 0→nx L e = nxt L:=fun h=>by simp [nx,h]
  have hnz:e≠0→nx L e = ((0,[]),0,e):=fun h=>by simp [nx,h]
  clear hK
  by_cases h0:e = 0
  · subst h0
    rw [hz rfl] at hn hend
    clear hz hnz
    generalize nxt L = R at *
    obtain ⟨⟨fk,fb⟩,n,ee⟩:=R
    simp only at n1 n2 n3 n4 n5 n6 n7 hn hend
    by_cases herr:ee = 0
    · subst herr
      have hbq:(decide (0 < n) == decide ((n:Int) > 0)) = true:=by
        rcases Nat.eq_zero_or_pos n with h | h
        · subst h; rfl
        · have h2:(n:Int) > 0:=by omega
          simp [h,h2]
      have hbL:=cd L
      rcases hw with rfl | ⟨rfl,rfl⟩
      all_goals
        simp (config:=KF) (disch:=omega) only [bZ,bX,bj,ixSV,addA,af,iE,id,↓reduceIte,Nat.reduceEqDiff,Int.reduceEq,reduceCtorEq,f12_33e,cN,acAV,e1]
        refine eA rfl e_f40 hn rfl fun v s1 hv=>?_
        obtain ⟨hv,hr1,hb⟩:=hv
        obtain rfl:v = mj ((fk,fb),n,0):=by
          rcases hv with ⟨_,h⟩ | ⟨h,_⟩
          · exact h
          · exact absurd rfl h
        simp (config:=KF) (disch:=omega) only [bZ,gG,de,bj,extV,aD,cD,id,dy,cP,cK,cL,d8,cq,dL,dg,eO,↓reduceIte,Nat.reduceEqDiff,Nat.reduceAdd,Nat.reduceLeDiff,reduceCtorEq,mj,frAV]
        refine df rfl e_f42 (hf _) rfl ?_
        simp (config:=KF) (disch:=omega) only [bZ,gG,de,bj,extV,aD,af,al,cD,id,dy,cP,cK,cL,d8,cq,eN,dL,dg,eO,↓reduceIte,Nat.reduceEqDiff,Nat.reduceAdd,Nat.reduceLeDiff,reduceCtorEq,not_true_eq_false,dG,frAV]
        refine df rfl e_f41 (mi (fk,fb) (fk,fb) _) rfl ?_
      · simp (config:=KF) (disch:=omega) only [bZ,a9,AI.dst,di,e9,o_un,bD,fc,bL,b_neq,ixTo,unA,cu,↓reduceIte,Nat.reduceEqDiff,reduceCtorEq,not_true_eq_false,Bool.not_true,ew,hbq,hbL]
        exact hend _ _ _ (by first | exact .inl rfl | exact .inr rfl) (.inl rfl) hr1
      · have hn0:n = 0:=by simpa using n1
        subst hn0
        simp (config:=KF) (disch:=omega) only [bZ,a9,AI.dst,di,e9,o_un,bD,fc,c3,bL,b_neq,ixTo,unA,cu,↓reduceIte,Nat.reduceEqDiff,Nat.reduceLT,Int.reduceLE,reduceCtorEq,not_true_eq_false,Bool.not_true,hq0]
        exact hend _ _ _ (by first | exact .inl rfl | exact .inr rfl) (.inr ⟨rfl,rfl⟩) hr1
    · have n0:n = 0:=n6 herr
      subst n0
      have hfb:(fk,fb) = ((0,[]):UInt8×List UInt8):=(n7 herr).1
      obtain ⟨rfl,rfl⟩:fk = 0∧fb = []:=by simpa using hfb
      have hne:((ee:Int) = 0) = False:=by simp; omega
      have hbL:=cd L
      rcases hw with rfl | ⟨rfl,rfl⟩
      all_goals
        simp (config:=KF) (disch:=omega) only [bZ,bX,bj,ixSV,addA,af,iE,id,↓reduceIte,Nat.reduceEqDiff,Int.reduceEq,reduceCtorEq,f12_33e,cN,acAV,e1]
        refine eA rfl e_f40 hn rfl fun v s1 hv=>?_
        obtain ⟨hv,hr1,hb⟩:=hv
        obtain rfl:v = .tup [zfr,.lit (.bool false),.lit (.int .i64 (ee:Nat))]:=by
          rcases hv with ⟨h,_⟩ | ⟨_,h⟩
          · exact absurd h herr
          · exact h
        simp (config:=KF) (disch:=omega) only [bZ,gG,de,bj,extV,aD,cD,id,dy,cK,cL,d8,cq,dL,dg,eO,↓reduceIte,Nat.reduceEqDiff,Nat.reduceAdd,Nat.reduceLeDiff,reduceCtorEq,zfr]
        refine df rfl e_f42 (hf _) rfl ?_
        simp (config:=KF) (disch:=omega) only [bZ,gG,de,bj,extV,aD,af,al,cD,id,dy,cP,cK,cL,d8,cq,eN,dL,dg,eO,↓reduceIte,Nat.reduceEqDiff,Nat.reduceAdd,Nat.reduceLeDiff,reduceCtorEq,not_true_eq_false,m6,dG,frAV]
        refine df rfl e_f41 (same_zz _) rfl ?_
        simp (config:=KF) (disch:=omega) only [bZ,a9,AI.dst,di,e9,o_un,bD,fc,c3,bL,b_neq,ixTo,unA,cu,↓reduceIte,Nat.reduceEqDiff,Int.reduceLE,reduceCtorEq,not_true_eq_false,Bool.not_true,ew,hbL,hq0]
        first | exact hend _ _ _ (by first | exact .inl rfl | exact .inr rfl) (.inl rfl) hr1 | exact hend _ _ _ (by first | exact .inl rfl | exact .inr rfl) (.inr ⟨rfl,rfl⟩) hr1
  · rw [hnz h0] at hn hend
    clear hz hnz n7
    have hne:((e:Int) = 0) = False:=by simp; omega
    have hbL:=cd L
    rcases hw with rfl | ⟨rfl,rfl⟩
    all_goals
      simp (config:=KF) (disch:=omega) only [bZ,bX,bj,ixSV,addA,af,iE,id,↓reduceIte,Nat.reduceEqDiff,Int.reduceEq,reduceCtorEq,f12_33e,cN,acAV,e1]
      refine eA rfl e_f40 hn rfl fun v s1 hv=>?_
      obtain ⟨hv,hr1,hb⟩:=hv
      obtain rfl:v = .tup [zfr,.lit (.bool false),.lit (.int .i64 (e:Nat))]:=by
        rcases hv with ⟨h,_⟩ | ⟨_,h⟩
        · exact absurd h h0
        · exact h
      simp (config:=KF) (disch:=omega) only [bZ,gG,de,bj,extV,aD,cD,id,dy,cK,cL,d8,cq,dL,dg,eO,↓reduceIte,Nat.reduceEqDiff,Nat.reduceAdd,Nat.reduceLeDiff,reduceCtorEq,zfr]
      refine df rfl e_f42 (hf _) rfl ?_
      simp (config:=KF) (disch:=omega) only [bZ,gG,fS,de,bj,extV,bstV,aD,af,al,aS,cD,id,dy,cP,cK,cL,d8,cq,eN,dL,dg,eO,↓reduceIte,Nat.reduceEqDiff,Nat.reduceAdd,Nat.reduceLeDiff,reduceCtorEq,not_false_eq_true,dG,frAV,hne]
      refine df rfl e_f41 (same_zero _) rfl ?_
      simp (config:=KF) (disch:=omega) only [bZ,a9,AI.dst,di,e9,o_un,bD,fc,c3,bL,b_neq,ixTo,unA,cu,↓reduceIte,Nat.reduceEqDiff,Int.reduceLE,reduceCtorEq,not_true_eq_false,Bool.not_true,ew,hbL,hq0]
      first | exact hend _ _ _ (by first | exact .inl rfl | exact .inr rfl) (.inl rfl) hr1 | exact hend _ _ _ (by first | exact .inl rfl | exact .inr rfl) (.inr ⟨rfl,rfl⟩) hr1
end Go.Fx.YtenijlfcfmhmkaaFx

