/- What the functions that the statement reaches compute: part 13. -/
import Derived.Test.YtenijlfcfmhmkaaFxW12
namespace Go.Fx.YtenijlfcfmhmkaaFx
open Go Go.Fx
attribute [local irreducible] aC runI ap br

set_option maxRecDepth 100000
set_option maxHeartbeats 8000000

def rSf (l:List Ac) (r:Nat) (w:AV) (e i:Nat):Sf:=⟨[(0,cN l),(3,.ptr r 0),(4,w),(5,.lit (.int .i64 (e:Nat))),(6,.lit (.int .i64 (i:Nat))),(35,.lit (.bool false))],[]⟩

theorem mb_but {v:AV} {st st':St} {l:List AV} {r:Nat} (h:MB v st l) (hb:But st st' r) (hne:∀ x ∈ aO v,x≠r):MB v st' l:=by
  rcases h with h | ⟨q,c,e,rfl,hg,h1,h2⟩
  · exact .inl h
  · exact .inr ⟨q,c,e,rfl,by rw [hb.2 q (hne q (by simp [aO]))]; exact hg,h1,h2⟩

theorem Rd.keep {st st':St} {r:Nat} {L:List UInt8} {e:Nat} (h:Rd st r L e) (hk:∀ cs,st.get r = some cs→st'.get r = some cs):Rd st' r L e:=by
  obtain ⟨rb,q1,q2⟩:=h
  exact ⟨rb,q1,hk _ q2⟩

/-- The bytes are fed. -/
theorem reads_feed {l:List Ac} {i r:Nat} {d:List UInt8} {w:AV} {L:List UInt8} {e:Nat} {st:St} (hi:i < l.length) (ha:l[i] = (0,d)) (hd:d.length≤200) (hw:Own1 w L) (hr:Rd st r L e) (hL:L.length≤60000) (he:e < 1000) {K:Exit→Sf→St→Prop}
    (hK:∀ w' st',Own1 w' (if e≠0 then L else L++d)→Rd st' r (if e≠0 then L else L++d) e→K .normal (rSf2 l r w' e i) st') :
    aC Go.Proofs.Try.prog id false f12_33 (rSf l r w e i) st (seqQ (aC Go.Proofs.Try.prog id false f12_102) K):=by
  unfold rSf
  have e1:(l.map acAV).getD i .any = acAV (0,d):=by simp [List.getD,hi,ha]
  have hlt:=hr.lt
  have hbl:=cd d
  have hbL:=cd L
  have hend:∀ X w' st',(X = []∨X = [(80,AV.lit (.bool false))])→Own1 w' (if e≠0 then L else L++d)→Rd st' r (if e≠0 then L else L++d) e→aC Go.Proofs.Try.prog id false f12_102 ⟨(0,cN l)::(3,.ptr r 0)::(4,w')::(5,.lit (.int .i64 (e:Nat)))::(6,.lit (.int .i64 (i:Nat)))::X,[]⟩ st' K :=
    fun X w' st' hX h1 h2=>f7 hX h1 h2 (hK w' st' h1 h2)
  clear hK
  rcases hw with rfl | ⟨rfl,h00⟩
  all_goals
    simp (config:=KF) (disch:=omega) only [bZ,bX,o_x,ixSV,ak,addA,af,srcA,iE,↓reduceIte,Nat.reduceEqDiff,reduceCtorEq,f12_33e,cN,acAV,e1]
    refine MB.grow (.inl ⟨rfl,rfl⟩) Lits.nil (gp d) (dj (by rw [hbl]; simp only [List.length_nil]; omega)) fun v s1 g1 g2 g3=>?_
    rw [List.nil_append] at g1
    obtain ⟨v1,v2,v3,v4,v5,v6,v7,v8⟩:=g1.facts
    have hr1:=hr.of (st':=s1) (by have:=g2.2 r hlt (by simp [aO]); simp [St.get,this])
    have hvr:∀ x ∈ aO v,x≠r:=fun x hx q=>by
      rcases g3 x hx with h | h
      · simp [aO] at h
      · omega
    have hf:=feed_rd hr1 (Src.mb g1 (fun q k o n c e2=>hvr q (by rw [e2]; simp [aO]))) (by first | omega | (simp only [List.length_nil]; omega)) he
    simp (config:=KF) (disch:=omega) only [bZ,cy,bj,id,↓reduceIte,Nat.reduceEqDiff,reduceCtorEq,v1]
    refine eA (vs:=[.ptr r 0,v]) (by simp [v1,mX]) e_f38 hf (by simp [v5,jU]) fun x s2 hx=>?_
    obtain ⟨rfl,hr2,hb2⟩:=hx
    simp (config:=KF) (disch:=omega) only [bZ,↓reduceIte,Nat.reduceEqDiff,reduceCtorEq]
    refine reads_flip _ _ _ _ _ r v d (by omega) s2 (mb_but g1 hb2 hvr) _ fun s3 h3=>?_
    have hr3:=hr2.keep (st':=s3) fun cs q2=>h3.2 r cs q2 (fun k o n c e2=>hvr r (by rw [e2]; simp [aO]) rfl)
    clear hf hr1 hr2
    by_cases h0:e = 0
    · subst h0
      simp only [ne_eq,not_true_eq_false,if_false] at hr3 hend
      simp (config:=KF) (disch:=omega) only [bZ,ar,bX,d5,ixSV,eK,addA,af,ce,bB,srcA,↓reduceIte,Nat.reduceEqDiff,reduceCtorEq,not_true_eq_false,m5,jm,dj,if_neg,acAV,e1,hbl,hbL]
      first
        | exact hend _ _ _ (.inl rfl) (.inl rfl) hr3
        | (subst h00
           rcases d with _ | ⟨x,d⟩
           · simp (config:=KF) (disch:=omega) only [bZ,List.isEmpty_nil,↓reduceIte,Nat.reduceEqDiff,reduceCtorEq,m6]
             exact hend _ _ _ (.inl rfl) (.inr ⟨rfl,rfl⟩) hr3
           · rw [if_neg (by simp [BB])]
             simp (config:=KF) (disch:=omega) only [bZ,↓reduceIte,Nat.reduceEqDiff,reduceCtorEq,jW]
             exact hend _ _ _ (.inl rfl) (.inl rfl) hr3)
    · have hne:((e:Int) = 0) = False:=by simp; omega
      simp only [ne_eq,h0,not_false_eq_true,if_true] at hr3 hend
      simp (config:=KF) (disch:=omega) only [bZ,ar,↓reduceIte,Nat.reduceEqDiff,reduceCtorEq,not_false_eq_true,not_true_eq_false,if_pos,hne]
      first | exact hend _ _ _ (by first | exact .inl rfl | exact .inr rfl) (.inl rfl) hr3 | exact hend _ _ _ (by first | exact .inl rfl | exact .inr rfl) (.inr ⟨rfl,h00⟩) hr3
end Go.Fx.YtenijlfcfmhmkaaFx

