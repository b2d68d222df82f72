/- What the functions that the statement reaches compute: part 16. -/
import Derived.Test.YtenijlfcfmhmkaaFxW15
namespace Go.Fx.YtenijlfcfmhmkaaFx
open Go Go.Fx
attribute [local irreducible] aC runI ap br

set_option maxRecDepth 100000
set_option maxHeartbeats 8000000

/-- The loop's frame. -/
def rSf0 (l:List Ac) (r:Nat) (w:AV) (e i:Nat):Sf:=⟨[(0,cN l),(3,.ptr r 0),(4,w),(5,.lit (.int .i64 (e:Nat))),(6,.lit (.int .i64 (i:Nat)))],[]⟩

theorem reads_loop (l:List Ac) (hl:l.length≤24) (hm:∀ a ∈ l,a.2.length≤maxLen) (st0:St) (h0:Rd st0 0 [] 0) (Q:Exit→Sf→St→Prop)
    (hQ:∀ st',Q (.exit 0) ⟨[],[]⟩ st') (hR:∀ st',Q .ret ⟨[(2,.lit (.bool true))],[]⟩ st') :
    aC Go.Proofs.Try.prog id false f12_19 (rSf0 l 0 (.lit (.slice none 0 0)) 0 0) st0 Q:=by
  rw [f12_19w]
  refine loop_op (A:=Nat×Nat×AV×List UInt8×Nat×St) (fun a=>l.length - a.1) (fun a=>rSf0 l a.2.1 a.2.2.1 a.2.2.2.2.1 a.1) (fun a=>a.2.2.2.2.2)
    (fun a=>a.1≤l.length∧Own1 a.2.2.1 a.2.2.2.1∧Rd a.2.2.2.2.2 a.2.1 a.2.2.2.1 a.2.2.2.2.1∧a.2.2.2.1.length≤200 * a.1∧a.2.2.2.2.1 < 1000) (0,0,.lit (.slice none 0 0),[],0,st0) ⟨by simp,.inr ⟨rfl,rfl⟩,h0,by simp,by simp⟩ (Sf.le_refl _) rfl ?_
  rintro ⟨i,r,w,L,e,st⟩ ⟨h1,h2,h3,h4,h5⟩ K hK hKe hKr
  simp only at h1 h2 h3 h4 h5
  try dsimp only
  by_cases hi:i < l.length
  · have hdm:=hm l[i] (List.getElem_mem hi)
    simp only [maxLen] at hdm
    obtain ⟨k,d,ha⟩:∃ k d,l[i] = (k,d):=⟨_,_,rfl⟩
    rw [ha] at hdm
    simp only at hdm
    have hbd:=cd d
    have e1:(l.map acAV).getD i .any = acAV (k,d):=by simp [List.getD,hi,ha]
    have hnx:=fun (r':Nat) (w':AV) (L':List UInt8) (e':Nat) (st':St) (sf:Sf) a1 a2 a3 a4=>hK (i + 1,r',w',L',e',st') sf ⟨by simp only; omega,a1,a2,a3,a4⟩ (by simp only; omega)
    by_cases hd:d.length≤200
    · simp (config:=KF) (disch:=omega) only [bZ,bX,ixSV,lenI,addA,af,cr,cu,↓reduceIte,Nat.reduceEqDiff,reduceCtorEq,dh,bU,rSf0,cN,acAV,e1,hbd]
      by_cases hk0:k = 0
      · subst hk0
        have q:(if e≠0 then L else L++d).length≤200 * (i + 1):=by split <;> first | omega | (simp; omega)
        refine reads_feed hi ha hd h2 h3 (by omega) h5 fun w' st' a1 a2=>?_
        simp (config:=KF) (disch:=omega) only [bZ,bQ,↓reduceIte,Nat.reduceEqDiff,reduceCtorEq,cB,rSf2]
        exact hnx _ _ _ _ _ _ a1 a2 q h5 (Sf.le_refl _)
      · by_cases hk1:k = 1
        · subst hk1
          obtain ⟨b1,b2⟩:=nx_bounds L e h5
          refine reads_next hi ha h2 h3 (by omega) h5 fun w' st' a1 a2=>?_
          simp (config:=KF) (disch:=omega) only [bZ,bQ,↓reduceIte,Nat.reduceEqDiff,reduceCtorEq,cB,rSf2]
          exact hnx _ _ _ _ _ _ a1 a2 (by simp; omega) b1 (Sf.le_refl _)
        · refine reads_copy hi ha hk0 hk1 h2 h3 (by omega) h5 fun r' st' a2=>?_
          simp (config:=KF) (disch:=omega) only [bZ,bQ,↓reduceIte,Nat.reduceEqDiff,reduceCtorEq,cB,rSf2]
          exact hnx _ _ _ _ _ _ h2 a2 (show L.length≤200 * (i + 1) by omega) h5 (Sf.le_refl _)
    · simp (config:=KF) (disch:=omega) only [bZ,bX,bj,ixSV,lenI,addA,af,cr,cu,id,↓reduceIte,Nat.reduceEqDiff,reduceCtorEq,dh,rSf0,cN,acAV,e1,hbd]
      refine df rfl e_f14 (gV _) rfl ?_
      simp (config:=KF) (disch:=omega) only [bZ,cR,↓reduceIte,Nat.reduceEqDiff,reduceCtorEq]
      exact hKr _ _ (hR _)
  · simp (config:=KF) (disch:=omega) only [bZ,aV,bT,lenI,cr,↓reduceIte,Nat.reduceEqDiff,reduceCtorEq,bU,rSf0,cN]
    exact hKe _ _ _ (hQ _)

theorem lc (l:List Ac) (hl:l.length≤maxLen) (hm:∀ a ∈ l,a.2.length≤maxLen) :
    az Go.Proofs.Try.prog n_f12 [cN l] ⟨[]⟩ (fun v _=>v = .lit (.bool true)):=by
  refine gv hmix k_f12 rfl rfl fun Q hQ=>?_
  unfold aFun c_f12
  simp only [maxLen] at hl
  by_cases h24:l.length≤24
  · simp (config:=KF) (disch:=omega) only [bZ,fS,mS,bstV,lenI,aS,cu,↓reduceIte,Nat.reduceEqDiff,Nat.reduceAdd,reduceCtorEq,bU,cN]
    refine reads_loop l h24 hm _ ⟨_,.inr ⟨rfl,rfl⟩,rfl⟩ _ (fun st'=>?_) fun st'=>?_
    · simp (config:=KF) (disch:=omega) only [bZ,ar,bj,id,↓reduceIte]
      refine df rfl e_f14 (gV _) rfl ?_
      simp (config:=KF) (disch:=omega) only [bZ,retI,↓reduceIte,Nat.reduceEqDiff]
      exact hQ _ _ rfl
    · simp (config:=KF) (disch:=omega) only [bZ,cR,retI,↓reduceIte]
      exact hQ _ _ rfl
  · simp (config:=KF) (disch:=omega) only [bZ,bj,lenI,cu,id,↓reduceIte,Nat.reduceEqDiff,reduceCtorEq,dh,cN]
    refine df rfl e_f14 (gV _) rfl ?_
    simp (config:=KF) (disch:=omega) only [bZ,retI,↓reduceIte,Nat.reduceEqDiff,reduceCtorEq]
    exact hQ _ _ rfl

theorem acs_lit {l:List (Int×List Int×Unit)} (h:∀ x ∈ l,∀ i ∈ x.2.1,0≤i∧i≤255) :
    (AV.sl false 2 (l.map fun x=>.agg [.lit (.int .i64 x.1),.sl false 1 (x.2.1.map fun i=>.lit (.int .u8 i))])) = cN (l.map fun x=>(x.1,x.2.1.map fun i=>UInt8.ofNat i.toNat)):=by
  simp only [cN,List.map_map]
  congr 1
  refine List.map_congr_left fun x hx=>?_
  simp only [Function.comp,acAV]
  rw [ints_BB (h x hx)]

theorem lf {l:List (Int×List Int×Unit)} (hl:l.length≤maxLen∧∀ x ∈ l,(-9223372036854775808≤x.1∧x.1≤9223372036854775807)∧(x.2.1.length≤maxLen∧∀ i ∈ x.2.1,0≤i∧i≤255)∧True) :
    az Go.Proofs.Try.prog n_f12 [.sl false 2 (l.map fun x=>.agg [.lit (.int .i64 x.1),.sl false 1 (x.2.1.map fun i=>.lit (.int .u8 i))])] ⟨[]⟩ (fun v _=>v = .lit (.bool true)):=by
  rw [acs_lit fun x hx=>(hl.2 x hx).2.1.2]
  refine lc _ (by simpa using hl.1) (fun f hf=>?_)
  simp only [List.mem_map] at hf
  obtain ⟨x,hx,rfl⟩:=hf
  simpa using (hl.2 x hx).2.1.1
end Go.Fx.YtenijlfcfmhmkaaFx

