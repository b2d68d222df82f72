/- What the functions that the statement reaches compute: part 34. -/
import Derived.Test.YtbomoaajkinfpaaFxW33
namespace Go.Fx.YtbomoaajkinfpaaFx
open Go Go.Fx
attribute [local irreducible] aC runI aw aB

set_option maxRecDepth 100000
set_option maxHeartbeats 4000000

/-! A clone that is frozen. -/
theorem ints_dis (l:List Int):(ints l).map AV.dis = ints l:=by simp [ints,AV.dis]
def oIV (r:AV) (l:List Int):Prop:=r = .sl true 1 (ints l)∨r = .lit (.slice none 0 0)∧l = []
theorem clonef_pure {bv:AV} {st:St} {l:List Int} (h:MB bv st (ints l)) (hl:l.length≤100000):∃ r,oIV r l∧aL Go.Proofs.Try.prog n_f52 [bv] st r:=by
  have ll:=al l
  rcases h with ⟨rfl,e⟩ | ⟨bi,cap,r,rfl,hg,h1,h2⟩
  · have hl0:l = []:=by cases l with | nil=>rfl | cons a l=>simp [ints] at e
    refine ⟨_,.inr ⟨rfl,hl0⟩,aD hmix k_f1052 rfl rfl fun Q hQ=>?_⟩
    unfold aFun c_f1052
    simp (config:=KF) (disch:=omega) only [bZ,retI,bB,iB,o_x,bb,l0,cT,cb,bz,↓reduceIte,Nat.reduceEqDiff,reduceCtorEq]
    exact hQ _
  · simp only [List.length_append,ll] at h1 h2 ⊢
    have hd:=ints_dis l
    have hb:cQ st bi 1 0 l.length = .req true (.ok (ints l)):=by
      unfold cQ
      rw [hg]
      simp only [Res.ofOpt,Res.bind,List.drop_zero]
      congr 1
      · exact decide_eq_true (by simp only [List.length_append,ll]; omega)
      · have key:∀ (l:List Int) (r:List AV),grp 1 l.length (ints l++r) = ints l:=fun l=>by
          induction l with
          | nil=>intro r; rfl
          | cons a l ih=>intro r; have:=ih r; simp only [ints,List.map_cons,List.length_cons,List.cons_append,grp] at this ⊢; simp [this]
        rw [key]
    refine ⟨_,.inl rfl,aD hmix k_f1052 rfl rfl fun Q hQ=>?_⟩
    unfold aFun c_f1052
    simp (config:=KF) (disch:=omega) only [bZ,retI,bB,iB,cY,iC,o_x,bslV,i0,bb,oG,cT,cb,bz,List.replicate_zero,dC,srcA,bL,lS,bY,gv,List.nil_append,↓reduceIte,Nat.reduceEqDiff,reduceCtorEq,cy,hb,hd,ll]
    exact hQ _

section
variable {st:St} {s mid n:Nat} {cv ov:AV} {L:List CL} {R:RS}
theorem nL (h:SelR st s mid cv ov L R n):∃ r,oIV r (R.ws.map (·.1))∧aL Go.Proofs.Try.prog n_f26 [.ptr s 0] st r:=by
  have hg:=h.is.get
  obtain ⟨u1,u2,u3,u4,u5,u6,u7,u8⟩:=h.is.ord.facts
  have hfew:=h.few
  obtain ⟨r,hr,hp⟩:=clonef_pure h.is.ord (by rw [List.length_map]; omega)
  refine ⟨r,hr,aD hmix k_f26 rfl rfl fun Q hQ=>?_⟩
  unfold aFun c_f26
  simp (config:=KF) (disch:=omega) only [bZ,id,↓reduceIte,reduceCtorEq]
  refine ao rfl e_f51 (dv h.is) rfl ?_
  simp (config:=KF) (disch:=omega) only [bZ,ai,addA,aa,id,↓reduceIte,Nat.reduceEqDiff,reduceCtorEq,hg,u1]
  refine ao (vs:=[ov]) (by simp [u1]) e_f52 hp (by simp [u5]) ?_
  rcases hr with rfl | ⟨rfl,e⟩
  all_goals
    simp (config:=KF) (disch:=omega) only [bZ,retI,gv,↓reduceIte,Nat.reduceEqDiff,reduceCtorEq]
    exact hQ _
end

/-! Valid lists, in the reference's way. -/
theorem vR_iff (n:Nat):∀ (l:List Cs) (seen:List Int),vR n seen l = true↔∀ j (h:j < l.length),0≤l[j].1∧l[j].1 < (n:Int)∧l[j].1 ∉ seen∧∀ k (_:k < j),l[k].1≠l[j].1
  | [],_=>by simp [vR]
  | x :: l, seen => by
    rw [oR]
    have ih:=vR_iff n l (x.1::seen)
    by_cases hx:x.1 < 0∨(n:Int)≤x.1∨x.1 ∈ seen
    · rw [if_pos hx]
      refine ⟨(fun h=>by cases h),fun h=>?_⟩
      obtain ⟨a,b,c,_⟩:=h 0 (by simp)
      simp only [List.getElem_cons_zero] at a b c
      rcases hx with q | q | q
      · omega
      · omega
      · exact absurd q c
    · rw [if_neg hx,ih]
      constructor
      · intro h j hj
        cases j with
        | zero=>simp only [List.getElem_cons_zero]; exact ⟨by omega,by omega,fun e=>hx (.inr (.inr e)),fun k hk=>by omega⟩
        | succ j =>
          obtain ⟨a,b,c,d⟩:=h j (by simpa using hj)
          simp only [List.getElem_cons_succ]
          refine ⟨a,b,fun e=>c (List.mem_cons_of_mem _ e),fun k hk=>?_⟩
          cases k with
          | zero=>simp only [List.getElem_cons_zero]; exact fun e=>c (by rw [← e]; exact List.mem_cons_self)
          | succ k=>simp only [List.getElem_cons_succ]; exact d k (by omega)
      · intro h j hj
        obtain ⟨a,b,c,d⟩:=h (j + 1) (by simpa using hj)
        simp only [List.getElem_cons_succ] at a b c d
        refine ⟨a,b,fun e=>?_,fun k hk=>?_⟩
        · rcases List.mem_cons.1 e with e | e
          · exact d 0 (by omega) (by simpa using e.symm)
          · exact c e
        · have:=d (k + 1) (by omega)
          simpa using this
theorem validB_no {n:Nat} {l:List Cs} {j:Nat} (h:j < l.length) (hb:¬ (0≤l[j].1∧l[j].1 < (n:Int)∧∀ k (_:k < j),l[k].1≠l[j].1)):a9 n l = false:=by
  unfold a9
  rw [Bool.and_eq_false_iff]
  refine .inl ?_
  cases hv:vR n [] l with
  | false=>rfl
  | true =>
    obtain ⟨a,b,_,d⟩:=(vR_iff n l []).1 hv j h
    exact absurd ⟨a,b,d⟩ hb

theorem rvalid_pure {cv:AV} {st:St} {ch:List Ch3} {F:List Nat} (h:RefC cv st ch F) (hch:ch.length≤16) (ws:List Wt) {l:List Cs} (hl:l.length≤9223372036854775807):aL Go.Proofs.Try.prog n_f28 [rfA cv ws,.sl false 3 (l.map csAV)] st (.lit (.bool (a9 ch.length l))):=by
  obtain ⟨c1,c2,c3,c4,c5,c6,c7⟩:=h.isCh
  have c8:=h.len
  obtain ⟨w1,w2,w3,w4,w5,w6,w7,w8⟩:=jW ws
  refine aD hmix k_f28 rfl rfl fun Q hQ=>?_
  unfold aFun c_f28
  simp (config:=KF) (disch:=omega) only [bZ,lQ,bN,↓reduceIte,Nat.reduceEqDiff,Nat.reduceAdd,reduceCtorEq,rfA,c2,c4,w2,w4]
  rw [f28_7w]
  refine bj (A:=Nat) (fun a=>l.length - a) (fun a=>⟨[(1,.sl false 3 (l.map csAV)),(2,.lptr 2 0),(5,.lit (.int .i64 (a:Nat)))],[(2,[cv,wtS ws])]⟩) (fun _=>st)
    (fun a=>a≤l.length∧∀ j (h:j < l.length),j < a→0≤l[j].1∧l[j].1 < (ch.length:Int)∧∀ k (_:k < j),l[k].1≠l[j].1) 0 ⟨Nat.zero_le _,fun _ _ h=>by omega⟩ (Sf.le_refl _) rfl ?_
  rintro i ⟨h1,h2⟩ K hK hKe hKr
  try dsimp only
  by_cases hi:i < l.length
  · have hgd:(l.map csAV).getD i .any = csAV l[i]:=by simp [hi]
    have hno:(¬ (0≤l[i].1∧l[i].1 < (ch.length:Int)∧∀ k (_:k < i),l[k].1≠l[i].1))→K .ret ⟨[(4,.lit (.bool false))],[]⟩ st:=fun hb=>by
      refine hKr _ _ ?_
      simp (config:=KF) (disch:=omega) only [bZ,retI,↓reduceIte]
      rw [validB_no hi hb] at hQ
      exact hQ _
    simp (config:=KF) (disch:=omega) only [bZ,gw,oH,dk,len_sl,AI.dst,ixSV,addA,aa,↓reduceIte,Nat.reduceEqDiff,aM,hgd,csAV]
    refine jf (fun h3=>?_) (fun h3=>?_)
    · simp (config:=KF) (disch:=omega) only [bZ,gw,nB,nC,AI.dst,↓reduceIte,Nat.reduceEqDiff,reduceCtorEq]
      exact hno fun q=>by omega
    simp (config:=KF) (disch:=omega) only [bZ,gw,dk,oJ,gR,AI.dst,ixSV,addA,aa,e8,↓reduceIte,Nat.reduceEqDiff,c1,hgd,csAV,c8]
    refine aP (fun h4=>?_) (fun h4=>?_)
    · simp (config:=KF) (disch:=omega) only [bZ,↓reduceIte,Nat.reduceEqDiff]
      exact hno fun q=>by omega
    simp (config:=KF) (disch:=omega) only [bZ,↓reduceIte,Nat.reduceEqDiff]
    rw [f28_23w]
    refine bj (A:=Nat) (fun k=>i - k) (fun k=>⟨[(1,.sl false 3 (l.map csAV)),(2,.lptr 2 0),(5,.lit (.int .i64 (i:Nat))),(6,.lit (.int .i64 (k:Nat)))],[(2,[cv,wtS ws])]⟩) (fun _=>st)
      (fun k=>k≤i∧∀ j (_:j < k) (_:j < l.length),l[j].1≠l[i].1) 0 ⟨Nat.zero_le _,fun _ h=>by omega⟩ (Sf.le_refl _) rfl ?_
    rintro k ⟨k1,k2⟩ K2 hK2 hKe2 hKr2
    try dsimp only
    by_cases hk:k < i
    · have hkl:k < l.length:=by omega
      have hgk:(l.map csAV).getD k .any = csAV l[k]:=by simp [hkl]
      simp (config:=KF) (disch:=omega) only [bZ,dk,ixSV,addA,aa,↓reduceIte,Nat.reduceEqDiff,aM,hgd,hgk,csAV]
      refine aP (fun h5=>?_) (fun h5=>?_)
      · simp (config:=KF) (disch:=omega) only [bZ,↓reduceIte,Nat.reduceEqDiff]
        refine hKr2 _ _ ?_
        simp (config:=KF) (disch:=omega) only [bZ]
        exact hno fun q=>q.2.2 k hk h5
      · simp (config:=KF) (disch:=omega) only [bZ,↓reduceIte,Nat.reduceEqDiff]
        refine hK2 (k + 1) _ ⟨by omega,fun j hj hjl=>?_⟩ (by omega) (Sf.le_refl _)
        by_cases e:j = k
        · subst e; exact h5
        · exact k2 j (by omega) hjl
    · simp (config:=KF) (disch:=omega) only [bZ,aH,bf,↓reduceIte,Nat.reduceEqDiff,aY]
      refine hKe2 _ _ _ ?_
      simp (config:=KF) (disch:=omega) only [bZ,↓reduceIte,Nat.reduceEqDiff]
      refine hK (i + 1) _ ⟨by omega,fun j hj hja=>?_⟩ (by omega) (Sf.le_refl _)
      by_cases e:j = i
      · subst e; exact ⟨by omega,by omega,fun q hq=>k2 q (by omega) (by omega)⟩
      · exact h2 j hj (by omega)
  · simp (config:=KF) (disch:=omega) only [bZ,aH,bf,lenI,↓reduceIte,Nat.reduceEqDiff,aY]
    refine hKe _ _ _ ?_
    have hv:vR ch.length [] l = true:=(vR_iff _ _ _).2 fun j hj=>by
      obtain ⟨a,b,c⟩:=h2 j hj (by omega)
      exact ⟨a,b,by simp,c⟩
    by_cases hl0:l = []
    · have:a9 ch.length l = false:=by subst hl0; rfl
      rw [this] at hQ
      subst hl0
      simp (config:=KF) (disch:=omega) only [bZ,retI,AI.dst,lenI,e8,↓reduceIte,Nat.reduceEqDiff,cp]
      exact hQ _
    · have hlp:=List.length_pos_iff.2 hl0
      have hb:a9 ch.length l = true:=by unfold a9; rw [hv,decide_eq_true hl0]; rfl
      have hf:=(cq hb).1
      rw [hb] at hQ
      simp (config:=KF) (disch:=omega) only [bZ,retI,AI.dst,lenI,n_leq,e8,↓reduceIte,Nat.reduceEqDiff,de]
      rw [decide_eq_true (show (l.length:Int)≤16 by omega)]
      exact hQ _
end Go.Fx.YtbomoaajkinfpaaFx

