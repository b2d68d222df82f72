/- What the functions that the statement reaches compute: part 3. -/
import Derived.Test.YtgmeefljgbaanaaFxW2
namespace Go.Fx.YtgmeefljgbaanaaFx
open Go Go.Fx
attribute [local irreducible] aC runI aF a9

set_option maxRecDepth 100000
set_option maxHeartbeats 4000000

theorem qu {mid:Nat} {m:List (Int×Nd)} {st:St} (h:MapIs st mid .u64 ndAV m):ao Go.Proofs.Try.prog n_f66 [.map mid] st (fun r st'=>r = .map st.boxes.length∧st' = st.push (.mp (encM .u64 ndAV m) (st.getB mid).1 (st.getB mid).2)):=by
  refine aA hmix k_f66 rfl rfl fun Q hQ=>?_
  unfold aFun c_f66
  have hg:=h.get
  simp (config:=KF) (disch:=omega) only [bZ,retI,cg,o_mkif,o_tas,o_x,tasV,mkifV,aH,br,aJ,gx,noL_map,↓reduceIte,Nat.reduceEqDiff,reduceCtorEq,jT,hg]
  exact hQ _ _ ⟨rfl,rfl⟩

/-- A copy of a queue: new boxes only. -/
theorem qcopy_calls {q mid g:Nat} {L:Qu} {st:St} (h:QIs st q mid L g):ao Go.Proofs.Try.prog n_f45 [.ptr q 0] st
    (fun r st'=>r = .ptr (st.boxes.length + 1) 0∧QIs st' (st.boxes.length + 1) st.boxes.length L g∧st'.boxes.length = st.boxes.length + 2∧∀ id,id < st.boxes.length→st'.boxes[id]? = st.boxes[id]?):=by
  refine aA hmix k_f45 rfl rfl fun Q hQ=>?_
  unfold aFun c_f45
  have hg:=h.get
  obtain ⟨m,hm,hl,hml⟩:=h.mp
  simp (config:=KF) (disch:=omega) only [bZ,id,↓reduceIte,reduceCtorEq]
  refine am rfl e_f58 (eB hg) rfl ?_
  simp (config:=KF) (disch:=omega) only [bZ,↓reduceIte,Nat.reduceEqDiff,reduceCtorEq]
  refine draw_s ?_
  simp (config:=KF) (disch:=omega) only [bZ,m_nil,m_none,m_val,mm_mv,ql,qm,nx,atM_eq,gG,dropP,dropQ,pS,aj,addA,aa,id,List.nil_append,List.cons_append,↓reduceIte,Nat.reduceEqDiff,Nat.reduceAdd,Nat.reduceLeDiff,reduceCtorEq,hg]
  refine call_m rfl e_f66 (qu hm) rfl ?_
  simp (config:=KF) (disch:=omega) only [bZ,ksB,aO,bF,bS,bg,nstB,bT,hm_nil,holeK_eq,↓reduceIte,Nat.reduceEqDiff,reduceCtorEq]
  rintro r st1 ⟨rfl,rfl⟩
  refine ⟨St.sub_push _ _,?_⟩
  simp (config:=KF) (disch:=omega) only [bZ,ksB,aO,bF,bS,bg,cz,bP,nstB,bT,m_nil,postM_eq,pf,tailM_eq,finK_eq,retI,d5,p8,bstV,aP,nf,la,gx,gy,↓reduceIte,Nat.reduceEqDiff,Nat.reduceAdd,Nat.reduceLeDiff,reduceCtorEq,aI]
  refine hQ _ _ ⟨by simp [aI],h.clone ?_ fun m' hm'=>?_,by simp [aI],fun id hid=>?_⟩
  · have:=bL (st.push (.mp (encM .u64 ndAV m) (st.getB mid).1 (st.getB mid).2)) [.lit (.int .u64 (aw L 0:Nat)),.lit (.int .u64 (ar 0 L:Nat)),.lit (.int .u64 (g:Nat)),.map st.boxes.length]
    rw [aI] at this
    exact this
  · have e:encM .u64 ndAV m' = encM .u64 ndAV m:=by
      have:=hm'.get.symm.trans hm.get
      exact Option.some.inj this
    have:=hm'.clone
    rw [e] at this
    exact this.push _
  · rw [bE (by rw [aI]; omega),bE hid]

/-- The iterator over a queue that is not changed. -/
theorem iter_calls {o q mid g:Nat} {L:Qu} (y:Nat) (J:Nat→St→Prop) (Jx:St→Prop) (hkeep:∀ i st',J i st'→st'.get o = some [.ptr q 0]∧QIs st' q mid L g)
    (hround:∀ (i:Nat) (hi:i < L.length) (st':St),J i st'→gp Go.Proofs.Try.prog y [.lit (.int .u64 (L[i].1:Nat)),.lit (.int .i64 L[i].2)] st' (fun t st''=>(t = true∧J (i + 1) st'')∨(t = false∧Jx st''))) {st:St} (h0:J 0 st) :
    ao Go.Proofs.Try.prog n_f52 [.yld y,.ptr o 0] st (fun _ st'=>J L.length st'∨Jx st'):=by
  refine aA hmix k_f52 rfl rfl fun Q hQ=>?_
  unfold aFun c_f52
  obtain ⟨ho,hq⟩:=hkeep 0 st h0
  have hg:=hq.get
  simp (config:=KF) (disch:=omega) only [bZ,aj,br,aJ,addA,aa,dis_yld,↓reduceIte,Nat.reduceEqDiff,reduceCtorEq,ho,hg]
  rw [f52_8w]
  refine dN (A:=Nat×St) (fun a=>L.length - a.1) (fun a=>⟨[(0,.yld y),(1,.ptr o 0),(3,.lit (.int .u64 (aw (L.drop a.1) 0:Nat)))],[]⟩) (fun a=>a.2) (fun a=>a.1≤L.length∧J a.1 a.2) (0,st) ⟨by simp,h0⟩ (by rw [List.drop_zero]; exact Sf.le_refl _) rfl ?_
  rintro ⟨i,st⟩ ⟨h1,h2⟩ K hK hKe hKr
  simp only at h1 h2
  obtain ⟨ho,hq⟩:=hkeep i st h2
  have hg:=hq.get
  obtain ⟨m,hm,hl,hml⟩:=hq.mp
  by_cases hi:i < L.length
  · have ht:=nxt_drop hi
    have hp:=(hq.pos _ (tick_get hi)).1
    have hn:=nodeA_get hq.nd hi
    have hk:∀ z,cd (.int .u64) z false st (.map mid) (.lit (.int .u64 (L[i].1:Nat))) = .ok (ndAV (L[i].2,ar 0 (L.take i),aw (L.drop (i + 1)) 0)):=fun z=>by
      rw [cH hm,hl,hn]; rfl
    rw [ht]
    have hne:((L[i].1:Nat):Int)≠0:=by omega
    simp (config:=KF) (disch:=omega) only [bZ,eE,aV,ew,aj,addA,aa,dis_yld,↓reduceIte,Nat.reduceEqDiff,reduceCtorEq,not_false_eq_true,ho,hg,hk,ndAV,hne]
    refine call_y rfl (hround i hi st h2) rfl fun t st1 hr=>?_
    rcases hr with ⟨rfl,hJ⟩ | ⟨rfl,hJ⟩
    · obtain ⟨ho1,hq1⟩:=hkeep (i + 1) st1 hJ
      have hg1:=hq1.get
      obtain ⟨m1,hm1,hl1,hml1⟩:=hq1.mp
      have hk1:∀ z,cd (.int .u64) z false st1 (.map mid) (.lit (.int .u64 (L[i].1:Nat))) = .ok (ndAV (L[i].2,ar 0 (L.take i),aw (L.drop (i + 1)) 0)):=fun z=>by
        rw [cH hm1,hl1,hn]; rfl
      simp (config:=KF) (disch:=omega) only [bZ,eE,aV,ew,aj,addA,aa,unA,↓reduceIte,Nat.reduceEqDiff,reduceCtorEq,ho1,hg1,hk1,ndAV]
      exact hK (i + 1,st1) _ ⟨by simp only; omega,hJ⟩ (by simp only; omega) (Sf.le_refl _)
    · simp (config:=KF) (disch:=omega) only [bZ,aE,unA,↓reduceIte,Nat.reduceEqDiff,reduceCtorEq]
      exact hKr _ _ (by simp (config:=KF) (disch:=omega) only [bZ,aE,retI,↓reduceIte]; exact hQ _ _ (.inr hJ))
  · have hiL:i = L.length:=by omega
    subst hiL
    rw [List.drop_length]
    simp (config:=KF) (disch:=omega) only [bZ,bh,cf,↓reduceIte,Nat.reduceEqDiff,reduceCtorEq,not_true_eq_false,aw]
    exact hKe _ _ _ (by simp (config:=KF) (disch:=omega) only [bZ,aK,lR,retI,↓reduceIte]; exact hQ _ _ (.inl h2))

/-- The place of a value. -/
theorem qall_calls {q mid g:Nat} {L:Qu} {st:St} (h:QIs st q mid L g):ao Go.Proofs.Try.prog n_f35 [.ptr q 0] st
    (fun r st'=>∃ o q' mid',r = .fn (.func n_f52) [] [.ptr o 0]∧st'.get o = some [.ptr q' 0]∧QIs st' q' mid' L g∧st.boxes.length≤o∧st.boxes.length≤q'∧st.boxes.length≤mid'∧st.boxes.length≤st'.boxes.length∧∀ id,id < st.boxes.length→st'.boxes[id]? = st.boxes[id]?):=by
  refine aA hmix k_f35 rfl rfl fun Q hQ=>?_
  unfold aFun c_f35
  simp (config:=KF) (disch:=omega) only [bZ,id,↓reduceIte,reduceCtorEq,f35_1e]
  refine aq rfl e_f45 (qcopy_calls h) rfl fun r st1 hr=>?_
  obtain ⟨rfl,hq,hlen,hold⟩:=hr
  simp (config:=KF) (disch:=omega) only [bZ,retI,o_mkfn,o_newB,mkfnV,al,id,dis_fn,k9,gv,noL_fn,List.nil_append,↓reduceIte,Nat.reduceEqDiff,Nat.reduceLeDiff,reduceCtorEq,bL,set_push]
  refine hQ _ _ ⟨st1.boxes.length,_,_,rfl,bL ..,hq.at (bE (by omega)) (bE (by omega)),by omega,by omega,by omega,by rw [aI]; omega,fun id hid=>?_⟩
  rw [bE (by omega),hold id hid]

theorem srt_len {n:Nat}:∀ (l:List Nat) (a:Nat),l.Pairwise (· < ·)→(∀ x ∈ l,a < x∧x≤n)→l.length≤n - a
  | [],_,_,_=>Nat.zero_le _
  | x :: l, a, hp, hx => by
    have h1:=srt_len l x (List.pairwise_cons.mp hp).2 fun y hy=>⟨(List.pairwise_cons.mp hp).1 y hy,(hx y (by simp [hy])).2⟩
    have h2:=hx x (by simp)
    rw [List.length_cons]; omega
theorem qis_len {st:St} {q mid g:Nat} {L:Qu} (h:QIs st q mid L g):L.length≤g:=by
  have:=srt_len (aG L) 0 h.srt h.pos
  simpa [aG] using this

end Go.Fx.YtgmeefljgbaanaaFx

