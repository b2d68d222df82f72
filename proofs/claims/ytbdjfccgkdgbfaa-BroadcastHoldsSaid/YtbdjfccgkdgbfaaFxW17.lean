/- What the functions that the statement reaches compute: part 17. -/
import Derived.Test.YtbdjfccgkdgbfaaFxW16
namespace Go.Fx.YtbdjfccgkdgbfaaFx
open Go Go.Fx
attribute [local irreducible] aC runI au aH

set_option maxRecDepth 100000
set_option maxHeartbeats 4000000

/-! What is seen of a hub. -/
def lenR (n:Int) (R:HR):Nat:=match atR n R.subs with | none=>0 | some S=>S.msgs.length
def g9 (n:Int) (R:HR):Nat:=match atR n R.subs with | none=>0 | some S=>S.lost
section
variable {st:St} {h wid n:Nat} {R:HR} {F:List Nat}
theorem len_pure (hh:HubR st h wid n R F) (m:Int):aG Go.Proofs.Try.prog n_f15 [.ptr h 0,.lit (.int .i64 m)] st (.lit (.int .i64 (lenR m R:Nat))):=by
  obtain ⟨L,Qs,M,W,j1,j2,j3,j4,j5⟩:=hh.ex
  refine aV hmix k_f15 rfl rfl fun Q hQ=>?_
  unfold aFun c_f15
  unfold lenR at hQ
  simp (config:=KF) (disch:=omega) only [bZ,id,↓reduceIte,Nat.reduceEqDiff,reduceCtorEq]
  refine am rfl e_f31 (j9 j1 m) rfl ?_
  rcases pL j1.l64 j2 m with ⟨a1,a2⟩ | ⟨k,x,rfl,hk,hx,hxs,a1,a2⟩
  · rw [a1]
    rw [a2] at hQ
    have hp:ptrO none = .lit (.pointer none):=rfl
    simp (config:=KF) (disch:=omega) only [bZ,retI,iw,bq,aY,↓reduceIte,Nat.reduceEqDiff,reduceCtorEq,hp]
    exact hQ _
  · rw [a1]
    rw [a2] at hQ
    have hp:ptrO (some x) = .ptr x.s 0:=rfl
    have hg:=SbIs.get (j1.sub k x hx)
    simp (config:=KF) (disch:=omega) only [bZ,retI,aj,iw,bq,aY,addA,aa,↓reduceIte,Nat.reduceEqDiff,reduceCtorEq,hp,hg]
    exact hQ _
theorem kR (hh:HubR st h wid n R F) (m:Int):aG Go.Proofs.Try.prog n_f14 [.ptr h 0,.lit (.int .i64 m)] st (.lit (.int .i64 (g9 m R:Nat))):=by
  obtain ⟨L,Qs,M,W,j1,j2,j3,j4,j5⟩:=hh.ex
  refine aV hmix k_f14 rfl rfl fun Q hQ=>?_
  unfold aFun c_f14
  unfold g9 at hQ
  simp (config:=KF) (disch:=omega) only [bZ,id,↓reduceIte,Nat.reduceEqDiff,reduceCtorEq]
  refine am rfl e_f31 (j9 j1 m) rfl ?_
  rcases pL j1.l64 j2 m with ⟨a1,a2⟩ | ⟨k,x,rfl,hk,hx,hxs,a1,a2⟩
  · rw [a1]
    rw [a2] at hQ
    have hp:ptrO none = .lit (.pointer none):=rfl
    simp (config:=KF) (disch:=omega) only [bZ,retI,iw,bq,aY,↓reduceIte,Nat.reduceEqDiff,reduceCtorEq,hp]
    exact hQ _
  · rw [a1]
    rw [a2] at hQ
    have hp:ptrO (some x) = .ptr x.s 0:=rfl
    have hg:=SbIs.get (j1.sub k x hx)
    simp (config:=KF) (disch:=omega) only [bZ,retI,aj,iw,bq,aY,addA,aa,↓reduceIte,Nat.reduceEqDiff,reduceCtorEq,hp,hg]
    exact hQ _
end
end Go.Fx.YtbdjfccgkdgbfaaFx

namespace Go.Fx.YtbdjfccgkdgbfaaFx
open Go Go.Fx
attribute [local irreducible] aC runI au aH

set_option maxRecDepth 100000
set_option maxHeartbeats 4000000

/-! A new hub. -/
def newQ (n i:Nat):QL:=⟨n + 2 + 2 * i + 1,n + 2 + 2 * i,0,[]⟩
def newC (n i:Nat):List AV:=List.replicate 64 (.lit (.pointer none))++(((List.range i).map (newQ n)).map ptrQ++(List.replicate (16 - i) (.lit (.pointer none))++[.map n]))
theorem newC_len (n:Nat) {i:Nat} (hi:i≤16):(newC n i).length = 81:=by
  unfold newC; simp; omega
theorem newC_set (n:Nat) {i:Nat} (hi:i < 16):(newC n i).set (64 + i) (.ptr (n + 2 + 2 * i + 1) 0) = newC n (i + 1):=by
  unfold newC
  rw [List.set_append,if_neg (by simp),List.length_replicate,Nat.add_sub_cancel_left,List.set_append,if_neg (by simp),List.length_map,List.length_map,List.length_range,Nat.sub_self,show 16 - i = (16 - (i + 1)) + 1 by omega,List.replicate_succ (n:=16 - (i + 1)),List.cons_append,List.set_cons_zero,List.range_succ,List.map_append,List.map_append,List.append_assoc]
  rfl
theorem j6 (st:St):al Go.Proofs.Try.prog n_f8 [] st (fun v st'=>∃ h wid F,v = .ptr h 0∧HubR st' h wid 0 ⟨[],[]⟩ F∧Kp st st' []∧(∀ x ∈ F,st.boxes.length≤x∧x < st'.boxes.length)):=by
  refine ao hmix k_f8 rfl rfl fun Q hQ=>?_
  unfold aFun c_f8
  simp (config:=KF) (disch:=omega) only [bZ,mO,mP,o_mkmap,bstV,bj,bz,own1_map,oE,mW,↓reduceIte,Nat.reduceEqDiff,Nat.reduceAdd,Nat.reduceLeDiff,aE]
  obtain ⟨n,hn⟩:∃ n,n = st.boxes.length:=⟨_,rfl⟩
  rw [← hn]
  rw [f8_9w]
  have hb0:∀ c,((st.push (.mp [] [] 0)).push (.cells c)).get (n + 1) = some c:=fun c=>by
    have:=bA (st.push (.mp [] [] 0)) c
    rw [aE,← hn] at this; exact this
  refine cX (A:=Nat×St) (fun a=>16 - a.1) (fun a=>⟨[(1,.ptr (n + 1) 0),(6,.lit (.int .i64 (a.1:Nat)))],[]⟩) (fun a=>a.2)
    (fun a=>a.1≤16∧a.2.get (n + 1) = some (newC n a.1)∧a.2.boxes.length = n + 2 + 2 * a.1∧MapIs a.2 n .i64 weAV []∧(∀ i,i < a.1→(newQ n i).is a.2)∧∀ b,b < n→a.2.boxes[b]? = st.boxes[b]?) (0,(st.push (.mp [] [] 0)).push (.cells (newC n 0))) ⟨Nat.zero_le _,hb0 _,by simp only [aE,hn],?_,fun i hi=>(by cases hi),fun b hb=>by rw [bR (by rw [aE]; omega),bR (by omega)]⟩ (Sf.le_refl _) rfl ?_
  · have:=(MapIs.new st .i64 weAV).push (.cells (newC n 0))
    rw [← hn] at this; exact this
  rintro ⟨i,s1⟩ ⟨h1,h2,h3,h4,h5,h6⟩ K hK hKe hKr
  simp only at h1 h2 h3 h4 h5 h6
  dsimp only
  by_cases hi:i < 16
  · simp (config:=KF) (disch:=omega) only [bZ,↓reduceIte,Nat.reduceEqDiff,aP]
    refine draw_m ⟨[]⟩ (St.sub_nil _) ?_
    simp (config:=KF) (disch:=omega) only [bZ,lq,kK,oJ,mm_mv,atM_eq,fv,og,oh,kA,bd,id,List.nil_append,List.cons_append,↓reduceIte,Nat.reduceEqDiff]
    refine call_m rfl e_f23 (qnew_calls s1) rfl ?_
    simp (config:=KF) (disch:=omega) only [bZ,ksB,aO,bH,cd,aZ,nstB,ce,jV,ni,pF,hm_none,hm_val,jX,aj,addA,List.nil_append,List.cons_append,↓reduceIte,Nat.reduceEqDiff]
    rintro v s2 ⟨rfl,hq,hl2,hk2⟩
    refine ⟨St.sub_nil _,?_⟩
    have hg2:s2.get (n + 1) = some (newC n i):=(bY (hk2 (n + 1) (by omega))).trans h2
    have hcl:=newC_len n h1
    have hcs:=newC_set n hi
    rw [h3] at hq
    simp (config:=KF) (disch:=omega) only [bZ,ksB,aO,bH,cd,aZ,dj,cr,nstB,ce,lq,kK,oJ,jV,ni,jW,iB,compM_f,jY,lM,gv,aj,az,addA,fS,dE,List.nil_append,List.cons_append,↓reduceIte,Nat.reduceEqDiff,Nat.reduceLeDiff,a9,hg2,hcl,h3,hcs]
    refine hK (i + 1,s2.set (n + 1) (newC n (i + 1))) _ ⟨by simp only; omega,aw (by omega),by simp only [eI]; omega,h4.at ((b9 (by omega)).trans (hk2 n (by omega))),fun j hj=>?_,fun b hb=>by simp only; rw [b9 (by omega),hk2 b (by omega),h6 b hb]⟩ (by simp only; omega) (Sf.le_refl _)
    simp only at hj ⊢
    by_cases e:j = i
    · subst e
      exact QL.at (x:=newQ n j) hq fun b hb=>b9 (by simp [QL.ids,newQ] at hb; omega)
    · refine QL.at (h5 j (by omega)) fun b hb=>?_
      have hb':b = n + 2 + 2 * j + 1∨b = n + 2 + 2 * j:=by simpa [QL.ids,newQ] using hb
      rw [b9 (by omega),hk2 b (by omega)]
  · obtain rfl:i = 16:=by omega
    simp (config:=KF) (disch:=omega) only [bZ,aU,bK,↓reduceIte,Nat.reduceEqDiff,Int.reduceLT]
    refine hKe _ _ _ ?_
    simp (config:=KF) (disch:=omega) only [bZ,aA,retI,d5,↓reduceIte,Nat.reduceEqDiff,reduceCtorEq]
    have hC:newC n 16 = (List.replicate 64 (none:Option SL)).map ptrO++(((List.range 16).map (newQ n)).map ptrQ++[.map n]):=by
      unfold newC
      rw [List.map_replicate]; rfl
    have hqs:∀ (j:Nat) x,((List.range 16).map (newQ n))[j]? = some x→j < 16∧x = newQ n j:=fun j x hx=>by
      rw [List.getElem?_map] at hx
      obtain ⟨k,hk,e⟩:=Option.map_eq_some_iff.1 hx
      obtain ⟨a1,a2⟩:=List.getElem?_eq_some_iff.1 hk
      rw [List.length_range] at a1
      rw [List.getElem_range] at a2
      subst a2
      exact ⟨a1,e.symm⟩
    have hls:∀ (j:Nat) (x:SL),(List.replicate 64 (none:Option SL))[j]? = some (some x)→False:=fun j x hx=>by
      rw [List.getElem?_replicate] at hx
      split at hx <;> cases hx
    have hH:HubIs s1 (n + 1) n (List.replicate 64 none) ((List.range 16).map (newQ n)) []:=by
      refine ⟨by rw [h2,hC],by simp,by simp,fun j x hx=>(hls j x hx).elim,fun j x hx=>?_,h4,fun b=>if b < n + 2 then 0 else 100 + (b - (n + 2)) / 2,fun j x hx=>(hls j x hx).elim,fun j x hx b hb=>?_,if_pos (by omega),if_pos (by omega)⟩
      · obtain ⟨a1,rfl⟩:=hqs j x hx
        exact h5 j a1
      · obtain ⟨a1,rfl⟩:=hqs j x hx
        have hb':b = n + 2 + 2 * j + 1∨b = n + 2 + 2 * j:=by simpa [QL.ids,newQ] using hb
        show (if b < n + 2 then 0 else 100 + (b - (n + 2)) / 2) = 100 + j
        rw [if_neg (by omega)]; omega
    refine hQ _ _ ⟨n + 1,n,bS (n + 1) n (List.replicate 64 none) ((List.range 16).map (newQ n)),rfl,⟨⟨_,_,_,[],hH,⟨?_,fun j S hj=>?_⟩,⟨fun j x hx=>?_,fun _=>rfl,by simp [cc],by simp,fun _ q=>by cases q⟩,rfl,fun _ q=>q⟩⟩,⟨by omega,fun b hb _=>h6 b (by omega)⟩,fun x hx=>⟨?_,hH.lts x hx⟩⟩
    · rfl
    · rw [List.getElem?_map] at hj
      obtain ⟨o,ho,e⟩:=Option.map_eq_some_iff.1 hj
      cases o with
      | none=>cases e
      | some x=>exact (hls j x ho).elim
    · obtain ⟨a1,rfl⟩:=hqs j x hx
      exact ⟨rfl,Nat.le_refl _⟩
    · rcases ai.1 hx with e | e | ⟨j,y,hy,hb⟩ | ⟨j,y,hy,hb⟩
      · omega
      · omega
      · exact (hls j y hy).elim
      · obtain ⟨a1,rfl⟩:=hqs j y hy
        have hb':x = n + 2 + 2 * j + 1∨x = n + 2 + 2 * j:=by simpa [QL.ids,newQ] using hb
        omega
end Go.Fx.YtbdjfccgkdgbfaaFx

