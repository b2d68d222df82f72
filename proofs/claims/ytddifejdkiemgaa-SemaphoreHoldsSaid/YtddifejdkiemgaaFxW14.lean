/- What the functions that the statement reaches compute: part 14. -/
import Derived.Test.YtddifejdkiemgaaFxW13
namespace Go.Fx.YtddifejdkiemgaaFx
open Go Go.Fx
attribute [local irreducible] aC runI dg ep

set_option maxRecDepth 100000
set_option maxHeartbeats 4000000

theorem rsame_pure (f g:List Int) (hf:f.length≤1000000) (hg:g.length≤1000000) (st:St):dJ Go.Proofs.Try.prog n_f53 [.sl false 1 (ints f),.sl false 1 (ints g)] st (.lit (.bool (decide (f = g)))):=by
  refine eo hmix k_f53 rfl rfl fun Q hQ=>?_
  unfold aFun c_f53
  have hfl:=eZ f
  have hgl:=eZ g
  by_cases hfg:f.length = g.length
  · simp (config:=KF) (disch:=omega) only [bZ,er,lenI,eE,putS,Sf.set,Sf.reg,getR,setR,aD,da,di,↓reduceIte,Nat.reduceEqDiff,reduceCtorEq,Nat.zero_add,dL,f53_1e,f53_2e,f53_2l,f53_3e,f53_4e,f53_5e,f53_5l,f53_6e,f53_9e,f53_10e,f53_11e,f53_11l,f53_12e,hfl,hgl]
    rw [f53_13w]
    refine im (A:=Nat) (fun a=>f.length - a) (fun a=>⟨[(0,.sl false 1 (ints f)),(1,.sl false 1 (ints g)),(5,.lit (.int .i64 (a:Nat)))],[]⟩) (fun _=>st)
      (fun a=>a≤f.length∧f.take a = g.take a) 0 ⟨by omega,rfl⟩ (Sf.le_refl _) rfl ?_
    rintro i ⟨h1,h2⟩ K hK hKe hKr
    by_cases h:i < f.length
    · have hj:i < g.length:=by omega
      have e1:(ints f).getD i .any = .lit (.int .i64 f[i]):=by simp [ints,List.getD,h]
      have e2:(ints g).getD i .any = .lit (.int .i64 g[i]):=by simp [ints,List.getD,hj]
      by_cases h3:f[i] = g[i]
      · rw [h3] at e1
        simp (config:=KF) (disch:=omega) only [bZ,fp,ek,fq,iK,dU,dz,dA,bG,er,bH,ixSV,bK,ixA,lenI,a8,gC,eE,dx,cE,putS,Sf.set,Sf.reg,getR,setR,aD,Sf.disAt,dn,di,cN,Int.toNat_natCast,↓reduceIte,Nat.reduceEqDiff,reduceCtorEq,not_true_eq_false,decide_false,dC,cU,IntWalk.i64_in,fk,dI,f53_14e,f53_15e,f53_16e,f53_16l,f53_17e,f53_18e,f53_19e,f53_20e,f53_21e,f53_21h,f53_21l,f53_22e,f53_25e,f53_25l,e1,e2,hfl,hgl]
        refine hK (i + 1) _ ⟨by omega,?_⟩ (by omega) (Sf.le_refl _)
        rw [List.take_succ_eq_append_getElem h,List.take_succ_eq_append_getElem hj,h2,h3]
      · simp (config:=KF) (disch:=omega) only [bZ,fp,ek,fq,iK,dU,dz,dA,eh,er,ixSV,bK,ixA,lenI,a8,eE,dx,cE,putS,Sf.set,Sf.reg,getR,setR,aD,dn,di,cN,Int.toNat_natCast,↓reduceIte,Nat.reduceEqDiff,reduceCtorEq,dC,cU,dI,f53_14e,f53_15e,f53_16e,f53_16l,f53_17e,f53_18e,f53_19e,f53_20e,f53_21e,f53_21h,f53_21l,f53_22e,f53_23e,f53_24e,f53_24l,e1,e2,hfl,hgl]
        have:false = decide (f = g):=by
          symm; rw [decide_eq_false_iff_not]
          rintro rfl; exact h3 rfl
        rw [← this] at hQ
        refine hKr _ _ ?_
        simp (config:=KF) (disch:=omega) only [bZ,eh,retI,Sf.reg,getR,↓reduceIte,Bool.true_and,true_and]
        exact hQ _
    · simp (config:=KF) (disch:=omega) only [bZ,en,fP,er,lenI,dx,putS,Sf.set,Sf.reg,getR,setR,aD,di,↓reduceIte,Nat.reduceEqDiff,reduceCtorEq,dL,f53_14e,f53_15e,f53_16e,f53_16l,f53_17e,hfl]
      refine hKe _ _ _ ?_
      simp (config:=KF) (disch:=omega) only [bZ,dV,retI,putS,Sf.set,Sf.reg,getR,setR,aD,↓reduceIte,Bool.true_and,true_and,f53_26e,f53_27e,f53_27l]
      have:true = decide (f = g):=by
        symm; rw [decide_eq_true_iff]
        have e:i = f.length:=by omega
        rw [e,List.take_length,hfg,List.take_length] at h2
        exact h2
      rw [← this] at hQ
      exact hQ _
  · simp (config:=KF) (disch:=omega) only [bZ,retI,er,lenI,eE,putS,Sf.set,Sf.reg,getR,setR,aD,da,di,↓reduceIte,Nat.reduceEqDiff,Bool.true_and,true_and,reduceCtorEq,Nat.zero_add,cU,f53_1e,f53_2e,f53_2l,f53_3e,f53_4e,f53_5e,f53_5l,f53_6e,f53_7e,f53_8e,f53_8l,hfl,hgl]
    have:false = decide (f = g):=by
      symm; rw [decide_eq_false_iff_not]
      rintro rfl; exact hfg rfl
    rw [← this] at hQ
    exact hQ _

theorem iG (a b c d:Int):binI (.agg (.field 0 1 .int (.field 1 1 .int .tt))) .neq (.agg [.lit (.int .i64 a),.lit (.int .i64 b)]) (.agg [.lit (.int .i64 c),.lit (.int .i64 d)]) = .ok (.lit (.bool (decide ((a,b)≠(c,d))))):=by
  show Res.ok (AV.lit (.bool _)) = _
  have:(!((a == c) && ((b == d) && true))) = decide ((a,b)≠(c,d)):=Bool.eq_iff_iff.2 (by simp [Prod.ext_iff])
  rw [← this]
def gtA (x:Gt):AV:=.agg [.lit (.int .i64 x.1),.lit (.int .i64 x.2)]
/-- A list of grants that is read. -/
def GR (v:AV) (st:St) (l:List Gt):Prop:=v = .sl false 2 (l.map gtA)∨∃ ib ln cap r,v = .bs ib 2 0 ln cap∧ln = l.length∧st.get ib = some (grC l++r)
theorem ny {l:List Gt} {r:List AV} {i:Nat} (hi:i < l.length):(grC l++r).drop (i * 2) = .lit (.int .i64 l[i].1)::.lit (.int .i64 l[i].2)::(grC (l.drop (i + 1))++r):=by
  have e:l = l.take i++l[i]::l.drop (i + 1):=by rw [← List.drop_eq_getElem_cons hi,List.take_append_drop]
  have e2:grC l = grC (l.take i)++(.lit (.int .i64 l[i].1)::.lit (.int .i64 l[i].2)::grC (l.drop (i + 1))):=by
    conv=>lhs; rw [e]
    rw [sB]; rfl
  have hl:(grC (l.take i)).length = i * 2:=by rw [o9,List.length_take]; omega
  rw [e2,List.append_assoc,← hl,List.drop_left]
  rfl

theorem qh {v w:AV} {st:St} {l k:List Gt} (hv:GR v st l) (hw:GR w st k) (hl:l.length≤100000) (hk:k.length≤100000):dJ Go.Proofs.Try.prog n_f54 [v,w] st (.lit (.bool (decide (l = k)))):=by
  refine eo hmix k_f54 rfl rfl fun Q hQ=>?_
  unfold aFun c_f54
  have hQ:=hQ st
  have hfl:(l.map gtA).length = l.length:=by simp
  have hgl:(k.map gtA).length = k.length:=by simp
  have hne:l.length≠k.length→Q (.lit (.bool false)) st:=fun h=>by
    have:false = decide (l = k):=by
      symm; rw [decide_eq_false_iff_not]
      rintro rfl; exact h rfl
    rw [this]; exact hQ
  have hat:∀ (i:Nat) (h:i < l.length) (h':i < k.length),l[i]≠k[i]→Q (.lit (.bool false)) st:=fun i h h' hn=>by
    have:false = decide (l = k):=by
      symm; rw [decide_eq_false_iff_not]
      rintro rfl; exact hn rfl
    rw [this]; exact hQ
  have hyes:l.length = k.length→l.take l.length = k.take l.length→Q (.lit (.bool true)) st:=fun h h2=>by
    have:true = decide (l = k):=by
      symm; rw [decide_eq_true_iff]
      rw [List.take_length,h,List.take_length] at h2
      exact h2
    rw [this]; exact hQ
  have hgo:∀ (c1 c2:AV),(c1 = .sl false 2 (l.map gtA)∨∃ ib cap r,c1 = .bs ib 2 0 l.length cap∧st.get ib = some (grC l++r))→(c2 = .sl false 2 (k.map gtA)∨∃ ib cap r,c2 = .bs ib 2 0 k.length cap∧st.get ib = some (grC k++r))→l.length = k.length →
      ∀ K:Exit→Sf→St→Prop,(Q (.lit (.bool true)) st→K (.exit 0) ⟨[],[]⟩ st)→(Q (.lit (.bool false)) st→K .ret ⟨[(4,.lit (.bool false))],[]⟩ st) →
      aC Go.Proofs.Try.prog id true f54_13 ⟨[(0,c1),(1,c2),(5,.lit (.int .i64 0))],[]⟩ st K:=by
    intro c1 c2 h1 h2 hlk K hKy hKn
    rw [f54_13w]
    refine im (A:=Nat) (fun a=>l.length - a) (fun a=>⟨[(0,c1),(1,c2),(5,.lit (.int .i64 (a:Nat)))],[]⟩) (fun _=>st) (fun a=>a≤l.length∧l.take a = k.take a) 0 ⟨by omega,rfl⟩ ?_ rfl ?_
    · rcases h1 with rfl | ⟨ib,cap,r,rfl,hg1⟩ <;> rcases h2 with rfl | ⟨ib',cap',r',rfl,hg2⟩ <;> exact Sf.le_refl _
    rintro i ⟨a1,a2⟩ K' hK hKe hKr
    by_cases h:i < l.length
    · have hj:i < k.length:=by omega
      have e1:(l.map gtA).getD i .any = .agg [.lit (.int .i64 l[i].1),.lit (.int .i64 l[i].2)]:=by simp [List.getD,h,gtA]
      have e2:(k.map gtA).getD i .any = .agg [.lit (.int .i64 k[i].1),.lit (.int .i64 k[i].2)]:=by simp [List.getD,hj,gtA]
      have d1:∀ r,(grC l++r).drop (i * 2) = .lit (.int .i64 l[i].1)::.lit (.int .i64 l[i].2)::(grC (l.drop (i + 1))++r):=fun r=>ny h
      have d2:∀ r,(grC k++r).drop (i * 2) = .lit (.int .i64 k[i].1)::.lit (.int .i64 k[i].2)::(grC (k.drop (i + 1))++r):=fun r=>ny hj
      have hnx:l[i] = k[i]→K' .normal ⟨[(0,c1),(1,c2),(5,.lit (.int .i64 ((i:Int) + 1)))],[]⟩ st:=fun e=>by
        refine hK (i + 1) _ ⟨by omega,?_⟩ (by omega) ?_
        · rw [List.take_succ_eq_append_getElem h,List.take_succ_eq_append_getElem hj,a2,e]
        · rcases h1 with rfl | ⟨ib,cap,r,rfl,hg1⟩ <;> rcases h2 with rfl | ⟨ib',cap',r',rfl,hg2⟩ <;> exact Sf.le_refl _
      have hno:l[i]≠k[i]→K' .ret ⟨[(4,.lit (.bool false))],[]⟩ st:=fun e=>hKr _ _ (hKn (hat i h hj e))
      by_cases h3:l[i] = k[i]
      · have hnx:=hnx h3
        rw [h3] at e1 d1
        have hq:decide ((k[i].1,k[i].2)≠(k[i].1,k[i].2)) = false:=by simp
        rcases h1 with rfl | ⟨ib,cap,r,rfl,hg1⟩ <;> rcases h2 with rfl | ⟨ib',cap',r',rfl,hg2⟩
        · simp (config:=KF) (disch:=omega) only [bZ,fp,ek,fq,iK,dU,dz,dA,bG,er,bH,ixSV,bK,ixA,lenI,a8,dR,gC,dx,cE,eY,putS,Sf.set,Sf.reg,getR,setR,aD,Sf.disAt,dn,di,dD,dk,cP,List.length_cons,List.length_nil,List.take_succ_cons,List.take_zero,Int.toNat_natCast,↓reduceIte,Nat.reduceEqDiff,Nat.reduceAdd,Nat.reduceLeDiff,reduceCtorEq,Nat.zero_add,decide_true,dC,cU,IntWalk.i64_in,fk,dI,f54_14e,f54_15e,f54_16e,f54_16l,f54_17e,f54_18e,f54_19e,f54_20e,f54_21e,f54_21h,f54_21l,f54_22e,f54_25e,f54_25l,e1,e2,hfl,hgl,iG,hq]
          exact hnx
        · simp (config:=KF) (disch:=omega) only [bZ,fp,ek,fq,iK,dU,dz,dA,bG,er,bH,ixSV,bK,ixA,lenI,a8,dR,gC,dx,cE,eY,putS,Sf.set,Sf.reg,getR,setR,aD,Sf.disAt,dn,di,dD,d4,dk,cP,List.length_cons,List.length_nil,List.take_succ_cons,List.take_zero,Int.toNat_natCast,↓reduceIte,Nat.reduceEqDiff,Nat.reduceAdd,Nat.reduceLeDiff,reduceCtorEq,Nat.zero_add,decide_true,dC,cU,IntWalk.i64_in,fk,dI,List.length_append,f54_14e,f54_15e,f54_16e,f54_16l,f54_17e,f54_18e,f54_19e,f54_20e,f54_21e,f54_21h,f54_21l,f54_22e,f54_25e,f54_25l,e1,d2,hfl,hg2,iG,hq]
          exact hnx
        · simp (config:=KF) (disch:=omega) only [bZ,fp,ek,fq,iK,dU,dz,dA,bG,er,bH,ixSV,bK,ixA,lenI,a8,dR,gC,dx,cE,eY,putS,Sf.set,Sf.reg,getR,setR,aD,Sf.disAt,dn,di,dD,d4,dk,cP,List.length_cons,List.length_nil,List.take_succ_cons,List.take_zero,Int.toNat_natCast,↓reduceIte,Nat.reduceEqDiff,Nat.reduceAdd,Nat.reduceLeDiff,reduceCtorEq,Nat.zero_add,decide_true,dC,cU,IntWalk.i64_in,fk,dI,List.length_append,f54_14e,f54_15e,f54_16e,f54_16l,f54_17e,f54_18e,f54_19e,f54_20e,f54_21e,f54_21h,f54_21l,f54_22e,f54_25e,f54_25l,d1,e2,hgl,hg1,iG,hq]
          exact hnx
        · simp (config:=KF) (disch:=omega) only [bZ,fp,ek,fq,iK,dU,dz,dA,bG,er,bH,ixSV,bK,ixA,lenI,a8,dR,gC,dx,cE,eY,putS,Sf.set,Sf.reg,getR,setR,aD,Sf.disAt,dn,dD,d4,dk,List.length_cons,List.take_succ_cons,List.take_zero,Int.toNat_natCast,↓reduceIte,Nat.reduceEqDiff,Nat.reduceLeDiff,reduceCtorEq,Nat.zero_add,decide_true,dC,cU,IntWalk.i64_in,fk,dI,List.length_append,f54_14e,f54_15e,f54_16e,f54_16l,f54_17e,f54_18e,f54_19e,f54_20e,f54_21e,f54_21h,f54_21l,f54_22e,f54_25e,f54_25l,d1,d2,hg1,hg2,iG,hq]
          exact hnx
      · have hno:=hno h3
        have hq:decide ((l[i].1,l[i].2)≠(k[i].1,k[i].2)) = true:=by
          rw [decide_eq_true_iff]
          intro e
          exact h3 (Prod.ext (congrArg Prod.fst e) (congrArg Prod.snd e))
        rcases h1 with rfl | ⟨ib,cap,r,rfl,hg1⟩ <;> rcases h2 with rfl | ⟨ib',cap',r',rfl,hg2⟩
        · simp (config:=KF) (disch:=omega) only [bZ,fp,ek,fq,iK,dU,dz,dA,eh,er,ixSV,bK,ixA,lenI,a8,dR,dx,cE,eY,putS,Sf.set,Sf.reg,getR,setR,aD,dn,di,dD,dk,cP,List.length_cons,List.length_nil,List.take_succ_cons,List.take_zero,Int.toNat_natCast,↓reduceIte,Nat.reduceEqDiff,Nat.reduceAdd,Nat.reduceLeDiff,reduceCtorEq,Nat.zero_add,decide_true,dC,cU,dI,f54_14e,f54_15e,f54_16e,f54_16l,f54_17e,f54_18e,f54_19e,f54_20e,f54_21e,f54_21h,f54_21l,f54_22e,f54_23e,f54_24e,f54_24l,e1,e2,hfl,hgl,iG,hq]
          exact hno
        · simp (config:=KF) (disch:=omega) only [bZ,fp,ek,fq,iK,dU,dz,dA,eh,er,ixSV,bK,ixA,lenI,a8,dR,dx,cE,eY,putS,Sf.set,Sf.reg,getR,setR,aD,dn,di,dD,d4,dk,cP,List.length_cons,List.length_nil,List.take_succ_cons,List.take_zero,Int.toNat_natCast,↓reduceIte,Nat.reduceEqDiff,Nat.reduceAdd,Nat.reduceLeDiff,reduceCtorEq,Nat.zero_add,decide_true,dC,cU,dI,List.length_append,f54_14e,f54_15e,f54_16e,f54_16l,f54_17e,f54_18e,f54_19e,f54_20e,f54_21e,f54_21h,f54_21l,f54_22e,f54_23e,f54_24e,f54_24l,e1,d2,hfl,hg2,iG,hq]
          exact hno
        · simp (config:=KF) (disch:=omega) only [bZ,fp,ek,fq,iK,dU,dz,dA,eh,er,ixSV,bK,ixA,lenI,a8,dR,dx,cE,eY,putS,Sf.set,Sf.reg,getR,setR,aD,dn,di,dD,d4,dk,cP,List.length_cons,List.length_nil,List.take_succ_cons,List.take_zero,Int.toNat_natCast,↓reduceIte,Nat.reduceEqDiff,Nat.reduceAdd,Nat.reduceLeDiff,reduceCtorEq,Nat.zero_add,decide_true,dC,cU,dI,List.length_append,f54_14e,f54_15e,f54_16e,f54_16l,f54_17e,f54_18e,f54_19e,f54_20e,f54_21e,f54_21h,f54_21l,f54_22e,f54_23e,f54_24e,f54_24l,d1,e2,hgl,hg1,iG,hq]
          exact hno
        · simp (config:=KF) (disch:=omega) only [bZ,fp,ek,fq,iK,dU,dz,dA,eh,er,ixSV,bK,ixA,lenI,a8,dR,dx,cE,eY,putS,Sf.set,Sf.reg,getR,setR,aD,dn,dD,d4,dk,List.length_cons,List.take_succ_cons,List.take_zero,Int.toNat_natCast,↓reduceIte,Nat.reduceEqDiff,Nat.reduceLeDiff,reduceCtorEq,Nat.zero_add,decide_true,dC,cU,dI,List.length_append,f54_14e,f54_15e,f54_16e,f54_16l,f54_17e,f54_18e,f54_19e,f54_20e,f54_21e,f54_21h,f54_21l,f54_22e,f54_23e,f54_24e,f54_24l,d1,d2,hg1,hg2,iG,hq]
          exact hno
    · have hb:=hKe _ _ _ (hKy (hyes hlk (by rw [show l.length = i by omega]; exact a2)))
      rcases h1 with rfl | ⟨ib,cap,r,rfl,hg1⟩ <;> rcases h2 with rfl | ⟨ib',cap',r',rfl,hg2⟩
      all_goals
        simp (config:=KF) (disch:=omega) only [bZ,en,fP,er,lenI,dx,putS,Sf.set,Sf.reg,getR,setR,aD,di,d4,↓reduceIte,Nat.reduceEqDiff,reduceCtorEq,dL,f54_14e,f54_15e,f54_16e,f54_16l,f54_17e,hfl]
        exact hb
  have hv1:v = .sl false 2 (l.map gtA)∨∃ ib cap r,v = .bs ib 2 0 l.length cap∧st.get ib = some (grC l++r):=by
    rcases hv with h | ⟨ib,ln,cap,r,h,rfl,hg⟩
    · exact .inl h
    · exact .inr ⟨ib,cap,r,h,hg⟩
  have hw1:w = .sl false 2 (k.map gtA)∨∃ ib cap r,w = .bs ib 2 0 k.length cap∧st.get ib = some (grC k++r):=by
    rcases hw with h | ⟨ib,ln,cap,r,h,rfl,hg⟩
    · exact .inl h
    · exact .inr ⟨ib,cap,r,h,hg⟩
  have hgo:=hgo v w hv1 hw1
  by_cases hlk:l.length = k.length
  · have hgo:=hgo hlk
    rcases hv1 with rfl | ⟨ib,cap,r,rfl,hg1⟩ <;> rcases hw1 with rfl | ⟨ib',cap',r',rfl,hg2⟩
    all_goals
      simp (config:=KF) (disch:=omega) only [bZ,er,lenI,eE,putS,Sf.set,Sf.reg,getR,setR,aD,da,di,d4,↓reduceIte,Nat.reduceEqDiff,reduceCtorEq,Nat.zero_add,dL,f54_1e,f54_2e,f54_2l,f54_3e,f54_4e,f54_5e,f54_5l,f54_6e,f54_9e,f54_10e,f54_11e,f54_11l,f54_12e,hfl,hgl]
      refine hgo _ (fun hq=>?_) (fun hq=>?_)
      · simp (config:=KF) (disch:=omega) only [bZ,dV,retI,putS,Sf.set,Sf.reg,getR,setR,aD,↓reduceIte,Bool.true_and,true_and,f54_26e,f54_27e,f54_27l]
        exact hq
      · simp (config:=KF) (disch:=omega) only [bZ,eh,retI,Sf.reg,getR,↓reduceIte,Bool.true_and,true_and]
        exact hq
  · have hne:=hne hlk
    rcases hv1 with rfl | ⟨ib,cap,r,rfl,hg1⟩ <;> rcases hw1 with rfl | ⟨ib',cap',r',rfl,hg2⟩
    all_goals
      simp (config:=KF) (disch:=omega) only [bZ,retI,er,lenI,eE,putS,Sf.set,Sf.reg,getR,setR,aD,da,di,d4,↓reduceIte,Nat.reduceEqDiff,Bool.true_and,true_and,reduceCtorEq,Nat.zero_add,cU,f54_1e,f54_2e,f54_2l,f54_3e,f54_4e,f54_5e,f54_5l,f54_6e,f54_7e,f54_8e,f54_8l,hfl,hgl]
      exact hne

theorem GB.gr {v:AV} {st:St} {l:List Gt} (h:GB v st l):GR v st l∨(v = .lit (.slice none 0 0)∧l = []):=by
  rcases h with h | ⟨ib,cap,r,h1,h2,_⟩
  · exact .inr h
  · exact .inl (.inr ⟨ib,_,cap,r,h1,rfl,h2⟩)
theorem gr_nil {st:St}:GR (.sl false 2 []) st []:=.inl rfl
theorem sameg_bl {v:AV} {st:St} {l k:List Gt} (hv:GB v st l) (hl:l.length≤100000) (hk:k.length≤100000):dJ Go.Proofs.Try.prog n_f54 [v,.sl false 2 (k.map gtA)] st (.lit (.bool (decide (l = k)))):=by
  rcases hv.gr with h | ⟨rfl,rfl⟩
  · exact qh h (.inl rfl) hl hk
  · exact (qh gr_nil (.inl rfl) hl hk).weak ⟨.nil _ _,.refl _,trivial⟩ (.refl _)
theorem gb {st:St} {b q mid wid g:Nat} {sz nw:Int} {H:List Int} {V:List Vt} (h:SmIs st b q mid wid sz nw H V g) (hg0:g < 900000) {t n d e:Int} {w:Bool} {S:List Int×List Vt×Nat} (hd:d≤nev) (hS:sAcq sz nw H V g t n d = (S,w,e)) :
    dt Go.Proofs.Try.prog n_f52 [.ptr b 0,.lit (.int .i64 t),.lit (.int .i64 n),.lit (.int .u64 d),.lit (.bool w),.lit (.int .i64 e)] st (fun r st' =>
    r = .lit (.bool true)∧SmIs st' b q mid wid sz nw S.1 S.2.1 S.2.2∧Oth st st' [b,q,mid,wid]):=by
  refine dN hmix k_f52 rfl rfl fun Q hQ=>?_
  unfold aFun c_f52
  have hc:=qs h hg0 (t:=t) (n:=n) hd
  rw [hS] at hc
  simp (config:=KF) (disch:=omega) only [bZ,aI,ev_f,putS,Sf.set,Sf.reg,getR,setR,aD,da,id,↓reduceIte,Nat.reduceEqDiff,Nat.reduceAdd,reduceCtorEq,Nat.zero_add,f52_1e,f52_2e,f52_2l,f52_3e,f52_4e,f52_4l]
  refine du rfl e_f35 hc rfl fun r st1 hr=>?_
  obtain ⟨rfl,a1,a2⟩:=hr
  simp (config:=KF) (disch:=omega) only [bZ,retI,aS,AI.dst,dY,c8,fH,bH,ea,extV,b_eql,fa,putS,Sf.set,Sf.reg,getR,setR,aD,Sf.disAt,ei,dW,List.getElem?_cons_zero,List.getElem?_cons_succ,↓reduceIte,Nat.reduceEqDiff,Bool.true_and,true_and,reduceCtorEq,decide_true,f52_5e,f52_6e,f52_6l,beq_self_eq_true]
  exact hQ _ _ ⟨rfl,a1,a2⟩
end Go.Fx.YtddifejdkiemgaaFx

