/- What the functions that the statement reaches compute: part 12. -/
import Derived.Test.YtphaaebhgggbaaaFxW11
namespace Go.Fx.YtphaaebhgggbaaaFx
open Go Go.Fx
attribute [local irreducible] aC runI bD cO

set_option maxRecDepth 100000
set_option maxHeartbeats 8000000

/-! Calls one after the other, with the results that are wanted: printed by wip/dev/gen_lt9.py. -/
def mRun {S:Type} (f:S→Ac→S×Rs) (s:S) (l:List Ac):S:=l.foldl (fun s a=>(f s a).1) s
def mOk {S:Type} (f:S→Ac→S×Rs):S→List Ac→List Rs→Bool
  | s,a::l,y::m=>decide ((f s a).2 = y) && mOk f (f s a).1 l m
  | _,_,_=>true
theorem mP {S:Type} {f:S→Ac→S×Rs}:∀ {s:S} {l:List Ac} {m:List Rs},mOk f s l m = true→∀ i (h:i < l.length) (h':i < m.length),(f (mRun f s (l.take i)) l[i]).2 = m[i]
  | s,a::l,y::m,hk,0,_,_=>by simp [mOk] at hk; simpa [mRun] using hk.1
  | s, a :: l, y :: m, hk, i + 1, h, h' => by
    simp only [mOk,Bool.and_eq_true] at hk
    exact mP hk.2 i (by simpa using h) (by simpa using h')
theorem iY {S:Type} (f:S→Ac→S×Rs) (s:S) {l:List Ac} {i:Nat} (h:i < l.length):mRun f s (l.take (i + 1)) = (f (mRun f s (l.take i)) l[i]).1:=by
  unfold mRun
  rw [List.take_succ_eq_append_getElem h,List.foldl_append]
  rfl
def laF (s:Int×List Int) (a:Ac):(Int×List Int)×Rs:=laDo s.1 s.2 a
def baF (p:Int) (s:Int×List Int) (a:Ac):(Int×List Int)×Rs:=baDo p s.1 s.2 a
def onF (s:Int×List Int×Bool) (a:Ac):(Int×List Int×Bool)×Rs:=onDo s.1 s.2.1 s.2.2 a
def coF (s:Int×List Int×List Int) (a:Ac):(Int×List Int×List Int)×Rs:=coDo s.1 s.2.1 s.2.2 a
theorem baRun_le (p:Int) (s:Int×List Int):∀ l:List Ac,(mRun (baF p) s l).1≤s.1 + l.length:=fun l=>by
  unfold mRun
  induction l generalizing s with
  | nil=>simp
  | cons a l ih =>
    have h1:(baF p s a).1.1≤s.1 + 1:=by
      unfold baF baDo fo
      split
      · split
        · simp only; omega
        split
        · simp only; omega
        · simp only; omega
      · simp only; omega
    have:=ih (baF p s a).1
    simp only [List.foldl_cons,List.length_cons]
    omega

theorem known_la {st0:St} {b b3 b5 b6:Nat} {x:Ln} {s:Int×List Int} {on:List Ac} {want:List Rs} (h0:LaIs st0 b x s.1 s.2 0) (hlen:on.length = want.length) (hn:on.length≤100) (hw:∀ y ∈ want,y.2.2.1.length≤1000) (hok:mOk laF s on want = true) (Q:Exit→Sf→St→Prop)
    (hQ:∀ st' g,LaIs st' b x (mRun laF s on).1 (mRun laF s on).2 g→Oth st0 st' (b::x.ids)→Q .normal ⟨[(3,.ptr b3 0),(5,.ptr b5 0),(6,.ptr b6 0)],[]⟩ st') :
    aC Go.Proofs.Try.prog id false f10_22 ⟨[(1,.ptr b 0),(3,.ptr b3 0),(5,.ptr b5 0),(6,.ptr b6 0),(7,.sl true 4 (on.map acAV)),(8,.sl true 4 (want.map rsAV)),(9,.lit (.int .i64 0))],[]⟩ st0 Q:=by
  simp (config:=KF) (disch:=omega) only [f10_22e]
  rw [f10_23w]
  refine ef (A:=Nat×Nat×St) (fun a=>on.length - a.1) (fun a=>⟨[(1,.ptr b 0),(3,.ptr b3 0),(5,.ptr b5 0),(6,.ptr b6 0),(7,.sl true 4 (on.map acAV)),(8,.sl true 4 (want.map rsAV)),(9,.lit (.int .i64 (a.1:Nat)))],[]⟩) (fun a=>a.2.2)
    (fun a=>a.1≤on.length∧LaIs a.2.2 b x (mRun laF s (on.take a.1)).1 (mRun laF s (on.take a.1)).2 a.2.1∧a.2.1≤a.1∧Oth st0 a.2.2 (b::x.ids)) (0,0,st0) ⟨by simp,by simpa [mRun] using h0,by simp,.refl ..⟩ (Sf.le_refl _) rfl ?_
  rintro ⟨i,g,st⟩ ⟨hi,h1,hg,ho⟩ K hK hKe hKr
  simp only at hi h1 hg ho
  dsimp only
  by_cases h:i < on.length
  case neg =>
    have e:on.take i = on:=List.take_of_length_le (by omega)
    rw [e] at h1
    simp (config:=KF) (disch:=omega) only [bZ,cT,dX,cw,lenI,bS,putS,Sf.set,Sf.reg,getR,setR,aa,aI,↓reduceIte,Nat.reduceEqDiff,List.length_map,bH,f10_24e,f10_25e,f10_26e,f10_26l,f10_27e]
    refine hKe _ _ _ ?_
    simp (config:=KF) (disch:=omega) only [ci,↓reduceIte]
    exact hQ _ g h1 ho
  have hj:i < want.length:=by omega
  have e1:(on.map acAV).getD i .any = acAV on[i]:=by simp [List.getD,h]
  have e2:(want.map rsAV).getD i .any = rsAV want[i]:=by simp [List.getD,hj]
  have hr:(laDo (mRun laF s (on.take i)).1 (mRun laF s (on.take i)).2 on[i]).2 = want[i]:=mP hok i h hj
  have hs:=iY laF s h
  have hy:=hw _ (List.getElem_mem hj)
  obtain ⟨w1,w2,w3,w4,w5,w6,w7⟩:=cg want[i].2.2.1
  have he:∀ st,bg Go.Proofs.Try.prog n_f28 [(rsAV want[i]).dis,(rsAV want[i]).dis] st (.lit (.bool true)):=fun st=>by
    have:=gx want[i] want[i] (by omega) (by omega) st
    rw [(db _).1]
    simpa using this
  have hc:=laon_calls h1 (by omega) on[i]
  rw [hr] at hc
  simp (config:=KF) (disch:=omega) only [bZ,cw,lenI,bS,putS,Sf.set,Sf.reg,getR,setR,aa,aI,↓reduceIte,Nat.reduceEqDiff,Bool.true_and,true_and,List.length_map,bq,f10_24e,f10_25e,f10_26e,f10_26l,f10_27e,f10_28e,f10_29e,f10_30e,f10_31e,f10_31h,f10_31p,f10_31l]
  refine gC ⟨[]⟩ (St.sub_nil _) ?_
  simp (config:=KF) (disch:=omega) only [bZ,dJ,cX,dP,d5,fi,bL,gf,eL,gJ,gK,eR,ixSV,ar,ixA,ag,ak,ap,aH,ev_f,putS,Sf.set,Sf.reg,getR,setR,br,id,aI,al,ah,ai,List.length_cons,List.length_nil,List.append_nil,List.nil_append,List.cons_append,List.take_succ_cons,List.take_zero,Int.toNat_natCast,↓reduceIte,Nat.reduceEqDiff,Nat.reduceAdd,Nat.reduceLeDiff,Nat.zero_add,decide_true,List.length_map,bE,bI,e1,acAV]
  refine gg rfl e_f41 hc rfl ?_
  simp (config:=KF) (disch:=omega) only [bZ,List.contains_nil,ksB,a9,bG,bO,bd,nstB,bP,d5,fi,bL,ge,eX,gB,dR,ixSV,ar,ixA,ag,ak,ap,aH,putS,Sf.set,Sf.reg,getR,setR,aI,al,ah,ai,List.length_cons,List.length_nil,List.all_nil,List.nil_append,List.cons_append,List.take_succ_cons,List.take_zero,Int.toNat_natCast,↓reduceIte,Nat.reduceEqDiff,Nat.reduceAdd,Nat.reduceLeDiff,Bool.true_and,Bool.and_true,and_true,true_and,Nat.zero_add,decide_true,Bool.not_false,List.length_map,bE,bI,e2,rsAV,w2]
  rintro r st1 ⟨g',rfl,h2,gl,ho2⟩
  refine ⟨St.sub_nil _,?_⟩
  simp (config:=KF) (disch:=omega) only [bZ,List.contains_nil,ksB,a9,bG,bO,bd,cG,co,nstB,bP,dJ,cX,dP,d5,fi,bL,dQ,dn,eY,dz,eH,and_self,ao,ixSV,ar,ixA,ag,ak,ap,aH,ev_f,putS,Sf.set,Sf.reg,getR,setR,id,aI,al,ah,ai,List.length_cons,List.length_nil,List.all_nil,List.nil_append,List.cons_append,List.take_succ_cons,List.take_zero,Int.toNat_natCast,↓reduceIte,Nat.reduceEqDiff,Nat.reduceAdd,Nat.reduceLeDiff,Bool.true_and,Bool.and_true,and_true,true_and,Nat.zero_add,decide_true,Bool.not_false,List.length_map,bE,bI,e2,rsAV,w2]
  refine aF rfl e_f28 (he _) rfl ?_
  simp (config:=KF) (disch:=omega) only [bZ,aD,o_un,az,unA,d4,putS,Sf.set,Sf.reg,getR,setR,aa,Sf.disAt,↓reduceIte,Nat.reduceEqDiff,Bool.not_true,IntWalk.i64_in,cu,f10_32e,f10_35e,f10_35l]
  refine hK (i + 1,g',st1) _ ⟨h,?_,by simp only; omega,ho.trans ho2⟩ (by simp only; omega) (Sf.le_refl _)
  simp only
  rw [hs]
  exact h2

theorem known_ba {st0:St} {b b5 b6:Nat} {x:Ln} {p:Int} {s:Int×List Int} (hs1:s.1≤1000) {on:List Ac} {want:List Rs} (h0:BaIs st0 b x p s.1 s.2 0) (hlen:on.length = want.length) (hn:on.length≤100) (hw:∀ y ∈ want,y.2.2.1.length≤1000) (hok:mOk (baF p) s on want = true) (Q:Exit→Sf→St→Prop)
    (hQ:∀ st' g,BaIs st' b x p (mRun (baF p) s on).1 (mRun (baF p) s on).2 g→Oth st0 st' (b::x.ids)→Q .normal ⟨[(3,.ptr b 0),(5,.ptr b5 0),(6,.ptr b6 0)],[]⟩ st') :
    aC Go.Proofs.Try.prog id false f10_43 ⟨[(3,.ptr b 0),(5,.ptr b5 0),(6,.ptr b6 0),(7,.sl true 4 (on.map acAV)),(8,.sl true 4 (want.map rsAV)),(10,.lit (.int .i64 0))],[]⟩ st0 Q:=by
  simp (config:=KF) (disch:=omega) only [f10_43e]
  rw [f10_44w]
  refine ef (A:=Nat×Nat×St) (fun a=>on.length - a.1) (fun a=>⟨[(3,.ptr b 0),(5,.ptr b5 0),(6,.ptr b6 0),(7,.sl true 4 (on.map acAV)),(8,.sl true 4 (want.map rsAV)),(10,.lit (.int .i64 (a.1:Nat)))],[]⟩) (fun a=>a.2.2)
    (fun a=>a.1≤on.length∧BaIs a.2.2 b x p (mRun (baF p) s (on.take a.1)).1 (mRun (baF p) s (on.take a.1)).2 a.2.1∧a.2.1≤a.1∧Oth st0 a.2.2 (b::x.ids)) (0,0,st0) ⟨by simp,by simpa [mRun] using h0,by simp,.refl ..⟩ (Sf.le_refl _) rfl ?_
  rintro ⟨i,g,st⟩ ⟨hi,h1,hg,ho⟩ K hK hKe hKr
  simp only at hi h1 hg ho
  dsimp only
  by_cases h:i < on.length
  case neg =>
    have e:on.take i = on:=List.take_of_length_le (by omega)
    rw [e] at h1
    simp (config:=KF) (disch:=omega) only [bZ,cT,dX,cw,lenI,bS,putS,Sf.set,Sf.reg,getR,setR,aa,aI,↓reduceIte,Nat.reduceEqDiff,List.length_map,bH,f10_45e,f10_46e,f10_47e,f10_47l,f10_48e]
    refine hKe _ _ _ ?_
    simp (config:=KF) (disch:=omega) only [ci,↓reduceIte]
    exact hQ _ g h1 ho
  have hj:i < want.length:=by omega
  have e1:(on.map acAV).getD i .any = acAV on[i]:=by simp [List.getD,h]
  have e2:(want.map rsAV).getD i .any = rsAV want[i]:=by simp [List.getD,hj]
  have hr:(baDo p (mRun (baF p) s (on.take i)).1 (mRun (baF p) s (on.take i)).2 on[i]).2 = want[i]:=mP hok i h hj
  have hs:=iY (baF p) s h
  have hy:=hw _ (List.getElem_mem hj)
  obtain ⟨w1,w2,w3,w4,w5,w6,w7⟩:=cg want[i].2.2.1
  have he:∀ st,bg Go.Proofs.Try.prog n_f28 [(rsAV want[i]).dis,(rsAV want[i]).dis] st (.lit (.bool true)):=fun st=>by
    have:=gx want[i] want[i] (by omega) (by omega) st
    rw [(db _).1]
    simpa using this
  have hc:=baon_calls h1 (by omega) (by have:=baRun_le p s (on.take i); have:=List.length_take_le i on; omega) on[i]
  rw [hr] at hc
  simp (config:=KF) (disch:=omega) only [bZ,cw,lenI,bS,putS,Sf.set,Sf.reg,getR,setR,aa,aI,↓reduceIte,Nat.reduceEqDiff,Bool.true_and,true_and,List.length_map,bq,f10_45e,f10_46e,f10_47e,f10_47l,f10_48e,f10_49e,f10_50e,f10_51e,f10_52e,f10_52h,f10_52p,f10_52l]
  refine gC ⟨[]⟩ (St.sub_nil _) ?_
  simp (config:=KF) (disch:=omega) only [bZ,dJ,cX,dP,d5,fi,bL,gf,eL,gJ,gK,eR,ixSV,ar,ixA,ag,ak,ap,aH,ev_f,putS,Sf.set,Sf.reg,getR,setR,br,id,aI,al,ah,ai,List.length_cons,List.length_nil,List.append_nil,List.nil_append,List.cons_append,List.take_succ_cons,List.take_zero,Int.toNat_natCast,↓reduceIte,Nat.reduceEqDiff,Nat.reduceAdd,Nat.reduceLeDiff,Nat.zero_add,decide_true,List.length_map,bE,bI,e1,acAV]
  refine gg rfl e_f13 hc rfl ?_
  simp (config:=KF) (disch:=omega) only [bZ,List.contains_nil,ksB,a9,bG,bO,bd,nstB,bP,d5,fi,bL,ge,eX,gB,dR,ixSV,ar,ixA,ag,ak,ap,aH,putS,Sf.set,Sf.reg,getR,setR,aI,al,ah,ai,List.length_cons,List.length_nil,List.all_nil,List.nil_append,List.cons_append,List.take_succ_cons,List.take_zero,Int.toNat_natCast,↓reduceIte,Nat.reduceEqDiff,Nat.reduceAdd,Nat.reduceLeDiff,Bool.true_and,Bool.and_true,and_true,true_and,Nat.zero_add,decide_true,Bool.not_false,List.length_map,bE,bI,e2,rsAV,w2]
  rintro r st1 ⟨g',rfl,h2,gl,ho2⟩
  refine ⟨St.sub_nil _,?_⟩
  simp (config:=KF) (disch:=omega) only [bZ,List.contains_nil,ksB,a9,bG,bO,bd,cG,co,nstB,bP,dJ,cX,dP,d5,fi,bL,dQ,dn,eY,dz,eH,and_self,ao,ixSV,ar,ixA,ag,ak,ap,aH,ev_f,putS,Sf.set,Sf.reg,getR,setR,id,aI,al,ah,ai,List.length_cons,List.length_nil,List.all_nil,List.nil_append,List.cons_append,List.take_succ_cons,List.take_zero,Int.toNat_natCast,↓reduceIte,Nat.reduceEqDiff,Nat.reduceAdd,Nat.reduceLeDiff,Bool.true_and,Bool.and_true,and_true,true_and,Nat.zero_add,decide_true,Bool.not_false,List.length_map,bE,bI,e2,rsAV,w2]
  refine aF rfl e_f28 (he _) rfl ?_
  simp (config:=KF) (disch:=omega) only [bZ,aD,o_un,az,unA,d4,putS,Sf.set,Sf.reg,getR,setR,aa,Sf.disAt,↓reduceIte,Nat.reduceEqDiff,Bool.not_true,IntWalk.i64_in,cu,f10_53e,f10_56e,f10_56l]
  refine hK (i + 1,g',st1) _ ⟨h,?_,by simp only; omega,ho.trans ho2⟩ (by simp only; omega) (Sf.le_refl _)
  simp only
  rw [hs]
  exact h2

theorem known_on {st0:St} {b b3 b6:Nat} {x:Ln} {s:Int×List Int×Bool} {on:List Ac} {want:List Rs} (h0:OwIs st0 b x (.lit (.bool s.2.2)) s.1 s.2.1 0) (hlen:on.length = want.length) (hn:on.length≤100) (hw:∀ y ∈ want,y.2.2.1.length≤1000) (hok:mOk onF s on want = true) (Q:Exit→Sf→St→Prop)
    (hQ:∀ st' g,OwIs st' b x (.lit (.bool (mRun onF s on).2.2)) (mRun onF s on).1 (mRun onF s on).2.1 g→Oth st0 st' (b::x.ids)→Q .normal ⟨[(3,.ptr b3 0),(6,.ptr b6 0)],[]⟩ st') :
    aC Go.Proofs.Try.prog id false f10_64 ⟨[(3,.ptr b3 0),(5,.ptr b 0),(6,.ptr b6 0),(7,.sl true 4 (on.map acAV)),(8,.sl true 4 (want.map rsAV)),(11,.lit (.int .i64 0))],[]⟩ st0 Q:=by
  simp (config:=KF) (disch:=omega) only [f10_64e]
  rw [f10_65w]
  refine ef (A:=Nat×Nat×St) (fun a=>on.length - a.1) (fun a=>⟨[(3,.ptr b3 0),(5,.ptr b 0),(6,.ptr b6 0),(7,.sl true 4 (on.map acAV)),(8,.sl true 4 (want.map rsAV)),(11,.lit (.int .i64 (a.1:Nat)))],[]⟩) (fun a=>a.2.2)
    (fun a=>a.1≤on.length∧OwIs a.2.2 b x (.lit (.bool (mRun onF s (on.take a.1)).2.2)) (mRun onF s (on.take a.1)).1 (mRun onF s (on.take a.1)).2.1 a.2.1∧a.2.1≤a.1∧Oth st0 a.2.2 (b::x.ids)) (0,0,st0) ⟨by simp,by simpa [mRun] using h0,by simp,.refl ..⟩ (Sf.le_refl _) rfl ?_
  rintro ⟨i,g,st⟩ ⟨hi,h1,hg,ho⟩ K hK hKe hKr
  simp only at hi h1 hg ho
  dsimp only
  by_cases h:i < on.length
  case neg =>
    have e:on.take i = on:=List.take_of_length_le (by omega)
    rw [e] at h1
    simp (config:=KF) (disch:=omega) only [bZ,cT,dX,cw,lenI,bS,putS,Sf.set,Sf.reg,getR,setR,aa,aI,↓reduceIte,Nat.reduceEqDiff,List.length_map,bH,f10_66e,f10_67e,f10_68e,f10_68l,f10_69e]
    refine hKe _ _ _ ?_
    simp (config:=KF) (disch:=omega) only [ci,↓reduceIte]
    exact hQ _ g h1 ho
  have hj:i < want.length:=by omega
  have e1:(on.map acAV).getD i .any = acAV on[i]:=by simp [List.getD,h]
  have e2:(want.map rsAV).getD i .any = rsAV want[i]:=by simp [List.getD,hj]
  have hr:(onDo (mRun onF s (on.take i)).1 (mRun onF s (on.take i)).2.1 (mRun onF s (on.take i)).2.2 on[i]).2 = want[i]:=mP hok i h hj
  have hs:=iY onF s h
  have hy:=hw _ (List.getElem_mem hj)
  obtain ⟨w1,w2,w3,w4,w5,w6,w7⟩:=cg want[i].2.2.1
  have he:∀ st,bg Go.Proofs.Try.prog n_f28 [(rsAV want[i]).dis,(rsAV want[i]).dis] st (.lit (.bool true)):=fun st=>by
    have:=gx want[i] want[i] (by omega) (by omega) st
    rw [(db _).1]
    simpa using this
  have hc:=onon_calls h1 (by omega) on[i]
  rw [hr] at hc
  simp (config:=KF) (disch:=omega) only [bZ,cw,lenI,bS,putS,Sf.set,Sf.reg,getR,setR,aa,aI,↓reduceIte,Nat.reduceEqDiff,Bool.true_and,true_and,List.length_map,bq,f10_66e,f10_67e,f10_68e,f10_68l,f10_69e,f10_70e,f10_71e,f10_72e,f10_73e,f10_73h,f10_73p,f10_73l]
  refine gC ⟨[]⟩ (St.sub_nil _) ?_
  simp (config:=KF) (disch:=omega) only [bZ,dJ,cX,dP,d5,fi,bL,gf,eL,gJ,gK,eR,ixSV,ar,ixA,ag,ak,ap,aH,ev_f,putS,Sf.set,Sf.reg,getR,setR,br,id,aI,al,ah,ai,List.length_cons,List.length_nil,List.append_nil,List.nil_append,List.cons_append,List.take_succ_cons,List.take_zero,Int.toNat_natCast,↓reduceIte,Nat.reduceEqDiff,Nat.reduceAdd,Nat.reduceLeDiff,Nat.zero_add,decide_true,List.length_map,bE,bI,e1,acAV]
  refine gg rfl e_f16 hc rfl ?_
  simp (config:=KF) (disch:=omega) only [bZ,List.contains_nil,ksB,a9,bG,bO,bd,nstB,bP,d5,fi,bL,ge,eX,gB,dR,ixSV,ar,ixA,ag,ak,ap,aH,putS,Sf.set,Sf.reg,getR,setR,aI,al,ah,ai,List.length_cons,List.length_nil,List.all_nil,List.nil_append,List.cons_append,List.take_succ_cons,List.take_zero,Int.toNat_natCast,↓reduceIte,Nat.reduceEqDiff,Nat.reduceAdd,Nat.reduceLeDiff,Bool.true_and,Bool.and_true,and_true,true_and,Nat.zero_add,decide_true,Bool.not_false,List.length_map,bE,bI,e2,rsAV,w2]
  rintro r st1 ⟨g',rfl,h2,gl,ho2⟩
  refine ⟨St.sub_nil _,?_⟩
  simp (config:=KF) (disch:=omega) only [bZ,List.contains_nil,ksB,a9,bG,bO,bd,cG,co,nstB,bP,dJ,cX,dP,d5,fi,bL,dQ,dn,eY,dz,eH,and_self,ao,ixSV,ar,ixA,ag,ak,ap,aH,ev_f,putS,Sf.set,Sf.reg,getR,setR,id,aI,al,ah,ai,List.length_cons,List.length_nil,List.all_nil,List.nil_append,List.cons_append,List.take_succ_cons,List.take_zero,Int.toNat_natCast,↓reduceIte,Nat.reduceEqDiff,Nat.reduceAdd,Nat.reduceLeDiff,Bool.true_and,Bool.and_true,and_true,true_and,Nat.zero_add,decide_true,Bool.not_false,List.length_map,bE,bI,e2,rsAV,w2]
  refine aF rfl e_f28 (he _) rfl ?_
  simp (config:=KF) (disch:=omega) only [bZ,aD,o_un,az,unA,d4,putS,Sf.set,Sf.reg,getR,setR,aa,Sf.disAt,↓reduceIte,Nat.reduceEqDiff,Bool.not_true,IntWalk.i64_in,cu,f10_74e,f10_77e,f10_77l]
  refine hK (i + 1,g',st1) _ ⟨h,?_,by simp only; omega,ho.trans ho2⟩ (by simp only; omega) (Sf.le_refl _)
  simp only
  rw [hs]
  exact h2

theorem known_co {st0:St} {b b3:Nat} {x y:Ln} {s:Int×List Int×List Int} {on:List Ac} {want:List Rs} (h0:CoIs st0 b x y s.1 s.2.1 s.2.2 0 0) (hlen:on.length = want.length) (hn:on.length≤100) (hw:∀ y ∈ want,y.2.2.1.length≤1000) (hok:mOk coF s on want = true) (Q:Exit→Sf→St→Prop)
    (hQ:∀ st' g k,CoIs st' b x y (mRun coF s on).1 (mRun coF s on).2.1 (mRun coF s on).2.2 g k→Oth st0 st' (b::(x.ids++y.ids))→Q .normal ⟨[(3,.ptr b3 0)],[]⟩ st') :
    aC Go.Proofs.Try.prog id false f10_85 ⟨[(3,.ptr b3 0),(6,.ptr b 0),(7,.sl true 4 (on.map acAV)),(8,.sl true 4 (want.map rsAV)),(12,.lit (.int .i64 0))],[]⟩ st0 Q:=by
  simp (config:=KF) (disch:=omega) only [f10_85e]
  rw [f10_86w]
  refine ef (A:=Nat×(Nat×Nat)×St) (fun a=>on.length - a.1) (fun a=>⟨[(3,.ptr b3 0),(6,.ptr b 0),(7,.sl true 4 (on.map acAV)),(8,.sl true 4 (want.map rsAV)),(12,.lit (.int .i64 (a.1:Nat)))],[]⟩) (fun a=>a.2.2)
    (fun a=>a.1≤on.length∧CoIs a.2.2 b x y (mRun coF s (on.take a.1)).1 (mRun coF s (on.take a.1)).2.1 (mRun coF s (on.take a.1)).2.2 a.2.1.1 a.2.1.2∧(a.2.1.1≤64 * a.1∧a.2.1.2≤a.1)∧Oth st0 a.2.2 (b::(x.ids++y.ids))) (0,(0,0),st0) ⟨by simp,by simpa [mRun] using h0,by simp,.refl ..⟩ (Sf.le_refl _) rfl ?_
  rintro ⟨i,⟨g,k⟩,st⟩ ⟨hi,h1,hg,ho⟩ K hK hKe hKr
  simp only at hi h1 hg ho
  dsimp only
  by_cases h:i < on.length
  case neg =>
    have e:on.take i = on:=List.take_of_length_le (by omega)
    rw [e] at h1
    simp (config:=KF) (disch:=omega) only [bZ,cT,dX,cw,lenI,bS,putS,Sf.set,Sf.reg,getR,setR,aa,aI,↓reduceIte,Nat.reduceEqDiff,List.length_map,bH,f10_87e,f10_88e,f10_89e,f10_89l,f10_90e]
    refine hKe _ _ _ ?_
    simp (config:=KF) (disch:=omega) only [ci,↓reduceIte]
    exact hQ _ g k h1 ho
  have hj:i < want.length:=by omega
  have e1:(on.map acAV).getD i .any = acAV on[i]:=by simp [List.getD,h]
  have e2:(want.map rsAV).getD i .any = rsAV want[i]:=by simp [List.getD,hj]
  have hr:(coDo (mRun coF s (on.take i)).1 (mRun coF s (on.take i)).2.1 (mRun coF s (on.take i)).2.2 on[i]).2 = want[i]:=mP hok i h hj
  have hs:=iY coF s h
  have hy:=hw _ (List.getElem_mem hj)
  obtain ⟨w1,w2,w3,w4,w5,w6,w7⟩:=cg want[i].2.2.1
  have he:∀ st,bg Go.Proofs.Try.prog n_f28 [(rsAV want[i]).dis,(rsAV want[i]).dis] st (.lit (.bool true)):=fun st=>by
    have:=gx want[i] want[i] (by omega) (by omega) st
    rw [(db _).1]
    simpa using this
  have hc:=ei h1 (by omega) (by omega) on[i]
  rw [hr] at hc
  simp (config:=KF) (disch:=omega) only [bZ,cw,lenI,bS,putS,Sf.set,Sf.reg,getR,setR,aa,aI,↓reduceIte,Nat.reduceEqDiff,Bool.true_and,true_and,List.length_map,bq,f10_87e,f10_88e,f10_89e,f10_89l,f10_90e,f10_91e,f10_92e,f10_93e,f10_94e,f10_94h,f10_94p,f10_94l]
  refine gC ⟨[]⟩ (St.sub_nil _) ?_
  simp (config:=KF) (disch:=omega) only [bZ,dJ,cX,dP,d5,fi,bL,gf,eL,gJ,gK,eR,ixSV,ar,ixA,ag,ak,ap,aH,ev_f,putS,Sf.set,Sf.reg,getR,setR,br,id,aI,al,ah,ai,List.length_cons,List.length_nil,List.append_nil,List.nil_append,List.cons_append,List.take_succ_cons,List.take_zero,Int.toNat_natCast,↓reduceIte,Nat.reduceEqDiff,Nat.reduceAdd,Nat.reduceLeDiff,Nat.zero_add,decide_true,List.length_map,bE,bI,e1,acAV]
  refine gg rfl e_f18 hc rfl ?_
  simp (config:=KF) (disch:=omega) only [bZ,List.contains_nil,ksB,a9,bG,bO,bd,nstB,bP,d5,fi,bL,ge,eX,gB,dR,ixSV,ar,ixA,ag,ak,ap,aH,putS,Sf.set,Sf.reg,getR,setR,aI,al,ah,ai,List.length_cons,List.length_nil,List.all_nil,List.nil_append,List.cons_append,List.take_succ_cons,List.take_zero,Int.toNat_natCast,↓reduceIte,Nat.reduceEqDiff,Nat.reduceAdd,Nat.reduceLeDiff,Bool.true_and,Bool.and_true,and_true,true_and,Nat.zero_add,decide_true,Bool.not_false,List.length_map,bE,bI,e2,rsAV,w2]
  rintro r st1 ⟨g',k',rfl,h2,gl,kl,ho2⟩
  refine ⟨St.sub_nil _,?_⟩
  simp (config:=KF) (disch:=omega) only [bZ,List.contains_nil,ksB,a9,bG,bO,bd,cG,co,nstB,bP,dJ,cX,dP,d5,fi,bL,dQ,dn,eY,dz,eH,and_self,ao,ixSV,ar,ixA,ag,ak,ap,aH,ev_f,putS,Sf.set,Sf.reg,getR,setR,id,aI,al,ah,ai,List.length_cons,List.length_nil,List.all_nil,List.nil_append,List.cons_append,List.take_succ_cons,List.take_zero,Int.toNat_natCast,↓reduceIte,Nat.reduceEqDiff,Nat.reduceAdd,Nat.reduceLeDiff,Bool.true_and,Bool.and_true,and_true,true_and,Nat.zero_add,decide_true,Bool.not_false,List.length_map,bE,bI,e2,rsAV,w2]
  refine aF rfl e_f28 (he _) rfl ?_
  simp (config:=KF) (disch:=omega) only [bZ,aD,o_un,az,unA,d4,putS,Sf.set,Sf.reg,getR,setR,aa,Sf.disAt,↓reduceIte,Nat.reduceEqDiff,Bool.not_true,IntWalk.i64_in,cu,f10_95e,f10_98e,f10_98l]
  refine hK (i + 1,(g',k'),st1) _ ⟨h,?_,by simp only; omega,ho.trans ho2⟩ (by simp only; omega) (Sf.le_refl _)
  simp only
  rw [hs]
  exact h2

end Go.Fx.YtphaaebhgggbaaaFx

