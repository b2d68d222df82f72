/- What the functions that the statement reaches compute: part 46. -/
import Derived.Test.YtbomoaajkinfpaaFxW45
namespace Go.Fx.YtbomoaajkinfpaaFx
open Go Go.Fx
attribute [local irreducible] aC runI aw aB

set_option maxRecDepth 100000
set_option maxHeartbeats 8000000

theorem jr (l:List Int) (acts:List A7) (cs:List Cs) (at':Int) (hl:l.length≤9223372036854775807) (hll:∀ a ∈ acts,a.2.2.2.1.length≤9223372036854775807) (hcs:cs.length≤9223372036854775807):aA Go.Proofs.Try.prog n_f6 [.sl false 1 (ints l),cr acts,.sl false 3 (cs.map csAV),.lit (.int .i64 at')] ⟨[]⟩ (fun v _=>v = .lit (.bool true)):=by
  refine ap hmix k_f6 rfl rfl fun Q hQ=>?_
  unfold aFun c_f6
  have hgl:=oY acts
  have hkn:∀ st:St,Q (.lit (.bool true)) st:=fun st=>hQ _ _ rfl
  unfold cr
  simp (config:=KF) (disch:=omega) only [bZ,id,↓reduceIte,Nat.reduceEqDiff,Nat.reduceAdd,reduceCtorEq]
  refine au rfl e_f23 (rnew_calls (l:=l) hl _) rfl fun r st1 hr=>?_
  obtain ⟨hk1,hr⟩:=hr
  by_cases h0:20 < l.length
  · have hok:okL l = false:=by unfold okL; rw [decide_eq_false (by omega)]; rfl
    rw [hok,if_neg (by simp)] at hr
    subst hr
    simp (config:=KF) (disch:=omega) only [bZ,AI.dst,am,lenI,dZ,id,dH,bN,dI,↓reduceIte,Nat.reduceEqDiff,Nat.reduceAdd,Nat.reduceLeDiff,reduceCtorEq,de,f6_5e,rfA,wtS,al]
    refine au rfl e_f10 (ek _) rfl fun r st1 hr=>?_
    subst hr
    simp (config:=KF) (disch:=omega) only [bZ,retI,↓reduceIte,Nat.reduceEqDiff,reduceCtorEq]
    exact hkn _
  have hhead:∀ (rv:AV) (er:Int) (st:St),AV.isCh rv→(∀ hx:acts.length≤40∧(acts.all fun a=>decide (a.2.2.2.1.length≤20)) = true∧er = 0,aC Go.Proofs.Try.prog id false f6_11 ⟨[(0,.sl false 1 (ints l)),(1,.sl false 5 (a7s acts)),(2,.sl false 3 (cs.map csAV)),(3,.lit (.int .i64 at')),(9,.lptr 9 0),(58,.lit (.bool false))],[(9,[rv,.lit (.slice none 0 0)])]⟩ st (retQ [RI.tmp 8] Q)) →
      aC Go.Proofs.Try.prog id false f6_5 ⟨[(0,.sl false 1 (ints l)),(1,.sl false 5 (a7s acts)),(2,.sl false 3 (cs.map csAV)),(3,.lit (.int .i64 at')),(9,.lptr 9 0),(10,.lit (.int .i64 er))],[(9,[rv,.lit (.slice none 0 0)])]⟩ st (retQ [RI.tmp 8] Q):=fun rv er st hc hx=>by
    obtain ⟨c1,c2,c3,c4,c5,c6,c7⟩:=hc
    by_cases h1:40 < acts.length
    · simp (config:=KF) (disch:=omega) only [bZ,AI.dst,lenI,dZ,id,↓reduceIte,Nat.reduceEqDiff,reduceCtorEq,de,cp,f6_5e,al,hgl]
      refine au rfl e_f10 (ek _) rfl fun r st1 hr=>?_
      subst hr
      simp (config:=KF) (disch:=omega) only [bZ,retI,↓reduceIte,Nat.reduceEqDiff,reduceCtorEq]
      exact hkn _
    have hfw:=few_pure acts (by omega) hll st
    unfold cr at hfw
    simp (config:=KF) (disch:=omega) only [bZ,AI.dst,lenI,dZ,id,↓reduceIte,Nat.reduceEqDiff,reduceCtorEq,cp,f6_5e,al,hgl]
    refine ao rfl e_f9 hfw rfl ?_
    cases hfl:acts.all fun a=>decide (a.2.2.2.1.length≤20) with
    | false =>
      simp (config:=KF) (disch:=omega) only [bZ,AI.dst,unA,id,↓reduceIte,Nat.reduceEqDiff,reduceCtorEq]
      refine au rfl e_f10 (ek _) rfl fun r st1 hr=>?_
      subst hr
      simp (config:=KF) (disch:=omega) only [bZ,retI,↓reduceIte,Nat.reduceEqDiff,reduceCtorEq]
      exact hkn _
    | true =>
      by_cases he:er = 0
      · have hy:=hx ⟨by omega,hfl,he⟩
        subst he
        simp (config:=KF) (disch:=omega) only [bZ,AI.dst,unA,↓reduceIte,Nat.reduceEqDiff,reduceCtorEq,not_true_eq_false]
        exact hy
      · simp (config:=KF) (disch:=omega) only [bZ,AI.dst,unA,id,↓reduceIte,Nat.reduceEqDiff,reduceCtorEq,aM]
        refine au rfl e_f10 (ek _) rfl fun r st1 hr=>?_
        subst hr
        simp (config:=KF) (disch:=omega) only [bZ,retI,↓reduceIte,Nat.reduceEqDiff,reduceCtorEq]
        exact hkn _
  cases hok:okL l with
  | false =>
    rw [hok,if_neg (by simp)] at hr
    subst hr
    simp (config:=KF) (disch:=omega) only [bZ,am,dH,bN,dI,↓reduceIte,Nat.reduceEqDiff,Nat.reduceAdd,Nat.reduceLeDiff,reduceCtorEq,rfA,wtS]
    refine hhead _ 2 _ ⟨rfl,rfl,rfl,rfl,rfl,rfl,fun _=>rfl⟩ fun hx=>?_
    exact absurd hx.2.2 (by decide)
  | true =>
  rw [hok,if_pos rfl] at hr
  obtain ⟨rv,F,rfl,hrc,hF⟩:=hr
  obtain ⟨c1,c2,c3,c4,c5,c6,c7⟩:=hrc.isCh
  simp (config:=KF) (disch:=omega) only [bZ,am,dH,bN,dI,↓reduceIte,Nat.reduceEqDiff,Nat.reduceAdd,Nat.reduceLeDiff,reduceCtorEq,rfA,wtS,c2,c4]
  refine hhead _ 0 _ hrc.isCh fun hx=>?_
  obtain ⟨hx1,hx2,_⟩:=hx
  have hfa:=few_all hx2
  simp (config:=KF) (disch:=omega) only [bZ,id,↓reduceIte,Nat.reduceEqDiff,reduceCtorEq,f6_11e]
  refine au rfl e_f11 (mw (l:=l) (.inr rfl) (by omega) _) rfl fun r st2 hr=>?_
  obtain ⟨hk2,hr⟩:=hr
  rw [hok,if_pos rfl] at hr
  obtain ⟨s,rfl,mid,cv,ov,L,h,hids⟩:=hr
  have hlt:=h.is.lts
  have hmp:=MapIs.new st2 .i64 csSl
  have hk3:Kp st2 (st2.push (.mp [] [] 0)) []:=⟨by simp [St.push],fun id hid _=>bu hid⟩
  have hb:HB (st2.push (.mp [] [] 0)) s mid st2.boxes.length cv ov rv L (newR l) [] 0 (newR l).ch F:=⟨h.kp hk3 (fun _ _ e=>by cases e),hmp,fun e=>by have:=hlt _ e; omega,nr_new l,(fun w hw=>by cases hw),(fun w hw=>by cases hw),hrc.at fun x hx=>(hk3.2 x (Nat.lt_of_lt_of_le (hF x hx).2 hk2.1) (by simp)).trans (hk2.2 x (hF x hx).2 (by simp)),fun x hx=>Nat.lt_of_lt_of_le (Nat.lt_of_lt_of_le (hF x hx).2 hk2.1) hk3.1,fun x hx=>⟨fun e=>by have:=(hF x hx).2; have:=hids x e; omega,fun e=>by have:=(hF x hx).2; have:=hk2.1; omega⟩,rfl⟩
  simp (config:=KF) (disch:=omega) only [bZ,AI.dst,gO,cT,cb,bz,lU,↓reduceIte,Nat.reduceEqDiff,reduceCtorEq,not_true_eq_false]
  refine hold0 (acts:=acts) (n:=0) (by omega) hfa hb (fun t=>rfl) (by omega) fun st4 cv4 ov4 L4 R4 M4 n4 hb4 hl4 hn4=>?_
  clear hb
  have hlen4:=hb4.sel.len
  have hcl4:R4.ch.length = L4.length:=by rw [← hb4.sel.ob,gU]
  have hval:=rvalid_pure hb4.ref (by rw [← hb4.chl,hcl4]; exact hlen4) [] (l:=cs) hcs
  obtain ⟨w1,w2,w3,w4,w5,w6,w7,w8⟩:=jW []
  obtain ⟨r1,r2⟩:=rf_dis hb4.ref.isCh []
  have e0:wtS [] = .lit (.slice none 0 0):=rfl
  simp only [rfA,e0] at hval r1 r2
  rw [← hb4.chl] at hval
  simp (config:=KF) (disch:=omega) only [bZ,aa,id,↓reduceIte,Nat.reduceEqDiff,Nat.reduceAdd,Nat.reduceLeDiff,c2]
  refine ao (by simp only [List.map_cons,List.map_nil,r1]; rfl) e_f28 hval (by simp only [List.all_cons,List.all_nil,r2]; rfl) ?_
  cases hv:a9 R4.ch.length cs with
  | false =>
    simp (config:=KF) (disch:=omega) only [bZ,AI.dst,unA,id,↓reduceIte,Nat.reduceEqDiff]
    refine au rfl e_f10 (ek _) rfl fun r st1 hr=>?_
    subst hr
    simp (config:=KF) (disch:=omega) only [bZ,retI,↓reduceIte,Nat.reduceEqDiff]
    exact hkn _
  | true =>
  have hvf:=cq hv
  by_cases ha0:at' < 0
  · simp (config:=KF) (disch:=omega) only [bZ,AI.dst,unA,id,↓reduceIte,Nat.reduceEqDiff,de]
    refine au rfl e_f10 (ek _) rfl fun r st1 hr=>?_
    subst hr
    simp (config:=KF) (disch:=omega) only [bZ,retI,↓reduceIte,Nat.reduceEqDiff]
    exact hkn _
  by_cases ha1:(cs.length:Int)≤at'
  · simp (config:=KF) (disch:=omega) only [bZ,AI.dst,lenI,unA,e8,id,↓reduceIte,Nat.reduceEqDiff,de,cp]
    refine au rfl e_f10 (ek _) rfl fun r st1 hr=>?_
    subst hr
    simp (config:=KF) (disch:=omega) only [bZ,retI,↓reduceIte,Nat.reduceEqDiff]
    exact hkn _
  obtain ⟨r,hr,hwt⟩:=nL hb4.sel
  have hrl:r.dis = r.dis∧∀ st',lenI .sl st' r.dis = .ok (.lit (.int .i64 (R4.ws.length:Nat))):=by
    rcases hr with rfl | ⟨rfl,e⟩
    · exact ⟨rfl,fun st'=>by simp [lenI,AV.dis,ints]⟩
    · rw [List.map_eq_nil_iff] at e
      rw [e]
      exact ⟨rfl,fun st'=>rfl⟩
  have hfw4:=hb4.sel.few
  have hrest:R4.ws.length≤63→aC Go.Proofs.Try.prog id false f6_100 ⟨[(2,.sl false 3 (cs.map csAV)),(3,.lit (.int .i64 at')),(11,.ptr s 0),(13,.map st2.boxes.length),(217,.lit (.bool false))],[]⟩ st4 (retQ [RI.tmp 8] Q):=fun hw63=>by
    have hrd:=gD hb4.sel (v:=.sl false 3 (cs.map csAV)) (l:=cs) (.inl (.inl (by unfold csSl; rw [if_neg hvf.2.2.2]))) (by have:=hvf.1; omega)
    rw [if_pos hv,if_pos hv] at hrd
    obtain ⟨i1,i2,i3,i4',i5,i6,i7,i8⟩:=c9 (aE R4 0 cs)
    simp (config:=KF) (disch:=omega) only [bZ,↓reduceIte,Nat.reduceEqDiff,f6_100e]
    refine hold6 hb4.sel hb4.mp hl4 hw63 fun f hf hlf=>?_
    simp (config:=KF) (disch:=omega) only [bZ,id,↓reduceIte,Nat.reduceEqDiff]
    refine ao rfl e_f27 hrd rfl ?_
    simp (config:=KF) (disch:=omega) only [bZ,↓reduceIte,Nat.reduceEqDiff,i1,i3]
    refine hold8 hb4.sel (by omega) hf hlf hv ⟨by omega,by omega⟩ fun st5 c hc=>?_
    simp (config:=KF) (disch:=omega) only [bZ,AI.dst,n_leq,id,↓reduceIte,Nat.reduceEqDiff,de]
    refine au rfl e_f10 (ek _) rfl fun r st1 hr=>?_
    subst hr
    simp (config:=KF) (disch:=omega) only [bZ,retI,↓reduceIte,Nat.reduceEqDiff]
    exact hkn _
  have hlw:∀ st',lenI .sl st' r = .ok (.lit (.int .i64 (R4.ws.length:Nat))):=by
    rcases hr with rfl | ⟨rfl,e⟩
    · exact fun st'=>by simp [lenI,ints]
    · rw [List.map_eq_nil_iff] at e
      rw [e]
      exact fun st'=>rfl
  by_cases hw63:63 < R4.ws.length
  · rcases hr with rfl | ⟨rfl,e⟩
    · simp (config:=KF) (disch:=omega) only [bZ,AI.dst,lenI,unA,e8,id,↓reduceIte,Nat.reduceEqDiff,cp]
      refine ao rfl e_f26 hwt rfl ?_
      simp (config:=KF) (disch:=omega) only [bZ,AI.dst,dZ,id,↓reduceIte,Nat.reduceEqDiff,aM,hlw]
      refine au rfl e_f10 (ek _) rfl fun r st1 hr=>?_
      subst hr
      simp (config:=KF) (disch:=omega) only [bZ,retI,↓reduceIte,Nat.reduceEqDiff]
      exact hkn _
    · rw [List.map_eq_nil_iff] at e
      rw [e] at hw63
      cases hw63
  · have hrs:=hrest (by omega)
    rcases hr with rfl | ⟨rfl,e⟩
    all_goals
      simp (config:=KF) (disch:=omega) only [bZ,AI.dst,lenI,unA,e8,id,↓reduceIte,Nat.reduceEqDiff,cp]
      refine ao rfl e_f26 hwt rfl ?_
      simp (config:=KF) (disch:=omega) only [bZ,AI.dst,dZ,↓reduceIte,Nat.reduceEqDiff,aY,hlw]
      exact hrs

theorem js {l:List Int} {acts:List A7T} {cs:List CsT} {at':Int} (hl:l.length≤maxLen) (hx:∀ x ∈ acts,x.2.2.2.1.length≤maxLen) (hc:cs.length≤maxLen):aA Go.Proofs.Try.prog n_f6 [.sl false 1 (l.map fun x=>.lit (.int .i64 x)),.sl false 5 (acts.map fun x=>.agg [.lit (.int .i64 x.1),.lit (.int .i64 x.2.1),.lit (.int .i64 x.2.2.1),.sl false 3 (x.2.2.2.1.map fun y=>.agg [.lit (.int .i64 y.1),.lit (.bool y.2.1),.lit (.int .i64 y.2.2.1)]),.lit (.bool x.2.2.2.2.1)]),.sl false 3 (cs.map fun y=>.agg [.lit (.int .i64 y.1),.lit (.bool y.2.1),.lit (.int .i64 y.2.2.1)]),.lit (.int .i64 at')] ⟨[]⟩ (fun v _=>v = .lit (.bool true)):=by
  rw [acts_arg]
  have e:(cs.map fun y=>AV.agg [.lit (.int .i64 y.1),.lit (.bool y.2.1),.lit (.int .i64 y.2.2.1)]) = (cs.map csOf).map csAV:=by
    rw [List.map_map]
    rfl
  rw [e]
  unfold maxLen at hl hx hc
  refine jr l _ _ _ (by omega) (fun a ha=>?_) (by rw [List.length_map]; omega)
  obtain ⟨x,hxm,rfl⟩:=List.mem_map.1 ha
  have:=hx x hxm
  simp only [a7Of,List.length_map]
  omega
end Go.Fx.YtbomoaajkinfpaaFx

