/- What the functions that the statement reaches compute: part 46. -/
import Derived.Test.YtbdjfccgkdgbfaaFxW45
namespace Go.Fx.YtbdjfccgkdgbfaaFx
open Go Go.Fx
attribute [local irreducible] aC runI az aA

set_option maxRecDepth 100000
set_option maxHeartbeats 4000000

theorem pAll_take {R:HR} {l:List Act} {i:Nat} (hi:i < l.length):pAll R (l.take (i + 1)) = (rDo l[i].w l[i].t l[i].p l[i].n l[i].o l[i].d (pAll R (l.take i))).1:=by
  rw [List.take_succ_eq_append_getElem hi]
  unfold pAll
  rw [List.foldl_append]
  rfl
theorem rDo_data (w t p k o:Int) (d:List UInt8) {R:HR} {n:Nat} (h:SOk R.subs n):(rDo w t p k o d R).2.data.length≤4096:=by
  unfold rDo
  split
  · exact Nat.zero_le _
  split
  · exact Nat.zero_le _
  split
  · exact Nat.zero_le _
  split
  · unfold bd
    rcases nN k R.subs 0 with ⟨p1,_⟩ | ⟨i,hi,p1,_⟩
    · rw [p1]; exact Nat.zero_le _
    · rw [p1]
      obtain ⟨o1,o2,_⟩:=h.ok R.subs[i] (List.getElem_mem hi)
      simp only
      split
      · exact Nat.zero_le _
      · rename_i m r hm
        rw [hm] at o1
        simp only [used] at o1
        simp only
        omega
  split
  · exact Nat.zero_le _
  · exact Nat.zero_le _
theorem plays_calls {st:St} {h wid n:Nat} {R:HR} {F:List Nat} {l:List Act} (hl:l.length≤100) (hfew:∀ a ∈ l,a.d.length≤100000) (hh:HubR st h wid n R F) (hF:∀ x ∈ F,x < st.boxes.length) (hn:n≤100000) :
    al Go.Proofs.Try.prog n_f18 [.ptr h 0,rV R,.sl false 6 (l.map actV)] st (fun r st'=>r = .tup [rV (pAll R l),.lit (.bool true)]∧∃ F',HubR st' h wid (n + 100 * l.length) (pAll R l) F'∧Kp st st' F∧∀ x ∈ F',(x ∈ F∨st.boxes.length≤x)∧x < st'.boxes.length):=by
  refine aq hmix k_f18 rfl rfl fun Q hQ=>?_
  unfold aFun c_f18
  obtain ⟨w1,w2,w3,w4,w5,w6,w7,w8⟩:=aw R.ws
  unfold rV
  simp (config:=KF) (disch:=omega) only [bZ,bF,dM,↓reduceIte,Nat.reduceEqDiff,Nat.reduceAdd,reduceCtorEq,w2,w4]
  rw [f18_7w]
  refine bf (A:=Nat×List Nat×St) (fun a=>l.length - a.1) (fun a=>⟨[(0,.ptr h 0),(2,.sl false 6 (l.map actV)),(4,.lptr 4 0),(6,.lptr 6 0),(8,.lit (.int .i64 (a.1:Nat)))],[(4,[.sl false 6 ((pAll R (l.take a.1)).subs.map sbC),wsV (pAll R (l.take a.1)).ws]),(6,[.lit (.slice none 0 0),.lit (.slice none 0 0)])]⟩) (fun a=>a.2.2)
    (fun a=>a.1≤l.length∧HubR a.2.2 h wid (n + 100 * a.1) (pAll R (l.take a.1)) a.2.1∧Kp st a.2.2 F∧∀ x ∈ a.2.1,(x ∈ F∨st.boxes.length≤x)∧x < a.2.2.boxes.length) (0,F,st) ⟨Nat.zero_le _,hh,Kp.refl _ _,fun x hx=>⟨.inl hx,hF x hx⟩⟩ (Sf.le_refl _) rfl ?_
  rintro ⟨i,F1,s0⟩ ⟨h1,h2,h3,h4⟩ K hK hKe hKr
  simp only at h1 h2 h3 h4
  try dsimp only
  by_cases hi:i < l.length
  · have htk:=pAll_take (R:=R) hi
    have hla:=hfew l[i] (List.getElem_mem hi)
    have hg:=act_getD hi
    have hnx:=fun (F':List Nat) (s':St) (sf:Sf) a1 a2 a3=>hK (i + 1,F',s') sf ⟨by simp only; omega,a1,a2,a3⟩ (by simp only; omega)
    simp only [htk] at hnx
    generalize pAll R (l.take i) = R1 at *
    generalize l[i] = a at *
    obtain ⟨w,t,p,k,o,d⟩:=a
    simp only at hla hg hnx
    obtain ⟨u1,u2,u3,u4,u5,u6,u7,u8⟩:=aw R1.ws
    have hbl:=aJ d
    simp (config:=KF) (disch:=omega) only [bZ,o_x,ixSV,ah,aP,lenI,addA,aa,srcA,bF,dW,dM,↓reduceIte,Nat.reduceEqDiff,Nat.reduceAdd,Nat.reduceLeDiff,reduceCtorEq,af,ae,hg]
    refine MB.grow (.inl ⟨rfl,rfl⟩) Lits.nil (lM d) (pQ (by rw [hbl]; simp only [List.length_nil]; omega)) fun v s1 g1 g2 g3=>?_
    rw [List.nil_append] at g1
    have hk01:Kp s0 s1 []:=g2
    obtain ⟨v1,v2,v3,v4,v5,v6,v7,v8⟩:=g1.facts
    have hdv:DV v s1 d:=DV.of_mb g1
    have hh1:HubR s1 h wid (n + 100 * i) R1 F1:=h2.kp hk01 fun _ _ q=>by cases q
    have hvn:∀ x ∈ ap v,s0.boxes.length≤x:=fun x hx=>(g3 x hx).elim (fun q=>by simp [ap] at q) _root_.id
    have hvl:=hdv.lt
    have hvF:∀ x ∈ ap v,x ∉ F1:=fun x hx q=>by
      have:=hvn x hx
      have:=(h4 x q).2
      omega
    have hF1:∀ x ∈ F1,x < s1.boxes.length:=fun x hx=>Nat.lt_of_lt_of_le (h4 x hx).2 hk01.1
    have hmk:=(makes_pure hh1.rok (by omega) w t p k o (dv:=.sl false 1 (BB d)) (.inl rfl) hla s1).acalls
    have hdis:(rV R1).dis = rV R1:=by simp [rV,u2,aL,cu]
    have hnl:(rV R1).noL = true:=by simp [rV,u5,aM,cZ]
    have hdo:=do_calls hh1 hF1 w t p k o hdv hla hvF (by omega)
    have hdl:=rDo_len w t p k o d R1
    have hwl:=hh1.ws
    have hdd:=rDo_data w t p k o d hh1.rok.ok
    unfold actA at hmk hdo
    generalize rDo w t p k o d R1 = X at hmk hdo hdl hnx hdd
    obtain ⟨x1,x2,x3,x4,x5,x6,x7,x8⟩:=aw X.1.ws
    obtain ⟨m1,m2,m3,m4,m5,m6,m7,m8⟩:=(MV.msg X.2.data).facts
    obtain ⟨a1,a2,a3,a4⟩:=aR X.2.items
    obtain ⟨a5,a6,a7⟩:=dx X.2.items
    unfold rV resA at hmk
    simp (config:=KF) (disch:=omega) only [bZ,bz,ah,addA,↓reduceIte,Nat.reduceEqDiff,Nat.reduceAdd,Nat.reduceLeDiff,reduceCtorEq,af,ae,v1,v4,v6]
    refine draw_m ⟨[]⟩ (St.sub_nil _) ?_
    simp (config:=KF) (disch:=omega) only [bZ,Nat.reduceBEq,o6,kG,o7,mm_mv,mm_ixS,mm_load,atM_eq,lj,dropP,dropQ,mQ,ixSV,aa,id,List.nil_append,List.cons_append,↓reduceIte,Nat.reduceEqDiff,Nat.reduceAdd,Nat.reduceLeDiff,reduceCtorEq,or_false,u2,hg]
    refine call_m (vs:=[.agg [.sl false 6 (R1.subs.map sbC),wsV R1.ws],.agg [.lit (.int .i64 w),.lit (.int .i64 t),.lit (.int .i64 p),.lit (.int .i64 k),.lit (.int .i64 o),.sl false 1 (BB d)]]) (by simp [u2,aL,cu,bP]) e_f39 hmk (by simp [u5,aM,cZ,aD]) ?_
    simp (config:=KF) (disch:=omega) only [bZ,Nat.reduceBEq,Bool.or_true,ksB,aS,bB,bM,aV,nstB,bN,hm_nil,hm_hole,hm_none,nB,hm_new,mm_newL,AI.dst,putN,List.nil_append,List.cons_append,↓reduceIte,Nat.reduceEqDiff,reduceCtorEq,or_true,or_false]
    rintro r s1' ⟨rfl,rfl⟩
    refine ⟨St.sub_nil _,?_⟩
    simp (config:=KF) (disch:=omega) only [bZ,Nat.reduceBEq,Bool.or_true,ksB,aS,bB,bM,aV,cI,bU,headNst_eq,nstB,bN,cr,Option.getD_some,Option.getD_none,nst_beq,o6,kG,o7,mm_mv,mm_ext,nA,kH,compM_t,compM_tn,compM_f,nC,pY,m_new,m_nst,mm_newL,mm_store,ah,aa,id,ic,bF,dW,dM,en,List.nil_append,List.cons_append,↓reduceIte,Nat.reduceEqDiff,Nat.reduceAdd,Nat.reduceLeDiff,reduceCtorEq,or_true,or_false,af,ae,x2,x4,m2,m4,a3,a5,v2]
    refine au (vs:=[.ptr h 0,.agg [.lit (.int .i64 w),.lit (.int .i64 t),.lit (.int .i64 p),.lit (.int .i64 k),.lit (.int .i64 o),v]]) (by simp [v2,aL,bP,el]) e_f13 hdo (by simp [v5,aM,dn,aD]) fun r s2 hr=>?_
    obtain ⟨dv,F2,rfl,hmb,hdn,hdF,hh2,hk2,hF2⟩:=hr
    obtain ⟨c1,c2,c3,c4,c5,c6,c7,c8⟩:=hmb.facts
    unfold resA
    simp (config:=KF) (disch:=omega) only [bZ,ah,bF,dM,↓reduceIte,Nat.reduceEqDiff,Nat.reduceAdd,Nat.reduceLeDiff,reduceCtorEq,af,ae,c2,c4,a3,a5]
    have hmv2:MB v s2 (BB d):=g1.at fun x hx=>hk2.2 x (hvl x hx) (hvF x hx)
    refine wipe1 hla hmv2 fun s3 hk3=>?_
    have hvF2:∀ x ∈ F2,x ∉ ap v:=fun x hx q=>by
      rcases (hF2 x hx).1 with e | e
      · exact hvF x q e
      · have:=hvl x q; omega
    have hh3:HubR s3 h wid (n + 100 * i + 100) X.1 F2:=hh2.kp hk3 hvF2
    have hdl2:=(DV.of_mb hmb).lt
    have hdvv:∀ x ∈ ap dv,x ∉ ap v:=fun x hx q=>by
      have:=hdn x hx
      have:=hvl x q
      omega
    have hmb3:MB dv s3 (BB X.2.data):=hmb.at fun x hx=>hk3.2 x (hdl2 x hx) (hdvv x hx)
    have hsm:=same_pure (DV.of_mb hmb3) (w:=msgV X.2.data) (q:=X.2.data) (by
      rcases MV.msg X.2.data with e | e
      · exact .inr (.inl e)
      · exact .inl e) X.2.n X.2.n X.2.err X.2.err X.2.done X.2.done X.2.items X.2.items (by omega)
    rw [decide_eq_true ⟨rfl,rfl,rfl,rfl,rfl⟩] at hsm
    have heq:=nP hh3 (by omega)
    unfold resA at hsm
    unfold rV at heq
    simp (config:=KF) (disch:=omega) only [bZ,aa,id,↓reduceIte,Nat.reduceEqDiff,Nat.reduceAdd,Nat.reduceLeDiff,reduceCtorEq,c2,m2,a3]
    refine ak (vs:=[.agg [.lit (.int .i64 X.2.n),.lit (.bool X.2.done),dv,itsV X.2.items,.lit (.int .i64 X.2.err)],.agg [.lit (.int .i64 X.2.n),.lit (.bool X.2.done),msgV X.2.data,itsV X.2.items,.lit (.int .i64 X.2.err)]]) (by simp [c2,m2,a3,aL,bP]) e_f20 hsm (by simp [c5,m5,a4,aM,aD]) ?_
    simp (config:=KF) (disch:=omega) only [bZ,AI.dst,aa,unA,id,↓reduceIte,Nat.reduceEqDiff,Nat.reduceAdd,Nat.reduceLeDiff,reduceCtorEq,x2]
    refine ak (vs:=[.ptr h 0,.agg [.sl false 6 (X.1.subs.map sbC),wsV X.1.ws]]) (by simp [x2,aL,cu,el]) e_f17 heq (by simp [x5,aM,cZ,dn]) ?_
    simp (config:=KF) (disch:=omega) only [bZ,AI.dst,unA,↓reduceIte,Nat.reduceEqDiff,reduceCtorEq]
    refine wipe2 (p:=X.2.data) (by omega) hmb3 fun s4 hk4=>?_
    have hh4:HubR s4 h wid (n + 100 * i + 100) X.1 F2:=hh3.kp hk4 fun x hx q=>hdF x q hx
    simp (config:=KF) (disch:=omega) only [bZ,ah,aa,↓reduceIte,Nat.reduceEqDiff,Nat.reduceAdd,Nat.reduceLeDiff,reduceCtorEq,af,ae,x2,x4]
    refine hnx F2 s4 _ (hh4.mono (by omega) fun _ q=>q) ?_ (fun x hx=>⟨?_,Nat.lt_of_lt_of_le (hF2 x hx).2 (Nat.le_trans hk3.1 hk4.1)⟩) (Sf.le_refl _)
    · have e1:Kp s0 s2 F1:=(Kp.wide hk01 (F':=F1) fun b q=>by cases q).trans hk2 fun x hx=>.inl hx
      have e2:Kp s0 s3 F1:=e1.trans hk3 fun x hx=>.inr (hvn x hx)
      have e3:Kp s0 s4 F1:=e2.trans hk4 fun x hx=>.inr (Nat.le_trans hk01.1 (hdn x hx))
      exact h3.trans e3 fun x hx=>(h4 x hx).1
    · rcases (hF2 x hx).1 with e | e
      · exact (h4 x e).1
      · exact .inr (Nat.le_trans h3.1 (Nat.le_trans hk01.1 e))
  · obtain rfl:i = l.length:=by omega
    rw [List.take_length] at h2 ⊢
    obtain ⟨u1,u2,u3,u4,u5,u6,u7,u8⟩:=aw (pAll R l).ws
    simp (config:=KF) (disch:=omega) only [bZ,lenI,↓reduceIte,Nat.reduceEqDiff,reduceCtorEq]
    refine hKe _ _ _ ?_
    simp (config:=KF) (disch:=omega) only [bZ,retI,ah,aa,↓reduceIte,Nat.reduceEqDiff,Nat.reduceAdd,Nat.reduceLeDiff,af,ae,u2,u4]
    exact hQ _ _ ⟨rfl,F1,h2,h3,h4⟩
end Go.Fx.YtbdjfccgkdgbfaaFx

