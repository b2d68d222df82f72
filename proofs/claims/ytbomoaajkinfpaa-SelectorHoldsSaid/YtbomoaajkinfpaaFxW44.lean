/- What the functions that the statement reaches compute: part 44. -/
import Derived.Test.YtbomoaajkinfpaaFxW43
namespace Go.Fx.YtbomoaajkinfpaaFx
open Go Go.Fx
attribute [local irreducible] aC runI aw aB

set_option maxRecDepth 100000
set_option maxHeartbeats 8000000

theorem o2:∀ {A B:List Int} (_:A.Nodup) (_:∀ x ∈ A,x ∈ B),A.length≤B.length
  | [],_,_,_=>Nat.zero_le _
  | a :: A, B, hn, hs => by
    rw [List.nodup_cons] at hn
    have hb:=hs a (List.mem_cons_self ..)
    have:=o2 (B:=B.erase a) hn.2 fun x hx=>(List.mem_erase_of_ne fun e=>hn.1 (by rw [← e]; exact hx)).2 (hs x (List.mem_cons_of_mem _ hx))
    rw [List.length_erase_of_mem hb] at this
    have hp:=List.length_pos_of_mem hb
    rw [List.length_cons]
    omega
theorem look_sub {A B:List (Int×List Cs)} (h:∀ t,ag t A = ag t B) {t:Int} (ht:t ∈ az A):t ∈ az B:=by
  cases hb:ag t B with
  | some b=>exact me hb
  | none =>
    rw [← h] at hb
    exact absurd ht (look_no t hb)
theorem look_len {A B:List (Int×List Cs)} (ha:(az A).Nodup) (hb:(az B).Nodup) (h:∀ t,ag t A = ag t B):A.length = B.length:=by
  have h1:=o2 ha fun t=>look_sub h
  have h2:=o2 hb fun t=>look_sub fun t=>(h t).symm
  simp only [az,List.length_map] at h1 h2
  omega
theorem enc_len (M:List (Int×List Cs)):(encM .i64 csSl M).length = M.length:=by simp [encM]

/-- What an act does to the waits. -/
theorem act_waits {R:RS} (hnd:(R.ws.map (·.1)).Nodup) (hwv:WV R.ws) (a:A7) :
    (a.1 = 0∧(rAct R a).2.2.2.2 = 0∧(rAct R a).2.2.1 = false∧(rAct R a).2.2.2.1 = []∧(rAct R a).1.ws = R.ws++[(a.2.1,a.2.2.2.1)]∧ag a.2.1 R.ws = none∧a.2.2.2.1≠[]) ∨
    (a.1 = 1∧(rAct R a).2.2.2.2 = 0∧(rAct R a).2.2.2.1 = []∧(rAct R a).1.ws = wo a.2.1 R.ws) ∨
    (¬ (a.1 = 0∧(rAct R a).2.2.2.2 = 0∧(rAct R a).2.2.1 = false)∧¬ (a.1 = 1∧(rAct R a).2.2.2.2 = 0)∧EndOk R (rAct R a).1 (rAct R a).2.2.2.1):=by
  unfold rAct
  by_cases h0:a.1 = 0
  · rw [if_pos h0]
    unfold bG
    split
    · exact .inr (.inr ⟨by simp,by omega,EndOk.refl R⟩)
    · rename_i hn
      have hv:a9 R.ch.length a.2.2.2.1 = true:=by
        cases hv:a9 R.ch.length a.2.2.2.1 with
        | true=>rfl
        | false=>exact absurd (.inr (.inr (.inl hv))) hn
      split
      · exact .inr (.inr ⟨by simp,by omega,EndOk.refl R⟩)
      · rename_i hlk
        split
        · split
          · exact .inr (.inr ⟨by simp,by omega,EndOk.refl R⟩)
          · exact .inl ⟨h0,rfl,rfl,rfl,rfl,hlk,(cq hv).2.2.2⟩
        · exact .inr (.inr ⟨by simp,by omega,carry_end hnd _⟩)
  · rw [if_neg h0]
    by_cases h1:a.1 = 1
    · rw [if_pos h1]
      unfold dL
      split
      · exact .inr (.inr ⟨by omega,by simp,EndOk.refl R⟩)
      · split
        · exact .inr (.inr ⟨by omega,by simp,EndOk.refl R⟩)
        · exact .inr (.inl ⟨h1,rfl,rfl,rfl⟩)
    · rw [if_neg h1]
      exact .inr (.inr ⟨by omega,by omega,close_end hnd hwv _⟩)
theorem rAct_ch (R:RS) (a:A7):(rAct R a).1.ch.length = R.ch.length:=by
  unfold rAct
  split
  · unfold bG
    split
    · rfl
    · split
      · rfl
      · split
        · split <;> rfl
        · exact nM _ _
  · split
    · unfold dL
      split
      · rfl
      · split <;> rfl
    · unfold cB
      split
      · rfl
      · split
        · rfl
        · exact List.length_modify ..

/-- What is known between two acts. -/
structure HB (st:St) (s mid wm:Nat) (cv ov rv:AV) (L:List CL) (R:RS) (M:List (Int×List Cs)) (n:Nat) (ch0:List Ch3) (F:List Nat):Prop where
  sel:SelR st s mid cv ov L R n
  mp:MapIs st wm .i64 csSl M
  ne:wm ∉ ah s mid cv ov L
  nr:NR R
  vl:VL R
  wv:WV R.ws
  ref:RefC rv st ch0 F
  lt:∀ x ∈ F,x < st.boxes.length
  sep:∀ x ∈ F,x ∉ ah s mid cv ov L∧x≠wm
  chl:R.ch.length = ch0.length

section
variable {st st1:St} {s mid n wm:Nat} {cv ov rv cv1 ov1:AV} {L L1:List CL} {R:RS} {M M':List (Int×List Cs)} {ch0:List Ch3} {F:List Nat}
theorem HB.act (h:HB st s mid wm cv ov rv L R M n ch0 F) (a:A7) (h1:SelR st1 s mid cv1 ov1 L1 (rAct R a).1 (n + 1)) (k1:Kp st st1 (ah s mid cv ov L)) (i1:∀ x ∈ ah s mid cv1 ov1 L1,x ∈ ah s mid cv ov L∨st.boxes.length≤x):HB st1 s mid wm cv1 ov1 rv L1 (rAct R a).1 M (n + 1) ch0 F:=by
  have hwl:=h.mp.lt
  refine ⟨h1,h.mp.at (k1.2 wm hwl h.ne),fun e=>?_,rAct_nr h.nr a,rAct_vl h.vl a,rAct_wv h.wv a,h.ref.at fun x hx=>k1.2 x (h.lt x hx) (h.sep x hx).1,fun x hx=>Nat.lt_of_lt_of_le (h.lt x hx) k1.1,fun x hx=>⟨fun e=>?_,(h.sep x hx).2⟩,by rw [rAct_ch]; exact h.chl⟩
  · rcases i1 wm e with e | e
    · exact h.ne e
    · omega
  · rcases i1 x e with e | e
    · exact (h.sep x hx).1 e
    · have:=h.lt x hx
      omega
theorem HB.oth (h:HB st s mid wm cv ov rv L R M n ch0 F) (hm:MapIs st1 wm .i64 csSl M') (ho:Oth st st1 [wm]):HB st1 s mid wm cv ov rv L R M' n ch0 F:=by
  have hk:Kp st st1 [wm]:=ho.kp fun _ hx=>hx
  refine ⟨h.sel.kp hk fun x hx e=>?_,hm,h.ne,h.nr,h.vl,h.wv,h.ref.at fun x hx=>ho.2 x fun e=>(h.sep x hx).2 (List.mem_singleton.1 e),fun x hx=>by rw [ho.1]; exact h.lt x hx,h.sep,h.chl⟩
  rw [List.mem_singleton] at e
  subst e
  exact h.ne hx

theorem hold0 {acts:List A7} {cs:List Cs} {at':Int} (hl:acts.length≤100) (hfew:∀ a ∈ acts,a.2.2.2.1.length≤20) (h:HB st s mid wm cv ov rv L R M n ch0 F) (hlk:∀ t,ag t M = ag t R.ws) (hn:n + acts.length < 1900) {K:Exit→Sf→St→Prop}
    (hK:∀ st' cv' ov' L' R' M' n',HB st' s mid wm cv' ov' rv L' R' M' n' ch0 F→(∀ t,ag t M' = ag t R'.ws)→n'≤n + acts.length →
      K (.exit 0) ⟨[(2,.sl false 3 (cs.map csAV)),(3,.lit (.int .i64 at')),(9,.lptr 9 0),(11,.ptr s 0),(13,.map wm)],[(9,[rv,.lit (.slice none 0 0)])]⟩ st') :
    aC Go.Proofs.Try.prog id false f6_25 ⟨[(1,cr acts),(2,.sl false 3 (cs.map csAV)),(3,.lit (.int .i64 at')),(9,.lptr 9 0),(11,.ptr s 0),(13,.map wm),(14,.lit (.int .i64 0))],[(9,[rv,.lit (.slice none 0 0)])]⟩ st K:=by
  rw [f6_25w]
  refine bj (A:=Nat×AV×AV×List CL×RS×List (Int×List Cs)×St) (fun a=>acts.length - a.1) (fun a=>⟨[(1,cr acts),(2,.sl false 3 (cs.map csAV)),(3,.lit (.int .i64 at')),(9,.lptr 9 0),(11,.ptr s 0),(13,.map wm),(14,.lit (.int .i64 (a.1:Nat)))],[(9,[rv,.lit (.slice none 0 0)])]⟩) (fun a=>a.2.2.2.2.2.2)
    (fun a=>a.1≤acts.length∧HB a.2.2.2.2.2.2 s mid wm a.2.1 a.2.2.1 rv a.2.2.2.1 a.2.2.2.2.1 a.2.2.2.2.2.1 (n + a.1) ch0 F∧∀ t,ag t a.2.2.2.2.2.1 = ag t a.2.2.2.2.1.ws)
    (0,cv,ov,L,R,M,st) ⟨Nat.zero_le _,h,hlk⟩ (Sf.le_refl _) rfl ?_
  rintro ⟨i,cv1,ov1,L1,R1,M1,s0⟩ ⟨h1,h2,h3⟩ K2 hK2 hKe hKr
  simp only at h1 h2 h3
  try dsimp only
  obtain ⟨c1,c2,c3,c4,c5,c6,c7⟩:=h2.ref.isCh
  have hgl:=oY acts
  by_cases hi:i < acts.length
  · have hla:=hfew acts[i] (List.getElem_mem hi)
    have hgd:=a7s_get hi
    have hnx:=fun cv' ov' L' R' M' s' (sf:Sf) (q:HB s' s mid wm cv' ov' rv L' R' M' (n + i + 1) ch0 F) (q2:∀ t,ag t M' = ag t R'.ws)=>hK2 (i + 1,cv',ov',L',R',M',s') sf ⟨by simp only; omega,q,q2⟩ (by simp only; omega)
    simp only at hnx
    generalize acts[i] = a at *
    clear hK2 hfew hK
    have hdo:=my h2.sel (by omega) (a:=a) (v:=.sl false 3 (a.2.2.2.1.map csAV)) (by
      cases a.2.2.2.1 with
      | nil=>exact .inl (.inr ⟨rfl,rfl⟩)
      | cons x l=>exact .inl (.inl (by unfold csSl; rw [if_neg (by simp)]))) (fun x hx=>by cases hx) (fun x hx=>by cases hx) (by omega)
    have hal:=rAct_len R1 a
    have hfe:=h2.sel.few
    have hact:=fun {st1 cv1' ov1' L1'}=>h2.act (st1:=st1) (cv1:=cv1') (ov1:=ov1') (L1:=L1') a
    have hw:=act_waits h2.sel.wok.nd h2.wv a
    obtain ⟨w,t,p,cl,wt⟩:=a
    simp only [a7AV] at hdo
    simp only at hw hla hgd
    generalize hX:rAct R1 (w,t,p,cl,wt) = X at *
    obtain ⟨R2,⟨e0,e1,e2,e3⟩,dn,E,er⟩:=X
    simp only at hw hal hact
    obtain ⟨z1,z2,z3,z4,z5,z6,z7⟩:=bE E
    -- behind the waits that end: all that is left
    have hend:∀ (s2:St) cv2 ov2 L2 M2,HB s2 s mid wm cv2 ov2 rv L2 R2 M2 (n + i + 1) ch0 F→(∀ u,ag u M2 = ag u R2.ws)→
        aC Go.Proofs.Try.prog id false f6_67 ⟨[(1,cr acts),(2,.sl false 3 (cs.map csAV)),(3,.lit (.int .i64 at')),(9,.lptr 9 0),(11,.ptr s 0),(13,.map wm),(14,.lit (.int .i64 (i:Nat)))],[(9,[rv,.lit (.slice none 0 0)])]⟩ s2 (fT 1 (seqQ (aC Go.Proofs.Try.prog id false f6_93) K2)):=fun s2 cv2 ov2 L2 M2 hb hlk2=>by
      obtain ⟨r,hr,hwt⟩:=nL hb.sel
      have hlen:=look_len hb.mp.nd hb.sel.wok.nd hlk2
      have hfew2:=hb.sel.few
      have hgm:=hb.mp.get
      have hml:=enc_len M2
      rw [hlen] at hml
      have h5:=fun K4=>hold5 (K:=K4) (acts:=acts) (cs:=cs) (at':=at') (i:=(i:Nat)) (z9:=[rv,.lit (.slice none 0 0)]) hb.sel hb.mp hlk2 hb.nr hb.vl hr
      have hrl:(ints (R2.ws.map (·.1))).length = R2.ws.length:=by simp [ints]
      unfold cr at h5 ⊢
      rcases hr with rfl | ⟨rfl,he⟩
      all_goals
        simp (config:=KF) (disch:=omega) only [bZ,id,↓reduceIte,Nat.reduceEqDiff,f6_67e]
        refine ao rfl e_f26 hwt rfl ?_
      · simp (config:=KF) (disch:=omega) only [bZ,lenI,↓reduceIte,Nat.reduceEqDiff,not_true_eq_false,hgm,hml,hrl]
        refine h5 _ ?_
        simp (config:=KF) (disch:=omega) only [bZ,↓reduceIte,Nat.reduceEqDiff,f6_93e,f6_93l]
        exact hnx _ _ _ _ _ _ _ hb hlk2 (Sf.le_refl _)
      · rw [List.map_eq_nil_iff] at he
        rw [he] at hml
        simp (config:=KF) (disch:=omega) only [bZ,lenI,↓reduceIte,Nat.reduceEqDiff,not_true_eq_false,hgm,hml]
        refine h5 _ ?_
        simp (config:=KF) (disch:=omega) only [bZ,↓reduceIte,Nat.reduceEqDiff,f6_93e,f6_93l]
        exact hnx _ _ _ _ _ _ _ hb hlk2 (Sf.le_refl _)
    unfold cr at hend ⊢
    simp (config:=KF) (disch:=omega) only [bZ,ixSV,lenI,aa,id,own1_sl,↓reduceIte,Nat.reduceEqDiff,Nat.reduceAdd,Nat.reduceLeDiff,aM,hgd,hgl]
    refine au rfl e_f13 hdo rfl fun r s1 hr=>?_
    obtain ⟨rfl,cv2,ov2,L2,y1,y2,y3⟩:=hr
    have hb1:=hact y1 y2 y3
    rcases hw with ⟨g0,g1,g2,g3,g4,g5,g6⟩ | ⟨g0,g1,g3,g4⟩ | ⟨g0,g1,g2⟩
    · subst g0; subst g1; subst g2; subst g3
      have hcs:csSl cl = .sl false 3 (cl.map csAV):=if_neg g6
      simp (config:=KF) (disch:=omega) only [bZ,dk,AI.dst,gb,ixSV,am,addA,aa,unA,bg,b8,bN,bW,↓reduceIte,Nat.reduceEqDiff,Nat.reduceAdd,Nat.reduceLeDiff,rrA,hgd,hgl,z2,z4]
      refine cE (b:=cl) hb1.mp rfl (by rw [hcs]; rfl) fun s2 hm2 ho2=>?_
      have hb2:=hb1.oth hm2 ho2
      simp (config:=KF) (disch:=omega) only [bZ,AI.dst,ixSV,addA,aa,↓reduceIte,Nat.reduceEqDiff,Int.reduceEq,hgd,hgl]
      refine hold2 (acts:=acts) (R:=R2) (R':=R2) hb2.mp (fun u=>by rw [bX,g4,mq g5,h3]) (EndOk.refl R2) (by simp) fun s3 M3 a1 a2 a3=>?_
      simp (config:=KF) (disch:=omega) only [bZ,↓reduceIte]
      exact hend _ _ _ _ _ (hb2.oth a1 a3) a2
    · subst g0; subst g1; subst g3
      simp (config:=KF) (disch:=omega) only [bZ,AI.dst,kg,ixSV,am,addA,aa,bg,b8,bN,bW,↓reduceIte,Nat.reduceEqDiff,Nat.reduceAdd,Nat.reduceLeDiff,Int.reduceEq,rrA,hgd,hgl,z2,z4]
      refine d7 hb1.mp fun s2 hm2 ho2=>?_
      have hb2:=hb1.oth hm2 ho2
      simp (config:=KF) (disch:=omega) only [bZ,↓reduceIte,Nat.reduceEqDiff]
      refine hold2 (acts:=acts) (R:=R2) (R':=R2) hb2.mp (fun u=>by rw [dJ _ _ hb1.mp.nd,g4,eR,h3]) (EndOk.refl R2) (by simp) fun s3 M3 a1 a2 a3=>?_
      simp (config:=KF) (disch:=omega) only [bZ,↓reduceIte]
      exact hend _ _ _ _ _ (hb2.oth a1 a3) a2
    · have hE:E.length≤100000:=by omega
      have hcl:∀ s2,MapIs s2 wm .i64 csSl M1→∀ K3:Exit→Sf→St→Prop,_:=fun s2 hm K3=>hold2 (K:=K3) (st:=s2) (s:=s) (acts:=acts) (cs:=cs) (at':=at') (i:=(i:Nat)) (z9:=[rv,.lit (.slice none 0 0)]) (x0:=e0) (x1:=e1) (x2:=e2) (x3:=e3) (er:=er) (dn:=dn) hm h3 g2 hE
      have hcl1:=hcl s1 hb1.mp
      unfold cr at hcl1
      have hfin:∀ (s3:St) (M3:List (Int×List Cs)),MapIs s3 wm .i64 csSl M3→(∀ u,ag u M3 = ag u R2.ws)→Oth s1 s3 [wm]→_:=fun s3 M3 a1 a2 a3=>hend s3 _ _ _ M3 (hb1.oth a1 a3) a2
      by_cases her:er = 0
      · subst her
        by_cases hw0:w = 0
        · subst hw0
          cases dn with
          | false=>exact absurd ⟨rfl,rfl,rfl⟩ g0
          | true =>
            simp (config:=KF) (disch:=omega) only [bZ,AI.dst,ixSV,am,addA,aa,unA,bg,b8,bN,bW,↓reduceIte,Nat.reduceEqDiff,Nat.reduceAdd,Nat.reduceLeDiff,Int.reduceEq,rrA,hgd,hgl,z2,z4]
            refine hcl1 _ fun s3 M3 a1 a2 a3=>?_
            simp (config:=KF) (disch:=omega) only [bZ,↓reduceIte]
            exact hfin _ _ a1 a2 a3
        · have hw1:¬ w = 1:=fun e=>g1 ⟨e,rfl⟩
          simp (config:=KF) (disch:=omega) only [bZ,AI.dst,ixSV,am,addA,aa,bg,b8,bN,bW,↓reduceIte,Nat.reduceEqDiff,Nat.reduceAdd,Nat.reduceLeDiff,aY,cp,rrA,hgd,hgl,z2,z4]
          refine hcl1 _ fun s3 M3 a1 a2 a3=>?_
          simp (config:=KF) (disch:=omega) only [bZ,↓reduceIte]
          exact hfin _ _ a1 a2 a3
      · simp (config:=KF) (disch:=omega) only [bZ,AI.dst,am,addA,aa,bg,b8,bN,bW,↓reduceIte,Nat.reduceEqDiff,Nat.reduceAdd,Nat.reduceLeDiff,cp,rrA,z2,z4]
        refine hcl1 _ fun s3 M3 a1 a2 a3=>?_
        simp (config:=KF) (disch:=omega) only [bZ,↓reduceIte]
        exact hfin _ _ a1 a2 a3
  · unfold cr
    simp (config:=KF) (disch:=omega) only [bZ,aH,bf,lenI,↓reduceIte,Nat.reduceEqDiff,aY,hgl]
    exact hKe _ _ _ (hK _ _ _ _ _ _ _ h2 h3 (by omega))
end
end Go.Fx.YtbomoaajkinfpaaFx

