/- What the functions that the statement reaches compute: part 37. -/
import Derived.Test.YtbomoaajkinfpaaFxW36
namespace Go.Fx.YtbomoaajkinfpaaFx
open Go Go.Fx
attribute [local irreducible] aC runI aB aE

set_option maxRecDepth 100000
set_option maxHeartbeats 4000000

/-! A copy of the reference: all its boxes are new, and apart. -/
def RefM (cv:AV) (st:St) (ch:List Ch3) (bs:List AV):Prop:=bs.length = ch.length∧KB 3 cv st (chC ch bs) ch.length∧(∀ (i:Nat) b c,bs[i]? = some b→ch[i]? = some c→MB b st (ints c.2.1))∧(ae cv++bs.flatMap ae).Nodup
theorem RefM.ref {cv:AV} {st:St} {ch:List Ch3} {bs:List AV} (h:RefM cv st ch bs):RefC cv st ch (ae cv++bs.flatMap ae):=by
  obtain ⟨h1,h2,h3,h4⟩:=h
  exact ⟨bs,h1,h2,fun i b c hb hc=>.inl (.inl (.inr (h3 i b c hb hc))),fun x hx=>List.mem_append_left _ hx,fun b hb x hx=>List.mem_append_right _ (List.mem_flatMap.2 ⟨b,hb,hx⟩)⟩
theorem chC_own {ch:List Ch3} {bs:List AV} (h:∀ b ∈ bs,b.own1 = b):(chC ch bs).map AV.own1 = chC ch bs:=by
  induction ch generalizing bs with
  | nil=>cases bs <;> rfl
  | cons c ch ih =>
    cases bs with
    | nil=>rfl
    | cons b bs =>
      simp only [chC,List.map_cons,ih fun b hb=>h b (List.mem_cons_of_mem _ hb),h b List.mem_cons_self,fD]

section
variable {cv:AV} {st:St} {ch:List Ch3} {F:List Nat} {ws:List Wt}
theorem lL (h:RefC cv st ch F) (hF:∀ x ∈ F,x < st.boxes.length) (hch:ch.length≤16) (hbl:∀ c ∈ ch,c.2.1.length≤100000) (hwl:ws.length < 100000):aA Go.Proofs.Try.prog n_f80 [rfA cv ws] st
    (fun r st'=>∃ cv' bs',r = rfA cv' ws∧RefM cv' st' ch bs'∧Kp st st' []∧∀ x ∈ ae cv'++bs'.flatMap ae,st.boxes.length≤x∧x < st'.boxes.length):=by
  obtain ⟨c1,c2,c3,c4,c5,c6,c7⟩:=h.isCh
  have c8:=h.len
  obtain ⟨w1,w2,w3,w4,w5,w6,w7,w8⟩:=aw ws
  refine aq hmix k_f80 rfl rfl fun Q hQ=>?_
  unfold aFun c_f80
  simp only [rfA] at hQ
  simp (config:=KF) (disch:=omega) only [bZ,cC,↓reduceIte,Nat.reduceEqDiff,Nat.reduceAdd,reduceCtorEq,rfA,c2,c4,w2,w4]
  rw [f80_9w]
  refine aX (A:=Nat×AV×List AV×St) (fun a=>ch.length - a.1) (fun a=>⟨[(1,.lptr 1 0),(2,.lptr 2 0),(3,.lptr 3 0),(4,.lit (.int .i64 (a.1:Nat)))],[(1,[cv,wtS ws]),(2,[.lit (.slice none 0 0),.lit (.slice none 0 0)]),(3,[a.2.1,.lit (.slice none 0 0)])]⟩) (fun a=>a.2.2.2)
    (fun a=>a.1≤ch.length∧Kp st a.2.2.2 []∧RefM a.2.1 a.2.2.2 (ch.take a.1) a.2.2.1∧∀ x ∈ ae a.2.1++a.2.2.1.flatMap ae,st.boxes.length≤x∧x < a.2.2.2.boxes.length)
    (0,.lit (.slice none 0 0),[],st) ⟨Nat.zero_le _,Kp.refl _ _,⟨rfl,.inl ⟨rfl,rfl,rfl⟩,fun i b c hb=>by simp at hb,by simp [ae]⟩,by simp [ae]⟩ (Sf.le_refl _) rfl ?_
  rintro ⟨k,cn,bs,s⟩ ⟨h1,h2,⟨h3,h4,h5,h6⟩,h7⟩ K hK hKe hKr
  simp only at h1 h2 h3 h4 h5 h6 h7
  try dsimp only
  have htl:(ch.take k).length = k:=by rw [List.length_take]; omega
  obtain ⟨n1,n2,n3,n4,n5,n6,n7,n8⟩:=h4.facts
  have hs:RefC cv s ch F:=h.at fun x hx=>h2.2 x (hF x hx) (by simp)
  by_cases hk:k < ch.length
  · obtain ⟨bi,cap,cs,b,hcv,hg,hd,hb,hle⟩:=hs.get hk
    obtain ⟨b2',bo,bd,hb⟩:=hb.ex
    obtain ⟨b1,b2,b3,b4,b5,b6,b7,b8⟩:=hb.facts
    have hck:=hbl ch[k] (List.getElem_mem hk)
    have htk:ch.take (k + 1) = ch.take k++[ch[k]]:=List.take_succ_eq_append_getElem hk
    subst hcv
    simp (config:=KF) (disch:=omega) only [bZ,ixSV,ag,aY,addA,aa,jX,↓reduceIte,Nat.reduceEqDiff,Nat.reduceAdd,Nat.reduceLeDiff,c8,hg,hd,bo,b1,b2,b4]
    refine hb.src ?_
    refine MB.grow (v:=.lit (.slice none 0 0)) (l:=[]) (.inl ⟨rfl,rfl⟩) (fun x hx=>by simp at hx) (ca _) (ba (by simp only [List.length_nil,ak]; omega)) fun b' s1 g1 g2 g3=>?_
    obtain ⟨y1,y2,y3,y4,y5,y6,y7,y8⟩:=g1.facts
    have hn1:KB 3 cn s1 (chC (ch.take k) bs) (ch.take k).length:=h4.at fun x hx=>g2.2 x (h7 x (List.mem_append_left _ hx)).2 (by simp [ae])
    have hbown:∀ b ∈ bs,b.own1 = b:=fun b hb=>by
      obtain ⟨j,hj⟩:=List.mem_iff_getElem?.1 hb
      have hjl:=(List.getElem?_eq_some_iff.1 hj).1
      exact (h5 j b _ hj (List.getElem?_eq_getElem (by omega))).facts.2.1
    have hb'new:∀ x ∈ ae b',s.boxes.length≤x∧x < s1.boxes.length:=fun x hx=>⟨(g3 x hx).elim (fun q=>by simp [ae] at q) id,g1.lt x hx⟩
    have hn2:=hn1
    rcases hn2 with ⟨hcn,_⟩ | ⟨oi,ocap,obr,hcn,_⟩
    all_goals
      subst hcn
      simp (config:=KF) (disch:=omega) only [bZ,bh,fd,eC,ag,aY,List.reduceReplicate,addA,aa,srcA,bu,↓reduceIte,Nat.reduceEqDiff,Nat.reduceAdd,Nat.reduceLT,Nat.reduceLeDiff,y1,y2,y4,y6]
      refine KB.grow hn1 (chC_own hbown) (new:=[.agg [.lit (.int .i64 (ch[k].1:Nat)),b',.lit (.bool ch[k].2.2)]]) (by rcases g1 with ⟨rfl,_⟩ | ⟨_,_,_,rfl,_⟩ <;> rfl) (bytes:=40) (ba (by simp only [List.length_cons,List.length_nil]; omega)) fun cn' s2 q1 q2 q3=>?_
      obtain ⟨z1,z2,z3,z4,z5,z6,z7,z8⟩:=q1.facts
      simp (config:=KF) (disch:=omega) only [bZ,bh,ag,addA,↓reduceIte,Nat.reduceEqDiff,Nat.reduceAdd,Nat.reduceLeDiff,z1,z4,z6]
      have hl1:=g2.1
      have hl2:=q2.1
      have hcel:cellsD [.agg [.lit (.int .i64 (ch[k].1:Nat)),b',.lit (.bool ch[k].2.2)]] = [.lit (.int .i64 (ch[k].1:Nat)),b',.lit (.bool ch[k].2.2)]:=by
        rcases g1 with ⟨rfl,_⟩ | ⟨_,_,_,rfl,_⟩ <;> rfl
      have hbsl:∀ b ∈ bs,∀ x ∈ ae b,st.boxes.length≤x∧x < s.boxes.length:=fun b hb x hx=>h7 x (List.mem_append_right _ (List.mem_flatMap.2 ⟨b,hb,hx⟩))
      simp only [List.nodup_append,ae] at h6
      refine hK (k + 1,cn',bs++[b'],s2) _ ⟨by simp only; omega,?_,⟨?_,?_,fun i b c hbi hci=>?_,?_⟩,fun x hx=>?_⟩ (by simp only; omega) (Sf.le_refl _)
      · refine ⟨by have:=h2.1; simp only; omega,fun i hi _=>?_⟩
        have:=h2.1
        rw [q2.2 i (by omega) fun e=>by have:=h7 i (by simp only [ae] at e ⊢; simp only [List.mem_append]; exact .inl e); omega,g2.2 i (by omega) (by simp [ae]),h2.2 i hi (by simp)]
      · simp only [List.length_append,List.length_singleton,htk]; omega
      · simp only
        rw [htk,nF _ _ h3,List.length_append]
        rw [hcel] at q1
        exact q1
      · simp only at hbi hci
        rw [List.getElem?_append] at hbi
        split at hbi
        · rename_i hlt
          have hci':(ch.take k)[i]? = some c:=by
            rw [htk,List.getElem?_append_left (by omega)] at hci
            exact hci
          have hmb:=h5 i b c hbi hci'
          refine hmb.at fun x hx=>?_
          have hx2:=hbsl b (List.mem_of_getElem? hbi) x hx
          rw [q2.2 x (by omega) fun e=>?_,g2.2 x hx2.2 (by simp [ae])]
          exact h6.2.2 x (by simp only [ae] at e ⊢; exact e) x (List.mem_flatMap.2 ⟨b,List.mem_of_getElem? hbi,hx⟩) rfl
        · rename_i hge
          rw [List.getElem?_singleton] at hbi
          split at hbi
          · cases hbi
            have hik:i = k:=by omega
            subst hik
            rw [htk,List.getElem?_append_right (by omega),htl] at hci
            simp only [Nat.sub_self,List.getElem?_cons_zero,Option.some.injEq] at hci
            subst hci
            rw [List.nil_append] at g1
            refine g1.at fun x hx=>?_
            have hx2:=hb'new x hx
            exact q2.2 x hx2.2 fun e=>by
              have:=h7 x (by simp only [ae] at e ⊢; simp only [List.mem_append]; exact .inl e)
              omega
          · cases hbi
      · simp only [List.flatMap_append,List.flatMap_cons,List.flatMap_nil,List.append_nil]
        have hcn'n:(ae cn').Nodup:=by rcases q1 with ⟨rfl,_⟩ | ⟨_,_,_,rfl,_⟩ <;> simp [ae]
        simp only [List.nodup_append,List.mem_append]
        refine ⟨hcn'n,⟨h6.2.1,MB.nodup g1,fun x hx y hy e=>?_⟩,fun x hx y hy e=>?_⟩
        · subst e
          obtain ⟨b,hb,hxb⟩:=List.mem_flatMap.1 hx
          have:=hbsl b hb x hxb
          have:=hb'new x hy
          omega
        · subst e
          rcases q3 x hx with q | q
          · have hq:=h7 x (by simp only [ae] at q ⊢; simp only [List.mem_append]; exact .inl q)
            rcases hy with hy | hy
            · exact h6.2.2 x (by simp only [ae] at q ⊢; exact q) x hy rfl
            · have:=hb'new x hy; omega
          · rcases hy with hy | hy
            · obtain ⟨b,hb,hxb⟩:=List.mem_flatMap.1 hy
              have:=hbsl b hb x hxb
              omega
            · have:=hb'new x hy; omega
      · have hst:=h2.1
        simp only [List.flatMap_append,List.flatMap_cons,List.flatMap_nil,List.append_nil,List.mem_append] at hx
        simp only
        rcases hx with hx | hx | hx
        · refine ⟨?_,q1.lt x hx⟩
          rcases q3 x hx with q | q
          · exact (h7 x (by simp only [ae] at q ⊢; simp only [List.mem_append]; exact .inl q)).1
          · omega
        · obtain ⟨b,hb,hxb⟩:=List.mem_flatMap.1 hx
          have:=hbsl b hb x hxb
          omega
        · have:=hb'new x hx
          omega
  · have hkl:k = ch.length:=by omega
    subst hkl
    rw [List.take_length] at h4 h5 h3
    simp (config:=KF) (disch:=omega) only [bZ,addA,aa,↓reduceIte,Nat.reduceEqDiff,c1,c8]
    refine hKe _ _ _ ?_
    have hfin:=hQ (.agg [cn,wtS ws]) s ⟨cn,bs,rfl,⟨h3,h4,h5,h6⟩,h2,h7⟩
    by_cases hw:ws = []
    · subst hw
      have e0:wtS [] = .lit (.slice none 0 0):=rfl
      rw [e0] at hfin ⊢
      simp (config:=KF) (disch:=omega) only [bZ,retI,o_app,ag,List.isEmpty_nil,addA,aa,bR,srcA,↓reduceIte,Nat.reduceEqDiff,Nat.reduceAdd,Nat.reduceLeDiff,n2,n4]
      exact hfin
    · have e0:wtS ws = .sl false 2 (ws.map wtA2):=if_neg hw
      have hemp:(ws.map wtA2).isEmpty = false:=by simp [hw]
      have hdis:(ws.map wtA2).map AV.dis = ws.map wtA2:=by
        rw [List.map_map]
        refine List.map_congr_left fun w _=>?_
        obtain ⟨v1,v2,v3,v4,v5,v6,v7⟩:=bk w.2
        show (wtA2 w).dis = wtA2 w
        unfold wtA2
        rw [eS,List.map_cons,List.map_cons,v2,List.map_nil]
        rfl
      rw [e0] at hfin w1 w2 w6 w7 ⊢
      simp (config:=KF) (disch:=omega) only [bZ,retI,o_app,ag,addA,aa,bR,srcA,fU,d8,↓reduceIte,Nat.reduceEqDiff,Nat.reduceAdd,Nat.reduceLeDiff,ba,n2,n4,w2,hemp,hdis]
      exact hfin
end
end Go.Fx.YtbomoaajkinfpaaFx

