/- What the functions that the statement reaches compute: part 27. -/
import Derived.Test.YtbomoaajkinfpaaFxW26
namespace Go.Fx.YtbomoaajkinfpaaFx
open Go Go.Fx
attribute [local irreducible] aC runI aw aB

set_option maxRecDepth 100000
set_option maxHeartbeats 4000000

theorem SelC.setMp {st st':St} {s mid:Nat} {cv ov:AV} {L:List CL} {os:List Int} {M M':List (Int×List Cs)} (h:SelC st s mid cv ov L os M) (ho:Oth st st' [mid]) (hm:MapIs st' mid .i64 csSl M'):SelC st' s mid cv ov L os M':=by
  have hown:=h.own
  simp only [List.nodup_cons,List.mem_cons,List.mem_append,List.nodup_append,not_or] at hown
  obtain ⟨⟨n1,n2,n3⟩,⟨n4,n5⟩,n6,n7,n8⟩:=hown
  have hat:∀ b,b≠mid→st'.boxes[b]? = st.boxes[b]?:=fun b hb=>ho.2 b (by simpa using hb)
  refine ⟨(bt (hat s n1)).trans h.get,h.chs.at fun b hb=>hat b fun e=>n4 (e ▸ hb),h.ord.at fun b hb=>hat b fun e=>n5 (e ▸ hb),hm,fun x hx=>(h.each x hx).kp (F:=[mid]) ⟨by rw [ho.1]; exact Nat.le_refl _,fun id _ hn=>ho.2 id hn⟩ fun b hb e=>?_,h.sep,h.own⟩
  obtain ⟨o,h1,h2⟩:=h.sep
  obtain ⟨i,hi⟩:=List.mem_iff_getElem?.1 hx
  have q1:=h1 i x hi b hb
  simp only [List.mem_singleton] at e
  subst e
  have q2:=h2 b (by simp)
  omega

def ocs (l:List Cs):AV:=if l = [] then .lit (.slice none 0 0) else .sl true 3 (l.map csAV)
theorem cclone_sl (st:St) {l:List Cs} (hll:l.length < 100000):aL Go.Proofs.Try.prog n_f56 [csSl l] st (ocs l):=by
  by_cases hl:l = []
  · subst hl
    refine aD hmix k_f56 rfl rfl fun Q hQ=>?_
    unfold aFun c_f56
    have e1:csSl [] = .lit (.slice none 0 0):=rfl
    have e2:ocs [] = .lit (.slice none 0 0):=rfl
    rw [e1]
    rw [e2] at hQ
    simp (config:=KF) (disch:=omega) only [bZ,retI,bB,iB,o_x,bb,l0,cT,cb,bz,↓reduceIte,Nat.reduceEqDiff,reduceCtorEq]
    exact hQ _
  · unfold ocs
    rw [if_neg hl]
    exact kx (.inl (.inl rfl)) hl hll

section
variable {st:St} {s mid n:Nat} {cv ov:AV} {L:List CL} {R:RS}
theorem scopy_calls (h:SelR st s mid cv ov L R n) (hn:n < 3000):aA Go.Proofs.Try.prog n_f29 [.ptr s 0] st
    (fun r st'=>∃ s',r = .ptr s' 0∧Kp st st' []∧SelNew st st' s' R n):=by
  have hg:=h.is.get
  have hfew:=h.few
  have hlts:=h.is.lts
  obtain ⟨u1,u2,u3,u4,u5,u6,u7,u8⟩:=h.is.ord.facts
  refine ap hmix k_f29 rfl rfl fun Q hQ=>?_
  unfold aFun c_f29
  simp (config:=KF) (disch:=omega) only [bZ,id,↓reduceIte,reduceCtorEq]
  refine ao rfl e_f51 (dv h.is) rfl ?_
  simp (config:=KF) (disch:=omega) only [bZ,ai,addA,aa,id,↓reduceIte,Nat.reduceEqDiff,reduceCtorEq,hg,u1]
  refine au (vs:=[ov]) (by simp [u1]) e_f52 (fW h.is.ord (by rw [List.length_map]; omega)) (by simp [u5]) fun ov' st1 hr=>?_
  obtain ⟨hm1,hl1,hk1,hi1⟩:=hr
  obtain ⟨w1,w2,w3,w4,w5,w6,w7,w8⟩:=hm1.facts
  simp (config:=KF) (disch:=omega) only [bZ,iD,gO,ai,addA,aa,fv,ep,cZ,↓reduceIte,Nat.reduceEqDiff,Nat.reduceAdd,Nat.reduceLeDiff,reduceCtorEq,aK,w1,w2,w4,w6]
  obtain ⟨n0,hn0⟩:∃ n,n = st.boxes.length:=⟨_,rfl⟩
  obtain ⟨n1,hn1⟩:∃ n,n = st1.boxes.length:=⟨_,rfl⟩
  rw [← hn0] at hl1 hk1 hi1
  rw [← hn1] at hl1 ⊢
  obtain ⟨st2,hs2⟩:∃ s,s = (st1.push (.mp [] [] 0)).push (.cells [.lit (.slice none 0 0),ov',.map n1]):=⟨_,rfl⟩
  have hl2:st2.boxes.length = n1 + 2:=by rw [hs2,aK,aK,hn1]
  have hsb:(st1.push (.mp [] [] 0)).boxes.length = n1 + 1:=by rw [aK,hn1]
  have hk2:∀ i,i < n1→st2.boxes[i]? = st1.boxes[i]?:=fun i hi=>by
    rw [hs2,bu (by omega),bu (by omega)]
  have hoi:∀ x ∈ ae ov',n0≤x∧x < n1:=fun x hx=>⟨hi1 x hx,by rw [hn1]; exact hm1.lt x hx⟩
  have hc2:SelC st2 (n1 + 1) n1 (.lit (.slice none 0 0)) ov' [] (R.ws.map (·.1)) []:=by
    refine ⟨?_,.inl ⟨rfl,rfl,rfl⟩,hm1.at fun x hx=>hk2 x (hoi x hx).2,?_,(fun x hx=>by cases hx),⟨fun _=>0,fun i x hi=>by simp at hi,fun _ _=>rfl⟩,?_⟩
    · have:=bI (st1.push (.mp [] [] 0)) [.lit (.slice none 0 0),ov',.map n1]
      rw [hsb] at this
      rw [hs2]; exact this
    · have:=(MapIs.new st1 .i64 csSl).push (.cells [.lit (.slice none 0 0),ov',.map n1])
      rw [← hn1] at this
      rw [hs2]; exact this
    · simp only [ae,List.nil_append,List.nodup_cons,List.mem_cons,not_or]
      exact ⟨⟨by omega,fun e=>by have:=hoi _ e; omega⟩,fun e=>by have:=hoi _ e; omega,MB.nodup hm1⟩
  have hk02:∀ i,i < n0→st2.boxes[i]? = st.boxes[i]?:=fun i hi=>(hk2 i (by omega)).trans (hk1 i hi)
  rw [← hs2]
  clear hs2
  have hslt:s < n0:=by rw [hn0]; exact hlts s (by simp [ah])
  have hg2:st2.get s = _:=(bt (hk02 s hslt)).trans hg
  obtain ⟨z1,z2,z3,z4,z5,z6,z7,z8⟩:=h.is.chs.facts
  simp (config:=KF) (disch:=omega) only [bZ,↓reduceIte,Nat.reduceEqDiff,reduceCtorEq,hg2,z1,z8]
  rw [f29_15w]
  refine bj (A:=Nat×List CL×AV×St) (fun a=>L.length - a.1) (fun a=>⟨[(0,.ptr s 0),(3,.ptr (n1 + 1) 0),(21,cv),(22,.lit (.int .i64 (L.length:Nat))),(23,.lit (.int .i64 (a.1:Nat)))],[]⟩) (fun a=>a.2.2.2)
    (fun a=>a.1≤L.length∧SelC a.2.2.2 (n1 + 1) n1 a.2.2.1 ov' a.2.1 (R.ws.map (·.1)) []∧(∀ i,i < n0→a.2.2.2.boxes[i]? = st.boxes[i]?)∧n1 + 2≤a.2.2.2.boxes.length∧(∀ x ∈ ah (n1 + 1) n1 a.2.2.1 ov' a.2.1,n0≤x)∧a.2.1.map (·.P) = (L.take a.1).map (·.P))
    (0,[],.lit (.slice none 0 0),st2) ⟨Nat.zero_le _,hc2,hk02,by rw [hl2]; exact Nat.le_refl _,?_,by simp⟩ (Sf.le_refl _) rfl ?_
  · intro x hx
    simp only [ah,ae,List.flatMap_nil,List.append_nil,List.nil_append,List.mem_cons] at hx
    rcases hx with e | e | e
    · omega
    · omega
    · exact (hoi x e).1
  rintro ⟨k,L',cv',s1⟩ ⟨h3,h4,h5,h6,h7,h8⟩ K hK hKe hKr
  simp only at h3 h4 h5 h6 h7 h8
  try dsimp only
  have hks:Kp st s1 []:=⟨by omega,fun i hi _=>h5 i (by omega)⟩
  have hs1:SelIs s1 s mid cv ov L R.ws:=h.is.kp hks fun _ _ e=>by cases e
  have hgs:=hs1.get
  have hL'l:L'.length = k:=by have:=congrArg List.length h8; simpa [Nat.min_eq_left h3] using this
  by_cases hk:k < L.length
  · have hx:L[k]? = some L[k]:=List.getElem?_eq_getElem hk
    have hxm:L[k] ∈ L:=List.getElem_mem hk
    have his:=hs1.each _ hxm
    have hbd:=h.bd _ hxm
    unfold Bd at hbd
    have hlen:=h.len
    have htk:L.take (k + 1) = L.take k++[L[k]]:=List.take_succ_eq_append_getElem hk
    have hgt:=h4.get
    have hkb0:=h4.chs
    obtain ⟨x1,x2,x3,x4,x5,x6,x7,x8⟩:=hkb0.facts
    rcases hs1.chs with ⟨hcv,e,e2⟩ | ⟨bi,cap,r,hcv,hgb,y3,y4,y5⟩
    · omega
    have hpd:=ez hx r
    rw [hcv] at hK ⊢
    simp (config:=KF) (disch:=omega) only [bZ,ixSV,aa,↓reduceIte,Nat.reduceEqDiff,reduceCtorEq,aM,hgb,hpd]
    refine draw_s ?_
    simp (config:=KF) (disch:=omega) only [bZ,im,gx,kj,l8,gS,e9,gy,ma,f9,lF,lG,iy,ai,addA,aa,id,List.nil_append,List.cons_append,↓reduceIte,Nat.reduceEqDiff,reduceCtorEq,hgt,x1]
    refine mc rfl e_f55 (ccopy_calls his (by omega)) rfl ?_
    simp (config:=KF) (disch:=omega) only [bZ,ksB,aR,bA,bQ,aT,nstB,bR,l9,hm_hole,gA,AI.dst,List.nil_append,List.cons_append,↓reduceIte,Nat.reduceEqDiff,reduceCtorEq]
    rintro r2 s2 ⟨c',q0',m0',q1',m1',wid',bv',rfl,hc',hkc,hic⟩
    refine ⟨St.sub_of fun i hi=>hkc.2 i hi (by simp),?_⟩
    obtain ⟨x,hxd⟩:∃ x:CL,x = ⟨c',q0',m0',q1',m1',wid',bv',L[k].P⟩:=⟨_,rfl⟩
    have hxi:x.is s2:=by rw [hxd]; exact hc'
    have hxc:c' = x.c:=by rw [hxd]
    have hid:∀ b ∈ x.ids,s1.boxes.length≤b:=fun b hb=>by
      rw [hxd] at hb
      exact hic b hb
    have hgs2:s2.get (n1 + 1) = _:=(bt (hkc.2 (n1 + 1) (by omega) (by simp))).trans hgt
    have hkb:KB 1 cv' s2 (ptrs L') L'.length:=h4.chs.at fun y hy=>hkc.2 y (h4.lts y (by simp [ah,hy])) (by simp)
    rw [hxc]
    have hl12:=hkc.1
    have hkb2:=hkb
    rcases hkb2 with ⟨hcv',_⟩ | ⟨oi,ocap,obr,hcv',_⟩
    all_goals
      subst hcv'
      simp (config:=KF) (disch:=omega) only [bZ,ksB,aR,bA,bQ,aT,cX,b9,nstB,bR,im,gx,kj,mm_bsl,gz,fB,compM_t,gB,ji,o_x,bslV,bb,List.reduceReplicate,srcA,bL,mkSl_ptr,gP,dt,List.nil_append,List.cons_append,↓reduceIte,Nat.reduceEqDiff,Nat.reduceLT,reduceCtorEq]
      refine KB.grow hkb (ptrs_own L') (new:=[.ptr x.c 0]) rfl (bytes:=8) (cy (by simp only [List.length_cons,List.length_nil]; omega)) fun cv2 s3 g1 g2 g3=>?_
      obtain ⟨w1,w2,w3,w4,w5,w6,w7,w8⟩:=g1.facts
      have hnd:(ae cv2).Nodup:=by
        rcases g1 with ⟨rfl,_⟩ | ⟨_,_,_,rfl,_⟩ <;> simp [ae]
      have hgs3:s3.get (n1 + 1) = _:=(bt (g2.2 (n1 + 1) (by omega) (fun e=>by have:=h4.own; simp [e] at this))).trans hgs2
      simp (config:=KF) (disch:=omega) only [bZ,bB,ai,am,addA,↓reduceIte,Nat.reduceEqDiff,Nat.reduceAdd,Nat.reduceLeDiff,reduceCtorEq,hgs3,w1,w4,w6]
      have hsn:=h4.snoc hxi hkc hid g1 g2 g3 hnd
      have hl23:=g2.1
      refine hK (k + 1,L'++[x],cv2,s3.set (n1 + 1) [cv2,ov',.map n1]) _ ⟨by simp only; omega,hsn,fun i hi=>?_,?_,fun y hy=>?_,?_⟩ (by simp only; omega) (Sf.le_refl _)
      · simp only
        rw [ce (by omega),g2.2 i (by omega) (fun e=>by have:=h7 i (by simp [ah,e]); omega),hkc.2 i (by omega) (by simp),h5 i hi]
      · simp only
        rw [cz]
        omega
      · simp only [ah,List.flatMap_append,List.flatMap_cons,List.flatMap_nil,List.append_nil,List.mem_cons,List.mem_append] at hy
        rcases hy with e | e | (e | e) | e | e
        · omega
        · omega
        · exact (g3 y e).elim (fun q=>h7 y (by simp [ah,q])) fun q=>by omega
        · exact h7 y (by simp [ah,e])
        · exact h7 y (by simp only [ah,List.mem_cons,List.mem_append]; exact .inr (.inr (.inr e)))
        · have:=hid y e; omega
      · simp only
        rw [htk,List.map_append,List.map_append,h8,hxd]
        simp
  · have hkl:k = L.length:=by omega
    subst hkl
    rw [List.take_length] at h8
    simp (config:=KF) (disch:=omega) only [bZ,aH,bf,↓reduceIte,Nat.reduceEqDiff,reduceCtorEq,aY]
    refine hKe _ _ _ ?_
    obtain ⟨W,hW,hWl⟩:=hs1.mp
    have hgm:=hW.get
    simp (config:=KF) (disch:=omega) only [bZ,o_x,ai,bb,addA,aa,↓reduceIte,Nat.reduceEqDiff,reduceCtorEq,hgs]
    show rngX _ _ _
    unfold rngX
    simp only [hgm,Res.ofOpt,Res.wp,bB]
    simp (config:=KF) (disch:=omega) only [bZ,↓reduceIte,Nat.reduceEqDiff,reduceCtorEq]
    rw [f29_30w]
    have hmn:mid < n0:=by rw [hn0]; exact hlts mid (by simp [ah])
    refine bj (A:=List Nat×Nat×List (Int×List Cs)×St) (fun a=>left (s1.getB mid).1 a.1) (fun a=>⟨[(3,.ptr (n1 + 1) 0),(43,.mit (some mid) (s1.getB mid).2 a.1 a.2.1)],[]⟩) (fun a=>a.2.2.2)
      (fun a=>Cpd W a.2.2.1 (s1.getB mid).1 a.1∧MapIs a.2.2.2 n1 .i64 csSl a.2.2.1∧Oth s1 a.2.2.2 [n1]) ([],(s1.getB mid).2,[],s1) ⟨.nil _ _,h4.mp,.refl _ _⟩ (Sf.le_refl _) rfl ?_
    rintro ⟨seen,stp,M,s2⟩ ⟨m1,m2,m3⟩ K2 hK2 hKe2 hKr2
    simp only at m1 m2 m3
    dsimp only
    have hB:s2.getB mid = s1.getB mid:=oM (m3.2 mid (by simp; omega))
    have hms':MapIs s2 mid .i64 csSl W:=hW.at (m3.2 mid (by simp; omega))
    have hcs:s2.get (n1 + 1) = _:=(bt (m3.2 (n1 + 1) (by simp))).trans h4.get
    rw [← hB]
    simp (config:=KF) (disch:=omega) only [bZ,o_x,bb,↓reduceIte,Nat.reduceEqDiff]
    refine nxt_step hms' (fun i hi k hk hn=>?_) fun hd=>?_
    · simp (config:=KF) (disch:=omega) only [bZ,o_x,bb,↓reduceIte,Nat.reduceEqDiff]
      refine ent_step hms' hi hk ?_
      rw [bB]
      have hlw:W[i].2.length < 100000:=by
        have e1:ag W[i].1 W = some W[i].2:=ew hW.nd (List.getElem_mem hi)
        have e2:=fE ((hWl _).symm.trans e1)
        exact h.wok.len _ e2
      obtain ⟨c1,c2,c3,c4,c5,c6,c7⟩:=cg W[i].2
      simp (config:=KF) (disch:=omega) only [bZ,aU,oK,ai,addA,aa,id,↓reduceIte,Nat.reduceEqDiff,hcs,c1]
      refine call_h (vs:=[csSl W[i].2]) (by simp [c1]) e_f56 (cclone_sl s2 hlw) (by simp [c5]) ?_
      have hfin:∀ (q:AV→Sf),True:=fun _=>trivial
      by_cases hl0:W[i].2 = []
      all_goals
        unfold ocs
        first | rw [if_pos hl0] | rw [if_neg hl0]
        simp (config:=KF) (disch:=omega) only [bZ,jg,gb,↓reduceIte,Nat.reduceEqDiff]
        refine cE m2 (b:=W[i].2) rfl ?_ fun s' hm' ho'=>?_
        · unfold csSl
          first | (rw [if_pos hl0]; rfl) | (rw [if_neg hl0]; rfl)
        simp (config:=KF) (disch:=omega) only [bZ,↓reduceIte,Nat.reduceEqDiff]
        rw [hB] at hk ⊢
        exact hK2 (seen++[k],_,updP W[i].1 W[i].2 M,s') _ ⟨m1.snoc hW.nd hW.bn hi hk,hm',m3.trans ho'⟩ (left_lt (List.mem_of_getElem? hk) hn) (Sf.le_refl _)
    · simp (config:=KF) (disch:=omega) only [bZ,aH,bf,↓reduceIte,Nat.reduceEqDiff]
      refine hKe2 _ _ _ ?_
      simp (config:=KF) (disch:=omega) only [bZ,retI,fU,↓reduceIte,Nat.reduceEqDiff]
      rw [hB] at hd
      have hall:=m1.all hW.nd hW.bl hd
      have hsc:=h4.setMp m3 m2
      have hLL:L'.length = L.length:=hL'l
      have hob:obs L' = R.ch:=by
        rw [← h.ob]
        have key:∀ L:List CL,obs L = (L.map (·.P)).map fun P=>(P.cap,P.buf,P.closed):=fun L=>by simp [obs]
        rw [key,key,h8]
      have hPi:∀ (i:Nat) x,L'[i]? = some x→∃ y,L[i]? = some y∧y.P = x.P:=fun i x hi=>by
        have:=congrArg (fun l:List ChP=>l[i]?) h8
        simp only [List.getElem?_map,hi,Option.map_some] at this
        obtain ⟨y,hy,e⟩:=Option.map_eq_some_iff.1 this.symm
        exact ⟨y,hy,e⟩
      refine hQ _ _ ⟨n1 + 1,rfl,⟨by rw [m3.1]; omega,fun i hi _=>?_⟩,n1,cv',ov',L',⟨hsc.is fun t=>(hall t).trans (hWl t),fun i x hi=>?_,hob,fun x hx=>?_,by rw [hLL]; exact h.wok,h.tk,by rw [hLL]; exact h.len⟩,fun x hx=>by rw [← hn0]; exact h7 x hx⟩
      · rw [m3.2 i (by simp; omega)]
        exact h5 i (by omega)
      · obtain ⟨y,hy,e⟩:=hPi i x hi
        rw [← e]
        exact h.rel i y hy
      · obtain ⟨i,hi⟩:=List.mem_iff_getElem?.1 hx
        obtain ⟨y,hy,e⟩:=hPi i x hi
        rw [← e]
        exact h.bd y (List.mem_of_getElem? hy)
end
end Go.Fx.YtbomoaajkinfpaaFx

