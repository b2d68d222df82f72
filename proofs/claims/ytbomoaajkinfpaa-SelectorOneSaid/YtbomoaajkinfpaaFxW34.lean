/- What the functions that the statement reaches compute: part 34. -/
import Derived.Test.YtbomoaajkinfpaaFxW33
namespace Go.Fx.YtbomoaajkinfpaaFx
open Go Go.Fx
attribute [local irreducible] aC runI aD aL

set_option maxRecDepth 100000
set_option maxHeartbeats 4000000

/-- The selector and the channel, side by side. -/
structure PQ (st:St) (s mid c q0 m0 q1 m1 wid:Nat) (cv ov bv:AV) (L:List CL) (R:RS) (P:ChP) (n:Nat):Prop where
  sel:SelR st s mid cv ov L R n
  ch:ChIs st c P q0 m0 q1 m1 wid bv
  one:One R P
  bd:Bd P n
  sep:∀ x ∈ [c,q0,q1,m0,m1,wid]++ae bv,x ∉ ah s mid cv ov L

section
variable {st st1 st2:St} {s mid n c q0 m0 q1 m1 wid:Nat} {cv ov bv cv1 ov1:AV} {L L1:List CL} {R R':RS} {P P':ChP} {l:List A7}
theorem foot_mem {x:Nat}:x ∈ foot c q0 m0 q1 m1 wid bv↔x ∈ [c,q0,q1,m0,m1,wid]++ae bv:=by
  unfold foot
  simp only [List.mem_append,List.mem_cons,List.not_mem_nil,or_false]
theorem PQ.step (h:PQ st s mid c q0 m0 q1 m1 wid cv ov bv L R P n) (h1:SelR st1 s mid cv1 ov1 L1 R' (n + 1)) (k1:Kp st st1 (ah s mid cv ov L)) (i1:∀ x ∈ ah s mid cv1 ov1 L1,x ∈ ah s mid cv ov L∨st.boxes.length≤x) (h2:bN st1 c P' q0 m0 q1 m1 wid bv st2) (ho:One R' P') (hb:Bd P' (n + 1)):∃ bv',PQ st2 s mid c q0 m0 q1 m1 wid cv1 ov1 bv' L1 R' P' (n + 1):=by
  obtain ⟨bv',hc,k2,i2⟩:=h2
  have hlt:=h.ch.lts
  have hlt1:=h1.is.lts
  have hs1:∀ x ∈ [c,q0,q1,m0,m1,wid]++ae bv,x ∉ ah s mid cv1 ov1 L1:=fun x hx e=>by
    rcases i1 x e with e | e
    · exact h.sep x hx e
    · have:=hlt x hx
      omega
  refine ⟨bv',h1.kp k2 (fun x hx hf=>hs1 x (foot_mem.1 hf) hx),hc,ho,hb,fun x hx e=>?_⟩
  rcases List.mem_append.1 hx with hx | hx
  · exact hs1 x (List.mem_append_left _ hx) e
  · rcases i2 x hx with q | q
    · exact hs1 x (List.mem_append_right _ q) e
    · have:=hlt1 x e
      omega
theorem PQ.chat (h:PQ st s mid c q0 m0 q1 m1 wid cv ov bv L R P n) (k1:Kp st st1 (ah s mid cv ov L)):ChIs st1 c P q0 m0 q1 m1 wid bv:=h.ch.kp k1 h.sep
theorem cv_sl (st:St) (l:List Cs):CV (.sl false 3 (l.map csAV)) st l:=by
  cases l with
  | nil=>exact .inl (.inr ⟨rfl,rfl⟩)
  | cons x l=>exact .inl (.inl (by unfold csSl; rw [if_neg (by simp)]))

theorem bd_psend (h:Bd P n) (t v:Int):Bd (dm P t v).1 (n + 1):=by
  unfold dm
  split
  · exact dP h (Nat.le_succ _)
  · split
    · unfold Bd at *
      simp only [List.length_append,List.length_singleton]
      omega
    · exact bd_try h v
theorem bd_preceive (h:Bd P n) (t:Int):Bd (aT P t).1 (n + 1):=by
  unfold aT
  split
  · exact dP h (Nat.le_succ _)
  · split
    · unfold Bd at *
      simp only [List.length_append,List.length_singleton]
      omega
    · exact bd_tryr h
theorem bd_pcancel (h:Bd P n) (t:Int):Bd (cI P t).1 (n + 1):=by
  unfold cI
  split
  · unfold Bd at *
    have h1:=List.length_filter_le (fun x:W3=>x.2.1 != t) P.S
    have h2:=List.length_filter_le (fun x:W3=>x.2.1 != t) P.V
    simp only
    omega
  · split <;> exact dP h (Nat.le_succ _)
theorem bd_pclose (h:Bd P n):Bd (bU P).1 (n + 1):=by
  unfold bU
  split
  · exact dP h (Nat.le_succ _)
  · unfold Bd at *
    simp only [List.length_nil]
    omega

theorem one_loop (hl:l.length≤100) (hfew:∀ a ∈ l,a.2.2.2.1.length≤20) (h:PQ st s mid c q0 m0 q1 m1 wid cv ov bv L R P n) (hn:n + l.length < 1900) {K:Exit→Sf→St→Prop} (hK:∀ st',K (.exit 0) ⟨[],[]⟩ st') :
    aC Go.Proofs.Try.prog id false f3_23 ⟨[(1,.sl false 5 (a7s1 l)),(5,.ptr s 0),(7,.ptr c 0),(9,.lit (.int .i64 0))],[]⟩ st K:=by
  rw [f3_23w]
  refine cH (A:=Nat×AV×AV×AV×List CL×RS×ChP×St) (fun a=>l.length - a.1) (fun a=>⟨[(1,.sl false 5 (a7s1 l)),(5,.ptr s 0),(7,.ptr c 0),(9,.lit (.int .i64 (a.1:Nat)))],[]⟩) (fun a=>a.2.2.2.2.2.2.2)
    (fun a=>a.1≤l.length∧∃ m,m≤n + a.1∧PQ a.2.2.2.2.2.2.2 s mid c q0 m0 q1 m1 wid a.2.1 a.2.2.1 a.2.2.2.1 a.2.2.2.2.1 a.2.2.2.2.2.1 a.2.2.2.2.2.2.1 m)
    (0,cv,ov,bv,L,R,P,st) ⟨Nat.zero_le _,n,Nat.le_refl _,h⟩ (Sf.le_refl _) rfl ?_
  rintro ⟨i,cv1,ov1,bv1,L1,R1,P1,s0⟩ ⟨h1,m,h2,h3⟩ K2 hK2 hKe hKr
  simp only at h1 h2 h3
  try dsimp only
  have hgl:=iG l
  by_cases hi:i < l.length
  · have hla:=hfew l[i] (List.getElem_mem hi)
    have hgd:=a7s1_get hi
    have hsk:=fun (sf:Sf)=>hK2 (i + 1,cv1,ov1,bv1,L1,R1,P1,s0) sf ⟨by simp only; omega,m,by simp only; omega,h3⟩ (by simp only; omega)
    have hnx:=fun cv' ov' bv' L' R' P' s' (sf:Sf) (q:PQ s' s mid c q0 m0 q1 m1 wid cv' ov' bv' L' R' P' (m + 1))=>hK2 (i + 1,cv',ov',bv',L',R',P',s') sf ⟨by simp only; omega,m + 1,by simp only; omega,q⟩ (by simp only; omega)
    simp only at hsk hnx
    generalize l[i] = a at *
    obtain ⟨w,t,p,cl,wt⟩:=a
    simp only at hla hgd
    have hm:m < 1900:=by omega
    have hbd:Bd P1 m∧m < 3000:=⟨h3.bd,by omega⟩
    clear hK2 hfew
    by_cases ht0:t < 0
    · simp (config:=KF) (disch:=omega) only [bZ,eZ,aO,aF,bz,AI.dst,ixSV,am,lenI,addA,aa,dO,bk,bD,↓reduceIte,Nat.reduceEqDiff,Nat.reduceAdd,Nat.reduceLeDiff,aK,bO,hgd,hgl]
      exact hsk _ (Sf.le_refl _)
    by_cases ht1:63 < t
    · simp (config:=KF) (disch:=omega) only [bZ,eZ,aO,aF,bz,AI.dst,ixSV,am,lenI,addA,aa,cW,dO,bk,bD,↓reduceIte,Nat.reduceEqDiff,Nat.reduceAdd,Nat.reduceLeDiff,aK,bO,bo,hgd,hgl]
      exact hsk _ (Sf.le_refl _)
    by_cases hp0:p < 0
    · simp (config:=KF) (disch:=omega) only [bZ,eZ,aO,aF,bz,AI.dst,ixSV,am,lenI,addA,aa,cW,dO,bk,bD,↓reduceIte,Nat.reduceEqDiff,Nat.reduceAdd,Nat.reduceLeDiff,aK,bO,bo,hgd,hgl]
      exact hsk _ (Sf.le_refl _)
    have ht:0≤t∧t < 64:=by omega
    have hp:0≤p:=by omega
    have hdo:=fun (a:A7) (ha:a.2.2.2.1.length < 100000)=>lN h3.sel (by omega) (a:=a) (v:=.sl false 3 (a.2.2.2.1.map csAV)) (cv_sl s0 _) (fun x hx=>by cases hx) (fun x hx=>by cases hx) ha
    have hal:=fun a:A7=>rAct_len R1 a
    have hfe:=h3.sel.few
    by_cases hw0:w = 0
    · subst hw0
      by_cases hcl:cl.length = 1
      case neg =>
        simp (config:=KF) (disch:=omega) only [bZ,aO,aF,bz,AI.dst,ixSV,am,lenI,addA,aa,cW,dO,bk,bD,↓reduceIte,Nat.reduceEqDiff,Nat.reduceAdd,Nat.reduceLeDiff,aK,bO,bo,hgd,hgl]
        exact hsk _ (Sf.le_refl _)
      obtain ⟨x,rfl⟩:=List.length_eq_one_iff.1 hcl
      obtain ⟨ci,d,v⟩:=x
      simp only [List.map_cons,List.map_nil,csAV] at hgd
      by_cases hci:ci = 0
      case neg =>
        simp (config:=KF) (disch:=omega) only [bZ,aO,aF,bz,AI.dst,ixSV,am,lenI,addA,aa,cW,dO,bk,bD,↓reduceIte,Nat.reduceEqDiff,Nat.reduceAdd,Nat.reduceLeDiff,Int.reduceLT,Int.reduceLE,not_true_eq_false,aK,bO,bo,hgd,hgl]
        exact hsk _ (Sf.le_refl _)
      subst hci
      cases wt with
      | false =>
        simp (config:=KF) (disch:=omega) only [bZ,aO,aF,bz,AI.dst,o_un,ixSV,am,lenI,addA,aa,unA,cW,dO,bk,bD,↓reduceIte,Nat.reduceEqDiff,Nat.reduceAdd,Nat.reduceLeDiff,Int.reduceLT,Int.reduceLE,not_true_eq_false,aK,bo,hgd,hgl]
        exact hsk _ (Sf.le_refl _)
      | true =>
      have hd:=hdo (0,t,p,[(0,d,v)],true) (by simp)
      have hx:=hal (0,t,p,[(0,d,v)],true)
      have hXe:rAct R1 (0,t,p,[(0,d,v)],true) = bI R1 t [(0,d,v)] p true:=by unfold rAct; simp
      rw [hXe] at hd hx
      simp only [a7AV,List.map_cons,List.map_nil,csAV] at hd
      cases d with
      | true =>
        obtain ⟨g1,g2⟩:=one_send h3.one (v:=v) ht hp
        generalize bI R1 t [(0,true,v)] p true = X at *
        obtain ⟨z1,z2,z3,z4,z5,z6,z7⟩:=aP X.2.2.2.1
        simp (config:=KF) (disch:=omega) only [bZ,AI.dst,o_un,ixSV,am,lenI,addA,aa,unA,cW,id,dO,bk,bD,↓reduceIte,Nat.reduceEqDiff,Nat.reduceAdd,Nat.reduceLeDiff,Int.reduceLT,Int.reduceLE,not_true_eq_false,aK,bo,hgd,hgl]
        refine ap rfl e_f13 hd rfl fun r s1 hr=>?_
        obtain ⟨rfl,cv2,ov2,L2,y1,y2,y3⟩:=hr
        have hsd:=jQ (h3.chat y2) t v hbd
        simp only [its_i4] at hsd
        obtain ⟨u1,u2,u3,u4,u5,u6,u7⟩:=aP ((dm P1 t v).2.2.1.map i4)
        simp (config:=KF) (disch:=omega) only [bZ,AI.dst,ixSV,am,addA,aa,bt,bD,↓reduceIte,Nat.reduceEqDiff,Nat.reduceAdd,Nat.reduceLeDiff,Int.reduceLT,Int.reduceLE,rrA,z2,z4]
        refine draw_m ⟨[]⟩ (St.sub_nil _) ?_
        simp (config:=KF) (disch:=omega) only [bZ,mP,lw,m_val,mm_mv,mm_addr,mm_ixS,j9,atM_eq,jA,dropP,dropQ,kS,ixSV,addA,aa,id,List.append_nil,List.nil_append,List.cons_append,↓reduceIte,Nat.reduceEqDiff,Int.reduceLT,Int.reduceLE]
        refine call_m (vs:=[.ptr c 0,.lit (.int .i64 t),.lit (.int .i64 v)]) rfl e_f14 hsd rfl ?_
        simp (config:=KF) (disch:=omega) only [bZ,ksB,aW,bH,b8,bb,nstB,b9,hm_nil,hm_hole,ly,AI.dst,List.nil_append,List.cons_append,↓reduceIte,Nat.reduceEqDiff]
        rintro r s2 ⟨rfl,hpo⟩
        refine ⟨St.sub_nil _,?_⟩
        obtain ⟨bv2,hpq⟩:=h3.step y1 y2 y3 hpo g2 (bd_psend h3.bd t v)
        simp (config:=KF) (disch:=omega) only [bZ,ksB,aW,bH,b8,bb,cZ,ca,nstB,b9,mP,lw,m_val,mm_mv,mm_ext,lx,jg,compM_t,lz,nK,am,List.nil_append,List.cons_append,↓reduceIte,Nat.reduceEqDiff,Nat.reduceAdd,Nat.reduceLeDiff,u1,u2,u3,u4,u6]
        refine kd (X:=X.2) (Y:=((0,0,0,0),(dm P1 t v).2.1,(dm P1 t v).2.2.1.map i4,(dm P1 t v).2.2.2)) hpq.sel hpq.ch hpq.one (by omega) g1 (fun e=>absurd rfl e) ?_
        simp (config:=KF) (disch:=omega) only [bZ,↓reduceIte,Nat.reduceEqDiff]
        exact hnx _ _ _ _ _ _ _ _ hpq (Sf.le_refl _)
      | false =>
        obtain ⟨g1,g2⟩:=one_receive h3.one (v:=v) ht hp
        generalize bI R1 t [(0,false,v)] p true = X at *
        obtain ⟨z1,z2,z3,z4,z5,z6,z7⟩:=aP X.2.2.2.1
        simp (config:=KF) (disch:=omega) only [bZ,AI.dst,o_un,ixSV,am,lenI,addA,aa,unA,cW,id,dO,bk,bD,↓reduceIte,Nat.reduceEqDiff,Nat.reduceAdd,Nat.reduceLeDiff,Int.reduceLT,Int.reduceLE,not_true_eq_false,aK,bo,hgd,hgl]
        refine ap rfl e_f13 hd rfl fun r s1 hr=>?_
        obtain ⟨rfl,cv2,ov2,L2,y1,y2,y3⟩:=hr
        have hsd:=f7 (h3.chat y2) t hbd
        simp only [its_i4] at hsd
        obtain ⟨u1,u2,u3,u4,u5,u6,u7⟩:=aP ((aT P1 t).2.2.2.1.map i4)
        simp (config:=KF) (disch:=omega) only [bZ,AI.dst,ixSV,am,addA,aa,id,bt,bD,↓reduceIte,Nat.reduceEqDiff,Nat.reduceAdd,Nat.reduceLeDiff,Int.reduceLT,Int.reduceLE,rrA,z2,z4]
        refine ap (vs:=[.ptr c 0,.lit (.int .i64 t)]) rfl e_f15 hsd rfl fun r s2 hr=>?_
        obtain ⟨rfl,hpo⟩:=hr
        obtain ⟨bv2,hpq⟩:=h3.step y1 y2 y3 hpo g2 (bd_preceive h3.bd t)
        simp (config:=KF) (disch:=omega) only [bZ,am,↓reduceIte,Nat.reduceEqDiff,Nat.reduceAdd,Nat.reduceLeDiff,u1,u2,u3,u4,u6]
        refine kd (X:=X.2) (Y:=((0,0,(aT P1 t).2.1,0),(aT P1 t).2.2.1,(aT P1 t).2.2.2.1.map i4,(aT P1 t).2.2.2.2)) hpq.sel hpq.ch hpq.one (by omega) g1 (fun e=>absurd rfl e) ?_
        simp (config:=KF) (disch:=omega) only [bZ,↓reduceIte,Nat.reduceEqDiff]
        exact hnx _ _ _ _ _ _ _ _ hpq (Sf.le_refl _)
    by_cases hw1:w = 1
    · subst hw1
      have hd:=hdo (1,t,p,cl,wt) (by simp only; omega)
      have hXe:rAct R1 (1,t,p,cl,wt) = ((de R1 t).1,(0,0,0,0),false,[],(de R1 t).2):=by unfold rAct; simp
      rw [hXe] at hd
      simp only [a7AV] at hd
      obtain ⟨g1,g2⟩:=one_cancel h3.one ht
      rw [g1] at hd
      generalize de R1 t = X at *
      simp (config:=KF) (disch:=omega) only [bZ,eZ,AI.dst,ixSV,am,lenI,addA,aa,cW,id,dO,bk,bD,↓reduceIte,Nat.reduceEqDiff,Nat.reduceAdd,Nat.reduceLeDiff,Int.reduceEq,not_false_eq_true,not_true_eq_false,aK,bo,hgd,hgl]
      refine ap rfl e_f13 hd rfl fun r s1 hr=>?_
      obtain ⟨rfl,cv2,ov2,L2,y1,y2,y3⟩:=hr
      have hsd:=gI (h3.chat y2) t (by have:=h3.bd; unfold Bd at this; omega)
      obtain ⟨u1,u2,u3,u4,u5,u6,u7⟩:=aP []
      simp (config:=KF) (disch:=omega) only [bZ,AI.dst,am,addA,aa,id,bt,bD,↓reduceIte,Nat.reduceEqDiff,Nat.reduceAdd,Nat.reduceLeDiff,Int.reduceEq,rrA,u2,u4]
      refine ap (vs:=[.ptr c 0,.lit (.int .i64 t)]) rfl e_f16 hsd rfl fun r s2 hr=>?_
      obtain ⟨rfl,hpo⟩:=hr
      obtain ⟨bv2,hpq⟩:=h3.step y1 y2 y3 hpo g2 (bd_pcancel h3.bd t)
      simp (config:=KF) (disch:=omega) only [bZ,am,addA,↓reduceIte,Nat.reduceEqDiff,Nat.reduceAdd,Nat.reduceLeDiff]
      refine kd (X:=((0,0,0,0),false,[],(cI P1 t).2)) (Y:=((0,0,0,0),false,[],(cI P1 t).2)) hpq.sel hpq.ch hpq.one (by simp) rfl (fun _=>rfl) ?_
      simp (config:=KF) (disch:=omega) only [bZ,↓reduceIte,Nat.reduceEqDiff]
      exact hnx _ _ _ _ _ _ _ _ hpq (Sf.le_refl _)
    · have hd:=hdo (w,t,0,cl,wt) (by simp only; omega)
      have hx:=hal (w,t,0,cl,wt)
      have hXe:rAct R1 (w,t,0,cl,wt) = ((ck R1 0).1,(0,0,0,0),false,(ck R1 0).2.1,(ck R1 0).2.2):=by unfold rAct; simp [hw0,hw1]
      rw [hXe] at hd hx
      simp only [a7AV] at hd
      obtain ⟨g1,g2,g3⟩:=one_close h3.one
      rw [g1,g2] at hd
      rw [g1] at hx
      generalize ck R1 0 = X at *
      obtain ⟨u1,u2,u3,u4,u5,u6,u7⟩:=aP ((bU P1).2.1.map i4)
      simp (config:=KF) (disch:=omega) only [bZ,eZ,AI.dst,ixSV,am,lenI,addA,aa,cW,iu,iv,id,dO,bk,bD,↓reduceIte,Nat.reduceEqDiff,Nat.reduceAdd,Nat.reduceLeDiff,aK,bO,bo,hgd,hgl]
      refine ap rfl e_f13 hd rfl fun r s1 hr=>?_
      obtain ⟨rfl,cv2,ov2,L2,y1,y2,y3⟩:=hr
      have hsd:=iH (h3.chat y2) hbd
      simp only [its_i4] at hsd
      simp (config:=KF) (disch:=omega) only [bZ,AI.dst,am,addA,aa,id,bt,bD,↓reduceIte,Nat.reduceEqDiff,Nat.reduceAdd,Nat.reduceLeDiff,bQ,bo,rrA,u2,u4]
      refine ap (vs:=[.ptr c 0]) rfl e_f17 hsd rfl fun r s2 hr=>?_
      obtain ⟨rfl,hpo⟩:=hr
      obtain ⟨bv2,hpq⟩:=h3.step y1 y2 y3 hpo g3 (bd_pclose h3.bd)
      simp (config:=KF) (disch:=omega) only [bZ,am,↓reduceIte,Nat.reduceEqDiff,Nat.reduceAdd,Nat.reduceLeDiff,u1,u2,u3,u4,u6]
      refine kd (X:=((0,0,0,0),false,(bU P1).2.1.map i4,(bU P1).2.2)) (Y:=((0,0,0,0),false,(bU P1).2.1.map i4,(bU P1).2.2)) hpq.sel hpq.ch hpq.one (by simp only; omega) rfl (fun _=>rfl) ?_
      simp (config:=KF) (disch:=omega) only [bZ,↓reduceIte,Nat.reduceEqDiff]
      exact hnx _ _ _ _ _ _ _ _ hpq (Sf.le_refl _)
  · simp (config:=KF) (disch:=omega) only [bZ,aO,bz,lenI,↓reduceIte,Nat.reduceEqDiff,bQ,hgl]
    exact hKe _ _ _ (hK _)
end
end Go.Fx.YtbomoaajkinfpaaFx

