/- What the functions that the statement reaches compute: part 40. -/
import Derived.Test.YtbomoaajkinfpaaFxW39
namespace Go.Fx.YtbomoaajkinfpaaFx
open Go Go.Fx
attribute [local irreducible] aC runI aB aE

set_option maxRecDepth 100000
set_option maxHeartbeats 4000000

section
variable {cv:AV} {st:St} {R:RS} {F:List Nat}
theorem qi (h:RefC cv st R.ch F) (hF:∀ x ∈ F,x < st.boxes.length) (hwl:R.ws.length < 100000) (hll:∀ w ∈ R.ws,w.2.length < 100000) (hnd:(R.ws.map (·.1)).Nodup) (hwv:∀ w ∈ R.ws,(w.2.map (·.1)).Nodup) (hch:R.ch.length≤16) (hbl:∀ c ∈ R.ch,c.2.1.length < 49000) {x:Cs} (hx:0≤x.1∧x.1 < (R.ch.length:Int)) (hrd:rdyR R x = true) (t j:Int) :
    aA Go.Proofs.Try.prog n_f78 [rfA cv R.ws,.lit (.int .i64 t),.lit (.int .i64 j),csAV x] st
      (fun r st'=>∃ cv' F',r = .tup [rfA cv' (aP R x).1.ws,bL (t,j,(aP R x).2.1,(aP R x).2.2.1),it4s (aP R x).2.2.2]∧RefC cv' st' (aP R x).1.ch F'∧Kp st st' []∧∀ y ∈ F',st.boxes.length≤y∧y < st'.boxes.length):=by
  obtain ⟨c1,c2,c3,c4,c5,c6,c7⟩:=h.isCh
  obtain ⟨w1,w2,w3,w4,w5,w6,w7,w8⟩:=aw R.ws
  obtain ⟨r1,r2⟩:=cD h.isCh R.ws
  obtain ⟨xi,xs,xv⟩:=x
  obtain ⟨i,hi⟩:∃ i:Nat,xi = (i:Int):=⟨xi.toNat,by simp only at hx; omega⟩
  subst hi
  simp only at hx
  have hil:i < R.ch.length:=by omega
  have hat:atR R (i:Int) = R.ch[i]:=by unfold atR; rw [if_neg (by omega),Int.toNat_natCast]; simp [hil]
  have hbi:=hbl R.ch[i] (List.getElem_mem hil)
  refine aq hmix k_f78 rfl rfl fun Q hQ=>?_
  unfold aFun c_f78
  have hcp:=lL (ws:=R.ws) h hF hch (fun c hc=>by have:=hbl c hc; omega) hwl
  simp only [rfA] at hcp hQ
  simp (config:=KF) (disch:=omega) only [bZ,cC,aa,id,↓reduceIte,Nat.reduceEqDiff,Nat.reduceAdd,Nat.reduceLeDiff,reduceCtorEq,rfA,csAV,c2,c4,w2,w4]
  refine ar (by simp only [List.map_cons,List.map_nil,r1]; rfl) e_f80 hcp (by simp only [List.all_cons,List.all_nil,r2]; rfl) fun r s1 hr=>?_
  obtain ⟨cn,bs,rfl,hm,hk1,hids⟩:=hr
  obtain ⟨n1,n2,n3,n4,n5,n6,n7⟩:=hm.ref.isCh
  obtain ⟨m1,m2⟩:=cD hm.ref.isCh R.ws
  obtain ⟨bi,cap,cs,b,hcn,hg,hd,hb,hmb,hle⟩:=hm.get hil
  have hd1:cs.drop (i * 3 + 1) = b::.lit (.bool R.ch[i].2.2)::cs.drop ((i + 1) * 3):=by rw [← List.drop_drop,hd]; rfl
  have hd2:cs.drop (i * 3 + 2) = .lit (.bool R.ch[i].2.2)::cs.drop ((i + 1) * 3):=by rw [← List.drop_drop,hd]; rfl
  have hf:=eK hm.ref.isCh R.ws hwl hll (i:Int) (!xs) s1
  have hlts:=hm.lts
  simp only [rfA] at hf
  generalize hP:cd (bJ (i:Int) (!xs) R.ws) = P at hf
  obtain ⟨pa,pk⟩:=P
  obtain ⟨b1,b2,b3,b4,b5,b6,b7,b8⟩:=hmb.facts
  rw [ak] at b8
  have hout:∀ cv' F' st' (R':RS) (val e:Int) (l4:List It4),aP R ((i:Int),xs,xv) = (R',val,e,l4)→RefC cv' st' R'.ch F'→Kp st st' []→(∀ y ∈ F',st.boxes.length≤y∧y < st'.boxes.length)→Q (.tup [.agg [cv',wtS R'.ws],bL (t,j,val,e),it4s l4]) st':=fun cv' F' st' R' val e l4 h0 h1 h2 h3=>by
    refine hQ _ _ ⟨cv',F',?_,?_,h2,h3⟩
    · rw [h0]
    · rw [h0]; exact h1
  rw [hcn] at n1 n2 n3 n4 n5 n6 n7 m1 m2 hf ⊢
  simp (config:=KF) (disch:=omega) only [bZ,ixSV,ag,addA,aa,unA,id,↓reduceIte,Nat.reduceEqDiff,Nat.reduceAdd,Nat.reduceLeDiff,n1,n2,n4,w2,w4]
  refine aj (by simp only [List.map_cons,List.map_nil,m1]; rfl) e_f76 hf (by simp only [List.all_cons,List.all_nil,m2]; rfl) ?_
  have hchs:R.ch[i]? = some R.ch[i]:=List.getElem?_eq_getElem hil
  unfold rdyR at hrd
  simp only [hat] at hrd
  cases xs with
  | true =>
    simp only [if_true] at hrd
    simp only [Bool.not_true] at hP
    simp (config:=KF) (disch:=omega) only [bZ,ai,addA,aa,↓reduceIte,Nat.reduceEqDiff,hg,hd2]
    cases hcl:R.ch[i].2.2 with
    | true =>
      have h0:aP R ((i:Int),true,xv) = (R,0,14,[]):=by unfold aP; simp only [hat,hcl,if_true]
      have:=hout cn _ s1 R 0 14 [] h0 hm.ref hk1 hids
      rw [hcn] at this
      simp (config:=KF) (disch:=omega) only [bZ,Nat.reduceBEq,ksB,aG,aV,aZ,aF,bV,bC,nstB,a9,eD,cG,ck,dK,dl,retI,ag,addA,aa,jY,jZ,List.nil_append,↓reduceIte,Nat.reduceEqDiff,Nat.reduceAdd,Nat.reduceLeDiff,or_false,n2,n4,w2,w4]
      exact this
    | false =>
      rw [hcl] at hrd
      simp (config:=KF) (disch:=omega) only [bZ,cF,↓reduceIte,Nat.reduceEqDiff]
      cases hfw:bJ (i:Int) false R.ws with
      | some p =>
        obtain ⟨a,k⟩:=p
        rw [hfw] at hP
        simp only [cd,Prod.mk.injEq] at hP
        obtain ⟨rfl,rfl⟩:=hP
        obtain ⟨ha,hk,⟨rest,hq⟩,hci,hwo⟩:=lN hfw hnd hwv
        obtain ⟨hw,hwg⟩:=jt ha
        obtain ⟨v1,v2,v3,v4,v5,v6,v7⟩:=bk R.ws[a].2
        have hdr:=gS hm.ref.isCh hwl ha s1
        rw [hcn] at hdr
        simp only [rfA] at hdr
        obtain ⟨x1,x2,x3,x4,x5,x6,x7,x8⟩:=aw (R.ws.eraseIdx a)
        have h0:aP R ((i:Int),true,xv) = (⟨R.ch,R.ws.eraseIdx a⟩,0,0,[(R.ws[a].1,(k:Int),xv,0)]):=by
          unfold aP
          simp only [hat,hcl,if_true,Bool.false_eq_true,if_false]
          rw [hq]
          simp only [Bool.false_eq_true,if_false,hwo,cH,hci]
        have:=hout cn _ s1 _ 0 0 _ h0 hm.ref hk1 hids
        rw [hcn] at this
        rw [hw] at hdr m1 m2 w1 w2 w3 w4 w5 w6 w7 ⊢
        simp (config:=KF) (disch:=omega) only [bZ,Nat.reduceBEq,Bool.or_true,de,ixSV,ag,addA,aa,id,ci,↓reduceIte,Nat.reduceEqDiff,Nat.reduceAdd,Nat.reduceLeDiff,or_true,or_false,n2,w1,w2,w7,hwg,wtA2,v2,v4]
        refine ec (by simp only [List.map_cons,List.map_nil,m1]; rfl) e_f79 hdr (by simp only [List.all_cons,List.all_nil,m2]; rfl) ?_
        simp (config:=KF) (disch:=omega) only [bZ,Nat.reduceBEq,Bool.or_true,ksB,aG,aV,aZ,aF,bV,bC,nstB,a9,np,kL,eD,cG,ck,cc,dK,dl,retI,List.reduceReplicate,addA,aa,bu,eM,List.nil_append,List.cons_append,↓reduceIte,Nat.reduceEqDiff,Nat.reduceAdd,Nat.reduceLT,Nat.reduceLeDiff,or_true,or_false,n2,n4,x2,x4]
        exact this
      | none =>
        rw [hfw] at hP
        simp only [cd,Prod.mk.injEq] at hP
        obtain ⟨rfl,rfl⟩:=hP
        have hq:=lM hfw
        have h0:aP R ((i:Int),true,xv) = (⟨R.ch.set i (R.ch[i].1,R.ch[i].2.1++[xv],R.ch[i].2.2),R.ws⟩,0,0,[]):=by
          unfold aP
          simp only [hat,hcl,if_true,Bool.false_eq_true,if_false,Int.toNat_natCast]
          rw [hq]
          simp only
          rw [dp hchs,hcl]
        have hown:=ca R.ch[i].2.1
        simp (config:=KF) (disch:=omega) only [bZ,aW,np,ai,aY,List.reduceReplicate,addA,aa,srcA,cR,↓reduceIte,Nat.reduceEqDiff,Nat.reduceLT,Int.reduceNeg,hg,hd1,b1]
        refine MB.grow (bytes:=8) hmb hown (ca [xv]) (ba (by simp only [ak,List.length_cons,List.length_nil]; omega)) fun b' s2 g1 g2 g3=>?_
        have g1:MB b' s2 (ints (R.ch[i].2.1++[xv])):=by rw [ed]; exact g1
        obtain ⟨p1,p2,p3,_⟩:=hm.put (buf1:=R.ch[i].2.1++[xv]) hil hcn hg hb g2 g3
        have hrm:=p3 g1 (MB.nodup g1)
        obtain ⟨y1,y2,y3,y4,y5,y6,y7,y8⟩:=g1.facts
        have hlt2:=hrm.lts
        have:=hout cn _ _ _ 0 0 _ h0 hrm.ref (hk1.trans p2 fun y hy=>.inr (hids y hy).1) fun y hy=>⟨?_,hlt2 y hy⟩
        rotate_left
        · rcases List.mem_append.1 hy with hy | hy
          · exact (hids y (List.mem_append_left _ hy)).1
          · obtain ⟨b'',hb'',hyb⟩:=List.mem_flatMap.1 hy
            rcases List.mem_or_eq_of_mem_set hb'' with q | q
            · exact (hids y (List.mem_append_right _ (List.mem_flatMap.2 ⟨b'',q,hyb⟩))).1
            · subst q
              rcases g3 y hyb with q | q
              · exact (hids y (List.mem_append_right _ (List.mem_flatMap.2 ⟨b,List.mem_of_getElem? hb,q⟩))).1
              · have:=hk1.1; omega
        rw [hcn] at this
        simp (config:=KF) (disch:=omega) only [bZ,Nat.reduceBEq,ksB,aG,aV,aZ,aF,bV,bC,nstB,a9,eD,cG,ck,dK,dl,retI,bh,ai,ag,addA,aa,List.nil_append,↓reduceIte,Nat.reduceEqDiff,Nat.reduceAdd,Nat.reduceLeDiff,Int.reduceNeg,or_false,n2,n4,w2,w4,p1,y1,y4,y6]
        exact this
  | false =>
    simp only [Bool.false_eq_true,if_false] at hrd
    simp only [Bool.not_false] at hP
    cases hfw:bJ (i:Int) true R.ws with
    | some p =>
      obtain ⟨a,k⟩:=p
      rw [hfw] at hP
      simp only [cd,Prod.mk.injEq] at hP
      obtain ⟨rfl,rfl⟩:=hP
      obtain ⟨ha,hk,⟨rest,hq⟩,hci,hwo⟩:=lN hfw hnd hwv
      obtain ⟨hw,hwg⟩:=jt ha
      obtain ⟨hcs,hcg⟩:=cs_get hk
      obtain ⟨v1,v2,v3,v4,v5,v6,v7⟩:=bk R.ws[a].2
      simp only [if_true] at hq
      obtain ⟨v0,tl,hvt⟩:∃ v0 tl,R.ch[i].2.1++[R.ws[a].2[k].2.2] = v0::tl:=by
        cases h1:R.ch[i].2.1 with
        | nil=>exact ⟨_,_,rfl⟩
        | cons y l=>exact ⟨_,_,rfl⟩
      have htl:tl.length < 50000:=by have:=congrArg List.length hvt; simp at this; omega
      have h0:aP R ((i:Int),false,xv) = (⟨R.ch.set i (R.ch[i].1,tl,R.ch[i].2.2),R.ws.eraseIdx a⟩,v0,0,[(R.ws[a].1,(k:Int),0,0)]):=by
        unfold aP
        simp only [hat,Bool.false_eq_true,if_false,Int.toNat_natCast]
        rw [hq]
        simp only [hwo,cH,hci,hvt,List.headD_cons]
        rw [dp hchs]
        simp only [hvt,List.tail_cons]
      rw [hw] at hf m1 m2 w1 w2 w3 w4 w5 w6 w7 ⊢
      rw [hcs] at v1 v2 v6 v7
      simp (config:=KF) (disch:=omega) only [bZ,bW,aW,np,ixSV,ai,ag,aY,List.reduceReplicate,addA,aa,srcA,cF,cR,ci,↓reduceIte,Nat.reduceEqDiff,Nat.reduceAdd,Nat.reduceLT,Nat.reduceLeDiff,w1,w7,hwg,wtA2,hcs,v1,v2,hcg,csAV,hg,hd1,b1]
      refine MB.grow (bytes:=8) hmb (ca R.ch[i].2.1) (ca [R.ws[a].2[k].2.2]) (ba (by simp only [ak,List.length_cons,List.length_nil]; omega)) fun b' s2 g1 g2 g3=>?_
      have g1:MB b' s2 (ints (R.ch[i].2.1++[R.ws[a].2[k].2.2])):=by rw [ed]; exact g1
      obtain ⟨p1,p2,p3,_⟩:=hm.put (buf1:=R.ch[i].2.1++[R.ws[a].2[k].2.2]) hil hcn hg hb g2 g3
      have hrm:=p3 g1 (MB.nodup g1)
      obtain ⟨y1,y2,y3,y4,y5,y6,y7,y8⟩:=g1.facts
      rw [ak,List.length_append,List.length_singleton] at y8
      have hil2:i < (R.ch.set i (R.ch[i].1,R.ch[i].2.1++[R.ws[a].2[k].2.2],R.ch[i].2.2)).length:=by rw [List.length_set]; exact hil
      obtain ⟨s3,hs3⟩:∃ s3,s3 = s2.set bi (cs.set (i * 3 + 1) b'):=⟨_,rfl⟩
      rw [← hs3] at p2 hrm
      obtain ⟨bi2,cap2,cs2,bb,q1,hg2,hd',hb',_,_⟩:=hrm.get hil2
      rw [hcn] at q1
      have hb2:=(AV.bs.inj q1).1
      subst hb2
      have hbb:bb = b':=by
        rw [List.getElem?_set] at hb'
        have hbl:=(List.getElem?_eq_some_iff.1 hb).1
        simpa [hbl] using hb'.symm
      subst hbb
      have hd1':=congrArg (List.drop 1) hd'
      rw [List.drop_drop] at hd1'
      simp only [List.drop_succ_cons,List.drop_zero] at hd1'
      have hcn2:cn = .bs bi 3 0 (R.ch.set i (R.ch[i].1,R.ch[i].2.1++[R.ws[a].2[k].2.2],R.ch[i].2.2)).length cap:=by rw [List.length_set]; exact hcn
      have hge:∀ y ∈ ae cn++(bs.set i bb).flatMap ae,st.boxes.length≤y:=fun y hy=>by
        rcases List.mem_append.1 hy with hy | hy
        · exact (hids y (List.mem_append_left _ hy)).1
        · obtain ⟨b'',hb'',hyb⟩:=List.mem_flatMap.1 hy
          rcases List.mem_or_eq_of_mem_set hb'' with q | q
          · exact (hids y (List.mem_append_right _ (List.mem_flatMap.2 ⟨b'',q,hyb⟩))).1
          · subst q
            rcases g3 y hyb with q | q
            · exact (hids y (List.mem_append_right _ (List.mem_flatMap.2 ⟨b,List.mem_of_getElem? hb,q⟩))).1
            · have:=hk1.1; omega
      have hlt3:=hrm.lts
      simp (config:=KF) (disch:=omega) only [bZ,bh,ai,ag,List.reduceReplicate,addA,aa,bu,↓reduceIte,Nat.reduceEqDiff,Nat.reduceAdd,Nat.reduceLT,Nat.reduceLeDiff,p1,y1,y4,y6]
      rw [← hs3]
      simp (config:=KF) (disch:=omega) only [bZ,ai,addA,aa,↓reduceIte,Nat.reduceEqDiff,f78_47e,hg2,hd1',y1,y8]
      rw [← hw,← hcn]
      refine nI hrm hil2 (v0:=v0) (rest:=tl) (by simp [hvt]) htl hwl hcn2 (o:=some (a,k)) (fun a' k' e=>by cases e; exact ha) (ev:=.sl true 4 [bL (R.ws[a].1,(k:Int),0,0)]) (ev':=.sl false 4 [bL (R.ws[a].1,(k:Int),0,0)]) rfl rfl rfl rfl rfl rfl (fun _=>rfl) (fun _=>rfl) fun F' st' f1 f2 f3=>?_
      have:=hout cn F' st' _ v0 0 _ h0 (by simpa using f1) ((hk1.trans p2 fun y hy=>.inr (hids y hy).1).trans f2 fun y hy=>.inr (hge y hy)) fun y hy=>⟨hge y (f3 y hy),Nat.lt_of_lt_of_le (hlt3 y (f3 y hy)) f2.1⟩
      obtain ⟨x1,x2,x3,x4,x5,x6,x7,x8⟩:=aw (R.ws.eraseIdx a)
      simp only [pr]
      rw [hcn] at this ⊢
      simp (config:=KF) (disch:=omega) only [bZ,retI,aa,eM,↓reduceIte,Nat.reduceEqDiff,Nat.reduceAdd,Nat.reduceLeDiff,n2,x2,bL]
      exact this
    | none =>
      rw [hfw] at hP
      simp only [cd,Prod.mk.injEq] at hP
      obtain ⟨rfl,rfl⟩:=hP
      have hq:=lM hfw
      cases hB:R.ch[i].2.1 with
      | nil =>
        rw [hq,hB] at hrd
        have hcl:R.ch[i].2.2 = true:=by simpa using hrd
        have h0:aP R ((i:Int),false,xv) = (R,0,13,[]):=by
          unfold aP
          simp only [hat,Bool.false_eq_true,if_false]
          rw [hq]
          simp only [hB,hcl,if_true]
        have:=hout cn _ s1 R 0 13 [] h0 hm.ref hk1 hids
        rw [hcn] at this
        rw [hB] at b8
        simp (config:=KF) (disch:=omega) only [bZ,Nat.reduceBEq,ksB,aG,aV,aZ,aF,bV,bC,nstB,a9,eD,cG,ck,dK,dl,retI,ai,ag,addA,aa,cF,jY,jZ,List.nil_append,↓reduceIte,Nat.reduceEqDiff,Nat.reduceAdd,Nat.reduceLeDiff,Int.reduceNeg,or_false,f78_47e,n2,n4,w2,w4,hg,hd1,b1,b8]
        exact this
      | cons v0 tl =>
        have htl:tl.length < 50000:=by rw [hB] at hbi; simp at hbi; omega
        have h0:aP R ((i:Int),false,xv) = (⟨R.ch.set i (R.ch[i].1,tl,R.ch[i].2.2),R.ws⟩,v0,0,[]):=by
          unfold aP
          simp only [hat,Bool.false_eq_true,if_false,Int.toNat_natCast]
          rw [hq]
          simp only [hB]
          rw [dp hchs]
        rw [hB,List.length_cons] at b8
        simp (config:=KF) (disch:=omega) only [bZ,ai,addA,aa,cF,↓reduceIte,Nat.reduceEqDiff,Int.reduceNeg,f78_47e,hg,hd1,b1,b8]
        rw [← hcn]
        refine nI hm hil hB htl hwl hcn (o:=none) (fun a' k' e=>by cases e) (ev:=.lit (.slice none 0 0)) (ev':=.lit (.slice none 0 0)) rfl rfl rfl rfl rfl rfl (fun _=>rfl) (fun _=>rfl) fun F' st' f1 f2 f3=>?_
        have:=hout cn F' st' _ v0 0 _ h0 f1 (hk1.trans f2 fun y hy=>.inr (hids y hy).1) fun y hy=>⟨(hids y (f3 y hy)).1,Nat.lt_of_lt_of_le (hlts y (f3 y hy)) f2.1⟩
        simp only [pr]
        rw [hcn] at this ⊢
        simp (config:=KF) (disch:=omega) only [bZ,retI,aa,↓reduceIte,Nat.reduceEqDiff,Nat.reduceAdd,Nat.reduceLeDiff,n2,w2]
        exact this
end
end Go.Fx.YtbomoaajkinfpaaFx

