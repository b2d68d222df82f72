/- What the functions that the statement reaches compute: part 46. -/
import Derived.Test.YtbomoaajkinfpaaFxW45
namespace Go.Fx.YtbomoaajkinfpaaFx
open Go Go.Fx
attribute [local irreducible] aC runI aB aE

set_option maxRecDepth 100000
set_option maxHeartbeats 4000000

/-- Only some boxes. -/
def St.only (st:St) (G:List Nat):St:=⟨st.boxes.mapIdx fun i b=>if i ∈ G then b else none⟩
theorem only_at (st:St) {G:List Nat} {x:Nat} (h:x ∈ G):(St.only st G).boxes[x]? = st.boxes[x]?:=by
  unfold St.only
  rw [List.getElem?_mapIdx]
  simp only [h,if_true]
  cases st.boxes[x]? <;> rfl
theorem only_sub {st st':St} {G:List Nat} (h:∀ x ∈ G,x < st.boxes.length→st'.boxes[x]? = st.boxes[x]?):St.sub (St.only st G) st':=fun id b hb=>by
  unfold St.only at hb
  rw [List.getElem?_mapIdx] at hb
  obtain ⟨c,hc,hd⟩:=Option.map_eq_some_iff.1 hb
  by_cases hg:id ∈ G
  · rw [if_pos hg] at hd
    subst hd
    rw [h id hg (List.getElem?_eq_some_iff.1 hc).1]
    exact hc
  · rw [if_neg hg] at hd
    cases hd

theorem EV4.sub {v:AV} {ρ s:St} {l:List It4} {F:List Nat} (h:EV4 v ρ l F) (hs:St.sub ρ s):EV4 v s l F:=by
  rcases h with h | ⟨h | ⟨id,cap,r,e,hg,h1⟩,h2⟩
  · exact .inl h
  · exact .inr ⟨.inl h,h2⟩
  · exact .inr ⟨.inr ⟨id,cap,r,e,get_sub hs hg,h1⟩,h2⟩

def WV (ws:List Wt):Prop:=∀ w ∈ ws,(w.2.map (·.1)).Nodup
theorem WV.sub {ws ws':List Wt} (h:WV ws) (hs:ws'.Sublist ws):WV ws':=fun w hw=>h w (hs.subset hw)
theorem wo_sub (t:Int) (ws:List Wt):(wo t ws).Sublist ws:=List.filter_sublist
theorem rCarry_sub (R:RS) (x:Cs):(aP R x).1.ws.Sublist R.ws:=by
  unfold aP
  split
  · split
    · exact List.Sublist.refl _
    · split
      · exact wo_sub _ _
      · exact List.Sublist.refl _
  · split
    · exact wo_sub _ _
    · split <;> exact List.Sublist.refl _
theorem rAct_wv {R:RS} (h:WV R.ws) (a:A7):WV (rAct R a).1.ws:=by
  unfold rAct
  split
  · unfold cp
    split
    · exact h
    · rename_i hn
      split
      · exact h
      · split
        · split
          · exact h
          · intro w hw
            rcases List.mem_append.1 hw with hw | hw
            · exact h w hw
            · simp only [List.mem_singleton] at hw
              subst hw
              have hv:bP R.ch.length a.2.2.2.1 = true:=by
                cases hv:bP R.ch.length a.2.2.2.1 with
                | true=>rfl
                | false=>exact absurd (.inr (.inr (.inl hv))) hn
              exact (ew hv).2.2.1
        · exact h.sub (rCarry_sub _ _)
  · split
    · unfold dy
      split
      · exact h
      · split
        · exact h
        · exact h.sub (wo_sub _ _)
    · unfold cP
      split
      · exact h
      · split
        · exact h
        · exact h.sub (gP _ _)
def fK (R:RS) (l:List A7):RS:=l.foldl (fun R a=>(rAct R a).1) R
theorem cellsD_cs (l:List Cs):cellsD (l.map csAV) = l.flatMap csC:=by
  induction l with
  | nil=>rfl
  | cons x l ih =>
    have:cellsD (csAV x::l.map csAV) = (csAV x).cells++cellsD (l.map csAV):=by
      simp [cellsD,csAV,AV.dis,AV.own1,AV.cells]
    rw [List.map_cons,this,ih]
    rfl
def a7s (l:List A7):List AV:=l.map fun a=>a7AV a (.sl false 3 (a.2.2.2.1.map csAV))
def cg (l:List A7):AV:=.sl false 5 (a7s l)
theorem iP (l:List A7):(a7s l).length = l.length:=by simp [a7s]
theorem a7s_get {l:List A7} {i:Nat} (h:i < l.length):(a7s l).getD i .any = .agg [.lit (.int .i64 l[i].1),.lit (.int .i64 l[i].2.1),.lit (.int .i64 l[i].2.2.1),.sl false 3 (l[i].2.2.2.1.map csAV),.lit (.bool l[i].2.2.2.2)]:=by
  simp [a7s,h,a7AV]

section
variable {st:St} {s mid n:Nat} {cv ov rv:AV} {L:List CL} {R:RS} {F:List Nat}
theorem SelR.rok (h:SelR st s mid cv ov L R n) (hw:WV R.ws):ROk R (n + 5000):=by
  refine ⟨h.wok.nd,hw,h.few,h.wok.len,by rw [← h.ob,gQ]; exact h.len,fun c hc=>?_⟩
  rw [← h.ob] at hc
  obtain ⟨x,hx,rfl⟩:=List.mem_map.1 hc
  have:=h.bd x hx
  unfold Bd at this
  simp only
  omega

/-- What is known between two calls. -/
structure Pl (st:St) (s mid:Nat) (cv ov rv:AV) (L:List CL) (R:RS) (n:Nat) (F:List Nat):Prop where
  sel:SelR st s mid cv ov L R n
  ref:RefC rv st R.ch F
  wv:WV R.ws
  lt:∀ x ∈ F,x < st.boxes.length
  sep:∀ x ∈ F,x ∉ ah s mid cv ov L

theorem wipe_loop {v:AV} {s0:St} {m:Nat} {cs0:List AV} (hm:m < 100000) (hkb:KB 3 v s0 cs0 m) {w t p:Int} {wt:Bool} {z4 z6 z12:List AV} {u0 u2 u8:AV} (e0:u0.dis = u0) (e2:u2.dis = u2) (e8:u8.dis = u8) {K:Exit→Sf→St→Prop}
    (hK:∀ s',Kp s0 s' (ae v)→K (.exit 2) ⟨[(0,u0),(2,u2),(4,.lptr 4 0),(6,.lptr 6 0),(8,u8),(12,.lptr 12 0)],[(4,z4),(6,z6),(12,z12)]⟩ s') :
    aC Go.Proofs.Try.prog id false f25_46 ⟨[(0,u0),(2,u2),(4,.lptr 4 0),(6,.lptr 6 0),(8,u8),(9,.lptr 9 0),(12,.lptr 12 0),(14,.lit (.int .i64 0))],[(4,z4),(6,z6),(9,[.lit (.int .i64 w),.lit (.int .i64 t),.lit (.int .i64 p),v,.lit (.bool wt)]),(12,z12)]⟩ s0 K:=by
  obtain ⟨v1,v2,v3,v4,v5,v6,v7,v8⟩:=hkb.facts
  rw [f25_46w]
  refine aX (A:=Nat×St) (fun a=>m - a.1) (fun a=>⟨[(0,u0),(2,u2),(4,.lptr 4 0),(6,.lptr 6 0),(8,u8),(9,.lptr 9 0),(12,.lptr 12 0),(14,.lit (.int .i64 (a.1:Nat)))],[(4,z4),(6,z6),(9,[.lit (.int .i64 w),.lit (.int .i64 t),.lit (.int .i64 p),v,.lit (.bool wt)]),(12,z12)]⟩) (fun a=>a.2)
    (fun a=>a.1≤m∧Kp s0 a.2 (ae v)∧(m = 0∨∃ bx cap cs,v = .bs bx 3 0 m cap∧a.2.get bx = some cs∧m * 3≤cs.length))
    (0,s0) ⟨Nat.zero_le _,Kp.refl _ _,?_⟩ (Sf.le_refl _) rfl ?_
  · rcases hkb with ⟨_,_,e⟩ | ⟨bx,cap,r,e,hg,h1,_⟩
    · exact .inl e
    · exact .inr ⟨bx,cap,_,e,hg,by rw [List.length_append,h1]; omega⟩
  rintro ⟨k,s⟩ ⟨h1,h2,h3⟩ K2 hK2 hKe hKr
  simp only at h1 h2 h3
  try dsimp only
  by_cases hk:k < m
  · rcases h3 with e | ⟨bx,cap,cs,e,hg,hl⟩
    · omega
    have hnx:=fun (cs':List AV) (hl':cs'.length = cs.length) (sf:Sf)=>hK2 (k + 1,s.set bx cs') sf ⟨by simp only; omega,h2.trans ⟨by rw [ce]; exact Nat.le_refl _,fun x hx hn=>bE fun q=>hn (by rw [e,q]; simp [ae])⟩ fun _ hx=>.inl hx,.inr ⟨bx,cap,cs',e,aU (bj hg),by omega⟩⟩ (by simp only; omega)
    subst e
    simp (config:=KF) (disch:=omega) only [bZ,ixSV,ag,lenI,addA,aa,↓reduceIte,Nat.reduceEqDiff,Nat.reduceAdd,Nat.reduceLeDiff,Int.reduceNeg,reduceCtorEq,hg]
    exact hnx _ (by simp) _ (Sf.le_refl _)
  · simp (config:=KF) (disch:=omega) only [bZ,addA,aa,↓reduceIte,Nat.reduceEqDiff,reduceCtorEq,v1,v8]
    exact hKe _ _ _ (hK s h2)

theorem plays_loop {l:List A7} (hl:l.length≤100) (hfew:∀ a ∈ l,a.2.2.2.1.length≤20) (h:Pl st s mid cv ov rv L R n F) (hn:n + l.length < 1900) {K:Exit→Sf→St→Prop}
    (hK:∀ st' cv' ov' rv' L' F',Pl st' s mid cv' ov' rv' L' (fK R l) (n + l.length) F'→Kp st st' (ah s mid cv ov L)→(∀ x ∈ ah s mid cv' ov' L',x ∈ ah s mid cv ov L∨st.boxes.length≤x)→(∀ x ∈ F',x ∈ F∨st.boxes.length≤x) →
      K (.exit 0) ⟨[(4,.lptr 4 0),(6,.lptr 6 0)],[(4,[rv',wtS (fK R l).ws]),(6,[.lit (.slice none 0 0),.lit (.slice none 0 0)])]⟩ st') :
    aC Go.Proofs.Try.prog id false f25_7 ⟨[(0,.ptr s 0),(2,cg l),(4,.lptr 4 0),(6,.lptr 6 0),(8,.lit (.int .i64 0))],[(4,[rv,wtS R.ws]),(6,[.lit (.slice none 0 0),.lit (.slice none 0 0)])]⟩ st K:=by
  rw [f25_7w]
  refine aX (A:=Nat×AV×AV×AV×List CL×List Nat×St) (fun a=>l.length - a.1) (fun a=>⟨[(0,.ptr s 0),(2,cg l),(4,.lptr 4 0),(6,.lptr 6 0),(8,.lit (.int .i64 (a.1:Nat)))],[(4,[a.2.2.2.1,wtS (fK R (l.take a.1)).ws]),(6,[.lit (.slice none 0 0),.lit (.slice none 0 0)])]⟩) (fun a=>a.2.2.2.2.2.2)
    (fun a=>a.1≤l.length∧Pl a.2.2.2.2.2.2 s mid a.2.1 a.2.2.1 a.2.2.2.1 a.2.2.2.2.1 (fK R (l.take a.1)) (n + a.1) a.2.2.2.2.2.1∧Kp st a.2.2.2.2.2.2 (ah s mid cv ov L)∧(∀ x ∈ ah s mid a.2.1 a.2.2.1 a.2.2.2.2.1,x ∈ ah s mid cv ov L∨st.boxes.length≤x)∧∀ x ∈ a.2.2.2.2.2.1,x ∈ F∨st.boxes.length≤x)
    (0,cv,ov,rv,L,F,st) ⟨Nat.zero_le _,h,Kp.refl _ _,fun _ hx=>.inl hx,fun _ hx=>.inl hx⟩ (Sf.le_refl _) rfl ?_
  rintro ⟨i,cv1,ov1,rv1,L1,F1,s0⟩ ⟨h1,h2,h3,h4,h5⟩ K2 hK2 hKe hKr
  simp only at h1 h2 h3 h4 h5
  try dsimp only
  obtain ⟨hsel,href,hwv,hlt,hsep⟩:=h2
  obtain ⟨c1,c2,c3,c4,c5,c6,c7⟩:=href.isCh
  by_cases hi:i < l.length
  · have htk:fK R (l.take (i + 1)) = (rAct (fK R (l.take i)) l[i]).1:=by
      rw [List.take_succ_eq_append_getElem hi]
      unfold fK
      rw [List.foldl_append]
      rfl
    generalize hR1:fK R (l.take i) = R1 at *
    have hla:=hfew l[i] (List.getElem_mem hi)
    have hnx:=fun (cv' ov' rv':AV) (L':List CL) (F':List Nat) (s':St) (sf:Sf) a1 a2 a3 a4=>hK2 (i + 1,cv',ov',rv',L',F',s') sf ⟨by simp only; omega,a1,a2,a3,a4⟩ (by simp only; omega)
    simp only [htk] at hnx
    obtain ⟨w1,w2,w3,w4,w5,w6,w7,w8⟩:=aw R1.ws
    have hgd:=a7s_get hi
    have hgl:=iP l
    generalize l[i] = a at *
    obtain ⟨w,t,p,cl,wt⟩:=a
    simp only at hla
    simp only at hgd
    have hct:=cellsD_cs cl
    have hdl:(cl.map csAV).length = cl.length:=List.length_map _
    simp (config:=KF) (disch:=omega) only [bZ,ixSV,ag,aY,lenI,addA,aa,srcA,fU,ci,bS,↓reduceIte,Nat.reduceEqDiff,Nat.reduceAdd,Nat.reduceLeDiff,reduceCtorEq,cg,hgd,hgl]
    refine KB.grow (k:=3) (n:=0) (cs:=[]) (.inl ⟨rfl,rfl,rfl⟩) rfl (by rw [hct,csC_len,hdl]) (ba (by rw [hdl]; omega)) fun v s1 g1 g2 g3=>?_
    rw [hct,hdl,List.nil_append,Nat.zero_add] at g1
    have hcv:CV v s1 cl:=.inr g1
    obtain ⟨v1,v2,v3,v4,v5,v6,v7,v8⟩:=hcv.facts
    have hk01:Kp s0 s1 []:=⟨g2.1,fun id hid _=>g2.2 id hid (by simp [ae])⟩
    have hsel1:=hsel.kp hk01 fun _ _ e=>by cases e
    have hlt1:=hsel.is.lts
    have href1:RefC rv1 s1 R1.ch F1:=href.at fun x hx=>hk01.2 x (hlt x hx) (by simp)
    have hvn:∀ x ∈ ae v,s0.boxes.length≤x:=fun x hx=>(g3 x hx).elim (fun q=>by simp [ae] at q) _root_.id
    have hchl:R1.ch.length = L1.length:=by rw [← hsel.ob,gQ]
    have hrd:=lF hsel1 hcv (by omega)
    obtain ⟨r1,r2⟩:=cD href.isCh R1.ws
    have hval:=lK href1 (by rw [hchl]; exact hsel.len) R1.ws (l:=cl) (by omega)
    simp only [rfA] at hval
    simp (config:=KF) (disch:=omega) only [bZ,bh,ag,addA,aa,id,↓reduceIte,Nat.reduceEqDiff,Nat.reduceAdd,Nat.reduceLeDiff,reduceCtorEq,v1,v4,v6]
    refine aj (vs:=[.ptr s 0,v]) (by simp [v1]; rfl) e_f27 hrd (by simp [v5]; rfl) ?_
    have hmid:∀ q:Nat,q = 53∨q = 68→aC Go.Proofs.Try.prog id false f25_34 ⟨[(0,.ptr s 0),(2,.sl false 5 (a7s l)),(4,.lptr 4 0),(6,.lptr 6 0),(8,.lit (.int .i64 (i:Nat))),(9,.lptr 9 0),(q,.lit (.bool false))],[(4,[rv1,wtS R1.ws]),(6,[.lit (.slice none 0 0),.lit (.slice none 0 0)]),(9,[.lit (.int .i64 w),.lit (.int .i64 t),.lit (.int .i64 p),v,.lit (.bool wt)])]⟩ s1 (gK 1 (seqQ (aC Go.Proofs.Try.prog id false f25_56) K2)):=fun q hq=>by
      have hmk:=makes_calls href1 (fun x hx=>Nat.lt_of_lt_of_le (hlt x hx) hk01.1) (hsel1.rok hwv) (by omega) (w,t,p,cl,wt) (by simp only; omega)
      simp only [rfA,a7AV] at hmk
      rcases hq with rfl | rfl
      all_goals
        simp (config:=KF) (disch:=omega) only [bZ,f25_34e]
        refine nr ⟨[]⟩ (St.sub_nil _) ?_
        simp (config:=KF) (disch:=omega) only [bZ,Nat.reduceBEq,eP,dM,fG,gp,mm_ixS,df,ir,fB,i0,ja,fZ,ixSV,aa,id,fU,List.nil_append,List.cons_append,↓reduceIte,Nat.reduceEqDiff,Nat.reduceAdd,Nat.reduceLeDiff,reduceCtorEq,or_false,c2,w2,hgd,hgl]
        refine iu (by simp only [List.map_cons,List.map_nil,r1]; rfl) e_f50 hmk (by simp only [List.all_cons,List.all_nil,r2]; rfl) ?_
        simp (config:=KF) (disch:=omega) only [bZ,Nat.reduceBEq,Bool.or_true,ksB,aG,aV,aZ,aF,nstB,a9,iq,l3,j8,eF,hm_new,l5,AI.dst,putN,List.nil_append,List.cons_append,↓reduceIte,Nat.reduceEqDiff,reduceCtorEq,or_true,or_false]
        rintro r s2 ⟨rv2,vv,rfl,F2,hr2,he2,hk2,hF2⟩
        refine ⟨St.sub_nil _,?_⟩
        obtain ⟨n1,n2,n3,n4,n5,n6,n7⟩:=hr2.isCh
        obtain ⟨x1,x2,x3,x4,x5,x6,x7,x8⟩:=aw (rAct R1 (w,t,p,cl,wt)).1.ws
        obtain ⟨y1,y2,y3,y4,y5,y6,y7,y8⟩:=he2.facts
        have hsel2:=hsel1.kp hk2 fun _ _ e=>by cases e
        have hcv2:CV v s2 cl:=hcv.at fun x hx=>hk2.2 x (g1.lt x hx) (by simp)
        have hk02:=hk01.trans hk2 (F:=[]) fun x hx=>by cases hx
        have hvs:∀ x ∈ ae v,x ∉ ah s mid cv1 ov1 L1:=fun x hx e=>by
          have:=hvn x hx
          have:=hlt1 x e
          omega
        have hvl:∀ x ∈ ae v,x < s2.boxes.length:=fun x hx=>Nat.lt_of_lt_of_le (g1.lt x hx) hk2.1
        have hF2s:∀ x ∈ F2,x ∉ ah s mid cv1 ov1 L1:=fun x hx e=>by
          rcases hF2 x hx with q | ⟨q,_⟩
          · exact hsep x q e
          · have:=hlt1 x e
            have:=hk01.1
            omega
        have hF2l:∀ x ∈ F2,x < s2.boxes.length:=fun x hx=>by
          rcases hF2 x hx with q | ⟨_,q⟩
          · exact Nat.lt_of_lt_of_le (hlt x q) hk02.1
          · exact q
        have hdo:=nE hsel2 (by omega) (a:=(w,t,p,cl,wt)) (v:=v) hcv2 hvs hvl (by simp only; omega)
        have hal:=rAct_len R1 (w,t,p,cl,wt)
        have hfe:=hsel.few
        simp only [a7AV] at hdo
        have hwv2:=rAct_wv hwv (w,t,p,cl,wt)
        generalize rAct R1 (w,t,p,cl,wt) = X at *
        have hev:EV4 vv (St.only s2 F2) X.2.2.2.1 F2:=he2.imp _root_.id fun q=>⟨q.1.at fun x hx=>only_at s2 (q.2 x hx),q.2⟩
        have heq:∀ s,St.sub (St.only s2 F2) s→aD Go.Proofs.Try.prog n_f18 [rrA X.2,rrV X.2 vv] s (.lit (.bool true)):=fun s hs=>by
          have:=requalV X.2 X.2 (st:=s) (v:=vv) (F:=F2) (by omega) (by omega) (hev.sub hs)
          rwa [decide_eq_true rfl] at this
        simp only [rrV] at heq
        simp (config:=KF) (disch:=omega) only [bZ,Nat.reduceBEq,Bool.or_true,ksB,aG,aV,aZ,aF,bV,bC,nq,nstB,a9,cf,Option.getD_some,Option.getD_none,nst_beq,eP,dM,fG,gp,mm_ext,eE,dS,l6,compM_tn,j9,eG,fV,m_new,m_nst,l5,mm_store,ag,dj,gm,ci,bS,dH,List.nil_append,List.cons_append,↓reduceIte,Nat.reduceEqDiff,Nat.reduceAdd,Nat.reduceLeDiff,reduceCtorEq,or_true,or_false,rrV,n2,n4,x2,x4,y2,y4]
        refine nr (St.only s2 F2) (only_sub fun x _ _=>rfl) ?_
        simp (config:=KF) (disch:=omega) only [bZ,eP,dM,fG,gp,df,ir,fB,i0,ja,fZ,aa,id,List.nil_append,List.cons_append,↓reduceIte,Nat.reduceEqDiff,Nat.reduceAdd,Nat.reduceLeDiff,reduceCtorEq,v2]
        refine iu (vs:=[.ptr s 0,.agg [.lit (.int .i64 w),.lit (.int .i64 t),.lit (.int .i64 p),v,.lit (.bool wt)]]) (by simp only [List.map_cons,List.map_nil,eS,lY,fD,v2,List.nil_append,List.append_nil]) e_f13 hdo (by simp only [List.all_cons,List.all_nil,iH,eT,jW,v5,Bool.and_true]) ?_
        simp (config:=KF) (disch:=omega) only [bZ,ksB,aG,aV,aZ,aF,nstB,a9,df,iq,l3,j8,hm_val,eF,AI.dst,aa,List.nil_append,List.cons_append,↓reduceIte,Nat.reduceEqDiff,Nat.reduceAdd,Nat.reduceLeDiff,reduceCtorEq,y2]
        rintro r s3 ⟨rfl,cv3,ov3,L3,hsel3,hk3,hi3⟩
        refine ⟨only_sub fun x hx hxl=>hk3.2 x hxl (hF2s x hx),?_⟩
        obtain ⟨z1,z2,z3,z4,z5,z6,z7⟩:=bp X.2.2.2.1
        have hr3:RefC rv2 s3 X.1.ch F2:=hr2.at fun x hx=>hk3.2 x (hF2l x hx) (hF2s x hx)
        have hsame:=gT hsel3 hr3
        obtain ⟨d1,d2⟩:=cD hr2.isCh X.1.ws
        simp only [rfA] at hsame
        obtain ⟨f1,f2⟩:=kV X.2
        have hvvd:(AV.agg [.lit (.int .i64 X.2.1.1),.lit (.int .i64 X.2.1.2.1),.lit (.int .i64 X.2.1.2.2.1),.lit (.int .i64 X.2.1.2.2.2),.lit (.bool X.2.2.1),vv,.lit (.int .i64 X.2.2.2.2)]).dis = .agg [.lit (.int .i64 X.2.1.1),.lit (.int .i64 X.2.1.2.1),.lit (.int .i64 X.2.1.2.2.1),.lit (.int .i64 X.2.1.2.2.2),.lit (.bool X.2.2.1),vv,.lit (.int .i64 X.2.2.2.2)]:=by
          simp only [eS,List.map_cons,List.map_nil,fD,y2]
        have hvvn:(AV.agg [.lit (.int .i64 X.2.1.1),.lit (.int .i64 X.2.1.2.1),.lit (.int .i64 X.2.1.2.2.1),.lit (.int .i64 X.2.1.2.2.2),.lit (.bool X.2.2.1),vv,.lit (.int .i64 X.2.2.2.2)]).noL = true:=by
          simp only [iH,List.all_cons,List.all_nil,jW,y5,Bool.and_true]
        simp (config:=KF) (disch:=omega) only [bZ,dM,fG,df,mm_call,aa,id,List.nil_append,↓reduceIte,Nat.reduceEqDiff,Nat.reduceAdd,Nat.reduceLeDiff,reduceCtorEq,y2]
        refine call_1 (by simp only [List.map_cons,List.map_nil,f1,hvvd,List.nil_append,List.append_nil]) e_f18 heq (by simp only [List.all_cons,List.all_nil,f2,hvvn,Bool.and_true]) ?_
        simp (config:=KF) (disch:=omega) only [bZ,ksB,aG,aV,aZ,aF,bV,bC,nstB,a9,eP,dM,m_some,fG,gp,mm_un,df,eE,dS,l6,j9,eG,fV,b9,AI.dst,aa,unA,id,List.nil_append,List.cons_append,↓reduceIte,Nat.reduceEqDiff,Nat.reduceAdd,Nat.reduceLeDiff,reduceCtorEq,n2,x2]
        refine aj (by simp only [List.map_cons,List.map_nil,d1]; rfl) e_f24 hsame (by simp only [List.all_cons,List.all_nil,d2]; rfl) ?_
        simp (config:=KF) (disch:=omega) only [bZ,AI.dst,unA,↓reduceIte,Nat.reduceEqDiff,reduceCtorEq]
        have hvm:∀ x ∈ ae v,x < s1.boxes.length:=fun x hx=>g1.lt x hx
        have hkb3:KB 3 v s3 (cl.flatMap csC) cl.length:=g1.at fun x hx=>(hk3.2 x (hvl x hx) (hvs x hx)).trans (hk2.2 x (hvm x hx) (by simp))
        refine wipe_loop (by omega) hkb3 rfl rfl rfl fun s4 hk4=>?_
        have hk2l:=hk2.1
        have hk3l:=hk3.1
        have hk1l:=hk01.1
        have hsel4:=hsel3.kp hk4 fun x hx e=>by
          have:=hvm x e
          exact (hi3 x hx).elim (hvs x e) fun q=>by omega
        have hF2v:∀ x ∈ F2,x ∉ ae v:=fun x hx e=>by
          have a1:=hvn x e
          have a2:=hvm x e
          rcases hF2 x hx with q | ⟨q,_⟩
          · have:=hlt x q; omega
          · omega
        have hr4:RefC rv2 s4 X.1.ch F2:=hr3.at fun x hx=>hk4.2 x (Nat.lt_of_lt_of_le (hF2l x hx) hk3l) (hF2v x hx)
        have hstl:=h3.1
        simp (config:=KF) (disch:=omega) only [bZ,ag,aa,↓reduceIte,Nat.reduceEqDiff,Nat.reduceAdd,Nat.reduceLeDiff,reduceCtorEq,f25_56e,f25_56l,n2,n4,x2,x4]
        refine hnx cv3 ov3 rv2 L3 F2 s4 _ ⟨hsel4,hr4,hwv2,fun x hx=>Nat.lt_of_lt_of_le (hF2l x hx) (Nat.le_trans hk3l hk4.1),fun x hx e=>(hi3 x e).elim (hF2s x hx) fun q=>by have:=hF2l x hx; omega⟩ ?_ (fun x hx=>?_) (fun x hx=>?_) (Sf.le_refl _)
        · have ha:Kp s0 s3 (ah s mid cv1 ov1 L1):=⟨by omega,fun id hid hn=>by rw [hk3.2 id (by omega) hn,hk02.2 id hid (by simp)]⟩
          have hb:Kp s0 s4 (ah s mid cv1 ov1 L1):=ha.trans hk4 fun x hx=>.inr (hvn x hx)
          exact h3.trans hb h4
        · rcases hi3 x hx with q | q
          · exact h4 x q
          · exact .inr (by omega)
        · rcases hF2 x hx with q | ⟨q,_⟩
          · exact h5 x q
          · exact .inr (by omega)
    cases hb:bP R1.ch.length cl with
    | false =>
      rw [hb] at hval
      obtain ⟨i1,i2,i3,i4,i5,i6,i7,i8⟩:=cw []
      simp (config:=KF) (disch:=omega) only [bZ,bW,ixSV,addA,aa,id,↓reduceIte,Nat.reduceEqDiff,Nat.reduceAdd,Nat.reduceLeDiff,reduceCtorEq,c2,w2,hgd,hgl,i1,i3]
      refine aj (by simp only [List.map_cons,List.map_nil,r1]; rfl) e_f28 hval (by simp only [List.all_cons,List.all_nil,r2]; rfl) ?_
      simp (config:=KF) (disch:=omega) only [bZ,AI.dst,unA,↓reduceIte,Nat.reduceEqDiff,reduceCtorEq,not_true_eq_false,i1,i8]
      exact hmid 53 (.inl rfl)
    | true =>
      rw [hb] at hval
      obtain ⟨q1,q2,q3,q4⟩:=ew hb
      obtain ⟨i1,i2,i3,i4,i5,i6,i7,i8⟩:=cw (aJ R1 0 cl)
      have hrx:=kl href1 (by have:=hsel.few; omega) hsel.wok.len (l:=cl) (by omega) q2
      simp only [rfA] at hrx
      have hrl:∀ (l:List Cs) k,(aJ R1 k l).length≤l.length:=fun l=>by
        induction l with
        | nil=>intro k; simp [aJ]
        | cons x l ih=>intro k; have:=ih (k + 1); simp only [aJ,List.length_append,List.length_cons]; split <;> simp <;> omega
      have hrl0:=hrl cl 0
      have hsm:=kW (st:=s1) (a:=intS (aJ R1 0 cl)) (b:=intS (aJ R1 0 cl)) (f:=aJ R1 0 cl) (.inl (.inl rfl)) (.inl (.inl rfl)) (by omega) (by omega)
      rw [decide_eq_true rfl] at hsm
      simp (config:=KF) (disch:=omega) only [bZ,bW,ixSV,addA,aa,id,↓reduceIte,Nat.reduceEqDiff,Nat.reduceAdd,Nat.reduceLeDiff,reduceCtorEq,c2,w2,hgd,hgl,i1,i3]
      refine aj (by simp only [List.map_cons,List.map_nil,r1]; rfl) e_f28 hval (by simp only [List.all_cons,List.all_nil,r2]; rfl) ?_
      simp (config:=KF) (disch:=omega) only [bZ,dD,f8,bW,de,b9,AI.dst,ixSV,addA,aa,unA,id,↓reduceIte,Nat.reduceEqDiff,Nat.reduceAdd,Nat.reduceLeDiff,reduceCtorEq,not_true_eq_false,c2,w2,hgd,hgl,i1]
      refine ec (by simp only [List.map_cons,List.map_nil,r1]; rfl) e_f49 hrx (by simp only [List.all_cons,List.all_nil,r2]; rfl) ?_
      simp (config:=KF) (disch:=omega) only [bZ,cc,AI.dst,id,↓reduceIte,Nat.reduceEqDiff,reduceCtorEq]
      refine aj (by simp only [List.map_cons,List.map_nil,i1]; rfl) e_f47 hsm (by simp only [List.all_cons,List.all_nil,i5]; rfl) ?_
      simp (config:=KF) (disch:=omega) only [bZ,AI.dst,unA,↓reduceIte,Nat.reduceEqDiff,reduceCtorEq]
      exact hmid 68 (.inr rfl)
  · have hil:i = l.length:=by omega
    subst hil
    obtain ⟨w1,w2,w3,w4,w5,w6,w7,w8⟩:=aw (fK R (l.take l.length)).ws
    have hgl:=iP l
    simp (config:=KF) (disch:=omega) only [bZ,lenI,↓reduceIte,Nat.reduceEqDiff,reduceCtorEq,List.take_length,cg,hgl]
    refine hKe _ _ _ ?_
    rw [List.take_length] at *
    exact hK s0 cv1 ov1 rv1 L1 F1 ⟨hsel,href,hwv,hlt,hsep⟩ h3 h4 h5
end
end Go.Fx.YtbomoaajkinfpaaFx

