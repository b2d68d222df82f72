/- What the functions that the statement reaches compute: part 44. -/
import Derived.Test.YtbomoaajkinfpaaFxW43
namespace Go.Fx.YtbomoaajkinfpaaFx
open Go Go.Fx
attribute [local irreducible] aC runI aB aE

set_option maxRecDepth 100000
set_option maxHeartbeats 4000000

theorem pu:∀ {ch:List Ch3} {bs:List AV} (_:bs.length = ch.length) {i:Nat} (h:i < ch.length) (r:List AV),(chC ch bs++r).set (i * 3 + 2) (.lit (.bool true)) = chC (ch.set i (ch[i].1,ch[i].2.1,true)) bs++r
  | [],_,_,_,h,_=>by simp at h
  | d::cs,e::bs,hl,0,_,r=>by simp [chC]
  | d :: cs, e :: bs, hl, i + 1, h, r => by
    have:=pu (ch:=cs) (bs:=bs) (by simpa using hl) (i:=i) (by simpa using h) r
    simp only [List.getElem_cons_succ]
    rw [List.set_cons_succ]
    simp only [chC,List.cons_append]
    rw [show (i + 1) * 3 + 2 = (i * 3 + 2) + 1 + 1 + 1 by omega]
    simp only [List.set_cons_succ]
    rw [this]
theorem RefM.close {cv:AV} {st:St} {ch:List Ch3} {bs:List AV} {bi cap:Nat} {cs:List AV} {i:Nat} (h:RefM cv st ch bs) (hi:i < ch.length) (hcv:cv = .bs bi 3 0 ch.length cap) (hg:st.get bi = some cs) :
    RefM cv (st.set bi (cs.set (i * 3 + 2) (.lit (.bool true)))) (ch.set i (ch[i].1,ch[i].2.1,true)) bs:=by
  obtain ⟨h1,h2,h3,h4⟩:=h
  subst hcv
  have hbi:bi ∉ bs.flatMap ae:=fun e=>(List.nodup_append.1 h4).2.2 bi (by simp [ae]) bi e rfl
  refine ⟨by rw [List.length_set]; exact h1,?_,fun j b c hj hc=>?_,h4⟩
  · rcases h2 with ⟨e,_⟩ | ⟨id,cap',r,e,hg2,q1,q2,q3⟩
    · cases e
    · cases e
      rw [hg] at hg2
      cases hg2
      refine .inr ⟨bi,cap,r,by rw [List.length_set],?_,?_,by rw [List.length_set]; exact q2,?_⟩
      · rw [aU (bj hg),pu h1 hi]
      · exact kj (by rw [List.length_set]; exact h1)
      · rw [List.length_append,kj (by rw [List.length_set]; exact h1),List.length_set]
        rw [List.length_append,q1] at q3
        exact q3
  · have hc':∃ c',ch[j]? = some c'∧c'.2.1 = c.2.1:=by
      rw [List.getElem?_set] at hc
      by_cases e:i = j
      · subst e
        simp only [if_true,hi] at hc
        cases hc
        exact ⟨ch[i],List.getElem?_eq_getElem hi,rfl⟩
      · rw [if_neg e] at hc
        exact ⟨c,hc,rfl⟩
    obtain ⟨c',hc1,hc2⟩:=hc'
    rw [← hc2]
    refine (h3 j b c' hj hc1).at fun x hx=>bE fun e=>hbi (List.mem_flatMap.2 ⟨b,List.mem_of_getElem? hj,by rw [← e]; exact hx⟩)

theorem RefC.mono {cv:AV} {st:St} {ch:List Ch3} {F F':List Nat} (h:RefC cv st ch F) (hs:∀ x ∈ F,x ∈ F'):RefC cv st ch F':=by
  obtain ⟨bs,h1,h2,h3,h4,h5⟩:=h
  exact ⟨bs,h1,h2,h3,fun x hx=>hs x (h4 x hx),fun b hb x hx=>hs x (h5 b hb x hx)⟩

/-- Items of a result, frozen or in a buffer. -/
def EV4 (v:AV) (st:St) (l:List It4) (F:List Nat):Prop:=v = it4s l∨KB 4 v st (l.flatMap it4C) l.length∧∀ x ∈ ae v,x ∈ F
theorem EV4.facts {v:AV} {st:St} {l:List It4} {F:List Nat} (h:EV4 v st l F):v.dis = v∧v.own1 = v∧v.own2 = v∧v.solid1 = true∧v.noL = true∧v.cells = [v]∧(∀ s,kill s v = v)∧∀ st',lenI .sl st' v = .ok (.lit (.int .i64 (l.length:Nat))):=by
  rcases h with rfl | ⟨h,_⟩
  · obtain ⟨w1,w2,w3,w4,w5,w6,w7⟩:=bp l
    exact ⟨w1,w2,w3,w4,w5,w6,w7,ke l⟩
  · exact h.facts
def rrV (x:RR) (v:AV):AV:=.agg [.lit (.int .i64 x.1.1),.lit (.int .i64 x.1.2.1),.lit (.int .i64 x.1.2.2.1),.lit (.int .i64 x.1.2.2.2),.lit (.bool x.2.1),v,.lit (.int .i64 x.2.2.2)]
/-- What a call of the reference leaves behind. -/
def RefQ (F:List Nat) (st st':St) (cv' v:AV) (R':RS) (l:List It4):Prop:=∃ F',RefC cv' st' R'.ch F'∧EV4 v st' l F'∧Kp st st' []∧∀ y ∈ F',y ∈ F∨st.boxes.length≤y∧y < st'.boxes.length
theorem RefP.q {F:List Nat} {st st':St} {cv':AV} {R':RS} (l:List It4) (h:RefP F st st' cv' R'):RefQ F st st' cv' (it4s l) R' l:=by
  obtain ⟨F',h1,h2,h3⟩:=h
  exact ⟨F',h1,.inl rfl,h2,h3⟩

section
variable {cv:AV} {st:St} {R:RS} {F:List Nat} {n:Nat}
theorem ql (h:RefC cv st R.ch F) (hF:∀ x ∈ F,x < st.boxes.length) (ho:ROk R n) (hn:n < 49000) (i:Int) :
    aA Go.Proofs.Try.prog n_f67 [rfA cv R.ws,.lit (.int .i64 i)] st
      (fun r st'=>∃ cv' v,r = .tup [rfA cv' (cP R i).1.ws,rrV ((0,0,0,0),false,[],(cP R i).2.2) v]∧RefQ F st st' cv' v (cP R i).1 (cP R i).2.1):=by
  have hwl:=ho.wl
  obtain ⟨c1,c2,c3,c4,c5,c6,c7⟩:=h.isCh
  have c8:=h.len
  obtain ⟨w1,w2,w3,w4,w5,w6,w7,w8⟩:=aw R.ws
  obtain ⟨r1,r2⟩:=cD h.isCh R.ws
  refine aq hmix k_f67 rfl rfl fun Q hQ=>?_
  unfold aFun c_f67
  generalize hX:cP R i = X at hQ
  unfold cP at hX
  have hself:=h.self
  simp only [rfA,rrV] at hQ
  simp (config:=KF) (disch:=omega) only [bZ,AI.dst,cC,↓reduceIte,Nat.reduceEqDiff,Nat.reduceAdd,reduceCtorEq,rfA,c2,c4,w2,w4]
  refine aK (fun h1=>?_) (fun h1=>?_)
  · rw [if_pos (.inl h1)] at hX
    subst hX
    simp (config:=KF) (disch:=omega) only [bZ,retI,AI.dst,ag,aa,↓reduceIte,Nat.reduceEqDiff,Nat.reduceAdd,Nat.reduceLeDiff,c2,c4,w2,w4]
    exact hQ _ _ ⟨cv,_,rfl,hself.q []⟩
  simp (config:=KF) (disch:=omega) only [bZ,AI.dst,addA,aa,cF,↓reduceIte,Nat.reduceEqDiff,c1,c8]
  refine aH (fun h2=>?_) (fun h2=>?_)
  · rw [if_pos (.inr (by omega))] at hX
    subst hX
    simp (config:=KF) (disch:=omega) only [bZ,retI,ag,aa,↓reduceIte,Nat.reduceEqDiff,Nat.reduceAdd,Nat.reduceLeDiff,c2,c4,w2,w4]
    exact hQ _ _ ⟨cv,_,rfl,hself.q []⟩
  rw [if_neg (by omega)] at hX
  obtain ⟨k,rfl⟩:∃ k:Nat,i = (k:Int):=⟨i.toNat,by omega⟩
  have hkl:k < R.ch.length:=by omega
  have hat:atR R (k:Int) = R.ch[k]:=by unfold atR; rw [if_neg (by omega),Int.toNat_natCast]; simp [hkl]
  rw [hat,Int.toNat_natCast] at hX
  obtain ⟨bi,cap,cs,b,hcv,hg,hd,hb,hle⟩:=h.get hkl
  have hd2:cs.drop (k * 3 + 2) = .lit (.bool R.ch[k].2.2)::cs.drop ((k + 1) * 3):=by rw [← List.drop_drop,hd]; rfl
  have hcp:=lL (ws:=R.ws) h hF ho.ch (fun c hc=>by have:=ho.bl c hc; omega) (by omega)
  simp only [rfA] at hcp
  cases hcl:R.ch[k].2.2 with
  | true =>
    rw [hcl,if_pos rfl] at hX
    subst hX
    have hq:=hQ _ st ⟨cv,_,rfl,hself.q []⟩
    rw [hcv] at c1 c2 c3 c4 c5 c6 c7 hq ⊢
    simp (config:=KF) (disch:=omega) only [bZ,retI,ixSV,ag,addA,aa,↓reduceIte,Nat.reduceEqDiff,Nat.reduceAdd,Nat.reduceLeDiff,c1,c2,c4,w2,w4,hg,hd2,hcl]
    exact hq
  | false =>
    rw [hcl] at hX
    simp only [Bool.false_eq_true,if_false] at hX
    rw [hcv] at c1 c2 c3 c4 c5 c6 c7 r1 r2 hcp ⊢
    simp (config:=KF) (disch:=omega) only [bZ,ixSV,addA,aa,id,↓reduceIte,Nat.reduceEqDiff,Nat.reduceAdd,Nat.reduceLeDiff,c1,c2,w2,hg,hd2,hcl]
    refine ar (by simp only [List.map_cons,List.map_nil,r1]; rfl) e_f80 hcp (by simp only [List.all_cons,List.all_nil,r2]; rfl) fun r s1 hr=>?_
    obtain ⟨cn,bs,rfl,hm,hk1,hids⟩:=hr
    obtain ⟨bi2,cap2,cs2,b2,hcn,hg2,hd',hb',hmb2,hle2⟩:=hm.get hkl
    have hmc:=hm.close hkl hcn hg2
    obtain ⟨s2,hs2⟩:∃ s,s = s1.set bi2 (cs2.set (k * 3 + 2) (.lit (.bool true))):=⟨_,rfl⟩
    rw [← hs2] at hmc
    have hl2:s2.boxes.length = s1.boxes.length:=by rw [hs2,ce]
    have hbi2:=hids bi2 (by rw [hcn]; simp [ae])
    have hk2:Kp st s2 []:=⟨by rw [hl2]; exact hk1.1,fun id hid hn=>by rw [hs2,bE (by omega),hk1.2 id hid hn]⟩
    have hrc:=hmc.ref
    obtain ⟨G,hG⟩:∃ G,G = ae cn++bs.flatMap ae:=⟨_,rfl⟩
    rw [← hG] at hrc hids
    obtain ⟨n1,n2,n3,n4,n5,n6,n7⟩:=hrc.isCh
    obtain ⟨m1,m2⟩:=cD hrc.isCh R.ws
    have hGl:∀ x ∈ G,x < s2.boxes.length:=fun x hx=>by rw [hl2]; exact (hids x hx).2
    have hf1:=eK hrc.isCh R.ws (by omega) ho.ll (k:Int) false s2
    simp only [rfA] at hf1
    rw [hcn] at n1 n2 n3 n4 n5 n6 n7 m1 m2 hf1 ⊢
    simp (config:=KF) (disch:=omega) only [bZ,ixSV,ag,addA,aa,jY,jZ,↓reduceIte,Nat.reduceEqDiff,Nat.reduceAdd,Nat.reduceLeDiff,n1,n2,n4,w2,w4,hg2]
    rw [← hs2]
    have hnd:=ho.nd
    have hitm:=close_items (i:=(k:Int)) hnd ho.wv
    have hwos:=close_ws (i:=(k:Int)) hnd
    obtain ⟨Wf,hWf⟩:∃ f:Nat→List Wt,f = fun t=>match t with | 0=>R.ws | 1=>dq k false R.ws | _=>dq k true (dq k false R.ws):=⟨_,rfl⟩
    obtain ⟨If,hIf⟩:∃ f:Nat→List It4,f = fun t=>match t with | 0=>[] | 1=>bq k false 13 R.ws | _=>bq k false 13 R.ws++bq k true 14 (dq k false R.ws):=⟨_,rfl⟩
    have hWs:∀ t,(Wf t).Sublist R.ws:=fun t=>by
      rw [hWf]
      match t with
      | 0=>exact List.Sublist.refl _
      | 1=>exact kZ _ _ _
      | _ + 2=>exact (kZ _ _ _).trans (kZ _ _ _)
    have hIl:∀ t,t < 2→(If t).length≤64:=fun t ht=>by
      rw [hIf]
      match t,ht with
      | 0,_=>simp
      | 1,_=>have:=nM k false 13 R.ws; simp only; omega
    have hstep:∀ (d:Bool),Wf ((ef d).toNat + 1) = dq k d (Wf (ef d).toNat)∧If ((ef d).toNat + 1) = If (ef d).toNat++bq k d (gx d) (Wf (ef d).toNat):=fun d=>by
      rw [hWf,hIf]
      cases d <;> exact ⟨rfl,rfl⟩
    rw [f67_25w]
    refine aX (A:=Nat×AV×St) (fun a=>2 - a.1) (fun a=>⟨[(1,.lit (.int .i64 (k:Nat))),(2,.lptr 2 0),(4,.lptr 4 0),(5,.lptr 5 0),(6,.lptr 6 0),(7,.lit (.int .i64 (a.1:Nat)))],[(2,[.bs bi2 3 0 R.ch.length cap2,wtS (Wf a.1)]),(4,[.lit (.slice none 0 0),.lit (.slice none 0 0)]),(5,[.lit (.int .i64 0),.lit (.int .i64 0),.lit (.int .i64 0),.lit (.int .i64 0),.lit (.bool false),.lit (.slice none 0 0),.lit (.int .i64 0)]),(6,[.lit (.int .i64 0),.lit (.int .i64 0),.lit (.int .i64 0),.lit (.int .i64 0),.lit (.bool false),a.2.1,.lit (.int .i64 0)])]⟩) (fun a=>a.2.2)
      (fun a=>a.1≤2∧KB 4 a.2.1 a.2.2 ((If a.1).flatMap it4C) (If a.1).length∧RefC cn a.2.2 (R.ch.set k (R.ch[k].1,R.ch[k].2.1,true)) G∧Kp s2 a.2.2 []∧∀ x ∈ ae a.2.1,s2.boxes.length≤x)
      (0,.lit (.slice none 0 0),s2) ⟨Nat.zero_le _,by rw [hIf]; exact .inl ⟨rfl,rfl,rfl⟩,hrc,Kp.refl _ _,by simp [ae]⟩ ?_ rfl ?_
    · rw [hWf]; exact Sf.le_refl _
    rintro ⟨tn,ev,s⟩ ⟨a1,a2,a3,a4,a5⟩ K hK hKe hKr
    simp only at a1 a2 a3 a4 a5
    try dsimp only
    obtain ⟨y1,y2,y3,y4,y5,y6,y7,y8⟩:=a2.facts
    obtain ⟨x1,x2,x3,x4,x5,x6,x7,x8⟩:=aw (Wf tn)
    obtain ⟨m1,m2⟩:=cD a3.isCh (Wf tn)
    have hwl2:(Wf tn).length≤64:=Nat.le_trans (hWs tn).length_le hwl
    have hll2:∀ w ∈ Wf tn,w.2.length < 100000:=fun w hw=>ho.ll w ((hWs tn).subset hw)
    by_cases htn:tn < 2
    · obtain ⟨d,hd0⟩:∃ d:Bool,(ef d).toNat = tn:=by
        rcases Nat.lt_or_ge tn 1 with q | q
        · exact ⟨false,by show 0 = tn; omega⟩
        · exact ⟨true,by show 1 = tn; omega⟩
      have hti:((tn:Nat):Int) = ef d:=by cases d <;> (rw [← hd0]; rfl)
      have hdb:decide (ef d = 1) = d:=by cases d <;> rfl
      have hdl:ef d < 2:=by cases d <;> simp [ef]
      obtain ⟨t1,t2⟩:=hstep d
      rw [hd0] at t1 t2
      have hf:=eK a3.isCh (Wf tn) (by omega) hll2 (k:Int) d s
      simp only [rfA] at hf
      have hGs:∀ x ∈ G,x < s.boxes.length:=fun x hx=>Nat.lt_of_lt_of_le (hGl x hx) a4.1
      have hin:=fun (K':Exit→Sf→St→Prop)=>qk (cn:=cn) (z4:=[.lit (.slice none 0 0),.lit (.slice none 0 0)]) (z5:=[.lit (.int .i64 0),.lit (.int .i64 0),.lit (.int .i64 0),.lit (.int .i64 0),.lit (.bool false),.lit (.slice none 0 0),.lit (.int .i64 0)]) a3 hGs hwl2 hll2 (hIl tn htn) a2 (fun x hx hxG=>by have:=a5 x hx; have:=hGl x hxG; omega) (k:Int) d (K:=K')
      rw [hcn] at hf m1 m2 hin
      rw [hti]
      simp (config:=KF) (disch:=omega) only [bZ,aa,id,↓reduceIte,Nat.reduceEqDiff,Nat.reduceAdd,Nat.reduceLeDiff,n2,x2,hdb]
      refine aj (by simp only [List.map_cons,List.map_nil,m1]; rfl) e_f76 hf (by simp only [List.all_cons,List.all_nil,m2]; rfl) ?_
      simp (config:=KF) (disch:=omega) only [bZ,↓reduceIte,Nat.reduceEqDiff]
      refine hin _ fun ev' st' g1 g2 g3 g4=>?_
      obtain ⟨u1,u2,u3,u4,u5,u6,u7,u8⟩:=g1.facts
      obtain ⟨v1,v2,v3,v4,v5,v6,v7,v8⟩:=aw (dq k d (Wf tn))
      rw [← t1] at v1 v2 v3 v4 v5 v6 v7 ⊢
      rw [← t2] at g1
      have hnx:=hK (tn + 1,ev',st')
      have e1:ef d + 1 = ((tn + 1:Nat):Int):=by rw [← hti]; rfl
      simp (config:=KF) (disch:=omega) only [bZ,↓reduceIte,Nat.reduceEqDiff,e1]
      exact hnx _ ⟨by simp only; omega,g1,by rw [hcn]; exact g2,a4.trans g3 fun y hy=>.inr (a5 y hy),fun x hx=>(g4 x hx).elim (a5 x) fun q=>Nat.le_trans a4.1 q⟩ (by simp only; omega) (Sf.le_refl _)
    · obtain rfl:tn = 2:=by omega
      simp (config:=KF) (disch:=omega) only [bZ,↓reduceIte,Nat.reduceEqDiff,Int.reduceLT]
      refine hKe _ _ _ ?_
      have hI2:If 2 = (clsI R.ws (k:Int)).map (cH R.ws (k:Int)):=by rw [hIf]; exact hitm
      have hW2:Wf 2 = wos ((clsI R.ws (k:Int)).map (·.1)) R.ws:=by rw [hWf]; exact hwos
      have hmod:R.ch.modify k (fun c=>(c.1,c.2.1,true)) = R.ch.set k (R.ch[k].1,R.ch[k].2.1,true):=dp (List.getElem?_eq_getElem hkl) _
      have hq:=hQ (.tup [.agg [cn,wtS (Wf 2)],.agg [.lit (.int .i64 0),.lit (.int .i64 0),.lit (.int .i64 0),.lit (.int .i64 0),.lit (.bool false),ev,.lit (.int .i64 0)]]) s ⟨cn,ev,by rw [← hX,hW2],G++ae ev,?_,?_,?_,?_⟩
      rotate_left
      · rw [← hX]
        simp only
        rw [hmod]
        exact a3.mono fun x hx=>List.mem_append_left _ hx
      · rw [← hX]
        simp only
        rw [← hI2]
        exact .inr ⟨a2,fun x hx=>List.mem_append_right _ hx⟩
      · exact hk2.trans a4 fun x hx=>by cases hx
      · intro y hy
        have hk2l:=hk2.1
        have ha4l:=a4.1
        rcases List.mem_append.1 hy with hy | hy
        · have h1:=hids y hy
          have h2:=hGl y hy
          exact .inr ⟨h1.1,by omega⟩
        · have h1:=a5 y hy
          exact .inr ⟨by omega,a2.lt y hy⟩
      rw [hcn] at hq
      simp (config:=KF) (disch:=omega) only [bZ,Nat.reduceBEq,ksB,aG,aV,aZ,aF,bV,bC,nstB,a9,eD,cG,ck,dK,dl,retI,ag,aa,List.nil_append,↓reduceIte,Nat.reduceEqDiff,Nat.reduceAdd,Nat.reduceLeDiff,or_false,n2,n4,x2,x4,y2,y4]
      exact hq
end
end Go.Fx.YtbomoaajkinfpaaFx

