/- What the functions that the statement reaches compute: part 29. -/
import Derived.Test.YtbomoaajkinfpaaFxW28
namespace Go.Fx.YtbomoaajkinfpaaFx
open Go Go.Fx
attribute [local irreducible] aC runI aw aB

set_option maxRecDepth 100000
set_option maxHeartbeats 4000000

/-- A call: what, task, pick, cases, whether it may wait. -/
abbrev A7:=Int×Int×Int×List Cs×Bool
def rAct (R:RS) (a:A7):RS×RR :=
  if a.1 = 0 then bG R a.2.1 a.2.2.2.1 a.2.2.1 a.2.2.2.2 else
  if a.1 = 1 then ((dL R a.2.1).1,(0,0,0,0),false,[],(dL R a.2.1).2) else
  ((cB R a.2.2.1).1,(0,0,0,0),false,(cB R a.2.2.1).2.1,(cB R a.2.2.1).2.2)
def a7AV (a:A7) (v:AV):AV:=.agg [.lit (.int .i64 a.1),.lit (.int .i64 a.2.1),.lit (.int .i64 a.2.2.1),v,.lit (.bool a.2.2.2.2)]

theorem qD_len (ws:List Wt) (i:Int) (d:Bool):(qD ws i d).length≤ws.length:=List.length_filterMap_le _ _
theorem rCarry_len (R:RS) (x:Cs):(ba R x).2.2.2.length≤1:=by
  unfold ba
  split
  · split
    · simp
    · split <;> simp
  · split
    · simp
    · split <;> simp
theorem rClose_len (R:RS) (i:Int):(cB R i).2.1.length≤2 * R.ws.length:=by
  unfold cB
  split
  · simp
  · split
    · simp
    · have h1:=qD_len R.ws i false
      have h2:=qD_len R.ws i true
      simp only [clsI,List.length_map,List.length_append]
      omega
theorem rAct_len (R:RS) (a:A7):(rAct R a).2.2.2.1.length≤2 * R.ws.length + 1:=by
  unfold rAct
  split
  · unfold bG
    split
    · simp
    · split
      · simp
      · split
        · split <;> simp
        · have:=rCarry_len R (a.2.2.2.1.getD ((aE R 0 a.2.2.2.1).getD (a.2.2.1.toNat % (aE R 0 a.2.2.2.1).length) 0).toNat (0,false,0))
          simp only
          omega
  · split
    · simp
    · have:=rClose_len R a.2.2.1
      simp only
      omega

section
variable {st:St} {s mid n:Nat} {cv ov:AV} {L:List CL} {R:RS}
theorem ed.mono {st':St} {R':RS} {n m:Nat} (h:ed st s mid cv ov L st' R' n) (hm:n≤m):ed st s mid cv ov L st' R' m:=by
  obtain ⟨cv',ov',L',h1,h2,h3⟩:=h
  exact ⟨cv',ov',L',h1.mono hm,h2,h3⟩

theorem my (h:SelR st s mid cv ov L R n) (hn:n < 2000) {v:AV} {a:A7} (hv:CV v st a.2.2.2.1) (hvb:∀ x ∈ ae v,x ∉ ah s mid cv ov L) (hvl:∀ x ∈ ae v,x < st.boxes.length) (hll:a.2.2.2.1.length < 100000) :
    aA Go.Proofs.Try.prog n_f13 [.ptr s 0,a7AV a v] st (fun r st'=>r = rrA (rAct R a).2∧ed st s mid cv ov L st' (rAct R a).1 (n + 1)):=by
  obtain ⟨w,t,p,l,wt⟩:=a
  simp only at hv hll
  obtain ⟨v1,v2,v3,v4,v5,v6,v7,v8⟩:=hv.facts
  refine ap hmix k_f13 rfl rfl fun Q hQ=>?_
  unfold aFun c_f13
  unfold rAct at hQ
  simp only at hQ
  simp (config:=KF) (disch:=omega) only [bZ,lQ,addA,aa,bg,↓reduceIte,Nat.reduceEqDiff,Nat.reduceAdd,reduceCtorEq,a7AV,v2,v4]
  refine aP (fun h0=>?_) (fun h0=>?_)
  · rw [if_pos h0] at hQ
    simp (config:=KF) (disch:=omega) only [bZ,addA,aa,id,↓reduceIte,Nat.reduceEqDiff,reduceCtorEq,v1]
    refine au (vs:=[.ptr s 0,.lit (.int .i64 t),v,.lit (.int .i64 p),.lit (.bool wt)]) (by simp [v1]; exact ⟨rfl,rfl,rfl,rfl⟩) e_f30 (io h hn hv hvb hvl hll (by omega)) (by simp [v5]; exact ⟨rfl,rfl,rfl,rfl⟩) fun r st1 hr=>?_
    obtain ⟨rfl,hp⟩:=hr
    generalize bG R t l p wt = X at hQ hp ⊢
    obtain ⟨w1,w2,w3,w4,w5,w6,w7⟩:=bE X.2.2.2.1
    simp (config:=KF) (disch:=omega) only [bZ,retI,am,addA,aa,dH,bM,↓reduceIte,Nat.reduceEqDiff,Nat.reduceAdd,Nat.reduceLeDiff,reduceCtorEq,cu,w1,w2,w3,w4,w6]
    exact hQ _ _ ⟨rfl,hp⟩
  · rw [if_neg h0] at hQ
    simp (config:=KF) (disch:=omega) only [bZ,↓reduceIte,Nat.reduceEqDiff,reduceCtorEq]
    refine aP (fun h1=>?_) (fun h1=>?_)
    · rw [if_pos h1] at hQ
      simp (config:=KF) (disch:=omega) only [bZ,addA,aa,id,↓reduceIte,Nat.reduceEqDiff,reduceCtorEq]
      refine au rfl e_f37 (mN h (by omega) t) rfl fun r st1 hr=>?_
      obtain ⟨rfl,hp⟩:=hr
      simp (config:=KF) (disch:=omega) only [bZ,retI,am,addA,aa,bM,↓reduceIte,Nat.reduceEqDiff,Nat.reduceAdd,Nat.reduceLeDiff,reduceCtorEq]
      exact hQ _ _ ⟨rfl,hp.mono (Nat.le_succ _)⟩
    · rw [if_neg h1] at hQ
      simp (config:=KF) (disch:=omega) only [bZ,addA,aa,id,↓reduceIte,Nat.reduceEqDiff,reduceCtorEq]
      refine au rfl e_f38 (oT h (by omega) p) rfl fun r st1 hr=>?_
      obtain ⟨rfl,hp⟩:=hr
      generalize cB R p = X at hQ hp ⊢
      obtain ⟨w1,w2,w3,w4,w5,w6,w7⟩:=bE X.2.1
      simp (config:=KF) (disch:=omega) only [bZ,retI,am,addA,aa,bM,↓reduceIte,Nat.reduceEqDiff,Nat.reduceAdd,Nat.reduceLeDiff,reduceCtorEq,w1,w2,w3,w4,w6]
      exact hQ _ _ ⟨rfl,hp.mono (Nat.le_succ _)⟩

theorem ip (h:SelR st s mid cv ov L R n) (hn:n < 2000) {v:AV} {l:List Cs} {t p:Int} {wt:Bool} (want:RR) (hv:CV v st l) (hvb:∀ x ∈ ae v,x ∉ ah s mid cv ov L) (hvl:∀ x ∈ ae v,x < st.boxes.length) (hll:l.length < 100000) (hwl:want.2.2.1.length≤1000000) :
    aA Go.Proofs.Try.prog n_f35 [.ptr s 0,.lit (.int .i64 t),.lit (.int .i64 p),.lit (.bool wt),rrA want,v] st (fun r st'=>r = .lit (.bool (decide ((rAct R (0,t,p,l,wt)).2 = want)))∧ed st s mid cv ov L st' (rAct R (0,t,p,l,wt)).1 (n + 1)):=by
  obtain ⟨v1,v2,v3,v4,v5,v6,v7,v8⟩:=hv.facts
  have hd:=my h hn (a:=(0,t,p,l,wt)) hv hvb hvl hll
  have hal:=rAct_len R (0,t,p,l,wt)
  have hfew:=h.few
  obtain ⟨we,wd,wl,wr⟩:=want
  obtain ⟨x1,x2,x3,x4,x5,x6,x7⟩:=bE wl
  simp only [a7AV] at hd
  refine ap hmix k_f35 rfl rfl fun Q hQ=>?_
  unfold aFun c_f35
  simp (config:=KF) (disch:=omega) only [bZ,lQ,↓reduceIte,Nat.reduceEqDiff,Nat.reduceAdd,reduceCtorEq,rrA,v1,v7,x2,x4]
  refine draw_m ⟨[]⟩ (St.sub_nil _) ?_
  simp (config:=KF) (disch:=omega) only [bZ,im,gx,kj,l8,mm_bst,ma,f9,lF,lG,iy,id,List.nil_append,List.cons_append,↓reduceIte,Nat.reduceEqDiff,Nat.reduceAdd,Nat.reduceLeDiff,reduceCtorEq,v1,v4,v6]
  refine mc (vs:=[.ptr s 0,.agg [.lit (.int .i64 0),.lit (.int .i64 t),.lit (.int .i64 p),v,.lit (.bool wt)]]) (by simp only [List.map_cons,List.map_nil,kK,oC,jc,v2,List.nil_append,List.append_nil]) e_f13 hd (by simp only [List.all_cons,List.all_nil,bM,fU,oD,v5,Bool.and_true]) ?_
  simp (config:=KF) (disch:=omega) only [bZ,ksB,aR,bA,bQ,aT,nstB,bR,e9,l9,hm_none,hm_val,gA,aa,List.nil_append,List.cons_append,↓reduceIte,Nat.reduceEqDiff,Nat.reduceAdd,Nat.reduceLeDiff,reduceCtorEq,x2]
  rintro r st1 ⟨rfl,hp⟩
  refine ⟨St.sub_nil _,?_⟩
  generalize rAct R (0,t,p,l,wt) = X at *
  have he:=ky X.2 (we,wd,wl,wr) (by omega) hwl st1
  obtain ⟨f1,f2⟩:=nJ X.2
  obtain ⟨g1,g2⟩:=nJ (we,wd,wl,wr)
  simp only [rrA] at g1 g2 he f1 f2
  obtain ⟨y1,y2,y3,y4,y5,y6,y7⟩:=bE X.2.2.2.1
  simp (config:=KF) (disch:=omega) only [bZ,ksB,aR,bA,bQ,aT,cX,b9,nstB,bR,im,gx,kj,e9,gz,fB,compM_f,gB,ji,aa,id,List.nil_append,List.cons_append,↓reduceIte,Nat.reduceEqDiff,Nat.reduceAdd,Nat.reduceLeDiff,reduceCtorEq,rrA,x2]
  refine ao (by simp [f1,g1]) e_f18 he (by simp [f2,g2]) ?_
  simp (config:=KF) (disch:=omega) only [bZ,retI,↓reduceIte,Nat.reduceEqDiff,reduceCtorEq]
  exact hQ _ _ ⟨rfl,hp⟩

theorem lready_pure (h:SelR st s mid cv ov L R n) {v w:AV} {l:List Cs} {want:List Int} (hv:CV v st l) (hw:IV w st want) (hll:l.length < 100000) (hwl:want.length≤1000000) :
    aL Go.Proofs.Try.prog n_f32 [.ptr s 0,v,w] st (.lit (.bool (a9 R.ch.length l && decide (aE R 0 l = want)))):=by
  obtain ⟨v1,v2,v3,v4,v5,v6,v7,v8⟩:=hv.facts
  obtain ⟨u1,u2,u3,u4,u5,u6,u7,u8⟩:=hw.facts
  refine aD hmix k_f32 rfl rfl fun Q hQ=>?_
  unfold aFun c_f32
  simp (config:=KF) (disch:=omega) only [bZ,id,↓reduceIte,Nat.reduceEqDiff,Nat.reduceAdd,reduceCtorEq,v1,u1]
  refine ao (vs:=[.ptr s 0,v]) (by simp [v1]; rfl) e_f27 (gD h hv hll) (by simp [v5]; rfl) ?_
  cases hb:a9 R.ch.length l with
  | false =>
    rw [hb] at hQ
    obtain ⟨w1,w2,w3,w4,w5,w6,w7,w8⟩:=c9 []
    simp (config:=KF) (disch:=omega) only [bZ,retI,AI.dst,↓reduceIte,Nat.reduceEqDiff,Int.reduceEq,reduceCtorEq,w1,w3]
    exact hQ _
  | true =>
    rw [hb] at hQ
    have hrl:∀ (l:List Cs) k,(aE R k l).length≤l.length:=fun l=>by
      induction l with
      | nil=>intro k; simp [aE]
      | cons x l ih=>intro k; have:=ih (k + 1); simp only [aE,List.length_append,List.length_cons]; split <;> simp <;> omega
    have hl0:=hrl l 0
    obtain ⟨w1,w2,w3,w4,w5,w6,w7,w8⟩:=c9 (aE R 0 l)
    simp (config:=KF) (disch:=omega) only [bZ,AI.dst,id,↓reduceIte,Nat.reduceEqDiff,reduceCtorEq,w1,w3,u1]
    refine ao (vs:=[intS (aE R 0 l),w]) (by simp [w1,u1]) e_f47 (same_pure (.inl (.inl rfl)) hw (by omega) hwl) (by simp [w5,u5]) ?_
    simp (config:=KF) (disch:=omega) only [bZ,retI,↓reduceIte,Nat.reduceEqDiff]
    exact hQ _
end
end Go.Fx.YtbomoaajkinfpaaFx

