/- What the functions that the statement reaches compute: part 30. -/
import Derived.Test.YtbomoaajkinfpaaFxW29
namespace Go.Fx.YtbomoaajkinfpaaFx
open Go Go.Fx
attribute [local irreducible] aC runI aw aB

set_option maxRecDepth 100000
set_option maxHeartbeats 4000000

theorem gE (i:Int) (st:St):aL Go.Proofs.Try.prog n_f33 [.lit (.int .i64 i)] st (csAV (i,false,0)):=by
  refine aD hmix k_f33 rfl rfl fun Q hQ=>?_
  unfold aFun c_f33
  simp (config:=KF) (disch:=omega) only [bZ,retI,am,aa,bM,↓reduceIte,Nat.reduceEqDiff,Nat.reduceAdd,Nat.reduceLeDiff,reduceCtorEq]
  exact hQ _
theorem fF (i x:Int) (st:St):aL Go.Proofs.Try.prog n_f34 [.lit (.int .i64 i),.lit (.int .i64 x)] st (csAV (i,true,x)):=by
  refine aD hmix k_f34 rfl rfl fun Q hQ=>?_
  unfold aFun c_f34
  simp (config:=KF) (disch:=omega) only [bZ,retI,am,aa,bM,↓reduceIte,Nat.reduceEqDiff,Nat.reduceAdd,Nat.reduceLeDiff,reduceCtorEq]
  exact hQ _

section
variable {st:St} {s mid n:Nat} {cv ov:AV} {L:List CL} {R R':RS}
theorem bufs_sl {k:Nat} {es:List AV} {P:Nat→Prop}:∀ x ∈ ae (.sl false k es),P x:=fun x hx=>by simp [ae] at hx
theorem jq {P:Nat→Prop}:∀ x ∈ ae (.lit (.slice none 0 0)),P x:=fun x hx=>by simp [ae] at hx

theorem jV (h:SelR st s mid cv ov L R n) (hn:n < 2000) {t p:Int} {l:List Cs} {wt:Bool} {want:RR} (he:rAct R (0,t,p,l,wt) = (R',want)) (hll:l.length < 100000) (hwl:want.2.2.1.length≤1000000) :
    aA Go.Proofs.Try.prog n_f35 [.ptr s 0,.lit (.int .i64 t),.lit (.int .i64 p),.lit (.bool wt),rrA want,.sl false 3 (l.map csAV)] st (fun r st'=>r = .lit (.bool true)∧∃ cv' ov' L',SelR st' s mid cv' ov' L' R' (n + 1)) :=
  (ip h hn want (CV.arg st l) bufs_sl bufs_sl hll hwl).mono fun r st' hr=>by
    obtain ⟨rfl,cv',ov',L',h1,_,_⟩:=hr
    rw [he] at h1 ⊢
    exact ⟨by simp,cv',ov',L',h1⟩
theorem rdy_at (h:SelR st s mid cv ov L R n) {l:List Cs} {want:List Int} (he:(a9 R.ch.length l && decide (aE R 0 l = want)) = true) (hll:l.length < 100000) (hwl:want.length≤1000000) :
    aL Go.Proofs.Try.prog n_f32 [.ptr s 0,.sl false 3 (l.map csAV),.sl false 1 (ints want)] st (.lit (.bool true)):=by
  have:=lready_pure h (CV.arg st l) (w:=.sl false 1 (ints want)) (.inl (.inr rfl)) hll hwl
  rwa [he] at this
end

theorem SelR.kp {st st':St} {s mid n:Nat} {cv ov:AV} {L:List CL} {R:RS} (h:SelR st s mid cv ov L R n) {F:List Nat} (hk:Kp st st' F) (hf:∀ x ∈ ah s mid cv ov L,x ∉ F):SelR st' s mid cv ov L R n:=⟨h.is.kp hk hf,h.rel,h.ob,h.bd,h.wok,h.tk,h.len⟩

theorem ek (st:St):aA Go.Proofs.Try.prog n_f10 [] st (fun r _=>r = .lit (.bool true)):=by
  refine ap hmix k_f10 rfl rfl fun Q hQ=>?_
  unfold aFun c_f10
  simp (config:=KF) (disch:=omega) only [bZ,cY,bslV,List.reduceReplicate,bL,id,eM,↓reduceIte,Nat.reduceAdd,Nat.reduceLT]
  refine au rfl e_f11 (mw (l:=[0,1]) (.inr rfl) (by decide) st) rfl fun r st1 hr=>?_
  obtain ⟨_,hr⟩:=hr
  rw [if_pos (by decide)] at hr
  obtain ⟨s,rfl,mid,cv,ov,L,h,_⟩:=hr
  simp (config:=KF) (disch:=omega) only [bZ,AI.dst,cT,cb,bz,id,lU,↓reduceIte,Nat.reduceEqDiff,not_true_eq_false]
  refine ao rfl e_f33 (gE 0 st1) rfl ?_
  simp (config:=KF) (disch:=omega) only [bZ,AI.dst,id,↓reduceIte,Nat.reduceEqDiff]
  refine ao rfl e_f34 (fF 1 7 st1) rfl ?_
  simp (config:=KF) (disch:=omega) only [bZ,AI.dst,cY,bslV,List.reduceReplicate,bL,id,eM,bV,↓reduceIte,Nat.reduceEqDiff,Nat.reduceAdd,Nat.reduceLT,csAV]
  refine ao rfl e_f32 (rdy_at h (l:=[(0,false,0),(1,true,7)]) (want:=[1]) (by decide +kernel) (by decide) (by decide)) rfl ?_
  simp (config:=KF) (disch:=omega) only [bZ,AI.dst,unA,id,↓reduceIte,Nat.reduceEqDiff]
  refine ao rfl e_f33 (gE 0 st1) rfl ?_
  simp (config:=KF) (disch:=omega) only [bZ,AI.dst,id,↓reduceIte,Nat.reduceEqDiff]
  refine ao rfl e_f33 (gE 1 st1) rfl ?_
  simp (config:=KF) (disch:=omega) only [bZ,AI.dst,cY,bslV,List.reduceReplicate,bL,id,bV,↓reduceIte,Nat.reduceEqDiff,Nat.reduceAdd,Nat.reduceLT,csAV]
  refine au rfl e_f35 (jV h (by decide) (t:=0) (p:=0) (wt:=true) (l:=[(0,false,0),(1,false,0)]) (want:=((0,0,0,0),false,[],0)) (R':=⟨[(0,[],false),(1,[],false)],[(0,[(0,false,0),(1,false,0)])]⟩) (by kernel_rfl) (by decide) (by decide)) rfl fun r st2 hr=>?_
  obtain ⟨rfl,cv,ov,L,h⟩:=hr
  simp (config:=KF) (disch:=omega) only [bZ,AI.dst,unA,id,↓reduceIte,Nat.reduceEqDiff]
  refine ao rfl e_f34 (fF 0 5 _) rfl ?_
  simp (config:=KF) (disch:=omega) only [bZ,id,↓reduceIte,Nat.reduceEqDiff]
  refine ao rfl e_f34 (fF 1 6 _) rfl ?_
  simp (config:=KF) (disch:=omega) only [bZ,cY,bslV,List.reduceReplicate,bL,id,eM,bV,↓reduceIte,Nat.reduceEqDiff,Nat.reduceAdd,Nat.reduceLT,csAV]
  refine ao rfl e_f32 (rdy_at h (l:=[(0,true,5),(1,true,6)]) (want:=[0,1]) (by decide +kernel) (by decide) (by decide)) rfl ?_
  simp (config:=KF) (disch:=omega) only [bZ,AI.dst,cY,bslV,List.reduceReplicate,bL,unA,id,bV,cells_sl,nv,↓reduceIte,Nat.reduceEqDiff,Nat.reduceAdd,Nat.reduceLT,Nat.reduceLeDiff]
  refine au rfl e_f35 (jV h (by decide) (t:=1) (p:=3) (wt:=true) (l:=[(0,true,5),(1,true,6)]) (want:=((1,1,0,0),true,[(0,1,6,0)],0)) (R':=⟨[(0,[],false),(1,[],false)],[]⟩) (by kernel_rfl) (by decide) (by decide)) rfl fun r st3 hr=>?_
  obtain ⟨rfl,cv,ov,L,h⟩:=hr
  simp (config:=KF) (disch:=omega) only [bZ,AI.dst,unA,id,↓reduceIte,Nat.reduceEqDiff]
  refine au rfl e_f26 (mr h) rfl fun r st4 hr=>?_
  obtain ⟨hm,hl4,hk4,_⟩:=hr
  have h:=h.kp (F:=[]) ⟨hl4,fun i hi _=>hk4 i hi⟩ fun _ _ e=>by cases e
  obtain ⟨w1,w2,w3,w4,w5,w6,w7,w8⟩:=hm.facts
  simp only [List.map_nil,ints,List.length_nil] at w8
  simp (config:=KF) (disch:=omega) only [bZ,AI.dst,id,↓reduceIte,Nat.reduceEqDiff,Nat.reduceAdd,Nat.reduceLeDiff,not_true_eq_false,w8]
  refine ao rfl e_f34 (fF 0 5 _) rfl ?_
  simp (config:=KF) (disch:=omega) only [bZ,AI.dst,cY,bslV,List.reduceReplicate,bL,id,bV,↓reduceIte,Nat.reduceEqDiff,Nat.reduceAdd,Nat.reduceLT,csAV]
  refine au rfl e_f35 (jV h (by decide) (t:=1) (p:=0) (wt:=false) (l:=[(0,true,5)]) (want:=((0,0,0,0),false,[],16)) (R':=⟨[(0,[],false),(1,[],false)],[]⟩) (by kernel_rfl) (by decide) (by decide)) rfl fun r st5 hr=>?_
  obtain ⟨rfl,cv,ov,L,h⟩:=hr
  simp (config:=KF) (disch:=omega) only [bZ,AI.dst,unA,id,↓reduceIte,Nat.reduceEqDiff]
  refine ao rfl e_f34 (fF 0 8 _) rfl ?_
  simp (config:=KF) (disch:=omega) only [bZ,AI.dst,cY,bslV,List.reduceReplicate,bL,id,bV,↓reduceIte,Nat.reduceEqDiff,Nat.reduceAdd,Nat.reduceLT,csAV]
  refine au rfl e_f35 (jV h (by decide) (t:=2) (p:=0) (wt:=true) (l:=[(0,true,8)]) (want:=((0,0,0,0),false,[],0)) (R':=⟨[(0,[],false),(1,[],false)],[(2,[(0,true,8)])]⟩) (by kernel_rfl) (by decide) (by decide)) rfl fun r st6 hr=>?_
  obtain ⟨rfl,cv,ov,L,h⟩:=hr
  simp (config:=KF) (disch:=omega) only [bZ,AI.dst,unA,id,↓reduceIte,Nat.reduceEqDiff,Nat.reduceAdd,Nat.reduceLeDiff]
  have hd:=my h (by decide) (a:=(2,0,0,[],false)) (v:=.lit (.slice none 0 0)) (.inl (.inl rfl)) jq jq (by decide)
  have he:rAct ⟨[(0,[],false),(1,[],false)],[(2,[(0,true,8)])]⟩ (2,0,0,[],false) = (⟨[(0,[],true),(1,[],false)],[]⟩,((0,0,0,0),false,[(2,0,0,14)],0)):=by kernel_rfl
  rw [he] at hd
  refine au rfl e_f13 hd rfl fun r st7 hr=>?_
  obtain ⟨rfl,cv,ov,L,h,_,_⟩:=hr
  have hq:aL Go.Proofs.Try.prog n_f18 [rrA ((0,0,0,0),false,[(2,0,0,14)],0),rrA ((0,0,0,0),false,[(2,0,0,14)],0)] st7 (.lit (.bool true)):=ky _ _ (by decide) (by decide) st7
  simp only [rrA] at hq
  simp (config:=KF) (disch:=omega) only [bZ,cY,bslV,List.reduceReplicate,bL,id,bV,cells_sl,nv,↓reduceIte,Nat.reduceEqDiff,Nat.reduceAdd,Nat.reduceLT,Nat.reduceLeDiff,rrA]
  refine ao rfl e_f18 hq rfl ?_
  simp (config:=KF) (disch:=omega) only [bZ,AI.dst,unA,id,↓reduceIte,Nat.reduceEqDiff,Nat.reduceAdd,Nat.reduceLeDiff]
  refine ao rfl e_f33 (gE 0 _) rfl ?_
  simp (config:=KF) (disch:=omega) only [bZ,AI.dst,cY,bslV,List.reduceReplicate,bL,id,bV,↓reduceIte,Nat.reduceEqDiff,Nat.reduceAdd,Nat.reduceLT,csAV]
  refine au rfl e_f35 (jV h (by decide) (t:=3) (p:=0) (wt:=true) (l:=[(0,false,0)]) (want:=((3,0,0,13),true,[],0)) (R':=⟨[(0,[],true),(1,[],false)],[]⟩) (by kernel_rfl) (by decide) (by decide)) rfl fun r st8 hr=>?_
  obtain ⟨rfl,cv,ov,L,h⟩:=hr
  simp (config:=KF) (disch:=omega) only [bZ,AI.dst,unA,id,↓reduceIte,Nat.reduceEqDiff,Nat.reduceAdd,Nat.reduceLeDiff]
  refine ao rfl e_f33 (gE 1 _) rfl ?_
  simp (config:=KF) (disch:=omega) only [bZ,id,↓reduceIte,Nat.reduceEqDiff]
  refine ao rfl e_f34 (fF 1 1 _) rfl ?_
  simp (config:=KF) (disch:=omega) only [bZ,cY,bslV,List.reduceReplicate,bL,id,bV,↓reduceIte,Nat.reduceEqDiff,Nat.reduceAdd,Nat.reduceLT,csAV]
  refine au rfl e_f35 (jV h (by decide) (t:=3) (p:=0) (wt:=true) (l:=[(1,false,0),(1,true,1)]) (want:=((0,0,0,0),false,[],2)) (R':=⟨[(0,[],true),(1,[],false)],[]⟩) (by kernel_rfl) (by decide) (by decide)) rfl fun r st9 hr=>?_
  obtain ⟨rfl,cv,ov,L,h⟩:=hr
  simp (config:=KF) (disch:=omega) only [bZ,AI.dst,id,↓reduceIte,Nat.reduceEqDiff,Nat.reduceAdd,Nat.reduceLeDiff]
  refine au rfl e_f35 ((ip h (by decide) (l:=[]) (t:=3) (p:=0) (wt:=true) (v:=.lit (.slice none 0 0)) ((0,0,0,0),false,[],2) (.inl (.inl rfl)) jq jq (by decide) (by decide))) rfl fun r st10 hr=>?_
  obtain ⟨rfl,_⟩:=hr
  simp (config:=KF) (disch:=omega) only [bZ,retI,↓reduceIte,Nat.reduceEqDiff,reduceCtorEq]
  exact hQ _ _ rfl
end Go.Fx.YtbomoaajkinfpaaFx

