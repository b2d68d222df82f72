/- What the functions that the statement reaches compute: part 14. -/
import Derived.Test.YtbdjfccgkdgbfaaFxW13
namespace Go.Fx.YtbdjfccgkdgbfaaFx
open Go Go.Fx
attribute [local irreducible] aC runI az ar

set_option maxRecDepth 100000
set_option maxHeartbeats 4000000

/-! What is seen of a hub. -/
def lenR (n:Int) (R:HR):Nat:=match atR n R.subs with | none=>0 | some S=>S.msgs.length
def iI (n:Int) (R:HR):Nat:=match atR n R.subs with | none=>0 | some S=>S.lost
def wtR (t:Int):List WW→Nat
 | []=>0
 | w::r=>(if w.2.1 = t then 1 else 0) + wtR t r
def numR (t:Int) (subs:List Sb):List Nat:=subs.flatMap fun S=>if S.topic = t then [S.num] else []
def intA (n:Nat):AV:=.lit (.int .i64 (n:Nat))
def cy (l:List Nat):AV:=if l = [] then .lit (.slice none 0 0) else .sl false 1 (l.map intA)
def cD (l:List Nat):AV:=if l = [] then .lit (.slice none 0 0) else .sl true 1 (l.map intA)
theorem ints_dis (l:List Nat):(cD l).dis = cy l:=by unfold cD cy; split <;> rfl
theorem wt_q (i:Int):∀ W:WL,(qOf i W).length = wtR i (W.map cz)
 | []=>rfl
 | e :: r => by
   rw [c9,List.length_append,wt_q i r,List.map_cons,wtR,show (cz e).2.1 = e.2.topic from rfl]
   split <;> rfl
theorem wt_out {i:Int} (hi:i < 0∨16≤i):∀ {W:WL},(∀ e ∈ W,0≤e.2.topic∧e.2.topic < 16)→wtR i (W.map cz) = 0
 | [],_=>rfl
 | e :: r, h => by
   have:=h e (by simp)
   rw [List.map_cons,wtR,show (cz e).2.1 = e.2.topic from rfl,if_neg (by omega),wt_out hi fun x hx=>h x (by simp [hx])]

section
variable {st:St} {h wid n:Nat} {R:HR} {F:List Nat}
theorem len_pure (hh:HubR st h wid n R F) (m:Int):aB Go.Proofs.Try.prog n_f15 [.ptr h 0,.lit (.int .i64 m)] st (.lit (.int .i64 (lenR m R:Nat))):=by
 obtain ⟨L,Qs,M,W,j1,j2,j3,j4,j5⟩:=hh.ex
 refine aF hmix k_f15 rfl rfl fun Q hQ=>?_
 unfold aFun c_f15
 unfold lenR at hQ
 simp (config:=KF) (disch:=omega) only [bZ,id,↓reduceIte,Nat.reduceEqDiff,reduceCtorEq]
 refine ak rfl e_f31 (kP j1 m) rfl ?_
 rcases qz j1.l64 j2 m with ⟨a1,a2⟩ | ⟨k,x,rfl,hk,hx,hxs,a1,a2⟩
 ·rw [a1]
  rw [a2] at hQ
  have hp:ptrO none = .lit (.pointer none):=rfl
  simp (config:=KF) (disch:=omega) only [bZ,retI,eU,bp,aY,↓reduceIte,Nat.reduceEqDiff,reduceCtorEq,hp]
  exact hQ _
 ·rw [a1]
  rw [a2] at hQ
  have hp:ptrO (some x) = .ptr x.s 0:=rfl
  have hg:=SbIs.get (j1.sub k x hx)
  simp (config:=KF) (disch:=omega) only [bZ,retI,al,eU,bp,aY,addA,ae,↓reduceIte,Nat.reduceEqDiff,reduceCtorEq,hp,hg]
  exact hQ _
theorem pz (hh:HubR st h wid n R F) (m:Int):aB Go.Proofs.Try.prog n_f14 [.ptr h 0,.lit (.int .i64 m)] st (.lit (.int .i64 (iI m R:Nat))):=by
 obtain ⟨L,Qs,M,W,j1,j2,j3,j4,j5⟩:=hh.ex
 refine aF hmix k_f14 rfl rfl fun Q hQ=>?_
 unfold aFun c_f14
 unfold iI at hQ
 simp (config:=KF) (disch:=omega) only [bZ,id,↓reduceIte,Nat.reduceEqDiff,reduceCtorEq]
 refine ak rfl e_f31 (kP j1 m) rfl ?_
 rcases qz j1.l64 j2 m with ⟨a1,a2⟩ | ⟨k,x,rfl,hk,hx,hxs,a1,a2⟩
 ·rw [a1]
  rw [a2] at hQ
  have hp:ptrO none = .lit (.pointer none):=rfl
  simp (config:=KF) (disch:=omega) only [bZ,retI,eU,bp,aY,↓reduceIte,Nat.reduceEqDiff,reduceCtorEq,hp]
  exact hQ _
 ·rw [a1]
  rw [a2] at hQ
  have hp:ptrO (some x) = .ptr x.s 0:=rfl
  have hg:=SbIs.get (j1.sub k x hx)
  simp (config:=KF) (disch:=omega) only [bZ,retI,al,eU,bp,aY,addA,ae,↓reduceIte,Nat.reduceEqDiff,reduceCtorEq,hp,hg]
  exact hQ _
theorem qB (hh:HubR st h wid n R F) (t:Int):aB Go.Proofs.Try.prog n_f21 [.ptr h 0,.lit (.int .i64 t)] st (.lit (.int .i64 (wtR t R.ws:Nat))):=by
 obtain ⟨L,Qs,M,W,j1,j2,j3,j4,j5⟩:=hh.ex
 refine aF hmix k_f21 rfl rfl fun Q hQ=>?_
 unfold aFun c_f21
 simp (config:=KF) (disch:=omega) only [bZ,id,↓reduceIte,Nat.reduceEqDiff,reduceCtorEq]
 refine ak rfl e_f24 (cN j1) rfl ?_
 simp (config:=KF) (disch:=omega) only [bZ,AI.dst,id,↓reduceIte,Nat.reduceEqDiff,reduceCtorEq]
 refine ak rfl e_f25 (dC t 16 st) rfl ?_
 by_cases hb:t < 0∨16≤t
 ·have w1:decide (0≤t∧t < 16) = false:=decide_eq_false (by omega)
  rw [← j4,wt_out hb fun e he=>⟨(j3.ok e he).2.1,(j3.ok e he).2.2.1⟩] at hQ
  simp (config:=KF) (disch:=omega) only [bZ,retI,AI.dst,unA,↓reduceIte,Nat.reduceEqDiff,reduceCtorEq,w1]
  exact hQ _
 ·have w1:decide (0≤t∧t < 16) = true:=decide_eq_true (by omega)
  obtain ⟨i,rfl⟩:∃ i:Nat,t = (i:Int):=⟨t.toNat,by omega⟩
  have hg:=j1.get
  obtain ⟨x,hx⟩:∃ x,Qs[i]? = some x:=⟨_,List.getElem?_eq_getElem (by have:=j1.q16; omega)⟩
  obtain ⟨hxL,hxg⟩:=j3.que i x hx
  obtain ⟨rq,hrq⟩:=hub_q (L:=L) wid j1.l64 hx
  rw [← j4,← wt_q,← hxL] at hQ
  simp (config:=KF) (disch:=omega) only [bZ,AI.dst,iv,al,addA,ae,unA,id,↓reduceIte,Nat.reduceEqDiff,reduceCtorEq,dF,hg,hrq]
  refine ak rfl e_f44 (pw (j1.que i x hx)) rfl ?_
  simp (config:=KF) (disch:=omega) only [bZ,retI,↓reduceIte,Nat.reduceEqDiff,reduceCtorEq]
  exact hQ _

theorem lz (hh:HubR st h wid n R F) (t:Int):aB Go.Proofs.Try.prog n_f22 [.ptr h 0,.lit (.int .i64 t)] st (cy (numR t R.subs)):=by
 obtain ⟨L,Qs,M,W,j1,j2,j3,j4,j5⟩:=hh.ex
 have hg:=j1.get
 have hl:=j1.l64
 have ht:=hub_t (Qs:=Qs) wid hl
 have hlen:=jf (L:=L) (Qs:=Qs) wid hl j1.q16
 have hown:(L.map ptrO).map AV.own1 = L.map ptrO:=by
  rw [List.map_map]
  exact List.map_congr_left fun x _=>(eQ x).2.1
 refine aF hmix k_f22 rfl rfl fun Q hQ=>?_
 unfold aFun c_f22
 rw [← j2.eq] at hQ
 simp (config:=KF) (disch:=omega) only [bZ,id,↓reduceIte,Nat.reduceEqDiff,reduceCtorEq]
 refine ak rfl e_f24 (cN j1) rfl ?_
 simp (config:=KF) (disch:=omega) only [bZ,al,addA,ae,↓reduceIte,Nat.reduceEqDiff,Nat.reduceLeDiff,reduceCtorEq,hg,ht,hlen,hown]
 rw [f22_15w]
 have hL0:cD [] = .lit (.slice none 0 0):=rfl
 refine a8 (A:=Nat) (fun a=>64 - a) (fun a=>⟨[(1,.lit (.int .i64 t)),(5,cD (numR t (bz ((L.map sbO).take a)))),(13,.agg (L.map ptrO)),(14,.lit (.int .i64 (a:Nat)))],[]⟩) (fun _=>st)
  (fun a=>a≤64) 0 (Nat.zero_le _) (Sf.le_refl _) rfl ?_
 intro i hi K hK hKe hKr
 by_cases h64:i < 64
 ·have hx:L[i]? = some L[i]:=List.getElem?_eq_getElem (by omega)
  have hd:∃ r,(L.map ptrO).drop i = ptrO L[i]::r:=by
   rw [List.drop_eq_getElem_cons (by rw [List.length_map]; omega),List.getElem_map]
   exact ⟨_,rfl⟩
  obtain ⟨r,hd⟩:=hd
  have hstep:bz ((L.map sbO).take (i + 1)) = bz ((L.map sbO).take i)++oneS (sbO L[i]):=by
   rw [List.take_succ_eq_append_getElem (by rw [List.length_map]; omega),eA,List.getElem_map]
   simp [bz]
  have hK':∀ sf',Sf.le (sf'.mask [1,5,13,14] []) ⟨[(1,.lit (.int .i64 t)),(5,cD (numR t (bz ((L.map sbO).take i)++oneS (sbO L[i])))),(13,.agg (L.map ptrO)),(14,.lit (.int .i64 ((i + 1:Nat))))],[]⟩→K .normal sf' st:=fun sf' hs=>hK (i + 1) sf' (by omega) (by omega) (by rw [hstep]; exact hs)
  have hol:(numR t (bz ((L.map sbO).take i))).length≤64:=by
   have h1:∀ l:List Sb,(numR t l).length≤l.length:=by
    intro l
    induction l with
    | nil=>exact Nat.le_refl _
    | cons S r ih =>
      unfold numR at ih ⊢
      rw [List.flatMap_cons,List.length_append,List.length_cons]
      split <;> simp only [List.length_cons,List.length_nil] <;> omega
   have h2:=(iH ((L.map sbO).take i)).1
   have h3:=h1 (bz ((L.map sbO).take i))
   rw [List.length_take] at h2
   omega
  have hnum:∀ x,L[i]? = some (some x)→x.S.num = i:=fun x hx=>(j2.ok i x.S (by rw [List.getElem?_map,hx]; rfl)).1
  have happ:∀ (a b:List Sb),numR t (a++b) = numR t a++numR t b:=fun a b=>by simp [numR]
  rw [happ] at hK'
  generalize numR t (bz ((L.map sbO).take i)) = out at hK' hol
  have hid:(out.map intA).map AV.dis = out.map intA:=by rw [List.map_map]; exact List.map_congr_left fun _ _=>rfl
  cases he:L[i] with
  | none =>
    rw [he] at hd hK'
    have hd':(L.map ptrO).drop i = .lit (.pointer none)::r:=hd
    have hz:out++numR t (oneS (sbO none)) = out:=by simp [numR,sbO,oneS]
    rw [hz] at hK'
    simp (config:=KF) (disch:=omega) only [bZ,AI.dst,cP,dy,eU,bp,aY,↓reduceIte,Nat.reduceEqDiff,hd']
    exact hK' _ (Sf.le_refl _)
  | some x =>
    rw [he] at hd hK' hx
    have hd':(L.map ptrO).drop i = .ptr x.s 0::r:=hd
    have hgx:=SbIs.get (j1.sub i x hx)
    have hni:=hnum x hx
    simp (config:=KF) (disch:=omega) only [bZ,AI.dst,cP,dy,al,eU,bp,aY,addA,ae,↓reduceIte,Nat.reduceEqDiff,hd',hgx]
    refine aS (fun h3=>?_) (fun h3=>?_)
    ·have hz:out++numR t (oneS (sbO (some x))) = out++[i]:=by simp [numR,sbO,oneS,h3,hni]
     rw [hz] at hK'
     have hsn:cD (out++[i]) = .sl true 1 (out.map intA++[intA i]):=by
      unfold cD
      rw [if_neg (by simp),List.map_append]; rfl
     rw [hsn] at hK'
     by_cases ho:out = []
     ·have hia:cD out = .lit (.slice none 0 0):=by unfold cD; rw [if_pos ho]
      rw [hia]
      rw [ho] at hK'
      simp (config:=KF) (disch:=omega) only [bZ,bF,List.reduceReplicate,aQ,srcA,cr,↓reduceIte,Nat.reduceEqDiff,Nat.reduceLT]
      exact hK' _ (Sf.le_refl _)
     ·have hia:cD out = .sl true 1 (out.map intA):=by unfold cD; rw [if_neg ho]
      rw [hia]
      simp (config:=KF) (disch:=omega) only [bZ,bF,List.reduceReplicate,br,srcA,cr,↓reduceIte,Nat.reduceEqDiff,Nat.reduceLT]
      exact hK' _ (Sf.le_refl _)
    ·have hz:out++numR t (oneS (sbO (some x))) = out:=by simp [numR,sbO,oneS,h3]
     rw [hz] at hK'
     simp (config:=KF) (disch:=omega) only [bZ,↓reduceIte,Nat.reduceEqDiff]
     exact hK' _ (Sf.le_refl _)
 ·obtain rfl:i = 64:=by omega
  simp (config:=KF) (disch:=omega) only [bZ,↓reduceIte,Nat.reduceEqDiff,Int.reduceLT]
  refine hKe _ _ _ ?_
  rw [List.take_of_length_le (by rw [List.length_map]; omega)]
  have hn:(cD (numR t (bz (L.map sbO)))).noL = true:=by unfold cD; split <;> rfl
  have hn2:(cy (numR t (bz (L.map sbO)))).noL = true:=by unfold cy; split <;> rfl
  simp (config:=KF) (disch:=omega) only [bZ,retI,↓reduceIte,Nat.reduceEqDiff]
  have hdd:=ints_dis (numR t (bz (L.map sbO)))
  simp (config:=KF) (disch:=omega) only [bZ,hdd,hn2]
  exact hQ _
end
end Go.Fx.YtbdjfccgkdgbfaaFx

namespace Go.Fx.YtbdjfccgkdgbfaaFx
open Go Go.Fx
attribute [local irreducible] aC runI az ar

set_option maxRecDepth 100000
set_option maxHeartbeats 4000000

/-! A new hub. -/
def newQ (n i:Nat):QL:=⟨n + 2 + 2 * i + 1,n + 2 + 2 * i,0,[]⟩
def newC (n i:Nat):List AV:=List.replicate 64 (.lit (.pointer none))++(((List.range i).map (newQ n)).map ptrQ++(List.replicate (16 - i) (.lit (.pointer none))++[.map n]))
theorem newC_len (n:Nat) {i:Nat} (hi:i≤16):(newC n i).length = 81:=by
 unfold newC; simp; omega
theorem newC_set (n:Nat) {i:Nat} (hi:i < 16):(newC n i).set (64 + i) (.ptr (n + 2 + 2 * i + 1) 0) = newC n (i + 1):=by
 unfold newC
 rw [List.set_append,if_neg (by simp),List.length_replicate,Nat.add_sub_cancel_left,List.set_append,if_neg (by simp),List.length_map,List.length_map,List.length_range,Nat.sub_self,show 16 - i = (16 - (i + 1)) + 1 by omega,List.replicate_succ (n:=16 - (i + 1)),List.cons_append,List.set_cons_zero,List.range_succ,List.map_append,List.map_append,List.append_assoc]
 rfl
theorem gS (st:St):am Go.Proofs.Try.prog n_f8 [] st (fun v st'=>∃ h wid F,v = .ptr h 0∧HubR st' h wid 0 ⟨[],[]⟩ F∧Kp st st' []∧(∀ x ∈ F,st.boxes.length≤x∧x < st'.boxes.length)):=by
 refine ap hmix k_f8 rfl rfl fun Q hQ=>?_
 unfold aFun c_f8
 simp (config:=KF) (disch:=omega) only [bZ,ei,jM,o_mkmap,bstV,aV,bu,nF,li,gQ,↓reduceIte,Nat.reduceEqDiff,Nat.reduceAdd,Nat.reduceLeDiff,aE,af,aa]
 obtain ⟨n,hn⟩:∃ n,n = st.boxes.length:=⟨_,rfl⟩
 rw [← hn]
 rw [f8_9w]
 have hb0:∀ c,((st.push (.mp [] [] 0)).push (.cells c)).get (n + 1) = some c:=fun c=>by
  have:=bq (st.push (.mp [] [] 0)) c
  rw [aE,← hn] at this; exact this
 refine a8 (A:=Nat×St) (fun a=>16 - a.1) (fun a=>⟨[(1,.ptr (n + 1) 0),(6,.lit (.int .i64 (a.1:Nat)))],[]⟩) (fun a=>a.2)
  (fun a=>a.1≤16∧a.2.get (n + 1) = some (newC n a.1)∧a.2.boxes.length = n + 2 + 2 * a.1∧MapIs a.2 n .i64 weAV []∧(∀ i,i < a.1→(newQ n i).is a.2)∧∀ b,b < n→a.2.boxes[b]? = st.boxes[b]?) (0,(st.push (.mp [] [] 0)).push (.cells (newC n 0))) ⟨Nat.zero_le _,hb0 _,by simp only [aE,hn],?_,fun i hi=>(by cases hi),fun b hb=>by rw [bG (by rw [aE]; omega),bG (by omega)]⟩ (Sf.le_refl _) rfl ?_
 ·have:=(MapIs.new st .i64 weAV).push (.cells (newC n 0))
  rw [← hn] at this; exact this
 rintro ⟨i,s1⟩ ⟨h1,h2,h3,h4,h5,h6⟩ K hK hKe hKr
 simp only at h1 h2 h3 h4 h5 h6
 dsimp only
 by_cases hi:i < 16
 ·simp (config:=KF) (disch:=omega) only [bZ,↓reduceIte,Nat.reduceEqDiff]
  refine qs ⟨[]⟩ (St.sub_nil _) ?_
  simp (config:=KF) (disch:=omega) only [bZ,g7,fI,iD,jy,nU,eD,lW,lX,io,id,List.nil_append,List.cons_append,↓reduceIte,Nat.reduceEqDiff]
  refine nV rfl e_f23 (qnew_calls s1) rfl ?_
  simp (config:=KF) (disch:=omega) only [bZ,ksB,aJ,bg,bD,aK,nstB,bE,ff,ez,ln,mw,hm_val,gz,al,addA,List.nil_append,List.cons_append,↓reduceIte,Nat.reduceEqDiff]
  rintro v s2 ⟨rfl,hq,hl2,hk2⟩
  refine ⟨St.sub_nil _,?_⟩
  have hg2:s2.get (n + 1) = some (newC n i):=(ck (hk2 (n + 1) (by omega))).trans h2
  have hcl:=newC_len n h1
  have hcs:=newC_set n hi
  rw [h3] at hq
  simp (config:=KF) (disch:=omega) only [bZ,ksB,aJ,bg,bD,aK,cB,bS,nstB,bE,g7,fI,iD,ff,ez,gy,fq,my,gA,ja,iv,al,ah,addA,eJ,List.nil_append,List.cons_append,↓reduceIte,Nat.reduceEqDiff,Nat.reduceLeDiff,af,aa,hg2,hcl,h3,hcs]
  refine hK (i + 1,s2.set (n + 1) (newC n (i + 1))) _ ⟨by simp only; omega,aG (by omega),by simp only [du]; omega,h4.at ((bP (by omega)).trans (hk2 n (by omega))),fun j hj=>?_,fun b hb=>by simp only; rw [bP (by omega),hk2 b (by omega),h6 b hb]⟩ (by simp only; omega) (Sf.le_refl _)
  simp only at hj ⊢
  by_cases e:j = i
  ·subst e
   exact QL.at (x:=newQ n j) hq fun b hb=>bP (by simp [QL.ids,newQ] at hb; omega)
  ·refine QL.at (h5 j (by omega)) fun b hb=>?_
   have hb':b = n + 2 + 2 * j + 1∨b = n + 2 + 2 * j:=by simpa [QL.ids,newQ] using hb
   rw [bP (by omega),hk2 b (by omega)]
 ·obtain rfl:i = 16:=by omega
  simp (config:=KF) (disch:=omega) only [bZ,↓reduceIte,Nat.reduceEqDiff,Int.reduceLT]
  refine hKe _ _ _ ?_
  simp (config:=KF) (disch:=omega) only [bZ,retI,bT,↓reduceIte,Nat.reduceEqDiff,reduceCtorEq]
  have hC:newC n 16 = (List.replicate 64 (none:Option SL)).map ptrO++(((List.range 16).map (newQ n)).map ptrQ++[.map n]):=by
   unfold newC
   rw [List.map_replicate]; rfl
  have hqs:∀ (j:Nat) x,((List.range 16).map (newQ n))[j]? = some x→j < 16∧x = newQ n j:=fun j x hx=>by
   rw [List.getElem?_map] at hx
   obtain ⟨k,hk,e⟩:=Option.map_eq_some_iff.1 hx
   obtain ⟨a1,a2⟩:=List.getElem?_eq_some_iff.1 hk
   rw [List.length_range] at a1
   rw [List.getElem_range] at a2
   subst a2
   exact ⟨a1,e.symm⟩
  have hls:∀ (j:Nat) (x:SL),(List.replicate 64 (none:Option SL))[j]? = some (some x)→False:=fun j x hx=>by
   rw [List.getElem?_replicate] at hx
   split at hx <;> cases hx
  have hH:HubIs s1 (n + 1) n (List.replicate 64 none) ((List.range 16).map (newQ n)) []:=by
   refine ⟨by rw [h2,hC],by simp,by simp,fun j x hx=>(hls j x hx).elim,fun j x hx=>?_,h4,fun b=>if b < n + 2 then 0 else 100 + (b - (n + 2)) / 2,fun j x hx=>(hls j x hx).elim,fun j x hx b hb=>?_,if_pos (by omega),if_pos (by omega)⟩
   ·obtain ⟨a1,rfl⟩:=hqs j x hx
    exact h5 j a1
   ·obtain ⟨a1,rfl⟩:=hqs j x hx
    have hb':b = n + 2 + 2 * j + 1∨b = n + 2 + 2 * j:=by simpa [QL.ids,newQ] using hb
    show (if b < n + 2 then 0 else 100 + (b - (n + 2)) / 2) = 100 + j
    rw [if_neg (by omega)]; omega
  refine hQ _ _ ⟨n + 1,n,ba (n + 1) n (List.replicate 64 none) ((List.range 16).map (newQ n)),rfl,⟨⟨_,_,_,[],hH,⟨?_,fun j S hj=>?_⟩,⟨fun j x hx=>?_,fun _=>rfl,by simp [bO],by simp,fun _ q=>by cases q⟩,rfl,fun _ q=>q⟩⟩,⟨by omega,fun b hb _=>h6 b (by omega)⟩,fun x hx=>⟨?_,hH.lts x hx⟩⟩
  ·rfl
  ·rw [List.getElem?_map] at hj
   obtain ⟨o,ho,e⟩:=Option.map_eq_some_iff.1 hj
   cases o with
   | none=>cases e
   | some x=>exact (hls j x ho).elim
  ·obtain ⟨a1,rfl⟩:=hqs j x hx
   exact ⟨rfl,Nat.le_refl _⟩
  ·rcases ai.1 hx with e | e | ⟨j,y,hy,hb⟩ | ⟨j,y,hy,hb⟩
   ·omega
   ·omega
   ·exact (hls j y hy).elim
   ·obtain ⟨a1,rfl⟩:=hqs j y hy
    have hb':x = n + 2 + 2 * j + 1∨x = n + 2 + 2 * j:=by simpa [QL.ids,newQ] using hb
    omega
end Go.Fx.YtbdjfccgkdgbfaaFx

