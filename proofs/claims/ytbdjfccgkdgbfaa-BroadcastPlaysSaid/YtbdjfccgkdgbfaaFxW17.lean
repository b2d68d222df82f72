/- What the functions that the statement reaches compute: part 17. -/
import Derived.Test.YtbdjfccgkdgbfaaFxW16
namespace Go.Fx.YtbdjfccgkdgbfaaFx
open Go Go.Fx
attribute [local irreducible] aC runI az aA

set_option maxRecDepth 100000
set_option maxHeartbeats 4000000

/-! What is seen of a hub. -/
def lenR (n:Int) (R:HR):Nat:=match atR n R.subs with | none=>0 | some S=>S.msgs.length
def ip (n:Int) (R:HR):Nat:=match atR n R.subs with | none=>0 | some S=>S.lost
def wtR (t:Int):List WW→Nat
  | []=>0
  | w::r=>(if w.2.1 = t then 1 else 0) + wtR t r
def numR (t:Int) (subs:List Sb):List Nat:=subs.flatMap fun S=>if S.topic = t then [S.num] else []
def intA (n:Nat):AV:=.lit (.int .i64 (n:Nat))
def ci (l:List Nat):AV:=if l = [] then .lit (.slice none 0 0) else .sl false 1 (l.map intA)
def cn (l:List Nat):AV:=if l = [] then .lit (.slice none 0 0) else .sl true 1 (l.map intA)
theorem ints_dis (l:List Nat):(cn l).dis = ci l:=by unfold cn ci; split <;> rfl
theorem wt_q (i:Int):∀ W:WL,(qOf i W).length = wtR i (W.map cz)
  | []=>rfl
  | e :: r => by
    rw [dI,List.length_append,wt_q i r,List.map_cons,wtR,show (cz e).2.1 = e.2.topic from rfl]
    split <;> rfl
theorem wt_out {i:Int} (hi:i < 0∨16≤i):∀ {W:WL},(∀ e ∈ W,0≤e.2.topic∧e.2.topic < 16)→wtR i (W.map cz) = 0
  | [],_=>rfl
  | e :: r, h => by
    have:=h e (by simp)
    rw [List.map_cons,wtR,show (cz e).2.1 = e.2.topic from rfl,if_neg (by omega),wt_out hi fun x hx=>h x (by simp [hx])]

section
variable {st:St} {h wid n:Nat} {R:HR} {F:List Nat}
theorem len_pure (hh:HubR st h wid n R F) (m:Int):aB Go.Proofs.Try.prog n_f15 [.ptr h 0,.lit (.int .i64 m)] st (.lit (.int .i64 (lenR m R:Nat))):=by
  obtain ⟨L,Qs,M,W,j1,j2,j3,j4,j5⟩:=hh.ex
  refine aE hmix k_f15 rfl rfl fun Q hQ=>?_
  unfold aFun c_f15
  unfold lenR at hQ
  simp (config:=KF) (disch:=omega) only [bZ,id,↓reduceIte,Nat.reduceEqDiff,reduceCtorEq]
  refine ak rfl e_f31 (j9 j1 m) rfl ?_
  rcases qc j1.l64 j2 m with ⟨a1,a2⟩ | ⟨k,x,rfl,hk,hx,hxs,a1,a2⟩
  · rw [a1]
    rw [a2] at hQ
    have hp:ptrO none = .lit (.pointer none):=rfl
    simp (config:=KF) (disch:=omega) only [bZ,retI,fT,bw,a8,↓reduceIte,Nat.reduceEqDiff,reduceCtorEq,hp]
    exact hQ _
  · rw [a1]
    rw [a2] at hQ
    have hp:ptrO (some x) = .ptr x.s 0:=rfl
    have hg:=SbIs.get (j1.sub k x hx)
    simp (config:=KF) (disch:=omega) only [bZ,retI,am,fT,bw,a8,addA,aa,↓reduceIte,Nat.reduceEqDiff,reduceCtorEq,hp,hg]
    exact hQ _
theorem pd (hh:HubR st h wid n R F) (m:Int):aB Go.Proofs.Try.prog n_f14 [.ptr h 0,.lit (.int .i64 m)] st (.lit (.int .i64 (ip m R:Nat))):=by
  obtain ⟨L,Qs,M,W,j1,j2,j3,j4,j5⟩:=hh.ex
  refine aE hmix k_f14 rfl rfl fun Q hQ=>?_
  unfold aFun c_f14
  unfold ip at hQ
  simp (config:=KF) (disch:=omega) only [bZ,id,↓reduceIte,Nat.reduceEqDiff,reduceCtorEq]
  refine ak rfl e_f31 (j9 j1 m) rfl ?_
  rcases qc j1.l64 j2 m with ⟨a1,a2⟩ | ⟨k,x,rfl,hk,hx,hxs,a1,a2⟩
  · rw [a1]
    rw [a2] at hQ
    have hp:ptrO none = .lit (.pointer none):=rfl
    simp (config:=KF) (disch:=omega) only [bZ,retI,fT,bw,a8,↓reduceIte,Nat.reduceEqDiff,reduceCtorEq,hp]
    exact hQ _
  · rw [a1]
    rw [a2] at hQ
    have hp:ptrO (some x) = .ptr x.s 0:=rfl
    have hg:=SbIs.get (j1.sub k x hx)
    simp (config:=KF) (disch:=omega) only [bZ,retI,am,fT,bw,a8,addA,aa,↓reduceIte,Nat.reduceEqDiff,reduceCtorEq,hp,hg]
    exact hQ _
theorem qe (hh:HubR st h wid n R F) (t:Int):aB Go.Proofs.Try.prog n_f21 [.ptr h 0,.lit (.int .i64 t)] st (.lit (.int .i64 (wtR t R.ws:Nat))):=by
  obtain ⟨L,Qs,M,W,j1,j2,j3,j4,j5⟩:=hh.ex
  refine aE hmix k_f21 rfl rfl fun Q hQ=>?_
  unfold aFun c_f21
  simp (config:=KF) (disch:=omega) only [bZ,id,↓reduceIte,Nat.reduceEqDiff,reduceCtorEq]
  refine ak rfl e_f24 (cO j1) rfl ?_
  simp (config:=KF) (disch:=omega) only [bZ,AI.dst,id,↓reduceIte,Nat.reduceEqDiff,reduceCtorEq]
  refine ak rfl e_f25 (dh t 16 st) rfl ?_
  by_cases hb:t < 0∨16≤t
  · have w1:decide (0≤t∧t < 16) = false:=decide_eq_false (by omega)
    rw [← j4,wt_out hb fun e he=>⟨(j3.ok e he).2.1,(j3.ok e he).2.2.1⟩] at hQ
    simp (config:=KF) (disch:=omega) only [bZ,retI,AI.dst,unA,↓reduceIte,Nat.reduceEqDiff,reduceCtorEq,w1]
    exact hQ _
  · have w1:decide (0≤t∧t < 16) = true:=decide_eq_true (by omega)
    obtain ⟨i,rfl⟩:∃ i:Nat,t = (i:Int):=⟨t.toNat,by omega⟩
    have hg:=j1.get
    obtain ⟨x,hx⟩:∃ x,Qs[i]? = some x:=⟨_,List.getElem?_eq_getElem (by have:=j1.q16; omega)⟩
    obtain ⟨hxL,hxg⟩:=j3.que i x hx
    obtain ⟨rq,hrq⟩:=hub_q (L:=L) wid j1.l64 hx
    rw [← j4,← wt_q,← hxL] at hQ
    simp (config:=KF) (disch:=omega) only [bZ,AI.dst,jR,am,addA,aa,unA,id,↓reduceIte,Nat.reduceEqDiff,reduceCtorEq,dp,hg,hrq]
    refine ak rfl e_f44 (o9 (j1.que i x hx)) rfl ?_
    simp (config:=KF) (disch:=omega) only [bZ,retI,↓reduceIte,Nat.reduceEqDiff,reduceCtorEq]
    exact hQ _

theorem kN (hh:HubR st h wid n R F) (t:Int):aB Go.Proofs.Try.prog n_f22 [.ptr h 0,.lit (.int .i64 t)] st (ci (numR t R.subs)):=by
  obtain ⟨L,Qs,M,W,j1,j2,j3,j4,j5⟩:=hh.ex
  have hg:=j1.get
  have hl:=j1.l64
  have ht:=hub_t (Qs:=Qs) wid hl
  have hlen:=lX (L:=L) (Qs:=Qs) wid hl j1.q16
  have hown:(L.map ptrO).map AV.own1 = L.map ptrO:=by
    rw [List.map_map]
    exact List.map_congr_left fun x _=>(gH x).2.1
  refine aE hmix k_f22 rfl rfl fun Q hQ=>?_
  unfold aFun c_f22
  rw [← j2.eq] at hQ
  simp (config:=KF) (disch:=omega) only [bZ,id,↓reduceIte,Nat.reduceEqDiff,reduceCtorEq]
  refine ak rfl e_f24 (cO j1) rfl ?_
  simp (config:=KF) (disch:=omega) only [bZ,am,addA,aa,↓reduceIte,Nat.reduceEqDiff,Nat.reduceLeDiff,reduceCtorEq,hg,ht,hlen,hown]
  rw [f22_15w]
  have hL0:cn [] = .lit (.slice none 0 0):=rfl
  refine bf (A:=Nat) (fun a=>64 - a) (fun a=>⟨[(1,.lit (.int .i64 t)),(5,cn (numR t (bj ((L.map sbO).take a)))),(13,.agg (L.map ptrO)),(14,.lit (.int .i64 (a:Nat)))],[]⟩) (fun _=>st)
    (fun a=>a≤64) 0 (Nat.zero_le _) (Sf.le_refl _) rfl ?_
  intro i hi K hK hKe hKr
  by_cases h64:i < 64
  · have hx:L[i]? = some L[i]:=List.getElem?_eq_getElem (by omega)
    have hd:∃ r,(L.map ptrO).drop i = ptrO L[i]::r:=by
      rw [List.drop_eq_getElem_cons (by rw [List.length_map]; omega),List.getElem_map]
      exact ⟨_,rfl⟩
    obtain ⟨r,hd⟩:=hd
    have hstep:bj ((L.map sbO).take (i + 1)) = bj ((L.map sbO).take i)++oneS (sbO L[i]):=by
      rw [List.take_succ_eq_append_getElem (by rw [List.length_map]; omega),er,List.getElem_map]
      simp [bj]
    have hK':∀ sf',Sf.le (sf'.mask [1,5,13,14] []) ⟨[(1,.lit (.int .i64 t)),(5,cn (numR t (bj ((L.map sbO).take i)++oneS (sbO L[i])))),(13,.agg (L.map ptrO)),(14,.lit (.int .i64 ((i + 1:Nat))))],[]⟩→K .normal sf' st:=fun sf' hs=>hK (i + 1) sf' (by omega) (by omega) (by rw [hstep]; exact hs)
    have hol:(numR t (bj ((L.map sbO).take i))).length≤64:=by
      have h1:∀ l:List Sb,(numR t l).length≤l.length:=by
        intro l
        induction l with
        | nil=>exact Nat.le_refl _
        | cons S r ih =>
          unfold numR at ih ⊢
          rw [List.flatMap_cons,List.length_append,List.length_cons]
          split <;> simp only [List.length_cons,List.length_nil] <;> omega
      have h2:=(io ((L.map sbO).take i)).1
      have h3:=h1 (bj ((L.map sbO).take i))
      rw [List.length_take] at h2
      omega
    have hnum:∀ x,L[i]? = some (some x)→x.S.num = i:=fun x hx=>(j2.ok i x.S (by rw [List.getElem?_map,hx]; rfl)).1
    have happ:∀ (a b:List Sb),numR t (a++b) = numR t a++numR t b:=fun a b=>by simp [numR]
    rw [happ] at hK'
    generalize numR t (bj ((L.map sbO).take i)) = out at hK' hol
    have hid:(out.map intA).map AV.dis = out.map intA:=by rw [List.map_map]; exact List.map_congr_left fun _ _=>rfl
    cases he:L[i] with
    | none =>
      rw [he] at hd hK'
      have hd':(L.map ptrO).drop i = .lit (.pointer none)::r:=hd
      have hz:out++numR t (oneS (sbO none)) = out:=by simp [numR,sbO,oneS]
      rw [hz] at hK'
      simp (config:=KF) (disch:=omega) only [bZ,AI.dst,dm,ej,fT,bw,a8,↓reduceIte,Nat.reduceEqDiff,hd']
      exact hK' _ (Sf.le_refl _)
    | some x =>
      rw [he] at hd hK' hx
      have hd':(L.map ptrO).drop i = .ptr x.s 0::r:=hd
      have hgx:=SbIs.get (j1.sub i x hx)
      have hni:=hnum x hx
      simp (config:=KF) (disch:=omega) only [bZ,AI.dst,dm,ej,am,fT,bw,a8,addA,aa,↓reduceIte,Nat.reduceEqDiff,hd',hgx]
      refine aO (fun h3=>?_) (fun h3=>?_)
      · have hz:out++numR t (oneS (sbO (some x))) = out++[i]:=by simp [numR,sbO,oneS,h3,hni]
        rw [hz] at hK'
        have hsn:cn (out++[i]) = .sl true 1 (out.map intA++[intA i]):=by
          unfold cn
          rw [if_neg (by simp),List.map_append]; rfl
        rw [hsn] at hK'
        by_cases ho:out = []
        · have hia:cn out = .lit (.slice none 0 0):=by unfold cn; rw [if_pos ho]
          rw [hia]
          rw [ho] at hK'
          simp (config:=KF) (disch:=omega) only [bZ,bt,List.reduceReplicate,aI,srcA,cf,↓reduceIte,Nat.reduceEqDiff,Nat.reduceLT]
          exact hK' _ (Sf.le_refl _)
        · have hia:cn out = .sl true 1 (out.map intA):=by unfold cn; rw [if_neg ho]
          rw [hia]
          simp (config:=KF) (disch:=omega) only [bZ,bt,List.reduceReplicate,bg,srcA,cf,↓reduceIte,Nat.reduceEqDiff,Nat.reduceLT]
          exact hK' _ (Sf.le_refl _)
      · have hz:out++numR t (oneS (sbO (some x))) = out:=by simp [numR,sbO,oneS,h3]
        rw [hz] at hK'
        simp (config:=KF) (disch:=omega) only [bZ,↓reduceIte,Nat.reduceEqDiff]
        exact hK' _ (Sf.le_refl _)
  · obtain rfl:i = 64:=by omega
    simp (config:=KF) (disch:=omega) only [bZ,↓reduceIte,Nat.reduceEqDiff,Int.reduceLT]
    refine hKe _ _ _ ?_
    rw [List.take_of_length_le (by rw [List.length_map]; omega)]
    have hn:(cn (numR t (bj (L.map sbO)))).noL = true:=by unfold cn; split <;> rfl
    have hn2:(ci (numR t (bj (L.map sbO)))).noL = true:=by unfold ci; split <;> rfl
    simp (config:=KF) (disch:=omega) only [bZ,retI,↓reduceIte,Nat.reduceEqDiff]
    have hdd:=ints_dis (numR t (bj (L.map sbO)))
    simp (config:=KF) (disch:=omega) only [bZ,hdd,hn2]
    exact hQ _
end
end Go.Fx.YtbdjfccgkdgbfaaFx

