/- What the functions that the statement reaches compute: part 5. -/
import Derived.Test.YtphaaebhgggbaaaFxW4
namespace Go.Fx.YtphaaebhgggbaaaFx
open Go Go.Fx
attribute [local irreducible] aC runI bD cO

set_option maxRecDepth 100000
set_option maxHeartbeats 4000000

theorem bg.wr {P:Program} {f:FuncId} {vs vs':List AV} {st:St} {v:AV} (h:bg P f vs st v) (hv:∀ g us,e6 g vs' us→e6 g vs us):bg P f vs' st v:=fun g w us L a b c=>h g w us L a b (hv g us c)
theorem args_xs {x:AV} {es:List AV} (g:Gh) (us:Array Value) (h:e6 g [x,.xs 1 es] us):e6 g [x,.sl false 1 es] us:=by
  refine ⟨h.1,fun i y u hy hu=>?_⟩
  match i,hy with
  | 0,hy=>exact h.2 0 y u hy hu
  | 1, hy =>
    have:=h.2 1 (.xs 1 es) u rfl hu
    simp at hy
    subst hy
    cases this with
    | xs _ _ a h0=>exact h0
  | i + 2,hy=>simp at hy

/-- The error of a task that may come to wait. -/
def chk (U:List Int) (t:Int):Int:=if t < 0∨64≤t then 2 else if t ∈ U then 11 else 0
theorem mU {U:List Int} {t:Int} (h:chk U t = 0):(0≤t∧t < 64)∧t ∉ U:=by
  unfold chk at h
  split at h
  · cases h
  · split at h
    · cases h
    · exact ⟨by omega,by assumption⟩

abbrev Lt:=Ln×List Int×Nat
def lpAV (Ls:List Lt):List AV:=Ls.map fun x=>.ptr x.1.l 0
theorem ij {st:St} (Ls:List Lt) (h:∀ x ∈ Ls,LnIs st x.1 x.2.1 x.2.2) (t:Int) (hl:Ls.length≤10):bg Go.Proofs.Try.prog n_f64 [.lit (.int .i64 t),.sl false 1 (lpAV Ls)] st (.lit (.int .i64 (chk (Ls.flatMap fun x=>x.2.1) t))):=by
  refine cc hmix k_f64 rfl rfl fun Q hQ=>?_
  unfold aFun c_f64
  have hQ:=hQ st
  unfold chk at hQ
  have hll:(lpAV Ls).length = Ls.length:=by simp [lpAV]
  by_cases hb:t < 0∨64≤t
  · rw [if_pos hb] at hQ
    by_cases h1:t < 0
    · simp (config:=KF) (disch:=omega) only [bZ,retI,aL,c5,AI.dst,cL,bu,dv,bS,putS,Sf.set,Sf.reg,getR,setR,aa,aO,aI,↓reduceIte,Nat.reduceEqDiff,Bool.true_and,true_and,reduceCtorEq,Nat.zero_add,Bool.false_eq_true,fI,f64_1e,f64_2e,f64_2l,f64_3e,f64_4e,f64_5e,f64_5l,f64_6e,f64_7e,f64_8e,f64_8l]
      exact hQ
    · have h2:64≤t:=by omega
      simp (config:=KF) (disch:=omega) only [bZ,retI,aL,AI.dst,bh,bu,bA,bS,ep,putS,Sf.set,Sf.reg,getR,setR,aa,aO,aI,↓reduceIte,Nat.reduceEqDiff,Bool.true_and,true_and,reduceCtorEq,Nat.zero_add,Bool.false_eq_true,bq,dl,f64_1e,f64_2e,f64_2l,f64_3e,f64_4e,f64_5e,f64_5l,f64_6e,f64_7e,f64_8e,f64_8l]
      exact hQ
  rw [if_neg hb] at hQ
  simp (config:=KF) (disch:=omega) only [bZ,aL,AI.dst,bh,bu,cw,bA,lenI,bS,ep,putS,Sf.set,Sf.reg,getR,setR,aa,aO,aI,↓reduceIte,Nat.reduceEqDiff,reduceCtorEq,Nat.zero_add,Bool.false_eq_true,bH,dl,f64_1e,f64_2e,f64_2l,f64_3e,f64_4e,f64_5e,f64_5l,f64_6e,f64_9e,f64_10e,f64_11e,f64_11l,f64_12e,hll]
  rw [f64_13w]
  refine ef (A:=Nat) (fun a=>Ls.length - a) (fun a=>⟨[(0,.lit (.int .i64 t)),(13,.sl false 1 (lpAV Ls)),(14,.lit (.int .i64 (Ls.length:Nat))),(15,.lit (.int .i64 (a:Nat)))],[]⟩) (fun _=>st)
    (fun a=>a≤Ls.length∧∀ x ∈ Ls.take a,t ∉ x.2.1) 0 ⟨by omega,by simp⟩ (Sf.le_refl _) rfl ?_
  rintro a ⟨h1,h2⟩ K hK hKe hKr
  by_cases hi:a < Ls.length
  · have e1:(lpAV Ls).getD a .any = .ptr Ls[a].1.l 0:=by simp [lpAV,List.getD,hi]
    have hh:=n4 (h Ls[a] (List.getElem_mem hi)) t
    by_cases ht:t ∈ Ls[a].2.1
    · rw [decide_eq_true ht] at hh
      rw [if_pos (List.mem_flatMap.2 ⟨Ls[a],List.getElem_mem hi,ht⟩)] at hQ
      simp (config:=KF) (disch:=omega) only [bZ,e8,aq,az,ao,ixSV,ar,ixA,ag,bS,ap,ev_f,putS,Sf.set,Sf.reg,getR,setR,aa,Sf.disAt,id,ca,Int.toNat_natCast,↓reduceIte,Nat.reduceEqDiff,reduceCtorEq,bE,bq,bI,f64_14e,f64_15e,f64_15l,f64_16e,f64_17e,f64_18e,f64_19e,f64_20e,f64_21e,f64_21l,f64_22e,f64_23e,f64_23l,e1,hll]
      refine aF rfl e_f81 hh rfl ?_
      simp (config:=KF) (disch:=omega) only [bZ,cx,putS,Sf.set,Sf.reg,getR,setR,aa,↓reduceIte,Nat.reduceEqDiff,reduceCtorEq,f64_24e,f64_25e,f64_26e,f64_26l]
      refine hKr _ _ ?_
      simp (config:=KF) (disch:=omega) only [bZ,cx,retI,Sf.reg,getR,↓reduceIte,Bool.true_and,true_and]
      exact hQ
    · rw [decide_eq_false ht] at hh
      simp (config:=KF) (disch:=omega) only [bZ,e8,aq,az,ao,ixSV,ar,ixA,ag,bS,ap,ev_f,putS,Sf.set,Sf.reg,getR,setR,aa,Sf.disAt,id,ca,Int.toNat_natCast,↓reduceIte,Nat.reduceEqDiff,reduceCtorEq,bE,bq,bI,f64_14e,f64_15e,f64_15l,f64_16e,f64_17e,f64_18e,f64_19e,f64_20e,f64_21e,f64_21l,f64_22e,f64_23e,f64_23l,e1,hll]
      refine aF rfl e_f81 hh rfl ?_
      simp (config:=KF) (disch:=omega) only [bZ,aD,d4,putS,Sf.set,Sf.reg,getR,setR,aa,↓reduceIte,Nat.reduceEqDiff,reduceCtorEq,IntWalk.i64_in,cu,f64_24e,f64_27e,f64_27l]
      refine hK (a + 1) _ ⟨by omega,fun x hx=>?_⟩ (by omega) (Sf.le_refl _)
      rw [List.take_succ_eq_append_getElem hi] at hx
      rcases List.mem_append.1 hx with hx | hx
      · exact h2 x hx
      · simp at hx; subst hx; exact ht
  · have hie:Ls.take a = Ls:=List.take_of_length_le (by omega)
    rw [hie] at h2
    rw [if_neg (by simp only [List.mem_flatMap,not_exists,not_and]; exact h2)] at hQ
    simp (config:=KF) (disch:=omega) only [bZ,cT,dX,bS,putS,Sf.set,Sf.reg,getR,setR,aa,↓reduceIte,Nat.reduceEqDiff,reduceCtorEq,bH,f64_14e,f64_15e,f64_15l,f64_16e,f64_17e]
    refine hKe _ _ _ ?_
    simp (config:=KF) (disch:=omega) only [bZ,ci,retI,putS,Sf.set,Sf.reg,getR,setR,aa,↓reduceIte,Bool.true_and,true_and,f64_28e,f64_29e,f64_29l]
    exact hQ

theorem check0 (t:Int) (st:St):bg Go.Proofs.Try.prog n_f64 [.lit (.int .i64 t),.lit (.slice none 0 0)] st (.lit (.int .i64 (chk [] t))) :=
  (ij (st:=st) [] (by simp) t (by simp)).weak ⟨.refl _,.nil _ _,trivial⟩ (.refl _)
theorem check1 {st:St} {x:Ln} {T:List Int} {g:Nat} (h:LnIs st x T g) (t:Int):bg Go.Proofs.Try.prog n_f64 [.lit (.int .i64 t),.xs 1 [.ptr x.l 0]] st (.lit (.int .i64 (chk T t))):=by
  have:=bg.wr (ij (st:=st) [(x,T,g)] (by simpa using h) t (by simp)) args_xs
  simpa [lpAV] using this
theorem check1s {st:St} {x:Ln} {T:List Int} {g:Nat} (h:LnIs st x T g) (t:Int):bg Go.Proofs.Try.prog n_f64 [.lit (.int .i64 t),.sl false 1 [.ptr x.l 0]] st (.lit (.int .i64 (chk T t))):=by
  have:=ij (st:=st) [(x,T,g)] (by simpa using h) t (by simp)
  simpa [lpAV] using this
theorem check2s {st:St} {x y:Ln} {T U:List Int} {g k:Nat} (h:LnIs st x T g) (h':LnIs st y U k) (t:Int):bg Go.Proofs.Try.prog n_f64 [.lit (.int .i64 t),.sl false 1 [.ptr x.l 0,.ptr y.l 0]] st (.lit (.int .i64 (chk (T++U) t))):=by
  have:=ij (st:=st) [(x,T,g),(y,U,k)] (by intro z hz; simp at hz; rcases hz with rfl | rfl <;> assumption) t (by simp)
  simpa [lpAV] using this

/-- A list that is grown, and the one that is read. -/
theorem i6 (l:List Int):(AV.sl false 1 (ints l)).NB:=.sl _ _ _ (ints_lits l).nb
def gAV (l:List Int):AV:=if l = [] then .lit (.slice none 0 0) else .sl true 1 (ints l)
def lAV (l:List Int):AV:=if l = [] then .lit (.slice none 0 0) else .sl false 1 (ints l)
theorem kR (l:List Int):(gAV l = .lit (.slice none 0 0)∧l = [])∨(gAV l = .sl true 1 (ints l)∧l≠[]):=by
  unfold gAV
  by_cases h:l = []
  · rw [if_pos h]; exact .inl ⟨rfl,h⟩
  · rw [if_neg h]; exact .inr ⟨rfl,h⟩
theorem eu (l:List Int):(lAV l = .lit (.slice none 0 0)∧l = [])∨(lAV l = .sl false 1 (ints l)∧l≠[]):=by
  unfold lAV
  by_cases h:l = []
  · rw [if_pos h]; exact .inl ⟨rfl,h⟩
  · rw [if_neg h]; exact .inr ⟨rfl,h⟩
theorem oS (l:List Int):(lAV l).le (.sl false 1 (ints l)):=by
  unfold lAV
  split
  · rename_i h; subst h; exact .nil _ _
  · exact .refl _

theorem jA {st0:St} {x:Ln} {T:List Int} {g:Nat} (h:LnIs st0 x T g) (hg0:g < 1000000):aZ Go.Proofs.Try.prog n_f66 [.ptr x.l 0] st0 (fun r st'=>r = lAV T∧LnIs st' x [] g∧Oth st0 st' x.ids):=by
  have hcn:=h.cnt
  refine aX hmix k_f66 rfl rfl fun Q hQ=>?_
  unfold aFun c_f66
  have hpop:∀ {st:St} {B:List Int},LnIs st x B g→aZ Go.Proofs.Try.prog n_f83 [.ptr x.l 0] st (fun r st'=>r = .tup [.lit (.int .i64 (B.headD 0)),.lit (.bool (decide (B≠[])))]∧LnIs st' x B.tail g∧Oth st st' x.ids):=fun {st B} hB=>by
    cases B with
    | nil=>simpa using mT hB
    | cons t B=>simpa using kQ hB hg0
  simp (config:=KF) (disch:=omega) only [bZ,ao,ev_f,putS,Sf.set,Sf.reg,getR,setR,aa,aO,id,↓reduceIte,Nat.reduceEqDiff,reduceCtorEq,f66_1e,f66_2e,f66_2l,f66_3e,f66_4e,f66_4l,f66_5e,f66_6e,f66_7e,f66_7l]
  refine ba rfl e_f83 (hpop h) rfl fun r st1 hr=>?_
  obtain ⟨rfl,h1,ho1⟩:=hr
  simp (config:=KF) (disch:=omega) only [bZ,bJ,az,extV,putS,Sf.set,Sf.reg,getR,setR,aa,Sf.disAt,bp,bk,List.getElem?_cons_zero,List.getElem?_cons_succ,↓reduceIte,Nat.reduceEqDiff,reduceCtorEq,f66_8e]
  rw [f66_9w]
  refine ef (A:=List Int×List Int×St) (fun a=>a.2.1.length) (fun a=>⟨[(0,.ptr x.l 0),(3,gAV a.1),(4,.lit (.int .i64 (a.2.1.headD 0))),(5,.lit (.bool (decide (a.2.1≠[]))))],[]⟩) (fun a=>a.2.2)
    (fun a=>a.1++a.2.1 = T∧LnIs a.2.2 x a.2.1.tail g∧Oth st0 a.2.2 x.ids) ([],T,st1) ⟨rfl,h1,ho1⟩ (Sf.le_refl _) rfl ?_
  rintro ⟨D,B,st⟩ ⟨hT,hB,ho⟩ K hK hKe hKr
  simp only at hT hB ho
  dsimp only
  cases B with
  | nil =>
    have hD:D = T:=by simpa using hT
    subst hD
    have hf:=hQ _ st ⟨rfl,by simpa using hB,ho⟩
    have hd:decide (([]:List Int)≠[]) = false:=by simp
    unfold lAV at hf
    unfold gAV
    by_cases hz:D = []
    all_goals
      first | rw [if_pos hz] at hf ⊢ | rw [if_neg hz] at hf ⊢
      simp (config:=KF) (disch:=omega) only [bZ,cT,dX,putS,Sf.set,Sf.reg,getR,setR,aa,↓reduceIte,Nat.reduceEqDiff,reduceCtorEq,f66_10e,f66_11e,f66_12e,f66_12l,f66_13e,hd]
      refine hKe _ _ _ ?_
      simp (config:=KF) (disch:=omega) only [bZ,ci,retI,az,putS,Sf.set,Sf.reg,getR,setR,aa,Sf.disAt,aI,eh,↓reduceIte,Nat.reduceEqDiff,Bool.true_and,true_and,f66_18e,f66_19e,f66_19l]
      exact hf
  | cons t B =>
    have hd:decide ((t::B)≠[]) = true:=by simp
    have hlen:D.length + (B.length + 1) = T.length:=by rw [← hT]; simp
    have hil:(ints D).length = D.length:=by simp [ints]
    have hgs:gAV (D++[t]) = .sl true 1 (ints D++[.lit (.int .i64 t)]):=by
      unfold gAV; rw [if_neg (by simp),iK]; rfl
    have hnx:∀ st' ,LnIs st' x B.tail g→Oth st st' x.ids→K .normal ⟨[(0,.ptr x.l 0),(3,.sl true 1 (ints D++[.lit (.int .i64 t)])),(4,.lit (.int .i64 (B.headD 0))),(5,.lit (.bool (decide (B≠[]))))],[]⟩ st':=fun st' a1 a2=>by
      have:=hK (D++[t],B,st') ⟨[(0,.ptr x.l 0),(3,gAV (D++[t])),(4,.lit (.int .i64 (B.headD 0))),(5,.lit (.bool (decide (B≠[]))))],[]⟩ ⟨by simpa using hT,a1,ho.trans a2⟩ (by simp) (Sf.le_refl _)
      rw [hgs] at this
      exact this
    have hp:=hpop (by simpa using hB:LnIs st x B g)
    rcases kR D with ⟨e,hz⟩ | ⟨e,hz⟩
    · rw [e]
      rw [hz] at hnx
      simp only [ints,List.map_nil,List.nil_append] at hnx
      simp (config:=KF) (disch:=omega) only [bZ,and_self,aD,dq,az,dO,ao,bslV,eF,List.isEmpty_cons,List.reduceReplicate,cq,srcA,cE,aH,ev_f,putS,Sf.set,Sf.reg,getR,setR,aa,Sf.disAt,id,cW,aI,aA,ae,af,List.length_cons,List.length_nil,List.all_cons,List.all_nil,List.set_cons_zero,↓reduceIte,Nat.reduceEqDiff,Nat.reduceLT,Bool.and_true,and_true,reduceCtorEq,Nat.zero_add,Bool.false_eq_true,dg,f66_10e,f66_11e,f66_12e,f66_12l,f66_13e,f66_14e,f66_15e,f66_16e,f66_16l,f66_17e,f66_17l,hd,List.headD_cons]
      refine ba rfl e_f83 hp rfl fun r st1 hr=>?_
      obtain ⟨rfl,a1,a2⟩:=hr
      simp (config:=KF) (disch:=omega) only [bZ,bJ,az,extV,putS,Sf.set,Sf.reg,getR,setR,aa,Sf.disAt,bp,bk,List.getElem?_cons_zero,List.getElem?_cons_succ,↓reduceIte,Nat.reduceEqDiff,reduceCtorEq]
      exact hnx st1 a1 a2
    · rw [e]
      simp (config:=KF) (disch:=omega) only [bZ,and_self,aD,dq,az,dO,ao,bslV,eF,List.reduceReplicate,eC,srcA,cE,aH,ev_f,putS,Sf.set,Sf.reg,getR,setR,aa,Sf.disAt,id,cW,aI,aA,ae,af,List.length_cons,List.length_nil,List.all_cons,List.all_nil,List.set_cons_zero,↓reduceIte,Nat.reduceEqDiff,Nat.reduceLT,Bool.and_true,and_true,reduceCtorEq,Nat.zero_add,dg,f66_10e,f66_11e,f66_12e,f66_12l,f66_13e,f66_14e,f66_15e,f66_16e,f66_16l,f66_17e,f66_17l,hd,hil,List.headD_cons]
      refine ba rfl e_f83 hp rfl fun r st1 hr=>?_
      obtain ⟨rfl,a1,a2⟩:=hr
      simp (config:=KF) (disch:=omega) only [bZ,bJ,az,extV,putS,Sf.set,Sf.reg,getR,setR,aa,Sf.disAt,bp,bk,List.getElem?_cons_zero,List.getElem?_cons_succ,↓reduceIte,Nat.reduceEqDiff,reduceCtorEq]
      exact hnx st1 a1 a2
end Go.Fx.YtphaaebhgggbaaaFx

