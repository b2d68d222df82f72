/- What the functions that the statement reaches compute: part 5. -/
import Derived.Test.YtgmeefljgbaanaaFxW4
namespace Go.Fx.YtgmeefljgbaanaaFx
open Go Go.Fx
attribute [local irreducible] aC runI aF a9

set_option maxRecDepth 100000
set_option maxHeartbeats 4000000

/-! Names. -/
def dT (b:ByteArray):List Nat:=b.data.toList.map UInt8.toNat
def okC (i c:Nat):Bool:=(decide (65≤c) && decide (c≤90) || decide (97≤c) && decide (c≤122)) || (decide (i≠0) && ((decide (48≤c) && decide (c≤57)) || (decide (c = 45) || decide (c = 95))))
def okF:Nat→List Nat→Bool
  | _,[]=>true
  | i,c::r=>okC i c && okF (i + 1) r
def iE (b:ByteArray):Bool:=okF 0 (dT b) && (decide (1≤b.size) && decide (b.size≤32))
def gK (n:ByteArray) (p:Int):Bool:=iE n && (decide (0 < p) && decide (p≤65535))

theorem bytesN_len (b:ByteArray):(dT b).length = b.size:=by
  unfold dT
  rw [List.length_map]; rfl
theorem bytesN_lt (b:ByteArray):∀ x ∈ dT b,x < 256:=fun x hx=>by
  obtain ⟨y,_,rfl⟩:=List.mem_map.1 hx
  exact y.toNat_lt
theorem pz:∀ (a b:List UInt8),Go.Lib.compareBytes a b = 0↔a = b
  | [],[]=>by simp [Go.Lib.compareBytes]
  | [],_::_=>by simp [Go.Lib.compareBytes]
  | _::_,[]=>by simp [Go.Lib.compareBytes]
  | a :: r, b :: s => by
    unfold Go.Lib.compareBytes
    rw [List.cons.injEq,← pz r s]
    split
    · rename_i h
      have:a≠b:=fun e=>by subst e; exact absurd h (UInt8.lt_irrefl _)
      simp [this]
    · split
      · rename_i h
        have:a≠b:=fun e=>by subst e; exact absurd h (UInt8.lt_irrefl _)
        simp [this]
      · rename_i h1 h2
        have:a = b:=UInt8.le_antisymm (UInt8.not_lt.1 h2) (UInt8.not_lt.1 h1)
        simp [this]

theorem runes_step {bs:List Nat} {p s:Nat} {d:Option Nat} {sf:Sf} {st:St} {K:Sf→St→Prop} (h256:∀ b ∈ bs,b < 256) (he:bs.length≤p→K (sf.put d (.tup [.lit (.bool false)])) st)
    (hc:∀ (h:p < bs.length) (c wd:Nat),((c = bs[p]∧wd = 1)∨(128≤bs[p]∧128≤c∧0 < wd))→K ((sf.set s (.mit none 1 bs (p + wd + 1))).put d (.tup [.lit (.bool true),.lit (.int .i64 (p:Nat)),.lit (.int .i32 (c:Nat))])) st) :
    mP s d (.mit none 1 bs (p + 1)) K sf st:=by
  by_cases h:p < bs.length
  · have hp:bs[p]? = some bs[p]:=List.getElem?_eq_getElem h
    simp only [mP,hp]
    exact ⟨h256 _ (List.getElem_mem h),fun _=>hc h _ 1 (.inl ⟨rfl,rfl⟩),fun q c wd a b=>hc h c wd (.inr ⟨q,a,b⟩)⟩
  · have hp:bs[p]? = none:=List.getElem?_eq_none (by omega)
    simp only [mP,hp]
    exact he (by omega)

theorem vname_pure (st:St) (b:ByteArray) (hb:b.size < 1000000000):az Go.Proofs.Try.prog n_f67 [.lit (.string b)] st (.lit (.bool (iE b))):=by
  refine aB hmix k_f67 rfl rfl fun Q hQ=>?_
  unfold aFun c_f67
  have hl:=bytesN_len b
  simp (config:=KF) (disch:=omega) only [bZ,cg,o_x,aH,↓reduceIte,Nat.reduceEqDiff,reduceCtorEq,rngSX]
  rw [f67_7w]
  have e0:b.data.toList.map UInt8.toNat = dT b:=rfl
  rw [e0]
  refine dN (A:=Nat×St) (fun a=>b.size + 1 - a.1) (fun a=>⟨[(0,.lit (.string b)),(7,.mit none 1 (dT b) (a.1 + 1))],[]⟩) (fun a=>a.2)
    (fun a=>a.1≤b.size∧okF a.1 ((dT b).drop a.1) = okF 0 (dT b)) (0,_) ⟨Nat.zero_le _,rfl⟩ (by simp (config:=KF) (disch:=omega) only [bZ,↓reduceIte,reduceCtorEq]; exact Sf.le_refl _) rfl fun a ha K hK hKe hKr=>?_
  obtain ⟨p,st1⟩:=a
  obtain ⟨h1,h2⟩:=ha
  simp only at h1 h2
  simp (config:=KF) (disch:=omega) only [bZ,o_x,aH,↓reduceIte,reduceCtorEq]
  refine runes_step (bytesN_lt b) (fun he=>?_) (fun h c wd hc=>?_)
  · simp (config:=KF) (disch:=omega) only [bZ,bh,cf,↓reduceIte,Nat.reduceEqDiff,reduceCtorEq]
    refine hKe _ _ _ ?_
    have hp:p = b.size:=by omega
    have hn:iE b = (decide (1≤b.size) && decide (b.size≤32)):=by
      unfold iE
      rw [← h2,hp,List.drop_of_length_le (by omega)]; rfl
    rw [hn] at hQ
    have hq1:1≤b.size→∀ s,Q (.lit (.bool (decide ((b.size:Int)≤32)))) s:=fun g s=>by
      have:=hQ s
      rw [decide_eq_true g,Bool.true_and,show decide (b.size≤32) = decide ((b.size:Int)≤32) from decide_eq_decide.2 (by omega)] at this
      exact this
    have hq0:¬ 1≤b.size→∀ s,Q (.lit (.bool false)) s:=fun g s=>by
      have:=hQ s
      rw [decide_eq_false g,Bool.false_and] at this
      exact this
    (repeat' (first | omega | (simp (config:=KF) (disch:=omega) only [bZ,aK,retI,AI.dst,lenI,oZ,gI,↓reduceIte,Nat.reduceEqDiff,reduceCtorEq]) | refine ap (fun h=>?_) (fun h=>?_) | refine aZ (fun h=>?_) (fun h=>?_) | refine cq (fun h=>?_) (fun h=>?_) | exact hq1 (by omega) _ | exact hq0 (by omega) _))
  have hdr:(dT b).drop p = (dT b)[p]::(dT b).drop (p + 1):=List.drop_eq_getElem_cons h
  rw [hdr,okF] at h2
  have hgood:((65≤c∧c≤90)∨(97≤c∧c≤122)∨(p≠0∧((48≤c∧c≤57)∨c = 45∨c = 95)))→∀ sf',(sf'.mask [0,7] []).le ⟨[(0,.lit (.string b)),(7,.mit none 1 (dT b) (p + wd + 1))],[]⟩→K .normal sf' st1:=fun g sf' hs=>by
    obtain ⟨h3,rfl⟩:c = (dT b)[p]∧wd = 1:=by
      rcases hc with hc | hc
      · exact hc
      · omega
    have hok:okC p (dT b)[p] = true:=by
      rw [← h3]; unfold okC
      simp only [Bool.or_eq_true,Bool.and_eq_true,decide_eq_true_eq]
      omega
    rw [hok,Bool.true_and] at h2
    exact hK (p + 1,st1) sf' ⟨by show p + 1≤b.size; omega,h2⟩ (by show b.size + 1 - (p + 1) < b.size + 1 - p; omega) hs
  have hbad:¬ ((65≤c∧c≤90)∨(97≤c∧c≤122)∨(p≠0∧((48≤c∧c≤57)∨c = 45∨c = 95)))→∀ s,Q (.lit (.bool false)) s:=fun g s=>by
    have hno:okC p (dT b)[p] = false:=by
      rw [Bool.eq_false_iff]
      intro e
      unfold okC at e
      simp only [Bool.or_eq_true,Bool.and_eq_true,decide_eq_true_eq] at e
      rcases hc with ⟨hc,_⟩ | ⟨hc,_⟩
      · rw [← hc] at e; exact g (by omega)
      · omega
    rw [hno,Bool.false_and] at h2
    have hn:iE b = false:=by unfold iE; rw [← h2]; rfl
    rw [hn] at hQ
    exact hQ s
  (repeat' (first | omega | (simp (config:=KF) (disch:=omega) only [bZ,k7,aE,retI,AI.dst,unA,oZ,gI,↓reduceIte,Nat.reduceEqDiff,reduceCtorEq,not_dec,cU,dy,bG]) | refine ap (fun h=>?_) (fun h=>?_) | refine aZ (fun h=>?_) (fun h=>?_) | refine cq (fun h=>?_) (fun h=>?_) | exact hgood (by omega) _ (Sf.le_refl _) | exact hbad (by omega) _ | refine hKr _ _ ?_))

def adAV (n:ByteArray) (p:Int):AV:=.agg [.lit (.string n),.lit (.int .i64 p)]
theorem avalid_pure (st:St) (n:ByteArray) (p:Int) (hb:n.size < 1000000000):az Go.Proofs.Try.prog n_f47 [adAV n p] st (.lit (.bool (iE n && (decide (0≤p) && decide (p≤65535))))):=by
  refine aB hmix k_f47 rfl rfl fun Q hQ=>?_
  unfold aFun c_f47 adAV
  simp (config:=KF) (disch:=omega) only [bZ,fo,addA,aa,id,↓reduceIte,Nat.reduceEqDiff,Nat.reduceAdd,reduceCtorEq]
  refine am rfl e_f67 (vname_pure _ n hb) rfl ?_
  cases hv:iE n with
  | false =>
    rw [hv] at hQ
    simp (config:=KF) (disch:=omega) only [bZ,retI,AI.dst,↓reduceIte,Nat.reduceEqDiff]
    exact hQ _
  | true =>
    rw [hv] at hQ
    simp (config:=KF) (disch:=omega) only [bZ,AI.dst,addA,aa,gI,↓reduceIte,Nat.reduceEqDiff]
    refine aZ (fun h=>?_) (fun h=>?_)
    · rw [decide_eq_true (show 0≤p from h)] at hQ
      simp (config:=KF) (disch:=omega) only [bZ,retI,AI.dst,addA,aa,oZ,↓reduceIte,Nat.reduceEqDiff]
      exact hQ _
    · rw [decide_eq_false (show ¬ 0≤p from h)] at hQ
      simp (config:=KF) (disch:=omega) only [bZ,retI,AI.dst,↓reduceIte,Nat.reduceEqDiff]
      exact hQ _
theorem lX (st:St) (n:ByteArray) (p:Int) (hb:n.size < 1000000000):az Go.Proofs.Try.prog n_f27 [adAV n p] st (.lit (.bool (gK n p))):=by
  refine aB hmix k_f27 rfl rfl fun Q hQ=>?_
  unfold aFun c_f27
  unfold adAV
  simp (config:=KF) (disch:=omega) only [bZ,fo,aa,id,↓reduceIte,Nat.reduceEqDiff,Nat.reduceAdd,Nat.reduceLeDiff,reduceCtorEq]
  refine am (vs:=[adAV n p]) rfl e_f47 (avalid_pure _ n p hb) rfl ?_
  have hv:gK n p = (iE n && (decide (0 < p) && decide (p≤65535))):=rfl
  cases hc:(iE n && (decide (0≤p) && decide (p≤65535))) with
  | false =>
    have h0:gK n p = false:=by
      rw [Bool.eq_false_iff] at hc ⊢
      intro e
      apply hc
      rw [hv] at e
      simp only [Bool.and_eq_true,decide_eq_true_eq] at e ⊢
      exact ⟨e.1,by omega,e.2.2⟩
    rw [h0] at hQ
    simp (config:=KF) (disch:=omega) only [bZ,retI,AI.dst,↓reduceIte,Nat.reduceEqDiff]
    exact hQ _
  | true =>
    have h0:gK n p = decide (p > 0):=by
      rw [hv]
      simp only [Bool.and_eq_true,decide_eq_true_eq] at hc
      rw [hc.1,Bool.true_and,decide_eq_true hc.2.2,Bool.and_true]
    rw [h0] at hQ
    simp (config:=KF) (disch:=omega) only [bZ,retI,AI.dst,addA,aa,cM,↓reduceIte,Nat.reduceEqDiff]
    exact hQ _

/-! Order. -/
def cmpS (a b:ByteArray):Int:=Go.Lib.compareBytes a.data.toList b.data.toList
def cmpI (p q:Int):Int:=if p < q then -1 else if q < p then 1 else 0
def cmpA (a:ByteArray) (p:Int) (b:ByteArray) (q:Int):Int:=if cmpS a b≠0 then cmpS a b else cmpI p q
theorem pA {a b:ByteArray}:cmpS a b = 0↔a = b:=by
  unfold cmpS
  rw [pz]
  constructor
  · intro h
    cases a; cases b
    simp only [ByteArray.mk.injEq]
    exact Array.ext' h
  · rintro rfl; rfl
theorem pB {a b:ByteArray} {p q:Int}:cmpA a p b q = 0↔a = b∧p = q:=by
  unfold cmpA cmpI
  by_cases h:cmpS a b = 0
  · have h1:=pA.1 h
    rw [if_neg (by simpa using h)]
    constructor
    · intro e
      refine ⟨h1,?_⟩
      split at e
      · omega
      · split at e <;> omega
    · rintro ⟨_,rfl⟩
      simp
  · have h1:a≠b:=fun e=>h (pA.2 e)
    rw [if_pos h]
    exact ⟨fun e=>absurd e h,fun e=>absurd e.1 h1⟩
theorem cstr_pure (st:St) (a b:ByteArray):az Go.Proofs.Try.prog n_f83 [.lit (.string a),.lit (.string b)] st (.lit (.int .i64 (cmpS a b))):=by
  refine aB hmix k_f83 rfl rfl fun Q hQ=>?_
  unfold aFun c_f83
  simp (config:=KF) (disch:=omega) only [bZ,retI,cg,o_x,aH,↓reduceIte,Nat.reduceEqDiff,reduceCtorEq,cmpSX]
  exact hQ _
theorem scmp_pure (st:St) (a b:ByteArray):az Go.Proofs.Try.prog n_f69 [.lit (.string a),.lit (.string b)] st (.lit (.int .i64 (cmpS a b))):=by
  refine aB hmix k_f69 rfl rfl fun Q hQ=>?_
  unfold aFun c_f69
  simp (config:=KF) (disch:=omega) only [bZ,id,↓reduceIte,Nat.reduceEqDiff,reduceCtorEq]
  refine am rfl e_f83 (cstr_pure _ a b) rfl ?_
  simp (config:=KF) (disch:=omega) only [bZ,retI,↓reduceIte,Nat.reduceEqDiff,reduceCtorEq]
  exact hQ _
theorem nN (st:St) (p:Int):az Go.Proofs.Try.prog n_f84 [.lit (.int .i64 p)] st (.lit (.bool false)):=by
  refine aB hmix k_f84 rfl rfl fun Q hQ=>?_
  unfold aFun c_f84
  simp (config:=KF) (disch:=omega) only [bZ,retI,↓reduceIte,Nat.reduceEqDiff,reduceCtorEq,not_true_eq_false]
  exact hQ _
theorem icmp_pure (st:St) (p q:Int):az Go.Proofs.Try.prog n_f70 [.lit (.int .i64 p),.lit (.int .i64 q)] st (.lit (.int .i64 (cmpI p q))):=by
  refine aB hmix k_f70 rfl rfl fun Q hQ=>?_
  unfold aFun c_f70
  unfold cmpI at hQ
  simp (config:=KF) (disch:=omega) only [bZ,id,↓reduceIte,Nat.reduceEqDiff,reduceCtorEq]
  refine am rfl e_f84 (nN _ p) rfl ?_
  simp (config:=KF) (disch:=omega) only [bZ,id,↓reduceIte,Nat.reduceEqDiff,reduceCtorEq]
  refine am rfl e_f84 (nN _ q) rfl ?_
  simp (config:=KF) (disch:=omega) only [bZ,↓reduceIte,Nat.reduceEqDiff,reduceCtorEq]
  refine ap (fun h=>?_) (fun h=>?_)
  · rw [if_pos h] at hQ
    simp (config:=KF) (disch:=omega) only [bZ,retI,↓reduceIte,Nat.reduceEqDiff,Int.reduceNeg,reduceCtorEq]
    exact hQ _
  · rw [if_neg h] at hQ
    simp (config:=KF) (disch:=omega) only [bZ,cM,↓reduceIte,Nat.reduceEqDiff,reduceCtorEq]
    refine ap (fun h2=>?_) (fun h2=>?_)
    · rw [if_pos h2] at hQ
      simp (config:=KF) (disch:=omega) only [bZ,retI,↓reduceIte,Nat.reduceEqDiff]
      exact hQ _
    · rw [if_neg h2] at hQ
      simp (config:=KF) (disch:=omega) only [bZ,retI,↓reduceIte,Nat.reduceEqDiff]
      exact hQ _
theorem cor_pure (st:St) (p q:Int):az Go.Proofs.Try.prog n_f68 [.sl false 1 [.lit (.int .i64 p),.lit (.int .i64 q)]] st (.lit (.int .i64 (if p≠0 then p else q))):=by
  refine aB hmix k_f68 rfl rfl fun Q hQ=>?_
  unfold aFun c_f68
  simp (config:=KF) (disch:=omega) only [bZ,lenI,↓reduceIte,Nat.reduceEqDiff,Nat.reduceAdd,reduceCtorEq]
  rw [f68_9w]
  refine loop_rounds 3 ?_
  rw [jz]
  simp (config:=KF) (disch:=omega) only [bZ,ji,ixSV,ixA,aa,List.getD_cons_zero,↓reduceIte,Nat.reduceEqDiff,Nat.reduceAdd,Int.reduceLT,Int.reduceLE]
  refine ap (fun h=>?_) (fun h=>?_)
  · rw [if_pos h] at hQ
    simp (config:=KF) (disch:=omega) only [bZ,aE,retI,unrQ_ret,↓reduceIte,Nat.reduceEqDiff]
    exact hQ _
  · rw [if_neg h] at hQ
    simp (config:=KF) (disch:=omega) only [bZ,lT,di,↓reduceIte,Nat.reduceEqDiff,Int.zero_add]
    rw [jz]
    simp (config:=KF) (disch:=omega) only [bZ,ji,ixSV,ixA,aa,List.getD_cons_zero,List.getD_cons_succ,Int.toNat_one,↓reduceIte,Nat.reduceEqDiff,Nat.reduceAdd,Int.reduceLT,Int.reduceLE]
    refine ap (fun h2=>?_) (fun h2=>?_)
    · simp (config:=KF) (disch:=omega) only [bZ,aE,retI,unrQ_ret,↓reduceIte,Nat.reduceEqDiff]
      exact hQ _
    · have:q = 0:=by omega
      subst this
      simp (config:=KF) (disch:=omega) only [bZ,lT,di,↓reduceIte,Nat.reduceEqDiff,Int.reduceAdd,not_true_eq_false]
      rw [jz]
      simp (config:=KF) (disch:=omega) only [bZ,bh,aK,cf,retI,unrQ_exit,↓reduceIte,Nat.reduceEqDiff,Int.reduceLT]
      exact hQ _
theorem acmp_pure (st:St) (a b:ByteArray) (p q:Int):az Go.Proofs.Try.prog n_f48 [adAV a p,adAV b q] st (.lit (.int .i64 (cmpA a p b q))):=by
  refine aB hmix k_f48 rfl rfl fun Q hQ=>?_
  unfold aFun c_f48 adAV
  simp (config:=KF) (disch:=omega) only [bZ,bf,bd,qj,fo,addA,aa,id,aS,↓reduceIte,Nat.reduceEqDiff,Nat.reduceAdd,reduceCtorEq]
  refine call_h rfl e_f69 (scmp_pure _ a b) rfl ?_
  simp (config:=KF) (disch:=omega) only [bZ,bf,bd,kj,aM,addA,aa,id,↓reduceIte,Nat.reduceEqDiff]
  refine am rfl e_f70 (icmp_pure _ p q) rfl ?_
  simp (config:=KF) (disch:=omega) only [bZ,eI,bslV,List.reduceReplicate,cD,id,na,↓reduceIte,Nat.reduceEqDiff,Nat.reduceAdd,Nat.reduceLT]
  refine am rfl e_f68 (cor_pure _ _ _) rfl ?_
  simp (config:=KF) (disch:=omega) only [bZ,retI,↓reduceIte,Nat.reduceEqDiff]
  exact hQ _
end Go.Fx.YtgmeefljgbaanaaFx

