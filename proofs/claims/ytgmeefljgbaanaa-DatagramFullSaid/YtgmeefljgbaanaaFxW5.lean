/- What the functions that the statement reaches compute: part 5. -/
import Derived.Test.YtgmeefljgbaanaaFxW4
namespace Go.Fx.YtgmeefljgbaanaaFx
open Go Go.Fx
attribute [local irreducible] aC runI aD bJ

set_option maxRecDepth 100000
set_option maxHeartbeats 4000000

/-! Names. -/
def dC (b:ByteArray):List Nat:=b.data.toList.map UInt8.toNat
def okC (i c:Nat):Bool:=(decide (65≤c) && decide (c≤90) || decide (97≤c) && decide (c≤122)) || (decide (i≠0) && ((decide (48≤c) && decide (c≤57)) || (decide (c = 45) || decide (c = 95))))
def okF:Nat→List Nat→Bool
  | _,[]=>true
  | i,c::r=>okC i c && okF (i + 1) r
def gz (b:ByteArray):Bool:=okF 0 (dC b) && (decide (1≤b.size) && decide (b.size≤32))
def fu (n:ByteArray) (p:Int):Bool:=gz n && (decide (0 < p) && decide (p≤65535))

theorem bytesN_len (b:ByteArray):(dC b).length = b.size:=by
  unfold dC
  rw [List.length_map]; rfl
theorem bytesN_lt (b:ByteArray):∀ x ∈ dC b,x < 256:=fun x hx=>by
  obtain ⟨y,_,rfl⟩:=List.mem_map.1 hx
  exact y.toNat_lt
theorem oP:∀ (a b:List UInt8),Go.Lib.compareBytes a b = 0↔a = b
  | [],[]=>by simp [Go.Lib.compareBytes]
  | [],_::_=>by simp [Go.Lib.compareBytes]
  | _::_,[]=>by simp [Go.Lib.compareBytes]
  | a :: r, b :: s => by
    unfold Go.Lib.compareBytes
    rw [List.cons.injEq,← oP r s]
    split
    · rename_i h
      have:a≠b:=fun e=>by subst e; exact absurd h (UInt8.lt_irrefl _)
      simp [this]
    · split
      · rename_i h
        have:a≠b:=fun e=>by subst e; exact absurd h (UInt8.lt_irrefl _)
        simp [this]
      · rename_i h1 h2
        have:a = b:=UInt8.le_antisymm (UInt8.not_lt.1 h2) (UInt8.not_lt.1 h1)
        simp [this]

theorem runes_step {bs:List Nat} {p s:Nat} {d:Option Nat} {sf:Sf} {st:St} {K:Sf→St→Prop} (h256:∀ b ∈ bs,b < 256) (he:bs.length≤p→K (sf.put d (.tup [.lit (.bool false)])) st)
    (hc:∀ (h:p < bs.length) (c wd:Nat),((c = bs[p]∧wd = 1)∨(128≤bs[p]∧128≤c∧0 < wd))→K ((sf.set s (.mit none 1 bs (p + wd + 1))).put d (.tup [.lit (.bool true),.lit (.int .i64 (p:Nat)),.lit (.int .i32 (c:Nat))])) st) :
    me s d (.mit none 1 bs (p + 1)) K sf st:=by
  by_cases h:p < bs.length
  · have hp:bs[p]? = some bs[p]:=List.getElem?_eq_getElem h
    simp only [me,hp]
    exact ⟨h256 _ (List.getElem_mem h),fun _=>hc h _ 1 (.inl ⟨rfl,rfl⟩),fun q c wd a b=>hc h c wd (.inr ⟨q,a,b⟩)⟩
  · have hp:bs[p]? = none:=List.getElem?_eq_none (by omega)
    simp only [me,hp]
    exact he (by omega)

theorem vname_pure (st:St) (b:ByteArray) (hb:b.size < 1000000000):aB Go.Proofs.Try.prog n_f67 [.lit (.string b)] st (.lit (.bool (gz b))):=by
  refine aL hmix k_f67 rfl rfl fun Q hQ=>?_
  unfold aFun c_f67
  have hl:=bytesN_len b
  simp (config:=KF) (disch:=omega) only [bZ,ce,o_x,aA,↓reduceIte,Nat.reduceEqDiff,reduceCtorEq,rngSX]
  rw [f67_7w]
  have e0:b.data.toList.map UInt8.toNat = dC b:=rfl
  rw [e0]
  refine eu (A:=Nat×St) (fun a=>b.size + 1 - a.1) (fun a=>⟨[(0,.lit (.string b)),(7,.mit none 1 (dC b) (a.1 + 1))],[]⟩) (fun a=>a.2)
    (fun a=>a.1≤b.size∧okF a.1 ((dC b).drop a.1) = okF 0 (dC b)) (0,_) ⟨Nat.zero_le _,rfl⟩ (by simp (config:=KF) (disch:=omega) only [bZ,↓reduceIte,reduceCtorEq]; exact Sf.le_refl _) rfl fun a ha K hK hKe hKr=>?_
  obtain ⟨p,st1⟩:=a
  obtain ⟨h1,h2⟩:=ha
  simp only at h1 h2
  simp (config:=KF) (disch:=omega) only [bZ,o_x,aA,↓reduceIte,reduceCtorEq]
  refine runes_step (bytesN_lt b) (fun he=>?_) (fun h c wd hc=>?_)
  · simp (config:=KF) (disch:=omega) only [bZ,b9,de,↓reduceIte,Nat.reduceEqDiff,reduceCtorEq]
    refine hKe _ _ _ ?_
    have hp:p = b.size:=by omega
    have hn:gz b = (decide (1≤b.size) && decide (b.size≤32)):=by
      unfold gz
      rw [← h2,hp,List.drop_of_length_le (by omega)]; rfl
    rw [hn] at hQ
    have hq1:1≤b.size→∀ s,Q (.lit (.bool (decide ((b.size:Int)≤32)))) s:=fun g s=>by
      have:=hQ s
      rw [decide_eq_true g,Bool.true_and,show decide (b.size≤32) = decide ((b.size:Int)≤32) from decide_eq_decide.2 (by omega)] at this
      exact this
    have hq0:¬ 1≤b.size→∀ s,Q (.lit (.bool false)) s:=fun g s=>by
      have:=hQ s
      rw [decide_eq_false g,Bool.false_and] at this
      exact this
    (repeat' (first | omega | (simp (config:=KF) (disch:=omega) only [bZ,bp,retI,bf,AI.dst,d5,lenI,n_leq,iQ,↓reduceIte,Nat.reduceEqDiff,reduceCtorEq]) | refine aI (fun h=>?_) (fun h=>?_) | refine bq (fun h=>?_) (fun h=>?_) | refine dh (fun h=>?_) (fun h=>?_) | exact hq1 (by omega) _ | exact hq0 (by omega) _))
  have hdr:(dC b).drop p = (dC b)[p]::(dC b).drop (p + 1):=List.drop_eq_getElem_cons h
  rw [hdr,okF] at h2
  have hgood:((65≤c∧c≤90)∨(97≤c∧c≤122)∨(p≠0∧((48≤c∧c≤57)∨c = 45∨c = 95)))→∀ sf',(sf'.mask [0,7] []).le ⟨[(0,.lit (.string b)),(7,.mit none 1 (dC b) (p + wd + 1))],[]⟩→K .normal sf' st1:=fun g sf' hs=>by
    obtain ⟨h3,rfl⟩:c = (dC b)[p]∧wd = 1:=by
      rcases hc with hc | hc
      · exact hc
      · omega
    have hok:okC p (dC b)[p] = true:=by
      rw [← h3]; unfold okC
      simp only [Bool.or_eq_true,Bool.and_eq_true,decide_eq_true_eq]
      omega
    rw [hok,Bool.true_and] at h2
    exact hK (p + 1,st1) sf' ⟨by show p + 1≤b.size; omega,h2⟩ (by show b.size + 1 - (p + 1) < b.size + 1 - p; omega) hs
  have hbad:¬ ((65≤c∧c≤90)∨(97≤c∧c≤122)∨(p≠0∧((48≤c∧c≤57)∨c = 45∨c = 95)))→∀ s,Q (.lit (.bool false)) s:=fun g s=>by
    have hno:okC p (dC b)[p] = false:=by
      rw [Bool.eq_false_iff]
      intro e
      unfold okC at e
      simp only [Bool.or_eq_true,Bool.and_eq_true,decide_eq_true_eq] at e
      rcases hc with ⟨hc,_⟩ | ⟨hc,_⟩
      · rw [← hc] at e; exact g (by omega)
      · omega
    rw [hno,Bool.false_and] at h2
    have hn:gz b = false:=by unfold gz; rw [← h2]; rfl
    rw [hn] at hQ
    exact hQ s
  (repeat' (first | omega | (simp (config:=KF) (disch:=omega) only [bZ,kB,al,aH,retI,bf,AI.dst,o_un,unA,dw,n_leq,iQ,↓reduceIte,Nat.reduceEqDiff,reduceCtorEq,not_dec,g6,om,guard_no]) | refine aI (fun h=>?_) (fun h=>?_) | refine bq (fun h=>?_) (fun h=>?_) | refine dh (fun h=>?_) (fun h=>?_) | exact hgood (by omega) _ (Sf.le_refl _) | exact hbad (by omega) _ | refine hKr _ _ ?_))

def adAV (n:ByteArray) (p:Int):AV:=.agg [.lit (.string n),.lit (.int .i64 p)]
theorem avalid_pure (st:St) (n:ByteArray) (p:Int) (hb:n.size < 1000000000):aB Go.Proofs.Try.prog n_f47 [adAV n p] st (.lit (.bool (gz n && (decide (0≤p) && decide (p≤65535))))):=by
  refine aL hmix k_f47 rfl rfl fun Q hQ=>?_
  unfold aFun c_f47 adAV
  simp (config:=KF) (disch:=omega) only [bZ,fB,addA,aa,id,aV,↓reduceIte,Nat.reduceEqDiff,Nat.reduceAdd,reduceCtorEq]
  refine aE rfl e_f67 (vname_pure _ n hb) rfl ?_
  cases hv:gz n with
  | false =>
    rw [hv] at hQ
    simp (config:=KF) (disch:=omega) only [bZ,retI,bf,AI.dst,↓reduceIte,Nat.reduceEqDiff]
    exact hQ _
  | true =>
    rw [hv] at hQ
    simp (config:=KF) (disch:=omega) only [bZ,AI.dst,addA,aa,iQ,↓reduceIte,Nat.reduceEqDiff]
    refine bq (fun h=>?_) (fun h=>?_)
    · rw [decide_eq_true (show 0≤p from h)] at hQ
      simp (config:=KF) (disch:=omega) only [bZ,retI,AI.dst,addA,aa,n_leq,↓reduceIte,Nat.reduceEqDiff]
      exact hQ _
    · rw [decide_eq_false (show ¬ 0≤p from h)] at hQ
      simp (config:=KF) (disch:=omega) only [bZ,retI,bf,AI.dst,↓reduceIte,Nat.reduceEqDiff]
      exact hQ _
theorem lx (st:St) (n:ByteArray) (p:Int) (hb:n.size < 1000000000):aB Go.Proofs.Try.prog n_f27 [adAV n p] st (.lit (.bool (fu n p))):=by
  refine aL hmix k_f27 rfl rfl fun Q hQ=>?_
  unfold aFun c_f27
  unfold adAV
  simp (config:=KF) (disch:=omega) only [bZ,fB,aa,id,aV,↓reduceIte,Nat.reduceEqDiff,Nat.reduceAdd,Nat.reduceLeDiff,reduceCtorEq]
  refine aE (vs:=[adAV n p]) rfl e_f47 (avalid_pure _ n p hb) rfl ?_
  have hv:fu n p = (gz n && (decide (0 < p) && decide (p≤65535))):=rfl
  cases hc:(gz n && (decide (0≤p) && decide (p≤65535))) with
  | false =>
    have h0:fu n p = false:=by
      rw [Bool.eq_false_iff] at hc ⊢
      intro e
      apply hc
      rw [hv] at e
      simp only [Bool.and_eq_true,decide_eq_true_eq] at e ⊢
      exact ⟨e.1,by omega,e.2.2⟩
    rw [h0] at hQ
    simp (config:=KF) (disch:=omega) only [bZ,retI,bf,AI.dst,↓reduceIte,Nat.reduceEqDiff]
    exact hQ _
  | true =>
    have h0:fu n p = decide (p > 0):=by
      rw [hv]
      simp only [Bool.and_eq_true,decide_eq_true_eq] at hc
      rw [hc.1,Bool.true_and,decide_eq_true hc.2.2,Bool.and_true]
    rw [h0] at hQ
    simp (config:=KF) (disch:=omega) only [bZ,retI,AI.dst,addA,aa,fp,↓reduceIte,Nat.reduceEqDiff]
    exact hQ _

/-! Order. -/
def cmpS (a b:ByteArray):Int:=Go.Lib.compareBytes a.data.toList b.data.toList
def cmpI (p q:Int):Int:=if p < q then -1 else if q < p then 1 else 0
def cmpA (a:ByteArray) (p:Int) (b:ByteArray) (q:Int):Int:=if cmpS a b≠0 then cmpS a b else cmpI p q
theorem oQ {a b:ByteArray}:cmpS a b = 0↔a = b:=by
  unfold cmpS
  rw [oP]
  constructor
  · intro h
    cases a; cases b
    simp only [ByteArray.mk.injEq]
    exact Array.ext' h
  · rintro rfl; rfl
theorem oR {a b:ByteArray} {p q:Int}:cmpA a p b q = 0↔a = b∧p = q:=by
  unfold cmpA cmpI
  by_cases h:cmpS a b = 0
  · have h1:=oQ.1 h
    rw [if_neg (by simpa using h)]
    constructor
    · intro e
      refine ⟨h1,?_⟩
      split at e
      · omega
      · split at e <;> omega
    · rintro ⟨_,rfl⟩
      simp
  · have h1:a≠b:=fun e=>h (oQ.2 e)
    rw [if_pos h]
    exact ⟨fun e=>absurd e h,fun e=>absurd e.1 h1⟩
theorem cstr_pure (st:St) (a b:ByteArray):aB Go.Proofs.Try.prog n_f83 [.lit (.string a),.lit (.string b)] st (.lit (.int .i64 (cmpS a b))):=by
  refine aL hmix k_f83 rfl rfl fun Q hQ=>?_
  unfold aFun c_f83
  simp (config:=KF) (disch:=omega) only [bZ,retI,ce,o_x,aA,↓reduceIte,Nat.reduceEqDiff,reduceCtorEq,cmpSX]
  exact hQ _
theorem scmp_pure (st:St) (a b:ByteArray):aB Go.Proofs.Try.prog n_f69 [.lit (.string a),.lit (.string b)] st (.lit (.int .i64 (cmpS a b))):=by
  refine aL hmix k_f69 rfl rfl fun Q hQ=>?_
  unfold aFun c_f69
  simp (config:=KF) (disch:=omega) only [bZ,id,↓reduceIte,Nat.reduceEqDiff,reduceCtorEq]
  refine aE rfl e_f83 (cstr_pure _ a b) rfl ?_
  simp (config:=KF) (disch:=omega) only [bZ,retI,↓reduceIte,Nat.reduceEqDiff,reduceCtorEq]
  exact hQ _
theorem m7 (st:St) (p:Int):aB Go.Proofs.Try.prog n_f84 [.lit (.int .i64 p)] st (.lit (.bool false)):=by
  refine aL hmix k_f84 rfl rfl fun Q hQ=>?_
  unfold aFun c_f84
  simp (config:=KF) (disch:=omega) only [bZ,retI,dw,↓reduceIte,Nat.reduceEqDiff,reduceCtorEq,not_true_eq_false,decide_false]
  exact hQ _
theorem icmp_pure (st:St) (p q:Int):aB Go.Proofs.Try.prog n_f70 [.lit (.int .i64 p),.lit (.int .i64 q)] st (.lit (.int .i64 (cmpI p q))):=by
  refine aL hmix k_f70 rfl rfl fun Q hQ=>?_
  unfold aFun c_f70
  unfold cmpI at hQ
  simp (config:=KF) (disch:=omega) only [bZ,id,↓reduceIte,Nat.reduceEqDiff,reduceCtorEq]
  refine aE rfl e_f84 (m7 _ p) rfl ?_
  simp (config:=KF) (disch:=omega) only [bZ,id,↓reduceIte,Nat.reduceEqDiff,reduceCtorEq]
  refine aE rfl e_f84 (m7 _ q) rfl ?_
  simp (config:=KF) (disch:=omega) only [bZ,eW,↓reduceIte,Nat.reduceEqDiff,reduceCtorEq]
  refine aI (fun h=>?_) (fun h=>?_)
  · rw [if_pos h] at hQ
    simp (config:=KF) (disch:=omega) only [bZ,retI,↓reduceIte,Nat.reduceEqDiff,Int.reduceNeg,reduceCtorEq]
    exact hQ _
  · rw [if_neg h] at hQ
    simp (config:=KF) (disch:=omega) only [bZ,fp,↓reduceIte,Nat.reduceEqDiff,reduceCtorEq]
    refine aI (fun h2=>?_) (fun h2=>?_)
    · rw [if_pos h2] at hQ
      simp (config:=KF) (disch:=omega) only [bZ,retI,↓reduceIte,Nat.reduceEqDiff]
      exact hQ _
    · rw [if_neg h2] at hQ
      simp (config:=KF) (disch:=omega) only [bZ,retI,↓reduceIte,Nat.reduceEqDiff]
      exact hQ _
theorem cor_pure (st:St) (p q:Int):aB Go.Proofs.Try.prog n_f68 [.sl false 1 [.lit (.int .i64 p),.lit (.int .i64 q)]] st (.lit (.int .i64 (if p≠0 then p else q))):=by
  refine aL hmix k_f68 rfl rfl fun Q hQ=>?_
  unfold aFun c_f68
  simp (config:=KF) (disch:=omega) only [bZ,d5,lenI,cg,↓reduceIte,Nat.reduceEqDiff,Nat.reduceAdd,reduceCtorEq]
  rw [f68_9w]
  refine loop_rounds 3 ?_
  rw [jb]
  simp (config:=KF) (disch:=omega) only [bZ,and_self,o_ixS,ixSV,ixA,aa,dw,eW,List.getD_cons_zero,↓reduceIte,Nat.reduceEqDiff,Nat.reduceAdd,Int.reduceLT,Int.reduceLE]
  refine aI (fun h=>?_) (fun h=>?_)
  · rw [if_pos h] at hQ
    simp (config:=KF) (disch:=omega) only [bZ,aH,retI,unrQ_ret,↓reduceIte,Nat.reduceEqDiff]
    exact hQ _
  · rw [if_neg h] at hQ
    simp (config:=KF) (disch:=omega) only [bZ,al,lk,fo,↓reduceIte,Nat.reduceEqDiff,Int.zero_add]
    rw [jb]
    simp (config:=KF) (disch:=omega) only [bZ,and_self,o_ixS,ixSV,ixA,aa,dw,eW,List.getD_cons_zero,List.getD_cons_succ,Int.toNat_one,↓reduceIte,Nat.reduceEqDiff,Nat.reduceAdd,Int.reduceLT,Int.reduceLE]
    refine aI (fun h2=>?_) (fun h2=>?_)
    · simp (config:=KF) (disch:=omega) only [bZ,aH,retI,unrQ_ret,↓reduceIte,Nat.reduceEqDiff]
      exact hQ _
    · have:q = 0:=by omega
      subst this
      simp (config:=KF) (disch:=omega) only [bZ,al,lk,fo,↓reduceIte,Nat.reduceEqDiff,Int.reduceAdd,not_true_eq_false,decide_false]
      rw [jb]
      simp (config:=KF) (disch:=omega) only [bZ,b9,bp,de,retI,unrQ_exit,eW,↓reduceIte,Nat.reduceEqDiff,Int.reduceLT,decide_false]
      exact hQ _
theorem acmp_pure (st:St) (a b:ByteArray) (p q:Int):aB Go.Proofs.Try.prog n_f48 [adAV a p,adAV b q] st (.lit (.int .i64 (cmpA a p b q))):=by
  refine aL hmix k_f48 rfl rfl fun Q hQ=>?_
  unfold aFun c_f48 adAV
  simp (config:=KF) (disch:=omega) only [bZ,bW,bF,bC,pG,aJ,fB,addA,aa,aU,id,bO,aV,↓reduceIte,Nat.reduceEqDiff,Nat.reduceAdd,reduceCtorEq]
  refine call_h rfl e_f69 (scmp_pure _ a b) rfl ?_
  simp (config:=KF) (disch:=omega) only [bZ,cZ,bW,bF,bC,jO,aJ,bd,addA,aa,id,↓reduceIte,Nat.reduceEqDiff]
  refine aE rfl e_f70 (icmp_pure _ p q) rfl ?_
  simp (config:=KF) (disch:=omega) only [bZ,and_self,gX,bslV,List.reduceReplicate,dn,id,mD,↓reduceIte,Nat.reduceEqDiff,Nat.reduceAdd,Nat.reduceLT]
  refine aE rfl e_f68 (cor_pure _ _ _) rfl ?_
  simp (config:=KF) (disch:=omega) only [bZ,retI,↓reduceIte,Nat.reduceEqDiff]
  exact hQ _
end Go.Fx.YtgmeefljgbaanaaFx

