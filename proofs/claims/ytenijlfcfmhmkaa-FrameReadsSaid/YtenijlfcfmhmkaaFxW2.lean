/- What the functions that the statement reaches compute: part 2. -/
import Derived.Test.YtenijlfcfmhmkaaFxW1
namespace Go.Fx.YtenijlfcfmhmkaaFx
open Go Go.Fx
attribute [local irreducible] aC runI ap br

set_option maxRecDepth 100000
set_option maxHeartbeats 4000000

/-- A slice of bytes that may be nil. -/
def IsZ (z:AV) (c:List AV):Prop:=z = .sl false 1 c∨(z = .lit (.slice none 0 0)∧c = [])
def Joined (a b c:List AV) (st:St) (v:AV) (st':St):Prop :=
  ∃ e:List AV,(∀ x ∈ e,x = .any)∧v = .bs st.boxes.length 1 0 (a.length + b.length + c.length) (a.length + b.length + c.length)∧st' = st.push (.cells (a++(b++(c++e))))

theorem join_calls {a b c:List AV} {z:AV} (hz:IsZ z c) (ha:Lits a) (hb:Lits b) (hc:Lits c) (hl:a.length + b.length + c.length≤1000000) (ha0:0 < a.length) (st:St) :
    az Go.Proofs.Try.prog n_f59 [.sl false 1 [.sl false 1 a,.sl false 1 b,z],.lit (.slice none 0 0)] st (Joined a b c st):=by
  refine aW hmix k_f59 rfl rfl ?_
  rcases hz with rfl | ⟨rfl,rfl⟩
  · exact join3_sl _ a b c ha hb hc st _ hl ha0 fun e he=>⟨e,he,rfl,rfl⟩
  · exact join3_nil _ a b ha hb st _ hl ha0 fun e he=>⟨e,he,rfl,rfl⟩

theorem frz_joined {a b c:List AV} (ha:Lits a) (hb:Lits b) (hc:Lits c) {v:AV} {st':St} (h:Joined a b c ⟨[]⟩ v st'):Frz st' v (.sl false 1 (a++(b++c))):=by
  obtain ⟨e,he,rfl,rfl⟩:=h
  have h1:grp 1 (a.length + b.length + c.length) ((a++(b++(c++e))).drop 0) = a++(b++c):=by
    rw [List.drop_zero,m3 (by simp; omega)]
    have:a++(b++(c++e)) = (a++(b++c))++e:=by simp
    rw [this]
    exact List.take_left' (by simp; omega)
  rw [← h1]
  refine .bs _ _ _ _ _ (a++(b++(c++e))) (bN ⟨[]⟩ _) (by simp; omega) (Nat.le_refl _) fun x hx=>?_
  simp only [List.drop_zero,List.mem_append] at hx
  rcases hx with hx | hx | hx | hx
  · exact ha.nb x hx
  · exact hb.nb x hx
  · exact hc.nb x hx
  · rw [he x hx]; exact .any

theorem nb_parts {a b c:List AV} {z:AV} (hz:IsZ z c) (ha:Lits a) (hb:Lits b) (hc:Lits c):(AV.sl false 1 [.sl false 1 a,.sl false 1 b,z]).NB:=by
  refine .sl _ _ _ fun x hx=>?_
  simp only [List.mem_cons,List.not_mem_nil,or_false] at hx
  rcases hx with rfl | rfl | rfl
  · exact .sl _ _ _ ha.nb
  · exact .sl _ _ _ hb.nb
  · rcases hz with rfl | ⟨rfl,rfl⟩
    · exact .sl _ _ _ hc.nb
    · exact .lit _

theorem mg {a b c:List AV} {z:AV} (hz:IsZ z c) (ha:Lits a) (hb:Lits b) (hc:Lits c) (hl:a.length + b.length + c.length≤1000000) (ha0:0 < a.length) (st:St) :
    aw Go.Proofs.Try.prog n_f59 [.sl false 1 [.sl false 1 a,.sl false 1 b,z],.lit (.slice none 0 0)] st (.sl false 1 (a++(b++c))):=by
  refine e8 ((join_calls hz ha hb hc hl ha0 ⟨[]⟩).mono fun v st' h=>frz_joined ha hb hc h) (fun v hv=>?_) st
  simp only [List.mem_cons,List.not_mem_nil,or_false] at hv
  rcases hv with rfl | rfl
  · exact nb_parts hz ha hb hc
  · exact .lit _

theorem jN {l:List AV} (hl:l.length≤1000000) (st:St):az Go.Proofs.Try.prog n_f57 [.sl false 1 l] st (fun v st'=>st' = st∧(v = .sl true 1 (l.map AV.dis)∨(l = []∧v = .lit (.slice none 0 0)))):=by
  refine aW hmix k_f57 rfl rfl ?_
  unfold aFun c_f57
  rcases l with _ | ⟨x,l⟩
  · simp (config:=KF) (disch:=omega) only [bZ,cy,o_x,ak,nilX_empty,↓reduceIte,Nat.reduceEqDiff,reduceCtorEq]
    intro b
    cases b <;> simp (config:=KF) (disch:=omega) only [bZ,Bool.or_false,Bool.or_true,retI,kI,d5,bslV,eK,List.replicate_zero,bB,srcA,dA,mkSl_nil,mY,List.nil_append,↓reduceIte,Nat.reduceEqDiff,reduceCtorEq,or_true,or_false,dj]
  · simp only [List.length_cons] at hl
    simp (config:=KF) (disch:=omega) only [bZ,Bool.or_false,retI,cy,atS_eq,kI,d5,o_x,bslV,eK,ak,nilX_cons,bf,aP,aA,List.isEmpty_cons,List.replicate_zero,bB,srcA,dA,mkSl_nil,mY,List.nil_append,↓reduceIte,Nat.reduceEqDiff,reduceCtorEq,or_false,dj]

theorem lg {l:List AV} (hl:l.length≤1000000) (hn:Lits l) (st:St):aw Go.Proofs.Try.prog n_f57 [.sl false 1 l] st (.sl false 1 l):=by
  refine e8 ((jN hl ⟨[]⟩).mono fun v st' h=>?_) (fun v hv=>?_) st
  · obtain ⟨_,rfl | ⟨rfl,rfl⟩⟩:=h
    · rw [hn.dis]
      exact .le _ _ (.own _ _) (.sl _ _ _ hn.nb)
    · exact .le _ _ (.nil _ _) (.sl _ _ _ hn.nb)
  · simp only [List.mem_cons,List.not_mem_nil,or_false] at hv
    subst hv
    exact .sl _ _ _ hn.nb

def litB:AV→Bool
  | .lit _=>true
  | _=>false
theorem gw {l:List AV} (h:l.all litB = true):Lits l:=fun x hx=>by
  have:=List.all_eq_true.1 h x hx
  cases x <;> first | exact ⟨_,rfl⟩ | cases this

def okB (a b c:List AV):Bool:=a.all litB && b.all litB && c.all litB && decide (a.length + b.length + c.length≤1000000) && decide (0 < a.length)

/-- The calls of bytes.Join in closed code. -/
def prim (q:FuncId) (vs:List AV):Option AV :=
  if q = n_f59 then
    match vs with
    | [.sl false 1 [.sl false 1 a,.sl false 1 b,.sl false 1 c],.lit (.slice none 0 0)]=>if okB a b c = true then some (.sl false 1 (a++(b++c))) else none
    | [.sl false 1 [.sl false 1 a,.sl false 1 b,.lit (.slice none 0 0)],.lit (.slice none 0 0)]=>if okB a b [] = true then some (.sl false 1 (a++(b++[]))) else none
    | _=>none
  else if q = n_f57 then
    match vs with
    | [.sl false 1 l]=>if l.all litB = true∧l.length≤1000000 then some (.sl false 1 l) else none
    | _=>none
  else none

theorem primOk:mV Go.Proofs.Try.prog prim:=by
  intro q vs v h
  unfold prim at h
  split at h
  case isFalse =>
    split at h
    case isFalse=>cases h
    rename_i e
    subst e
    refine ⟨e_f57,fun st=>?_⟩
    split at h
    · rename_i l
      split at h
      · rename_i hk
        cases h
        exact lg hk.2 (gw hk.1) st
      · cases h
    · cases h
  rename_i e
  subst e
  refine ⟨e_f59,fun st=>?_⟩
  split at h
  · rename_i a b c
    split at h
    · rename_i hk
      cases h
      simp only [okB,Bool.and_eq_true,decide_eq_true_eq] at hk
      exact mg (.inl rfl) (gw hk.1.1.1.1) (gw hk.1.1.1.2) (gw hk.1.1.2) hk.1.2 hk.2 st
    · cases h
  · rename_i a b
    split at h
    · rename_i hk
      cases h
      simp only [okB,Bool.and_eq_true,decide_eq_true_eq] at hk
      exact mg (.inr ⟨rfl,rfl⟩) (gw hk.1.1.1.1) (gw hk.1.1.1.2) Lits.nil hk.1.2 hk.2 st
    · cases h
  · cases h

theorem gV (st:St):aw Go.Proofs.Try.prog n_f14 [] st (.lit (.bool true)) :=
  x_pure hmix tabOk primOk 100 12 (by kernel_rfl) rfl rfl st
end Go.Fx.YtenijlfcfmhmkaaFx

