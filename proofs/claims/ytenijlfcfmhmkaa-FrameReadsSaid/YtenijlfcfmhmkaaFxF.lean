/- An evaluator for resolved code, proved against the model: part 6. -/
import Derived.Test.YtenijlfcfmhmkaaFxE
import Derived.IntWalk
/- Code that is carried out: an evaluator, and that it is right. -/
namespace Go.Fx
open Go
def nbB:Nat→AV→Bool
  | _,.any=>true
  | _,.lit _=>true
  | n + 1,.cptr cs=>cs.all (nbB n)
  | n + 1,.sl _ _ es=>es.all (nbB n)
  | n + 1,.fn _ fs cs=>fs.all (nbB n) && cs.all (nbB n)
  | n + 1,.agg cs=>cs.all (nbB n)
  | n + 1,.tup cs=>cs.all (nbB n)
  | n + 1,.ifc _ v=>nbB n v
  | _,_=>false
theorem mU:∀ (n:Nat) (v:AV),nbB n v = true→v.NB:=by
  intro n
  induction n with
  | zero=>intro v h; cases v <;> first | exact .any | exact .lit _ | cases h
  | succ n ih =>
    intro v h
    cases v with
    | any=>exact .any
    | lit v=>exact .lit v
    | cptr cs=>exact .cptr cs fun c hc=>ih c (List.all_eq_true.1 h c hc)
    | sl o k es=>exact .sl o k es fun c hc=>ih c (List.all_eq_true.1 h c hc)
    | fn f fs cs =>
      simp only [nbB,Bool.and_eq_true] at h
      exact .fn f fs cs (fun c hc=>ih c (List.all_eq_true.1 h.1 c hc)) fun c hc=>ih c (List.all_eq_true.1 h.2 c hc)
    | agg cs=>exact .agg cs fun c hc=>ih c (List.all_eq_true.1 h c hc)
    | tup cs=>exact .tup cs fun c hc=>ih c (List.all_eq_true.1 h c hc)
    | ifc t v=>exact .ifc t v (ih v h)
    | _=>cases h
def eqV:Value→Value→Bool
  | .bool a,.bool b=>a == b
  | .int k a,.int k' b=>decide (k = k') && a == b
  | .string a,.string b=>decide (a = b)
  | .pointer none,.pointer none=>true
  | .slice none 0 0,.slice none 0 0=>true
  | .map none,.map none=>true
  | .nilFunc,.nilFunc=>true
  | .nilIface,.nilIface=>true
  | _,_=>false
theorem eqV_ok {a b:Value} (h:eqV a b = true):a = b:=by
  unfold eqV at h
  split at h
  · simp at h; rw [h]
  · simp only [Bool.and_eq_true,decide_eq_true_eq,beq_iff_eq] at h; rw [h.1,h.2]
  · simp at h; rw [h]
  all_goals first | rfl | cases h
def eqLs (f:AV→AV→Bool):List AV→List AV→Bool
  | [],[]=>true
  | a::r,b::s=>f a b && eqLs f r s
  | _,_=>false
theorem jT {f:AV→AV→Bool} (hf:∀ a b,f a b = true→a = b):∀ {l k:List AV},eqLs f l k = true→l = k
  | [],[],_=>rfl
  | [],_::_,h=>by cases h
  | _::_,[],h=>by cases h
  | a :: r, b :: s, h => by
    simp only [eqLs,Bool.and_eq_true] at h
    rw [hf a b h.1,jT hf h.2]
def eqStep (f:AV→AV→Bool):AV→AV→Bool
  | .any,.any=>true
  | .lit a,.lit b=>eqV a b
  | .ptr i o,.ptr i' o'=>i == i' && o == o'
  | .map i,.map i'=>i == i'
  | .bs i k o l c,.bs i' k' o' l' c'=>i == i' && k == k' && o == o' && l == l' && c == c'
  | .sl o k l,.sl o' k' l'=>o == o' && k == k' && eqLs f l l'
  | .agg l,.agg l'=>eqLs f l l'
  | .tup l,.tup l'=>eqLs f l l'
  | _,_=>false
theorem eqStep_ok {f:AV→AV→Bool} (hf:∀ a b,f a b = true→a = b) {a b:AV} (h:eqStep f a b = true):a = b:=by
  unfold eqStep at h
  split at h
  · rfl
  · rw [eqV_ok h]
  · simp at h; obtain ⟨rfl,rfl⟩:=h; rfl
  · simp at h; subst h; rfl
  · simp at h; obtain ⟨⟨⟨⟨rfl,rfl⟩,rfl⟩,rfl⟩,rfl⟩:=h; rfl
  · simp only [Bool.and_eq_true,beq_iff_eq] at h; obtain ⟨⟨rfl,rfl⟩,h⟩:=h; rw [jT hf h]
  · rw [jT hf h]
  · rw [jT hf h]
  · cases h
def eqB:Nat→AV→AV→Bool
  | 0=>fun _ _=>false
  | n + 1=>eqStep (eqB n)
theorem eqB_ok:∀ (n:Nat) (a b:AV),eqB n a b = true→a = b
  | 0,_,_,h=>by cases h
  | n + 1,_,_,h=>eqStep_ok (eqB_ok n) h
def eqO (v:AV):Option AV→Bool
  | some v0=>eqB 9 v v0
  | none=>false
section
variable (F:Nat→FuncId) (call:FuncId→List AV→St→Option (AV×St)) (pc:FuncId→List AV→Option AV)
def xX (i:XI) (d:Option Nat) (sf:Sf) (st:St):Option (Sf×St) :=
  match i with
  | .nilU op x y=>((binI (.nil .sl) op (sf.ev F x) (sf.ev F y)).opt).map fun v=>(sf.put d v,st)
  | .mks k bytes z len cap => match sf.ev F len, sf.ev F cap with
    | .lit (.int _ l),.lit (.int _ c)=>if 0≤l∧l = c∧c * bytes≤140737488355328∧c≤1000000000000000 then some (sf.put d (.sl true k (List.replicate l.toNat z)),st) else none
    | _,_=>none
  | .mark s => match sf.reg s with
    | .sl true k (e::es)=>some ((sf.disAt s).put d (.sl false k (e::es)),st)
    | _=>none
  | .slA n k x lo hi mx => match sf.ev F x with
    | .ptr id off=>((sl3 (mx.map (sf.ev F)) (hi.map (sf.ev F)) (lo.map (sf.ev F)) n n fun l h m=>if m = l then (if h = l then .ok (.sl true k []) else .fail) else .ok (.bs id k (off + l * k) (h - l) (m - l))).opt).map fun v=>(sf.put d v,st)
    | _=>none
  | .mksB k bytes z len cap => match sf.ev F len, sf.ev F cap with
    | .lit (.int _ l),.lit (.int _ c)=>if 0≤l∧l≤c∧c * bytes≤140737488355328∧c≤1000000000000000 then some (sf.put d (.bs st.boxes.length k 0 l.toNat c.toNat),st.push (.cells ((List.replicate c.toNat z).flatMap AV.cells))) else none
    | _,_=>none
  | .copyB k x y => match (srcA st k (cutS (lenS (sf.ev F x)) (sf.ev F y))).opt with
    | some new => match sf.ev F x with
      | .bs id k' off len _=>if k' = k∧new.length≤len then (match st.get id with
          | some cs=>if off + new.length * k≤cs.length then some (sf.put d (.lit (.int .i64 new.length)),st.set id (aQ cs off (cellsD new))) else none
          | none=>none) else none
      | .sl _ _ []=>if new.isEmpty then some (sf.put d (.lit (.int .i64 0)),st) else none
      | _=>none
    | none=>none
  | .clrB k z x => match sf.ev F x with
    | .bs id k' off len _=>if k' = k then (match st.get id with
        | some cs=>if off + len * k≤cs.length then some (sf.put d (.tup []),st.set id (aQ cs off ((List.replicate len z).flatMap AV.cells))) else none
        | none=>none) else none
    | .lit (.slice none 0 0)=>some (sf.put d (.tup []),st)
    | _=>none
  | .mclone x => match sf.ev F x with
    | .ifc t (.map id) => match st.getM id with
      | some es=>some (sf.put d (.ifc t (.map st.boxes.length)),st.push (.mp es (st.getB id).1 (st.getB id).2))
      | none=>none
    | _=>none
  | _=>none
def xOne (i:AI) (sf:Sf) (st:St):Option (Sf×St) :=
  match i with
  | .call d p f args => match sf.ev F f with
    | .fn (.func q) fs cs=>if (args.map (sf.ev F)).all AV.noL = true∧p = false then (call q (fs++(args.map (sf.ev F)).map AV.dis++cs) st).map fun r=>(sf.put d r.1,r.2) else none
    | _=>none
  | .x d i=>xX F i d sf st
  | i=>(a7 F false i sf st).opt
def xRun:List GI→Sf→St→Option (Sf×St)
  | [],sf,st=>some (sf,st)
  | ⟨none, i⟩ :: r, sf, st => match xOne F call i sf st with
    | some (sf,st)=>xRun r sf st
    | none=>none
  | ⟨some (t, want), i⟩ :: r, sf, st => match sf.reg t with
    | .lit (.bool b)=>if b = want then (match xOne F call i sf st with
        | some (sf,st)=>xRun r sf st
        | none=>none) else xRun r (sf.put i.dst (.tup [])) st
    | .tup _=>xRun r (sf.put i.dst (.tup [])) st
    | _=>none
def iy (locs0:List (Nat×List AV)) (st:St) (i:AI) (sf:Sf):Option (PK×Sf) :=
  match i with
  | .call d _ f args => match sf.ev F f with
    | .fn (.func q) fs cs=>if (args.map (sf.ev F)).all AV.noL = true then (pc q (fs++(args.map (sf.ev F)).map AV.dis++cs)).map fun v=>(.val v,sf.put d v) else none
    | _=>none
  | .newL s cs=>some (.new s cs,sf.set s .any)
  | .store k a x => match sf.ev F a with
    | .lptr s 0 => match look s locs0 with
      | some cs0=>if cs0.length = k∧(sf.ev F x).dis.solid = true∧(sf.ev F x).dis.cells.length = k then some (.store s (sf.ev F x).dis.cells,sf) else none
      | none=>none
    | .any => match a with
      | .r s=>if (sf.ev F x).dis.solid = true∧(sf.ev F x).dis.cells.length = k then some (.nst s (sf.ev F x).dis.cells,sf) else none
      | _=>none
    | _=>none
  | .appS d s k bytes y => match sf.reg s with
    | .sl true k' es=>((bB st k bytes (.sl true k' es) (sf.ev F y)).opt).map fun v=>(.app s v,(sf.disAt s).set d v)
    | x=>((ce st k bytes x (sf.ev F y)).opt).map fun v=>(.val v,sf.put (some d) v)
  | i=>((popI F i sf st).opt).map fun v=>(.val v,sf.put i.dst v)
def iz (locs0:List (Nat×List AV)) (st:St):List GI→List PK→Sf→Option (List PK×Sf)
  | [],ks,sf=>some (ks,sf)
  | ⟨none, i⟩ :: r, ks, sf => match iy F pc locs0 st i sf with
    | some (k,sf)=>iz locs0 st r (ks++[k]) sf
    | none=>none
  | ⟨some (t, want), i⟩ :: r, ks, sf => match sf.reg t with
    | .lit (.bool b)=>if b = want then (match iy F pc locs0 st i sf with
        | some (k,sf)=>iz locs0 st r (ks++[k]) sf
        | none=>none) else iz locs0 st r (ks++[.skip]) (sf.put i.dst (.tup []))
    | .tup _=>iz locs0 st r (ks++[.skip]) (sf.put i.dst (.tup []))
    | _=>none
def xPre:List GI→Sf→Option Sf
  | [],sf=>some sf
  | ⟨none,.call ..⟩::_,_=>none
  | ⟨none, i⟩ :: r, sf => match (popI F i sf ⟨[]⟩).opt with
    | some v=>xPre r (sf.put i.dst v)
    | none=>none
  | ⟨some _,_⟩::_,_=>none
def iA:List (Bool×GI)→Sf→Option (List (Option AV))
  | [],_=>some []
  | (true,g)::r,sf=>(iA r (sf.put g.i.dst .any)).map (none::·)
  | (false,⟨none,.call ..⟩)::_,_=>none
  | (false, ⟨none, i⟩) :: r, sf => match (popI F i sf ⟨[]⟩).opt with
    | some v=>(iA r (sf.put i.dst v)).map (some v::·)
    | none=>none
  | (false,⟨some _,_⟩)::_,_=>none
def iB:List (Bool×GI)→List (Option AV)→Sf→Option Sf
  | [],[],sf=>some sf
  | (_,⟨none,.call ..⟩)::_,_,_=>none
  | (b, ⟨none, i⟩) :: r, h :: hs, sf => match (popI F i sf ⟨[]⟩).opt with
    | some v=>if (b = true∨eqO v h = true) then iB r hs (sf.put i.dst v) else none
    | none=>none
  | _,_,_=>none
def xLoop (C:Sf→St→Option (Exit×Sf×St)) (lv ll:List Nat):Nat→Sf→St→Option (Exit×Sf×St)
  | 0,_,_=>none
  | k + 1, sf, st => match C sf st with
    | some (.normal,sf,st)=>xLoop C lv ll k (sf.mask lv ll) st
    | r=>r
def xC (fuel:Nat):AC→Sf→St→Option (Exit×Sf×St)
  | .skip,sf,st=>some (.normal,sf,st)
  | .ops lv ll l,sf,st=>(xRun F call l sf st).map fun r=>(.normal,r.1.mask lv ll,r.2)
  | .draw lv ll drop hl tl, sf, st => match iz F pc sf.locs st hl [] ⟨sf.regs, a8 drop sf.locs⟩ with
    | some (ks,sf)=>if ksB drop ks = true then (xRun F call tl (bp ks ks (bO ks sf)) st).map fun r=>(.normal,r.1.mask lv ll,r.2) else none
    | none=>none
  | .drawM lv ll pre d f args post tl, sf, st => match xPre F pre ⟨sf.regs, a8 (fm pre post) sf.locs⟩ with
    | some sf1 => (match sf1.ev F f with
      | .fn (.func q) fs cs => if (args.map (sf1.ev F)).all AV.noL = true then (match iA F post (sf1.put d .any) with
        | some hs => (match call q (fs ++ (args.map (sf1.ev F)).map AV.dis ++ cs) st with
          | some (v, st') => (match iB F post hs (sf1.put d v) with
            | some sf2=>(xRun F call tl sf2 st').map fun r=>(.normal,r.1.mask lv ll,r.2)
            | none=>none)
          | none=>none)
        | none=>none) else none
      | _=>none)
    | none=>none
  | .seq a b, sf, st => match xC fuel a sf st with
    | some (.normal,sf,st)=>xC fuel b sf st
    | r=>r
  | .cond x a b, sf, st => match sf.ev F x with
    | .lit (.bool true)=>xC fuel a (x.setB sf true) st
    | .lit (.bool false)=>xC fuel b (x.setB sf false) st
    | _=>none
  | .block id b, sf, st => match xC fuel b sf st with
    | some (.exit id',sf,st)=>if id' = id then some (.normal,sf,st) else some (.exit id',sf,st)
    | r=>r
  | .loop lv ll b,sf,st=>xLoop (xC fuel b) lv ll fuel (sf.mask lv ll) st
  | .exit lv ll id,sf,st=>some (.exit id,sf.mask lv ll,st)
  | .scope b, sf, st => match xC fuel b sf st with
    | some (.goto _,_,_)=>none
    | r=>r
  | .rangeF _ _ _ _ _ _ _,_,_=>none
  | .drawG _ _ _ _ _,_,_=>none
  | .drawA _ _ _ _ _ _ _ _ _ _,_,_=>none
  | .drawC _ _ _ _ _ _ _ _,_,_=>none
  | .ret,sf,st=>some (.ret,sf,st)
  | .bad,_,_=>none
def xFun (fuel:Nat) (fn:AFun) (vs:List AV) (st:St):Option (AV×St) :=
  match xC F call pc fuel fn.body ⟨gE 0 vs,[]⟩ st with
  | some (.normal, sf, st) => match (retI fn.rs sf st).opt with
    | some v=>if v.noL = true then some (v,st) else none
    | none=>none
  | some (.ret, sf, st) => match (retI fn.rs sf st).opt with
    | some v=>if v.noL = true then some (v,st) else none
    | none=>none
  | _=>none
end
def jg (F:Nat→FuncId) (T:FuncId→Option AFun) (prim:FuncId→List AV→Option AV) (fuel:Nat):Nat→FuncId→List AV→St→Option (AV×St)
  | 0,_,_,_=>none
  | n + 1, q, vs, st => match prim q vs with
    | some v=>some (v,st)
    | none => match T q with
      | some fn=>if vs.length≤fn.n then xFun F (jg F T prim fuel n) (fun q vs=>if vs.all (nbB 6) = true then (match jg F T prim fuel n q vs ⟨[]⟩ with
          | some (v,_)=>if nbB 6 v = true then some v else none
          | none=>none) else none) fuel fn vs st else none
      | none=>none
theorem d7 {A:Type} {r:Res A} {a:A} (h:r.opt = some a) {K:A→Prop} (hk:K a):r.wp K:=Res.wp_of_opt h hk
section
variable {P:Program} {F:Nat→FuncId} {call:FuncId→List AV→St→Option (AV×St)} {pc:FuncId→List AV→Option AV}
def kJ (P:Program) (call:FuncId→List AV→St→Option (AV×St)):Prop:=∀ q vs st v st',call q vs st = some (v,st')→aZ P q = true∧az P q vs st fun v' st''=>v' = v∧st'' = st'
def PcOk (P:Program) (pc:FuncId→List AV→Option AV):Prop:=∀ q vs v,pc q vs = some v→aZ P q = true∧∀ st,aw P q vs st v
theorem xX_ok {i:XI} {d:Option Nat} {sf sf':Sf} {st st':St} (h:xX F i d sf st = some (sf',st')) {K:Sf→St→Prop} (hK:K sf' st'):ak F false i d K sf st:=by
  unfold xX at h
  split at h
  · rename_i op x y
    obtain ⟨v,hv,e⟩:=map_some h
    cases e
    simp only [ak,nilX]
    split
    · rename_i h1 h2
      rw [h1,h2] at hv
      cases op <;> simp [binI,aP,aA,Res.ofOpt,Res.bind,Res.opt] at hv
    · exact d7 hv hK
  · rename_i k bytes z len cap
    split at h
    · rename_i k1 l k2 c h1 h2
      split at h
      · rename_i hc
        cases h
        simp only [ak,mksX,h1,h2]
        exact ⟨hc.1,hc.2.1,hc.2.2.1,hc.2.2.2,hK⟩
      · cases h
    · cases h
  · rename_i s
    split at h
    · rename_i k e es h1
      cases h
      simp only [ak,markX,h1]
      exact hK
    · cases h
  · rename_i n k x lo hi mx
    split at h
    · rename_i id off h1
      obtain ⟨v,hv,e⟩:=map_some h
      cases e
      simp only [ak,slAX,h1]
      exact d7 hv hK
    · cases h
  · rename_i k bytes z len cap
    split at h
    · rename_i k1 l k2 c h1 h2
      split at h
      · rename_i hc
        cases h
        simp only [ak,lP,h1,h2]
        exact ⟨trivial,hc.1,hc.2.1,hc.2.2.1,hc.2.2.2,hK⟩
      · cases h
    · cases h
  · rename_i k x y
    split at h
    · rename_i new hnew
      simp only [ak]
      refine d7 hnew ?_
      split at h
      · rename_i id k' off len cap h1
        split at h
        · rename_i hc
          split at h
          · rename_i cs hcs
            split at h
            · rename_i hl
              cases h
              simp only [eo,h1,hcs,Res.ofOpt,Res.wp]
              exact ⟨hc.1,trivial,hc.2,hl,hK⟩
            · cases h
          · cases h
        · cases h
      · rename_i h1
        split at h
        · rename_i hc
          cases h
          simp only [eo,h1]
          exact ⟨by simpa using hc,hK⟩
        · cases h
      · cases h
    · cases h
  · rename_i k z x
    split at h
    · rename_i id k' off len cap h1
      split at h
      · rename_i hc
        split at h
        · rename_i cs hcs
          split at h
          · rename_i hl
            cases h
            simp only [ak,clrX,h1,hcs,Res.ofOpt,Res.wp]
            exact ⟨hc,trivial,hl,hK⟩
          · cases h
        · cases h
      · cases h
    · rename_i h1
      cases h
      simp only [ak,clrX,h1]
      exact hK
    · cases h
  · rename_i x
    split at h
    · rename_i t id h1
      split at h
      · rename_i es hes
        cases h
        simp only [ak,ig,h1,hes,Res.ofOpt,Res.wp]
        exact ⟨trivial,hK⟩
      · cases h
    · cases h
  · cases h
theorem xOne_ok (hcall:kJ P call) {i:AI} {sf sf':Sf} {st st':St} (h:xOne F call i sf st = some (sf',st')) {K:Sf→St→Prop} (hK:K sf' st'):oneI P F false i K sf st:=by
  unfold xOne at h
  split at h
  · rename_i d p f args
    split at h
    · rename_i q fs cs hf
      split at h
      · rename_i hn
        obtain ⟨r,hr,e⟩:=map_some h
        cases e
        obtain ⟨hent,hA⟩:=hcall _ _ _ _ _ hr
        rw [bj,hf]
        obtain ⟨hn,rfl⟩:=hn
        exact eA rfl hent hA hn fun v st' e=>by obtain ⟨rfl,rfl⟩:=e; exact hK
      · cases h
    · cases h
  · rename_i d i
    rw [o_x]
    exact xX_ok h hK
  · rename_i h1 h2
    have:oneI P F false i K sf st = (a7 F false i sf st).wp (eG K):=by
      cases i <;> first | rfl | exact absurd rfl (h1 _ _ _ _) | exact absurd rfl (h2 _ _)
    rw [this]
    exact d7 h hK
theorem iC:∀ (l:List (Nat×AV)) (t:Nat) (v:AV),getR l t = v→v≠.any→setR l t v = l
  | [],t,v,h,hn=>absurd h.symm hn
  | (q, u) :: r, t, v, h, hn => by
    simp only [getR] at h
    simp only [setR]
    by_cases e:q = t
    · subst e; rw [if_pos rfl] at h ⊢; subst h; rfl
    · rw [if_neg e] at h ⊢; rw [iC r t v h hn]
theorem iD {sf:Sf} {t:Nat} {v:AV} (h:sf.reg t = v) (hn:v≠.any):sf.set t v = sf:=by
  unfold Sf.set
  rw [iC sf.regs t v h hn]
theorem fa (hcall:kJ P call):∀ {l:List GI} {sf sf':Sf} {st st':St},xRun F call l sf st = some (sf',st')→∀ {K:Sf→St→Prop},K sf' st'→runI P F false l K sf st
  | [], sf, sf', st, st', h, K, hK => by
    simp only [xRun] at h
    cases h
    exact hK
  | ⟨none, i⟩ :: r, sf, sf', st, st', h, K, hK => by
    simp only [xRun] at h
    split at h
    · rename_i sf1 st1 h1
      rw [je]
      exact xOne_ok hcall h1 (fa hcall h hK)
    · cases h
  | ⟨some (t, want), i⟩ :: r, sf, sf', st, st', h, K, hK => by
    simp only [xRun] at h
    split at h
    · rename_i b hb
      rw [a9,hb,jf]
      have hs:=iD hb (by simp)
      split at h
      · rename_i e
        subst e
        split at h
        · rename_i sf1 st1 h1
          refine ⟨fun _=>?_,fun e=>by cases b <;> cases e⟩
          rw [hs]
          exact xOne_ok hcall h1 (fa hcall h hK)
        · cases h
      · rename_i e
        have e2:b = !want:=by cases b <;> cases want <;> simp_all
        refine ⟨fun e'=>absurd e' e,fun _=>?_⟩
        rw [← e2,hs,iu]
        exact fa hcall h hK
    · rename_i cs hb
      rw [a9,hb,guard_tup,iu]
      exact fa hcall h hK
    · cases h
theorem jJ (hpc:PcOk P pc) {locs0:List (Nat×List AV)} {st:St} {i:AI} {sf sf':Sf} {k:PK} (h:iy F pc locs0 st i sf = some (k,sf')) {C:PK→Sf→Prop} (hK:C k sf'):am P F locs0 st i C sf:=by
  unfold iy at h
  split at h
  · rename_i d p f args
    split at h
    · rename_i q fs cs hf
      split at h
      · rename_i hn
        obtain ⟨v,hv,e⟩:=map_some h
        cases e
        obtain ⟨hent,hP⟩:=hpc _ _ _ hv
        simp only [am,eH,hf]
        exact ⟨hn,hent,v,hP st,hK⟩
      · cases h
    · cases h
  · cases h; exact hK
  · rename_i k a x
    split at h
    · rename_i s ha
      split at h
      · rename_i cs0 hl
        split at h
        · rename_i hc
          cases h
          simp only [am,cI,ha,cY,hl]
          exact ⟨hc.1,hc.2.1,hc.2.2,hK⟩
        · cases h
      · cases h
    · rename_i ha
      split at h
      · rename_i s
        split at h
        · rename_i hc
          cases h
          simp only [am,cI,ha,gh]
          exact ⟨hc.1,hc.2,hK⟩
        · cases h
      · cases h
    · cases h
  · rename_i d s k bytes y
    split at h
    · rename_i k' es hr
      obtain ⟨v,hv,e⟩:=map_some h
      cases e
      simp only [am,im,hr]
      exact d7 hv hK
    · rename_i hno
      obtain ⟨v,hv,e⟩:=map_some h
      cases e
      simp only [am,im]
      exact d7 hv hK
  · rename_i h1 h2 h3 h4
    obtain ⟨v,hv,e⟩:=map_some h
    cases e
    have:am P F locs0 st i C sf = (popI F i sf st).wp (valH C i.dst sf):=by
      cases i <;> first | rfl | exact absurd rfl (h1 _ _ _ _) | exact absurd rfl (h2 _ _) | exact absurd rfl (h3 _ _ _) | exact absurd rfl (h4 _ _ _ _ _) | (simp [popI,Res.opt] at hv)
    rw [this]
    exact d7 hv hK
theorem fU (hpc:PcOk P pc) {locs0:List (Nat×List AV)} {st:St}:∀ {l:List GI} {ks ks':List PK} {sf sf':Sf},iz F pc locs0 st l ks sf = some (ks',sf')→∀ {K:List PK→Sf→Prop},K ks' sf'→ap P F locs0 st l K ks sf
  | [], ks, ks', sf, sf', h, K, hK => by
    simp only [iz] at h
    cases h
    exact hK
  | ⟨none, i⟩ :: r, ks, ks', sf, sf', h, K, hK => by
    simp only [iz] at h
    split at h
    · rename_i k1 sf1 h1
      exact jJ hpc h1 (C:=fK (ap P F locs0 st r K) ks) (fU hpc h hK)
    · cases h
  | ⟨some (t, want), i⟩ :: r, ks, ks', sf, sf', h, K, hK => by
    simp only [iz] at h
    split at h
    · rename_i b hb
      simp only [ap,db,hb]
      intro c hc
      subst hc
      have hs:=iD hb (by simp)
      split at h
      · rename_i e
        rw [if_pos e,hs]
        split at h
        · rename_i k1 sf1 h1
          exact jJ hpc h1 (C:=fK (ap P F locs0 st r K) ks) (fU hpc h hK)
        · cases h
      · rename_i e
        rw [if_neg e,hs]
        exact fU hpc h hK
    · rename_i cs hb
      simp only [ap,db,hb]
      exact fU hpc h hK
    · cases h
theorem xPre_ok {locs0:List (Nat×List AV)}:∀ {l:List GI} {ks:List PK} {sf sf':Sf},xPre F l sf = some sf'→∀ {K:List PK→Sf→Prop},(∀ kl:List PK,(∀ k ∈ kl,k.vs = true∨k = .hole)→K (ks++kl) sf')→preM P F locs0 ⟨[]⟩ l K ks sf
  | [], ks, sf, sf', h, K, hK => by
    simp only [xPre] at h
    cases h
    show K ks sf
    simpa using hK [] (by simp)
  | ⟨some g,i⟩::r,ks,sf,sf',h,K,hK=>by simp only [xPre] at h; cases h
  | ⟨none, i⟩ :: r, ks, sf, sf', h, K, hK => by
    have hnc:∀ d p f args,i≠.call d p f args:=by
      rintro d p f args rfl
      simp only [xPre] at h; cases h
    have h':(match (popI F i sf ⟨[]⟩).opt with
      | some v=>xPre F r (sf.put i.dst v)
      | none=>none) = some sf':=by
      cases i <;> first | exact absurd rfl (hnc _ _ _ _) | exact h
    simp only [preM]
    have he:oneM P F locs0 ⟨[]⟩ i (dF (preM P F locs0 ⟨[]⟩ r K) ks) sf = (popI F i sf ⟨[]⟩).wp (valM (dF (preM P F locs0 ⟨[]⟩ r K) ks) i.dst sf):=by
      cases i <;> first | exact absurd rfl (hnc _ _ _ _) | rfl | (cases h')
    rw [he]
    split at h'
    · rename_i v hv
      have h2:preM P F locs0 ⟨[]⟩ r K (ks++[.val v]) (sf.put i.dst v):=xPre_ok (ks:=ks++[.val v]) h' fun kl hl=>by
        have:=hK (.val v::kl) (fun x hx=>by rcases List.mem_cons.1 hx with rfl | hx; exact .inl rfl; exact hl x hx)
        simpa using this
      exact d7 hv h2
    · cases h'
def toH:Option AV→PK
  | none=>.hole
  | some v=>.val v
theorem kK {locs0:List (Nat×List AV)}:∀ {l:List (Bool×GI)} {ks:List PK} {sf:Sf} {hs:List (Option AV)},iA F l sf = some hs→∀ {K:List PK→Prop},K (ks++hs.map toH)→bC P F locs0 ⟨[]⟩ l K ks sf
  | [], ks, sf, hs, h, K, hK => by
    simp only [iA] at h
    cases h
    simpa [bC] using hK
  | (true, g) :: r, ks, sf, hs, h, K, hK => by
    simp only [iA] at h
    obtain ⟨q,hq,rfl⟩:=map_some h
    simp only [bC]
    exact kK (ks:=ks++[.hole]) hq (by simpa [toH] using hK)
  | (false,⟨some g,i⟩)::r,ks,sf,hs,h,K,hK=>by simp only [iA] at h; cases h
  | (false, ⟨none, i⟩) :: r, ks, sf, hs, h, K, hK => by
    have hnc:∀ d p f args,i≠.call d p f args:=by
      rintro d p f args rfl
      simp only [iA] at h; cases h
    have h':(match (popI F i sf ⟨[]⟩).opt with
      | some v=>(iA F r (sf.put i.dst v)).map (some v::·)
      | none=>none) = some hs:=by
      cases i <;> first | exact absurd rfl (hnc _ _ _ _) | exact h
    simp only [bC]
    have he:oneM P F locs0 ⟨[]⟩ i (dF (bC P F locs0 ⟨[]⟩ r K) ks) sf = (popI F i sf ⟨[]⟩).wp (valM (dF (bC P F locs0 ⟨[]⟩ r K) ks) i.dst sf):=by
      cases i <;> first | exact absurd rfl (hnc _ _ _ _) | rfl | (cases h')
    rw [he]
    split at h'
    · rename_i v hv
      obtain ⟨q,hq,rfl⟩:=map_some h'
      have h2:bC P F locs0 ⟨[]⟩ r K (ks++[.val v]) (sf.put i.dst v):=kK (ks:=ks++[.val v]) hq (by simpa [toH] using hK)
      exact d7 hv h2
    · cases h'
theorem xPost_ok {locs0:List (Nat×List AV)}:∀ {l:List (Bool×GI)} {hs:List (Option AV)} {ks:List PK} {sf sf':Sf},iB F l hs sf = some sf'→∀ {K:List PK→Sf→Prop},(∀ kl:List PK,er l (hs.map toH) kl→(∀ k ∈ kl,k.vs = true∨k = .hole)→K (ks++kl) sf')→preM P F locs0 ⟨[]⟩ (l.map (·.2)) K ks sf
  | [], [], ks, sf, sf', h, K, hK => by
    simp only [iB] at h
    cases h
    show K ks sf
    simpa using hK [] trivial (by simp)
  | [],_::_,ks,sf,sf',h,K,hK=>by simp only [iB] at h; cases h
  | (b, ⟨some g, i⟩) :: r, hs, ks, sf, sf', h, K, hK => by
    simp only [iB] at h; cases h
  | (b, ⟨none, i⟩) :: r, [], ks, sf, sf', h, K, hK => by
    cases i <;> (simp only [iB] at h; cases h)
  | (b, ⟨none, i⟩) :: r, hv0 :: hs, ks, sf, sf', h, K, hK => by
    have hnc:∀ d p f args,i≠.call d p f args:=by
      rintro d p f args rfl
      simp only [iB] at h; cases h
    have h':(match (popI F i sf ⟨[]⟩).opt with
      | some v=>if (b = true∨eqO v hv0 = true) then iB F r hs (sf.put i.dst v) else none
      | none=>none) = some sf':=by
      cases i <;> first | exact absurd rfl (hnc _ _ _ _) | exact h
    simp only [List.map_cons,preM]
    have he:oneM P F locs0 ⟨[]⟩ i (dF (preM P F locs0 ⟨[]⟩ (r.map (·.2)) K) ks) sf = (popI F i sf ⟨[]⟩).wp (valM (dF (preM P F locs0 ⟨[]⟩ (r.map (·.2)) K) ks) i.dst sf):=by
      cases i <;> first | exact absurd rfl (hnc _ _ _ _) | rfl | (cases h')
    rw [he]
    split at h'
    · rename_i v hv
      split at h'
      · rename_i hc
        have h2:preM P F locs0 ⟨[]⟩ (r.map (·.2)) K (ks++[.val v]) (sf.put i.dst v):=xPost_ok (ks:=ks++[.val v]) h' fun kl hkl hvl=>by
          have:=hK (.val v::kl) (by
            cases b with
            | true=>exact hkl
            | false =>
              rcases hc with hc | hc
              · cases hc
              · cases hv0 with
                | none=>cases hc
                | some v0=>exact ⟨by rw [eqB_ok 9 v v0 hc]; rfl,hkl⟩) (fun x hx=>by rcases List.mem_cons.1 hx with rfl | hx; exact .inl rfl; exact hvl x hx)
          simpa using this
        exact d7 hv h2
      · cases h'
    · cases h'
theorem xC_ok (hcall:kJ P call) (hpc:PcOk P pc) (fuel:Nat):∀ (c:AC) {sf sf':Sf} {st st':St} {e:Exit},xC F call pc fuel c sf st = some (e,sf',st')→∀ {Q:Exit→Sf→St→Prop},Q e sf' st'→aC P F false c sf st Q:=by
  intro c
  induction c with
  | skip=>intro sf sf' st st' e h Q hQ; simp only [xC] at h; cases h; exact hQ
  | ops lv ll l =>
    intro sf sf' st st' e h Q hQ
    simp only [xC] at h
    obtain ⟨r,hr,e⟩:=map_some h
    cases e
    rw [aC_ops]
    exact fa hcall hr hQ
  | draw lv ll drop hl tl =>
    intro sf sf' st st' e h Q hQ
    simp only [xC] at h
    split at h
    · rename_i ks sf1 h1
      split at h
      · rename_i hk
        obtain ⟨r,hr,e⟩:=map_some h
        cases e
        rw [aC_draw]
        exact fU hpc h1 (K:=cZ P F false drop lv ll tl Q st) ⟨hk,fa hcall hr hQ⟩
      · cases h
    · cases h
  | drawM lv ll pre d f args post tl =>
    intro sf sf' st st' e h Q hQ
    simp only [xC] at h
    split at h
    case h_2=>cases h
    rename_i sf1 h1
    split at h
    case h_2=>cases h
    rename_i q fs cs hf
    split at h
    case isFalse=>cases h
    rename_i hc
    split at h
    case h_2=>cases h
    rename_i hs hhs
    split at h
    case h_2=>cases h
    rename_i v st1 hcl
    split at h
    case h_2=>cases h
    rename_i sf2 h2
    obtain ⟨r,hr,e⟩:=map_some h
    cases e
    obtain ⟨hent,hA⟩:=hcall _ _ _ _ _ hcl
    refine ⟨rfl,⟨[]⟩,St.sub_nil _,xPre_ok h1 fun kl hkl=>?_⟩
    simp only [atM,jC,hf]
    refine ⟨hc,hent,_,hA,kK hhs ⟨(mL fun x hx=>?_).1,?_⟩⟩
    · simp only [List.nil_append,List.mem_append,List.mem_map] at hx
      rcases hx with hx | ⟨y,_,rfl⟩
      · exact hkl x hx
      · cases y with
        | none=>exact .inr rfl
        | some v=>exact .inl rfl
    rintro v' s' ⟨rfl,rfl⟩
    refine ⟨St.sub_nil _,xPost_ok h2 fun k2 hk2 hv2=>⟨by simpa using hk2,?_⟩⟩
    have hvs:=mL (drop:=fm pre post) (ks:=kl++k2) fun x hx=>by
      rcases List.mem_append.1 hx with hx | hx
      · exact hkl x hx
      · exact hv2 x hx
    refine ⟨by simpa using hvs.1,?_⟩
    have:=hvs.2 sf2
    simp only [List.nil_append]
    rw [this]
    exact fa hcall hr hQ
  | drawA lv ll pre d b k bytes y post tl=>intro sf sf' st st' e h Q hQ; simp only [xC] at h; cases h
  | drawG lv ll dr fl tl=>intro sf sf' st st' e h Q hQ; simp only [xC] at h; cases h
  | drawC lv ll pre d f args post tl=>intro sf sf' st st' e h Q hQ; simp only [xC] at h; cases h
  | seq a b iha ihb =>
    intro sf sf' st st' e h Q hQ
    simp only [xC] at h
    rw [aC_seq]
    split at h
    · rename_i sf1 st1 h1
      exact iha h1 (ihb h hQ)
    · rename_i r hno
      refine iha h ?_
      cases e with
      | normal=>exact absurd h (hno _ _)
      | _=>exact hQ
  | cond x a b iha ihb =>
    intro sf sf' st st' e h Q hQ
    simp only [xC] at h
    rw [aC_cond]
    split at h
    · rename_i hx
      rw [hx,ir]
      exact ⟨fun _=>iha h hQ,fun e=>by cases e⟩
    · rename_i hx
      rw [hx,ir]
      exact ⟨fun e=>(by cases e),fun _=>ihb h hQ⟩
    · cases h
  | block id b ih =>
    intro sf sf' st st' e h Q hQ
    simp only [xC] at h
    rw [aC_block]
    split at h
    · rename_i id' sf1 st1 h1
      refine ih h1 ?_
      rw [ar]
      split at h
      · rename_i hid; cases h; rw [if_pos hid]; exact hQ
      · rename_i hid; cases h; rw [if_neg hid]; exact hQ
    · rename_i hno
      refine ih h ?_
      cases e with
      | exit id'=>exact absurd h (hno _ _ _)
      | _=>exact hQ
  | loop lv ll b ih =>
    intro sf sf' st st' e h Q hQ
    simp only [xC] at h
    rw [aC_loop]
    refine ⟨fun k sf st=>xLoop (xC F call pc fuel b) lv ll k sf st = some (e,sf',st'),⟨fuel,_,Sf.le_refl _,h⟩,fun k sf1 st1 hk=>?_⟩
    cases k with
    | zero=>simp only [xLoop] at hk; cases hk
    | succ k =>
      simp only [xLoop] at hk
      split at hk
      · rename_i sf2 st2 h2
        exact ih h2 ⟨k,Nat.lt_succ_self k,_,Sf.le_refl _,hk⟩
      · rename_i hno
        refine ih hk ?_
        cases e with
        | normal=>exact absurd hk (hno _ _)
        | _=>exact hQ
  | exit lv ll id=>intro sf sf' st st' e h Q hQ; simp only [xC] at h; cases h; exact hQ
  | scope b ih =>
    intro sf sf' st st' e h Q hQ
    simp only [xC] at h
    rw [aC_scope]
    split at h
    · cases h
    · rename_i hno
      refine ih h ?_
      cases e with
      | goto l=>exact absurd h (hno _ _ _)
      | _=>exact hQ
  | rangeF lv ll x ps lb a b _ _=>intro sf sf' st st' e h Q hQ; simp only [xC] at h; cases h
  | ret=>intro sf sf' st st' e h Q hQ; simp only [xC] at h; cases h; exact hQ
  | bad=>intro sf sf' st st' e h Q hQ; simp only [xC] at h; cases h
theorem xFun_ok (hcall:kJ P call) (hpc:PcOk P pc) {fuel:Nat} {fn:AFun} {vs:List AV} {st st':St} {v:AV} (h:xFun F call pc fuel fn vs st = some (v,st')):aFun P F false fn vs st fun v' st''=>v' = v∧st'' = st':=by
  unfold xFun at h
  unfold aFun
  have key:∀ sf st1,(match (retI fn.rs sf st1).opt with
      | some v=>if v.noL = true then some (v,st1) else none
      | none=>none) = some (v,st')→(retI fn.rs sf st1).wp fun v'=>v'.noL = true∧v' = v∧st1 = st':=by
    intro sf st1 h
    split at h
    · rename_i v1 hv
      split at h
      · rename_i hn
        cases h
        exact d7 hv ⟨hn,rfl,rfl⟩
      · cases h
    · cases h
  split at h
  · rename_i sf st1 h1
    exact xC_ok hcall hpc fuel fn.body h1 (Q:=retQ fn.rs fun v' st''=>v' = v∧st'' = st') (key sf st1 h)
  · rename_i sf st1 h1
    exact xC_ok hcall hpc fuel fn.body h1 (Q:=retQ fn.rs fun v' st''=>v' = v∧st'' = st') (key sf st1 h)
  · cases h
def kL (P:Program) (F:Nat→FuncId) (T:FuncId→Option AFun):Prop:=∀ q fn,T q = some fn→aZ P q = true∧∃ X:Cx,X.F = F∧jG P X q = some fn
def mV (P:Program) (prim:FuncId→List AV→Option AV):Prop:=∀ q vs v,prim q vs = some v→aZ P q = true∧∀ st,aw P q vs st v
theorem xCalls_ok (hmix:P.follows .mixedOrders = true) {T:FuncId→Option AFun} {prim:FuncId→List AV→Option AV} (hT:kL P F T) (hprim:mV P prim) (fuel:Nat):∀ n,kJ P (jg F T prim fuel n):=by
  intro n
  induction n with
  | zero=>intro q vs st v st' h; cases h
  | succ n ih =>
    intro q vs st v st' h
    simp only [jg] at h
    split at h
    · rename_i v1 hv
      cases h
      obtain ⟨h1,h2⟩:=hprim q vs v hv
      exact ⟨h1,(h2 st).acalls⟩
    · split at h
      · rename_i fn hfn
        split at h
        · rename_i hlen
          obtain ⟨hent,X,hX,hf⟩:=hT q fn hfn
          refine ⟨hent,?_⟩
          refine l7 hmix hf hlen ?_
          rw [hX]
          refine xFun_ok ih ?_ h
          intro q' vs' v' h'
          simp only at h'
          split at h'
          · rename_i hall
            split at h'
            · rename_i v1 st1 h1
              split at h'
              · rename_i hnb
                cases h'
                obtain ⟨e1,hA⟩:=ih q' vs' ⟨[]⟩ _ _ h1
                refine ⟨e1,e8 (hA.mono fun v2 st2 e=>?_) fun x hx=>mU 6 x (List.all_eq_true.1 hall x hx)⟩
                obtain ⟨rfl,rfl⟩:=e
                exact .le _ _ (.refl _) (mU 6 _ hnb)
              · cases h'
            · cases h'
          · cases h'
        · cases h
      · cases h
theorem x_run (hmix:P.follows .mixedOrders = true) {T:FuncId→Option AFun} {prim:FuncId→List AV→Option AV} (hT:kL P F T) (hprim:mV P prim) (fuel n:Nat) {q:FuncId} {vs:List AV} {st st':St} {v:AV} (h:jg F T prim fuel n q vs st = some (v,st')) :
    aZ P q = true∧az P q vs st fun v' st''=>v' = v∧st'' = st':=xCalls_ok hmix hT hprim fuel n q vs st v st' h
theorem x_pure (hmix:P.follows .mixedOrders = true) {T:FuncId→Option AFun} {prim:FuncId→List AV→Option AV} (hT:kL P F T) (hprim:mV P prim) (fuel n:Nat) {q:FuncId} {vs:List AV} {v:AV} (h:(jg F T prim fuel n q vs ⟨[]⟩).map Prod.fst = some v) (hvs:vs.all (nbB 6) = true) (hv:nbB 6 v = true) (st:St) :
    aw P q vs st v:=by
  obtain ⟨r,hr,rfl⟩:=map_some h
  obtain ⟨_,hA⟩:=x_run hmix hT hprim fuel n (v:=r.1) (st':=r.2) hr
  exact e8 (hA.mono fun v2 st2 e=>by obtain ⟨rfl,rfl⟩:=e; exact .le _ _ (.refl _) (mU 6 _ hv)) (fun x hx=>mU 6 x (List.all_eq_true.1 hvs x hx)) st
end
end Go.Fx
/- Evaluation by rewriting: small equations, and steps at branches. -/
namespace Go.Fx
open Go
section
variable (v:Value) (vs cs:List AV) (i o k s t n l c:Nat) (b:Bool) (x:AV) (f:Fn) (w:Option Nat)
theorem mW:(AV.lit v).dis = .lit v:=rfl
theorem mX:(AV.ptr i o).dis = .ptr i o:=rfl
theorem dis_sl:(AV.sl b k cs).dis = .sl false k cs:=rfl
theorem mkSl_nil (k:Nat):mkSl k [] = .sl true k []:=rfl
theorem eM (k:Nat) (v:Value) (r:List AV):mkSl k (.lit v::r) = .sl true k (.lit v::r):=rfl
theorem dis_agg:(AV.agg cs).dis = .agg (cs.map AV.own1):=rfl
theorem dy:(AV.tup cs).dis = .tup (cs.map AV.own2):=rfl
theorem eC:(AV.bs i k o l c).dis = .bs i k o l c:=rfl
theorem kM:(AV.lit v).own1 = .lit v:=rfl
theorem cP:(AV.sl b k cs).own1 = .sl false k cs:=rfl
theorem cK:(AV.lit v).own2 = .lit v:=rfl
theorem cL:(AV.agg cs).own2 = .agg (cs.map AV.own1):=rfl
theorem ai:(AV.lit v).cells = [.lit v]:=rfl
theorem aR:(AV.sl b k cs).cells = [.sl b k cs]:=rfl
theorem l9:(AV.agg cs).cells = cs:=rfl
theorem kN:(AV.lit v).solid1 = true:=rfl
theorem ma:(AV.sl b k cs).solid1 = true:=rfl
theorem solid_eq:x.solid = x.cells.all AV.solid1:=rfl
theorem noL_lit:(AV.lit v).noL = true:=rfl
theorem jU:(AV.ptr i o).noL = true:=rfl
theorem mY:(AV.sl b k cs).noL = true:=rfl
theorem ba:(AV.agg cs).noL = true:=rfl
theorem bk:(AV.tup cs).noL = true:=rfl
theorem jh:(AV.bs i k o l c).noL = true:=rfl
theorem d8:kill s (.lit v) = .lit v:=rfl
theorem cq:kill s (.ptr i o) = .ptr i o:=rfl
theorem eN:kill s (.lptr t o) = if t = s then .any else .lptr t o:=rfl
theorem kill_cptr:kill s (.cptr cs) = .cptr cs:=rfl
theorem dL:kill s (.sl b k cs) = .sl b k cs:=rfl
theorem dg:kill s (.agg cs) = .agg cs:=rfl
theorem eO:kill s (.tup cs) = .tup cs:=rfl
end
section
variable (F:Nat→FuncId) (sf:Sf) (t g:Nat) (v:AV) (st:St)
theorem ev_r:sf.ev F (.r t) = sf.reg t:=rfl
theorem ev_c:sf.ev F (.c v) = v:=rfl
theorem ev_f:sf.ev F (.f g) = .fn (.func (F g)) [] []:=rfl
theorem evOwn_r:sf.evOwn F (.r t) = sf.reg t:=rfl
theorem disOp_r:sf.disOp (.r t) = sf.disAt t:=rfl
theorem setB_r (b:Bool):(Opd.r t).setB sf b = sf.set t (.lit (.bool b)):=rfl
theorem putS (d:Nat):sf.put (some d) v = sf.set d v:=rfl
variable (k k':IntKind) (a b:Int) (p q:Bool) (sa sb:ByteArray)
theorem bQ:binI .num .add (.lit (.int k a)) (.lit (.int k b)) = .ok (.lit (.int k (k.wrap (a + b)))):=by cases k <;> rfl
theorem jK:binI .num .sub (.lit (.int k a)) (.lit (.int k b)) = .ok (.lit (.int k (k.wrap (a - b)))):=by cases k <;> rfl
theorem n_mul:binI .num .mul (.lit (.int k a)) (.lit (.int k b)) = .ok (.lit (.int k (k.wrap (a * b)))):=by cases k <;> rfl
theorem iE:binI .num .eql (.lit (.int k a)) (.lit (.int k b)) = .ok (.lit (.bool (decide (a = b)))):=by cases k <;> rfl
theorem n_neq:binI .num .neq (.lit (.int k a)) (.lit (.int k b)) = .ok (.lit (.bool (decide (¬ a = b)))):=by
  have h:(a != b) = decide (¬ a = b):=by rw [bne_eq,decide_not]; rfl
  rw [← h]
  cases k <;> rfl
theorem cr:binI .num .lss (.lit (.int k a)) (.lit (.int k b)) = .ok (.lit (.bool (decide (a < b)))):=by cases k <;> rfl
theorem cu:binI .num .gtr (.lit (.int k a)) (.lit (.int k b)) = .ok (.lit (.bool (decide (a > b)))):=by cases k <;> rfl
end
theorem req_dec {A:Type} {p:Prop} [Decidable p] {r:Res A} {K:A→Prop} (h:p):(Res.req (decide p) r).wp K = r.wp K:=by
  rw [wp_req,decide_eq_true h]
  exact propext ⟨fun q=>q.2,fun q=>⟨rfl,q⟩⟩
theorem req_tt {A:Type} {r:Res A} {K:A→Prop}:(Res.req true r).wp K = r.wp K:=propext ⟨fun q=>q.2,fun q=>⟨rfl,q⟩⟩
theorem n_quo {k:IntKind} {a b:Int} (h:b≠0):binI .num .quo (.lit (.int k a)) (.lit (.int k b)) = .req true (.ok (.lit (.int k (k.wrap (a.tdiv b))))):=by
  have:(b != 0) = true:=by simpa using h
  rw [← this]
  cases k <;> rfl
theorem n_rem {k:IntKind} {a b:Int} (h:b≠0):binI .num .rem (.lit (.int k a)) (.lit (.int k b)) = .req true (.ok (.lit (.int k (a.tmod b)))):=by
  have:(b != 0) = true:=by simpa using h
  rw [← this]
  cases k <;> rfl
section
variable {x:Opd} {p:Prop} [Decidable p] {A B:Sf→St→(Exit→Sf→St→Prop)→Prop} {sf:Sf} {st:St} {Q:Exit→Sf→St→Prop} {t:Nat} {b:Bool} {Y N:Sf→St→Prop}
theorem mZ:fo x (.lit (.bool true)) A B sf st Q = A (x.setB sf true) st Q:=by
  rw [ir]; exact propext ⟨fun h=>h.1 rfl,fun h=>⟨fun _=>h,fun e=>by cases e⟩⟩
theorem m2:fo x (.lit (.bool false)) A B sf st Q = B (x.setB sf false) st Q:=by
  rw [ir]; exact propext ⟨fun h=>h.2 rfl,fun h=>⟨fun e=>(by cases e),fun _=>h⟩⟩
theorem dh (h:p):fo x (.lit (.bool (decide p))) A B sf st Q = A (x.setB sf true) st Q:=by
  rw [decide_eq_true h,mZ]
theorem bU (h:¬ p):fo x (.lit (.bool (decide p))) A B sf st Q = B (x.setB sf false) st Q:=by
  rw [decide_eq_false h,m2]
theorem aG (h1:p→A (x.setB sf true) st Q) (h2:¬ p→B (x.setB sf false) st Q):fo x (.lit (.bool (decide p))) A B sf st Q:=by
  by_cases h:p
  · rw [dh h]; exact h1 h
  · rw [bU h]; exact h2 h
theorem kP {want:Bool}:dE t want (.lit (.bool true)) Y N sf st = if want = true then Y (sf.set t (.lit (.bool true))) st else N (sf.set t (.lit (.bool true))) st:=by
  rw [jf]
  cases want
  · exact propext ⟨fun h=>h.2 rfl,fun h=>⟨fun e=>(by cases e),fun _=>h⟩⟩
  · exact propext ⟨fun h=>h.1 rfl,fun h=>⟨fun _=>h,fun e=>(by cases e)⟩⟩
theorem di {want:Bool}:dE t want (.lit (.bool false)) Y N sf st = if want = true then N (sf.set t (.lit (.bool false))) st else Y (sf.set t (.lit (.bool false))) st:=by
  rw [jf]
  cases want
  · exact propext ⟨fun h=>h.1 rfl,fun h=>⟨fun _=>h,fun e=>(by cases e)⟩⟩
  · exact propext ⟨fun h=>h.2 rfl,fun h=>⟨fun e=>(by cases e),fun _=>h⟩⟩
theorem guard_yes (h:p) {want:Bool}:dE t want (.lit (.bool (decide p))) Y N sf st = if want = true then Y (sf.set t (.lit (.bool true))) st else N (sf.set t (.lit (.bool true))) st:=by
  rw [decide_eq_true h,kP]
theorem guard_no (h:¬ p) {want:Bool}:dE t want (.lit (.bool (decide p))) Y N sf st = if want = true then N (sf.set t (.lit (.bool false))) st else Y (sf.set t (.lit (.bool false))) st:=by
  rw [decide_eq_false h,di]
theorem jL {want:Bool} (h1:p→if want = true then Y (sf.set t (.lit (.bool true))) st else N (sf.set t (.lit (.bool true))) st) (h2:¬ p→if want = true then N (sf.set t (.lit (.bool false))) st else Y (sf.set t (.lit (.bool false))) st):dE t want (.lit (.bool (decide p))) Y N sf st:=by
  by_cases h:p
  · rw [guard_yes h]; exact h1 h
  · rw [guard_no h]; exact h2 h
end
def kQ:List Nat→List (Nat×AV)→List (Nat×AV)
  | [],_=>[]
  | t::r,l=>(t,getR l t)::kQ r l
theorem mc (l:List (Nat×AV)):kQ [] l = []:=rfl
theorem kR (t:Nat) (r:List Nat) (l:List (Nat×AV)):kQ (t::r) l = (t,getR l t)::kQ r l:=rfl
theorem mask_eq (sf:Sf) (lv ll:List Nat):sf.mask lv ll = ⟨kQ lv sf.regs,fO ll sf.locs⟩:=by
  have:∀ lv:List Nat,(lv.map fun t=>(t,sf.reg t)) = kQ lv sf.regs:=by
    intro lv
    induction lv with
    | nil=>rfl
    | cons t r ih=>simp only [List.map_cons,kQ,ih]; rfl
  unfold Sf.mask
  rw [this]
theorem and_pre {p q:Prop} (h:p):(p∧q) = q:=propext ⟨fun a=>a.2,fun a=>⟨h,a⟩⟩
theorem dj {n bytes:Nat} (h:n * bytes≤140737488355328∧n≤1000000000000000):fA n bytes = true:=decide_eq_true h
theorem bf (k:NilK) (x y:AV):binI (.nil k) .eql x y = (Res.ofOpt (aP k x y)).bind fun b=>.ok (.lit (.bool b)):=rfl
theorem b_neq (a b:Bool):binI .bool .neq (.lit (.bool a)) (.lit (.bool b)) = .ok (.lit (.bool !(a == b))):=rfl
theorem nilX_nil (op:BinOp) (C:AV→St→Prop) (st:St):nilX op (.lit (.slice none 0 0)) (.lit (.slice none 0 0)) C st = (binI (.nil .sl) op (.lit (.slice none 0 0)) (.lit (.slice none 0 0))).wp (atS C st):=rfl
theorem nilX_cons (op:BinOp) (o:Bool) (k:Nat) (x:AV) (l:List AV) (C:AV→St→Prop) (st:St):nilX op (.sl o k (x::l)) (.lit (.slice none 0 0)) C st = (binI (.nil .sl) op (.sl o k (x::l)) (.lit (.slice none 0 0))).wp (atS C st):=rfl
theorem nilX_empty (op:BinOp) (o:Bool) (k:Nat) (C:AV→St→Prop) (st:St):nilX op (.sl o k []) (.lit (.slice none 0 0)) C st = ∀ b:Bool,C (.lit (.bool b)) st:=rfl
theorem kS (c:AV) (r:List AV):jA none (c::r) = .ok c:=rfl
theorem al (n:Nat) (r:List AV):jA (some n) r = .req (decide (n≤r.length)) (.ok (.agg (r.take n))):=rfl
section
variable (c a b:AV) (q:Bool) (vs:List AV) (i:Nat)
theorem pick_tt:pickV (.lit (.bool true)) a b = .ok a.dis:=rfl
theorem fc:pickV (.lit (.bool false)) a b = .ok b.dis:=rfl
theorem not_dec (p:Prop) [Decidable p]:(!decide p) = decide (¬ p):=(decide_not).symm
end
end Go.Fx
/- What j0 of weaker demands; loops that are carried out round by round. -/
namespace Go.Fx
open Go
section
variable {P:Program} {F:Nat→FuncId} {m:Bool}
theorem callI_mono {p:Bool} {d:Option Nat} {f:AV} {args:List AV} {K K':Sf→St→Prop} {sf:Sf} {st:St} (h:∀ sf st,K sf st→K' sf st):ik P m p d f args K sf st→ik P m p d f args K' sf st:=by
  unfold ik
  split
  · rintro ⟨h1,h2⟩
    refine ⟨h1,?_⟩
    split
    · rename_i e; rw [if_pos e] at h2; obtain ⟨a,v,b,c⟩:=h2; exact ⟨a,v,b,h _ _ c⟩
    · rename_i e; rw [if_neg e] at h2; obtain ⟨a,Q,b,c⟩:=h2; exact ⟨a,Q,b,fun v st' q=>h _ _ (c v st' q)⟩
  · rintro ⟨h1,h2,Q,h3,h4⟩; exact ⟨h1,h2,Q,h3,fun t st' q=>h _ _ (h4 t st' q)⟩
  · exact id
theorem appX_mono {m:Bool} {k bytes:Nat} {b:AV} {C C':AV→St→Prop} {st:St} {new:List AV} (h:∀ v st,C v st→C' v st):appX m k bytes b C st new→appX m k bytes b C' st new:=by
  unfold appX
  split
  · rintro ⟨h1,h2,h3,h4⟩
    refine ⟨h1,h2,h3,Res.wp_mono h4 fun cs hc=>?_⟩
    split
    · rename_i e; rw [if_pos e] at hc; exact ⟨hc.1,h _ _ hc.2⟩
    · rename_i e; rw [if_neg e] at hc; exact ⟨hc.1,fun c hc'=>h _ _ (hc.2 c hc')⟩
  · rintro ⟨h1,h2,h3⟩
    refine ⟨h1,h2,?_⟩
    split
    · rename_i e; rw [if_pos e] at h3; exact h _ _ h3
    · rename_i e; rw [if_neg e] at h3; exact fun c hc=>h _ _ (h3 c hc)
  · exact id
theorem stepX_mono {i:XI} {d:Option Nat} {K K':Sf→St→Prop} {sf:Sf} {st:St} (h:∀ sf st,K sf st→K' sf st):ak F m i d K sf st→ak F m i d K' sf st:=by
  have hk:∀ v st,putK K d sf v st→putK K' d sf v st:=fun v st=>h _ _
  cases i with
  | ldF x k=>exact id
  | bad=>exact id
  | nilU op x y =>
    simp only [ak,nilX]
    split
    · exact fun q b=>hk _ _ (q b)
    · exact fun q=>Res.wp_mono q fun v=>hk v st
  | appB s k bytes y=>exact fun q=>Res.wp_mono q fun es=>appX_mono hk
  | copyB k x y =>
    refine fun q=>Res.wp_mono q fun es=>?_
    unfold eo
    split
    · rintro ⟨h1,h2,h3,h4⟩; exact ⟨h1,h2,h3,Res.wp_mono h4 fun cs hc=>⟨hc.1,hk _ _ hc.2⟩⟩
    · exact fun q=>⟨q.1,hk _ _ q.2⟩
    · exact fun q=>⟨q.1,hk _ _ q.2⟩
    · exact id
  | clrB k z x =>
    simp only [ak,clrX]
    split
    · rintro ⟨h1,h2,h4⟩; exact ⟨h1,h2,Res.wp_mono h4 fun cs hc=>⟨hc.1,hk _ _ hc.2⟩⟩
    · exact hk _ _
    · exact hk _ _
    · exact id
  | clrM x =>
    simp only [ak,clrMX]
    split
    · rintro ⟨h1,h4⟩; exact ⟨h1,Res.wp_mono h4 fun cs hc=>hk _ _ hc⟩
    · exact hk _ _
    · exact id
  | mksB k bytes z l c =>
    simp only [ak,lP]
    split
    · rintro ⟨h1,h2,h3,h4,h5,h6⟩; exact ⟨h1,h2,h3,h4,h5,hk _ _ h6⟩
    · exact id
  | mks k bytes z l c =>
    simp only [ak,mksX]
    split
    · rintro ⟨h2,h3,h4,h5,h6⟩; exact ⟨h2,h3,h4,h5,hk _ _ h6⟩
    · exact id
  | mknz x =>
    simp only [ak,mknzX]
    split
    · rintro ⟨h2,h3,h4,h5⟩; exact ⟨h2,h3,h4,fun c hc=>hk _ _ (h5 c hc)⟩
    · exact id
  | slA n k x lo hi mx =>
    simp only [ak,slAX]
    split
    · exact fun q=>Res.wp_mono q fun v=>hk v st
    · exact id
  | rng x =>
    simp only [ak,rngX]
    split
    · exact fun q=>Res.wp_mono q fun _=>hk _ _
    · exact hk _ _
    · exact id
  | nxt s =>
    simp only [ak,nxtX]
    split
    · exact h _ _
    · refine fun q=>Res.wp_mono q fun es ⟨h1,h2,h3,h4⟩=>⟨h1,h2,fun i k x b a1 a2 a3=>h _ _ (h3 i k x b a1 a2 a3),fun a=>h _ _ (h4 a)⟩
    · exact id
  | ent s =>
    simp only [ak,entX]
    split
    · exact fun q=>Res.wp_mono q fun es ⟨h1,i,k,x,b,h2,h3,h4,h5⟩=>⟨h1,i,k,x,b,h2,h3,h4,hk _ _ h5⟩
    · exact id
  | mclone x =>
    simp only [ak,ig]
    split
    · rintro ⟨h1,h4⟩; exact ⟨h1,Res.wp_mono h4 fun cs hc=>hk _ _ hc⟩
    · exact id
  | mark s =>
    simp only [ak,markX]
    split
    · exact h _ _
    · exact id
  | bstO places z parts=>exact fun q=>Res.wp_mono q fun v=>h _ _
theorem ji {i:AI} {K K':Sf→St→Prop} {sf:Sf} {st:St} (h:∀ sf st,K sf st→K' sf st):oneI P F m i K sf st→oneI P F m i K' sf st:=by
  unfold oneI
  split
  · exact callI_mono h
  · exact stepX_mono h
  · exact fun q=>Res.wp_mono q fun r=>h r.1 r.2
theorem bw:∀ {l:List GI} {K K':Sf→St→Prop} {sf:Sf} {st:St},(∀ sf st,K sf st→K' sf st)→runI P F m l K sf st→runI P F m l K' sf st
  | [],K,K',sf,st,h=>h _ _
  | ⟨none, i⟩ :: r, K, K', sf, st, h => by
    simp only [runI]
    exact ji fun sf st=>bw h
  | ⟨some (t, want), i⟩ :: r, K, K', sf, st, h => by
    simp only [runI,dE]
    split
    · intro q c hc
      have q:=q c hc
      split
      · rename_i e; rw [if_pos e] at q; exact ji (fun sf st=>bw h) q
      · rename_i e; rw [if_neg e] at q; exact bw h q
    · exact fun ⟨a,b⟩=>⟨ji (fun sf st=>bw h) a,bw h b⟩
    · exact bw h
    · exact id
theorem iF {locs0:List (Nat×List AV)} {st:St} {i:AI} {C C':PK→Sf→Prop} {sf:Sf} (h:∀ k sf,C k sf→C' k sf):am P F locs0 st i C sf→am P F locs0 st i C' sf:=by
  unfold am
  split
  · unfold eH
    split
    · rintro ⟨h1,h2,v,h3,h4⟩; exact ⟨h1,h2,v,h3,h _ _ h4⟩
    · exact id
  · exact h _ _
  · unfold cI
    split
    · unfold cY
      split
      · rintro ⟨h1,h2,h3,h4⟩; exact ⟨h1,h2,h3,h _ _ h4⟩
      · exact id
    · unfold gh
      split
      · rintro ⟨h1,h2,h3⟩; exact ⟨h1,h2,h _ _ h3⟩
      · exact id
    · exact id
  · unfold im
    split
    · exact fun q=>Res.wp_mono q fun v=>h _ _
    · exact fun q=>Res.wp_mono q fun v=>h _ _
  · exact fun q=>Res.wp_mono q fun v=>h _ _
  · exact fun q=>Res.wp_mono q fun v=>h _ _
theorem d9 {locs0:List (Nat×List AV)} {st:St}:∀ {l:List GI} {K K':List PK→Sf→Prop} {ks:List PK} {sf:Sf},(∀ ks sf,K ks sf→K' ks sf)→ap P F locs0 st l K ks sf→ap P F locs0 st l K' ks sf
  | [],K,K',ks,sf,h=>h _ _
  | ⟨none, i⟩ :: r, K, K', ks, sf, h => by
    simp only [ap]
    exact iF fun k sf=>d9 h
  | ⟨some (t, want), i⟩ :: r, K, K', ks, sf, h => by
    simp only [ap,db]
    split
    · intro q c hc
      have q:=q c hc
      split
      · rename_i e; rw [if_pos e] at q; exact iF (fun k sf=>d9 h) q
      · rename_i e; rw [if_neg e] at q; exact d9 h q
    · exact d9 h
    · exact id
theorem dT {locs0:List (Nat×List AV)} {ρ:St} {i:AI} {C C':PK→Sf→Prop} {sf:Sf} (h:∀ k sf,C k sf→C' k sf):oneM P F locs0 ρ i C sf→oneM P F locs0 ρ i C' sf:=by
  unfold oneM
  split
  · unfold callM1
    split
    · rintro ⟨h1,h2,v,h3,h4⟩; exact ⟨h1,h2,v,h3,h _ _ h4⟩
    · exact id
  · exact h _ _
  · unfold cI
    split
    · unfold cY
      split
      · rintro ⟨h1,h2,h3,h4⟩; exact ⟨h1,h2,h3,h _ _ h4⟩
      · exact id
    · unfold gh
      split
      · rintro ⟨h1,h2,h3⟩; exact ⟨h1,h2,h _ _ h3⟩
      · exact id
    · exact id
  · exact fun q=>Res.wp_mono q fun v=>h _ _
theorem fV {t:Nat} {want:Bool} {v:AV} {Y Y' N N':Sf→Prop} {sf:Sf} (hy:∀ sf,Y sf→Y' sf) (hn:∀ sf,N sf→N' sf):db t want v Y N sf→db t want v Y' N' sf:=by
  unfold db
  split
  · intro q c hc
    have q:=q c hc
    split
    · rename_i e; rw [if_pos e] at q; exact hy _ q
    · rename_i e; rw [if_neg e] at q; exact hn _ q
  · exact hn _
  · exact id
theorem cz {locs0:List (Nat×List AV)} {ρ:St}:∀ {l:List GI} {K K':List PK→Sf→Prop} {ks:List PK} {sf:Sf},(∀ ks sf,K ks sf→K' ks sf)→preM P F locs0 ρ l K ks sf→preM P F locs0 ρ l K' ks sf
  | [],K,K',ks,sf,h=>h _ _
  | ⟨none, i⟩ :: r, K, K', ks, sf, h => by
    simp only [preM]
    exact dT fun v sf=>cz h
  | ⟨some (t, want), i⟩ :: r, K, K', ks, sf, h => by
    simp only [preM]
    exact fV (fun sf=>dT fun v sf=>cz h) fun sf=>cz h
theorem du {locs0:List (Nat×List AV)} {ρ:St}:∀ {l:List (Bool×GI)} {K K':List PK→Prop} {ks:List PK} {sf:Sf},(∀ ks,K ks→K' ks)→bC P F locs0 ρ l K ks sf→bC P F locs0 ρ l K' ks sf
  | [],K,K',ks,sf,h=>h _
  | (true, g) :: r, K, K', ks, sf, h => by
    simp only [bC]
    exact du h
  | (false, ⟨none, i⟩) :: r, K, K', ks, sf, h => by
    simp only [bC]
    exact dT fun v sf=>du h
  | (false, ⟨some (t, want), i⟩) :: r, K, K', ks, sf, h => by
    simp only [bC]
    exact fV (fun sf=>dT fun v sf=>du h) fun sf=>du h
theorem callM_mono {locs0:List (Nat×List AV)} {ρ st:St} {d:Option Nat} {f:AV} {args:List AV} {post:List (Bool×GI)} {drop:List Nat} {T T':St→Sf→Prop} {ks1:List PK} {sf:Sf} (h:∀ st sf,T st sf→T' st sf):jC P F locs0 ρ st d f args post drop T ks1 sf→jC P F locs0 ρ st d f args post drop T' ks1 sf:=by
  unfold jC
  split
  · rintro ⟨h1,h2,Qc,h3,h4⟩
    exact ⟨h1,h2,Qc,h3,du (fun ks hk=>⟨hk.1,fun v s hq=>⟨(hk.2 v s hq).1,cz (fun ks sf hp=>⟨hp.1,hp.2.1,h _ _ hp.2.2⟩) (hk.2 v s hq).2⟩⟩) h4⟩
  · exact id
theorem appM_mono {locs0:List (Nat×List AV)} {ρ st:St} {d:Option Nat} {k bytes:Nat} {b y:AV} {post:List (Bool×GI)} {drop:List Nat} {T T':St→Sf→Prop} {ks1:List PK} {sf:Sf} (h:∀ st sf,T st sf→T' st sf):appM P F locs0 ρ st d k bytes b y post drop T ks1 sf→appM P F locs0 ρ st d k bytes b y post drop T' ks1 sf:=by
  rintro ⟨h1,h2,Qc,h3,h4⟩
  exact ⟨h1,h2,Qc,h3,du (fun ks hk=>⟨hk.1,fun v s hq=>⟨(hk.2 v s hq).1,cz (fun ks sf hp=>⟨hp.1,hp.2.1,h _ _ hp.2.2⟩) (hk.2 v s hq).2⟩⟩) h4⟩
theorem callC_mono {locs0:List (Nat×List AV)} {st:St} {d:Option Nat} {f:AV} {args:List AV} {post:List GI} {T T':St→Sf→Prop} {ks1:List PK} {sf:Sf} (h:∀ st sf,T st sf→T' st sf):callC P F locs0 st d f args post T ks1 sf→callC P F locs0 st d f args post T' ks1 sf:=by
  unfold callC
  split
  · rintro ⟨h1,h2,h3,Qc,h4,h5⟩
    exact ⟨h1,h2,h3,Qc,h4,fun v s hq=>cz (fun ks sf hp=>⟨hp.1,h _ _ hp.2⟩) (h5 v s hq)⟩
  · exact id
theorem oneX1_mono {ρ:St} {SX:Nat→St→Prop} {j:Nat} {i:AI} {C C':PK→Sf→Prop} {sf:Sf} (h:∀ k sf,C k sf→C' k sf):lZ P F ρ SX j i C sf→lZ P F ρ SX j i C' sf:=by
  unfold lZ
  split
  · unfold callX1
    split
    · rintro ⟨h1,h2,v,h3,h4⟩; exact ⟨h1,h2,v,h3,h _ _ h4⟩
    · exact id
  · exact id
theorem eP {locs0:List (Nat×List AV)} {ρ:St} {SX:Nat→St→Prop}:∀ {l:List (Bool×GI)} {j:Nat} {K K':Nat→List PK→Sf→Prop} {ks:List PK} {sf:Sf},(∀ j ks sf,K j ks sf→K' j ks sf)→preX P F locs0 ρ SX j l K ks sf→preX P F locs0 ρ SX j l K' ks sf
  | [],j,K,K',ks,sf,h=>by simp only [preX]; exact h _ _ _
  | (true, ⟨none, i⟩) :: r, j, K, K', ks, sf, h => by
    simp only [preX]
    exact oneX1_mono fun v sf=>eP h
  | (true, ⟨some _, i⟩) :: r, j, K, K', ks, sf, h => by
    simp only [preX]
    exact id
  | (false, ⟨none, i⟩) :: r, j, K, K', ks, sf, h => by
    simp only [preX]
    exact dT fun v sf=>eP h
  | (false, ⟨some (t, want), i⟩) :: r, j, K, K', ks, sf, h => by
    simp only [preX]
    exact fV (fun sf=>dT fun v sf=>eP h) fun sf=>eP h
theorem aC_mono:∀ {c:AC} {Q Q':Exit→Sf→St→Prop} {sf:Sf} {st:St},(∀ e sf st,Q e sf st→Q' e sf st)→aC P F m c sf st Q→aC P F m c sf st Q':=by
  intro c
  induction c with
  | skip=>intro Q Q' sf st h; exact h _ _ _
  | ops lv ll l=>intro Q Q' sf st h; exact bw fun sf st=>h _ _ _
  | draw lv ll dr hl tl=>intro Q Q' sf st h; exact d9 fun ks sf ⟨h1,h2⟩=>⟨h1,bw (fun sf st=>h _ _ _) h2⟩
  | drawM lv ll pre d f args post tl =>
    intro Q Q' sf st h
    rintro ⟨hm,ρ,hs,hp⟩
    exact ⟨hm,ρ,hs,cz (fun ks sf=>callM_mono fun st sf=>bw fun sf st=>h _ _ _) hp⟩
  | drawA lv ll pre d b k bytes y post tl =>
    intro Q Q' sf st h
    rintro ⟨hm,ρ,hs,hp⟩
    exact ⟨hm,ρ,hs,cz (fun ks sf=>appM_mono fun st sf=>bw fun sf st=>h _ _ _) hp⟩
  | drawC lv ll pre d f args post tl =>
    intro Q Q' sf st h
    rintro ⟨hm,hp⟩
    exact ⟨hm,cz (fun ks sf=>callC_mono fun st sf=>bw fun sf st=>h _ _ _) hp⟩
  | drawG lv ll dr fl tl =>
    intro Q Q' sf st h
    rintro ⟨hm,SX,h0,hs,q⟩
    exact ⟨hm,SX,h0,hs,eP (fun j ks sf ⟨h1,h2⟩=>⟨h1,fun s a=>bw (fun sf st=>h _ _ _) (h2 s a)⟩) q⟩
  | seq a b iha ihb =>
    intro Q Q' sf st h
    exact iha fun e sf st=>by
      cases e with
      | normal=>exact ihb h
      | _=>exact h _ _ _
  | cond x a b iha ihb =>
    intro Q Q' sf st h
    simp only [aC,fo]
    split
    · exact fun q=>⟨fun e=>iha h (q.1 e),fun e=>ihb h (q.2 e)⟩
    · exact id
  | block id b ih =>
    intro Q Q' sf st h
    exact ih fun e sf st=>by
      cases e with
      | exit i =>
        simp only [e7]
        split
        · exact h _ _ _
        · exact h _ _ _
      | _=>exact h _ _ _
  | loop lv ll b ih =>
    intro Q Q' sf st h
    rintro ⟨I,h0,hr⟩
    exact ⟨I,h0,fun k sf st hi=>ih (fun e sf st=>by
      cases e with
      | normal=>exact fun q=>q
      | _=>exact h _ _ _) (hr k sf st hi)⟩
  | exit lv ll id=>intro Q Q' sf st h; exact h _ _ _
  | scope b ih =>
    intro Q Q' sf st h
    exact ih fun e sf st=>by
      cases e with
      | goto l=>exact fun q=>q
      | _=>exact h _ _ _
  | rangeF lv ll x ps lb a b _ _ =>
    intro Q Q' sf st h
    rintro ⟨hm,hr⟩
    refine ⟨hm,?_⟩
    unfold mM at hr ⊢
    split at hr
    · obtain ⟨h1,h2⟩:=hr
      refine ⟨h1,fun r hy=>?_⟩
      obtain ⟨Qc,h3,h4⟩:=h2 r hy
      refine ⟨Qc,h3,fun v st' q=>?_⟩
      rcases h4 v st' q with ⟨a,b⟩ | ⟨a,b⟩ | ⟨k,a,b⟩
      · exact .inl ⟨a,h _ _ _ b⟩
      · exact .inr (.inl ⟨a,h _ _ _ b⟩)
      · exact .inr (.inr ⟨k,a,h _ _ _ b⟩)
    · exact hr.elim
  | ret=>intro Q Q' sf st h; exact h _ _ _
  | bad=>intro Q Q' sf st h; exact fun q=>q
end
theorem tabOk_nil {P:Program} {F:Nat→FuncId}:kL P F (fun _=>none):=fun q fn h=>by cases h
theorem ao {P:Program} {F:Nat→FuncId} {T:FuncId→Option AFun} {n:FuncId} {X:Cx} {c:AFun} (h1:aZ P n = true) (h2:jG P X n = some c) (h3:X.F = F) (hT:kL P F T):kL P F (fun q=>if q = n then some c else T q):=by
  intro q fn h
  by_cases e:q = n
  · subst e
    simp only [if_true,Option.some.injEq] at h
    subst h
    exact ⟨h1,X,h3,h2⟩
  · simp only [e,if_false] at h
    exact hT q fn h
def unrQ (L:Sf→St→Prop) (Q:Exit→Sf→St→Prop):Exit→Sf→St→Prop
  | .normal,sf,st=>L sf st
  | e,sf,st=>Q e sf st
section
variable {P:Program} {F:Nat→FuncId} {m:Bool} {b:AC} {lv ll:List Nat} {Q:Exit→Sf→St→Prop}
def loopN (P:Program) (F:Nat→FuncId) (m:Bool) (b:AC) (lv ll:List Nat) (Q:Exit→Sf→St→Prop):Nat→Sf→St→Prop
  | 0,_,_=>False
  | n + 1,sf,st=>aC P F m b (sf.mask lv ll) st (unrQ (loopN P F m b lv ll Q n) Q)
theorem dC (n:Nat) {sf:Sf} {st:St} (h:loopN P F m b lv ll Q n sf st):br (aC P F m b) lv ll sf st Q:=by
  cases n with
  | zero=>exact h.elim
  | succ n =>
    refine ⟨fun k sf st=>aC P F m b sf st (unrQ (loopN P F m b lv ll Q k) Q),⟨n,_,Sf.le_refl _,h⟩,fun k sf st hk=>aC_mono (fun e sf st=>?_) hk⟩
    cases e with
    | normal =>
      cases k with
      | zero=>exact fun q=>q.elim
      | succ k=>exact fun q=>⟨k,Nat.lt_succ_self k,_,Sf.le_refl _,q⟩
    | _=>exact fun q=>q
variable (sf:Sf) (st:St) (L:Sf→St→Prop) (n:Nat)
theorem bV:loopN P F m b lv ll Q (n + 1) sf st = aC P F m b (sf.mask lv ll) st (unrQ (loopN P F m b lv ll Q n) Q):=rfl
theorem bR:unrQ L Q .normal sf st = L sf st:=rfl
theorem cA (id:Nat):unrQ L Q (.exit id) sf st = Q (.exit id) sf st:=rfl
end
end Go.Fx
/- Lists of cells, boxes and numbers: small laws for evaluation. -/
namespace Go.Fx
open Go
theorem jk (a b:Nat):(a:Int) + (b:Int) = ((a + b:Nat):Int):=by omega
theorem cB (a k:Nat):(a:Int) + (no_index (OfNat.ofNat k)) = ((a + OfNat.ofNat k:Nat):Int):=by exact id rfl
theorem go (a k:Nat):(no_index (OfNat.ofNat k):Int) + (a:Int) = ((OfNat.ofNat k + a:Nat):Int):=by exact id rfl
theorem jV {a k:Nat} (h:a≤OfNat.ofNat k):(no_index (OfNat.ofNat k):Int) - (a:Int) = ((OfNat.ofNat k - a:Nat):Int):=(Int.ofNat_sub h).symm
theorem me:∀ (vs cs:List AV) (i:Nat),(aQ cs i vs).length = cs.length
  | [],cs,i=>rfl
  | v::vs,cs,i=>by simp only [aQ]; rw [me vs]; simp
theorem mf (cs:List AV) (i:Nat):aQ cs i [] = cs:=by cases cs <;> rfl
theorem kT:Fx.cellsD [] = []:=rfl
theorem jl:∀ (vs xs rs:List AV),vs.length≤rs.length→aQ (xs++rs) xs.length vs = xs++(vs++rs.drop vs.length)
  | [],xs,rs,_=>by simp [aQ]
  | v::vs,xs,[],h=>by simp at h
  | v :: vs, xs, r :: rs, h => by
    simp only [aQ]
    have h1:(xs++r::rs).set xs.length v = (xs++[v])++rs:=by simp
    have h2:xs.length + 1 = (xs++[v]).length:=by simp
    rw [h1,h2,jl vs (xs++[v]) rs (by simpa using h)]
    simp
theorem kU {vs cs:List AV} (h:vs.length≤cs.length):aQ cs 0 vs = vs++cs.drop vs.length:=jl vs [] cs h
theorem dD {vs xs rs:List AV} {n:Nat} (hn:n = xs.length) (h:vs.length≤rs.length):aQ (xs++rs) n vs = xs++(vs++rs.drop vs.length):=by subst hn; exact jl vs xs rs h
def Lits (l:List AV):Prop:=∀ x ∈ l,∃ v,x = .lit v
theorem Lits.nil:Lits []:=fun _ h=>by cases h
theorem Lits.cons {v:Value} {l:List AV} (h:Lits l):Lits (.lit v::l):=fun x hx=>by
  rcases List.mem_cons.1 hx with rfl | hx
  · exact ⟨v,rfl⟩
  · exact h x hx
theorem Lits.app {l l':List AV} (h:Lits l) (h':Lits l'):Lits (l++l'):=fun x hx=>(List.mem_append.1 hx).elim (h x) (h' x)
theorem Lits.drop {l:List AV} (h:Lits l) (n:Nat):Lits (l.drop n):=fun x hx=>h x (List.mem_of_mem_drop hx)
theorem Lits.map {A:Type} (f:A→Value) (l:List A):Lits (l.map fun a=>.lit (f a)):=fun x hx=>by
  obtain ⟨a,_,rfl⟩:=List.mem_map.1 hx; exact ⟨_,rfl⟩
theorem Lits.dis {l:List AV} (h:Lits l):l.map AV.dis = l:=by
  induction l with
  | nil=>rfl
  | cons x r ih =>
    obtain ⟨v,rfl⟩:=h x (List.mem_cons_self ..)
    simp only [List.map_cons,mW]
    rw [ih fun y hy=>h y (List.mem_cons_of_mem _ hy)]
theorem Lits.own {l:List AV} (h:Lits l):l.map AV.own1 = l:=by
  induction l with
  | nil=>rfl
  | cons x r ih =>
    obtain ⟨v,rfl⟩:=h x (List.mem_cons_self ..)
    simp only [List.map_cons,kM]
    rw [ih fun y hy=>h y (List.mem_cons_of_mem _ hy)]
theorem Lits.cells {l:List AV} (h:Lits l):l.flatMap AV.cells = l:=by
  induction l with
  | nil=>rfl
  | cons x r ih =>
    obtain ⟨v,rfl⟩:=h x (List.mem_cons_self ..)
    simp only [List.flatMap_cons,ai]
    rw [ih fun y hy=>h y (List.mem_cons_of_mem _ hy)]
    rfl
theorem Lits.cellsD {l:List AV} (h:Lits l):Fx.cellsD l = l:=by unfold Fx.cellsD; rw [h.dis,h.cells]
theorem Lits.grp {l:List AV}:∀ (n:Nat) (l:List AV),n≤l.length→Fx.grp 1 n l = l.take n
  | 0,l,_=>by simp [Fx.grp]
  | n + 1,[],h=>by simp at h
  | n + 1,x::l,h=>by simp only [Fx.grp,if_true,List.getD_cons_zero,List.drop_succ_cons,List.drop_zero,List.take_succ_cons]; rw [Lits.grp (l:=l) n l (by simpa using h)]
theorem m3 {n:Nat} {l:List AV} (h:n≤l.length):grp 1 n l = l.take n:=Lits.grp (l:=l) n l h
theorem Lits.nb {l:List AV} (h:Lits l):∀ x ∈ l,x.NB:=fun x hx=>by obtain ⟨v,rfl⟩:=h x hx; exact .lit v
theorem aW {P:Program} {X:Cx} {f:FuncId} {fn:AFun} {vs:List AV} {st:St} (hmix:P.follows .mixedOrders = true) (hf:jG P X f = some fn) (hX:X.F = id) (hlen:Nat.ble vs.length fn.n = true) {K:AV→St→Prop} (h:aFun P id false fn vs st K):az P f vs st K:=by
  refine l7 hmix hf (Nat.le_of_ble_eq_true hlen) ?_
  rw [hX]; exact h
theorem bN (st:St) (cs:List AV):(st.push (.cells cs)).get st.boxes.length = some cs:=by simp [St.push,St.get]
theorem getM_push (st:St) (es:List (AV×AV)) (bs:List Nat) (k:Nat):(st.push (.mp es bs k)).getM st.boxes.length = some es:=by simp [St.push,St.getM]
theorem getB_push (st:St) (es:List (AV×AV)) (bs:List Nat) (k:Nat):(st.push (.mp es bs k)).getB st.boxes.length = (bs,k):=by simp [St.push,St.getB]
theorem eQ (st:St) (b:Box) (cs:List AV):(st.push b).set st.boxes.length cs = st.push (.cells cs):=by simp [St.push,St.set]
theorem len_push (st:St) (b:Box):(st.push b).boxes.length = st.boxes.length + 1:=by simp [St.push]
theorem m4 (st:St) (id:Nat) (cs:List AV):(st.set id cs).boxes.length = st.boxes.length:=by simp [St.set]
theorem dM {st:St} {b:Box} {id:Nat} (h:id < st.boxes.length):(st.push b).get id = st.get id:=by simp [St.push,St.get,List.getElem?_append_left h]
theorem cv {st:St} {id:Nat} {cs:List AV} (h:st.get id = some cs):id < st.boxes.length:=by
  rcases Nat.lt_or_ge id st.boxes.length with hl | hl
  · exact hl
  · simp [St.get,List.getElem?_eq_none hl] at h
theorem bE {st:St} {id:Nat} {cs:List AV} (h:id < st.boxes.length):(st.set id cs).get id = some cs:=by simp [St.set,St.get,h]
theorem ea {st:St} {id id':Nat} {cs:List AV} (h:id≠id'):(st.set id cs).get id' = st.get id':=by simp [St.set,St.get,List.getElem?_set_ne h]
theorem eu (st:St) (id:Nat) (cs ds:List AV):(st.set id cs).set id ds = st.set id ds:=by simp [St.set]
theorem kV (cs:List AV) (i:Nat) (v:AV) (vs:List AV):aQ cs i (v::vs) = aQ (cs.set i v) (i + 1) vs:=rfl
theorem mknz_eq (n:Int) (C:AV→St→Prop) (st:St) (h0:0≤n) (h1:n≤281474976710656) (h:∀ c:Nat,n.toNat≤c→C (.bs st.boxes.length 1 0 n.toNat c) (st.push (.cells (List.replicate c .any)))):mknzX false (.lit (.int .i64 n)) C st:=⟨rfl,h0,h1,h⟩
end Go.Fx
/- Loops with states that are told; lists of bytes. -/
namespace Go.Fx
open Go
section
variable {P:Program} {F:Nat→FuncId} {m:Bool} {b:AC} {lv ll:List Nat} {Q:Exit→Sf→St→Prop}
def stepQ {A:Type} (S:A→Sf) (T:A→St) (R:A→Prop) (lv ll:List Nat) (Q:Exit→Sf→St→Prop):Exit→Sf→St→Prop
  | .normal,sf,st=>∃ a,R a∧Sf.le (sf.mask lv ll) (S a)∧st = T a
  | e,sf,st=>Q e sf st
theorem fW {A:Type} (μ:A→Nat) (S:A→Sf) (T:A→St) (I:A→Prop) (a0:A) {sf:Sf} {st:St} (h0:I a0) (hs:Sf.le (sf.mask lv ll) (S a0)) (ht:st = T a0)
    (step:∀ a,I a→aC P F m b (S a) (T a) (stepQ S T (fun a'=>I a'∧μ a' < μ a) lv ll Q)):br (aC P F m b) lv ll sf st Q:=by
  refine ⟨fun k sf st=>∃ a,I a∧μ a = k∧sf = S a∧st = T a,⟨μ a0,_,hs,a0,h0,rfl,rfl,ht⟩,?_⟩
  rintro k sf st ⟨a,ha,rfl,rfl,rfl⟩
  refine aC_mono (fun e sf st=>?_) (step a ha)
  cases e with
  | normal=>exact fun ⟨a',⟨h1,h2⟩,h3,h4⟩=>⟨μ a',h2,S a',h3,a',h1,rfl,rfl,h4⟩
  | _=>exact fun q=>q
variable {A:Type} (S:A→Sf) (T:A→St) (R:A→Prop) (sf:Sf) (st:St)
theorem dN:stepQ S T R lv ll Q .normal sf st = ∃ a,R a∧Sf.le (sf.mask lv ll) (S a)∧st = T a:=rfl
theorem fd (id:Nat):stepQ S T R lv ll Q (.exit id) sf st = Q (.exit id) sf st:=rfl
end
section
variable {CB:Sf→St→(Exit→Sf→St→Prop)→Prop} {id:Nat} {r:Loop} {rs:List (Nat×AV)} {Q:Bool→St→Prop} {sf:Sf} {st:St}
end
def BB (l:List UInt8):List AV:=l.map bF
theorem cd (l:List UInt8):(BB l).length = l.length:=by simp [BB]
theorem iG (l:List UInt8) (n:Nat):(BB l).take n = BB (l.take n):=by simp [BB,List.map_take]
theorem ew (l:List UInt8) (n:Nat):(BB l).drop n = BB (l.drop n):=by simp [BB,List.map_drop]
theorem m5 (l r:List UInt8):BB l++BB r = BB (l++r):=by simp [BB]
theorem gp (l:List UInt8):Lits (BB l):=Lits.map (fun b:UInt8=>Value.int .u8 b.toNat) l
theorem jm (l:List UInt8):(BB l).map AV.dis = BB l:=(gp l).dis
theorem BB_nb (l:List UInt8):∀ x ∈ BB l,x.NB:=(gp l).nb
theorem ff (l:List UInt8) (o:Bool):(AV.sl o 1 (BB l)).NB:=.sl _ _ _ (BB_nb l)
theorem dz {l:List UInt8} {i:Nat} (h:i < l.length):(BB l).getD i .any = .lit (.int .u8 (l.getD i 0).toNat):=by
  simp [BB,List.getD,h,bF]
theorem m6:BB [] = []:=rfl
theorem jW (x:UInt8) (l:List UInt8):BB (x::l) = .lit (.int .u8 x.toNat)::BB l:=rfl
def str (l:List UInt8):ByteArray:=⟨l.toArray⟩
theorem kW (l:List UInt8):jo (BB l) = some (str l):=by
  have:(BB l).mapM byteA = some l:=by
    induction l with
    | nil=>rfl
    | cons x r ih=>simp only [jW,List.mapM_cons,ih,byteA]; simp
  simp [jo,this,str]
theorem iH (a:List UInt8):(str a).toList = a:=by rw [ByteArray.toList_eq]; simp [str]
theorem str_eql (a b:List UInt8):binI .num .eql (.lit (.string (str a))) (.lit (.string (str b))) = .ok (.lit (.bool (decide (a = b)))):=by
  have:((str a).toList == (str b).toList) = decide (a = b):=by rw [iH,iH]; exact Bool.eq_iff_iff.2 (by simp)
  rw [← this]; rfl
theorem str_neq (a b:List UInt8):binI .num .neq (.lit (.string (str a))) (.lit (.string (str b))) = .ok (.lit (.bool (decide (¬ a = b)))):=by
  have:(!((str a).toList == (str b).toList)) = decide (¬ a = b):=by rw [iH,iH]; exact Bool.eq_iff_iff.2 (by simp)
  rw [← this]; rfl
theorem ints_BB {l:List Int} (h:∀ x ∈ l,0≤x∧x≤255):(l.map fun x=>AV.lit (.int .u8 x)) = BB (l.map fun x=>UInt8.ofNat x.toNat):=by
  unfold BB
  rw [List.map_map]
  apply List.map_congr_left
  intro x hx
  have:=h x hx
  simp only [Function.comp,bF]
  congr 2
  simp [UInt8.toNat_ofNat']
  omega
theorem byte_of (n:Nat):AV.lit (.int .u8 (IntKind.u8.wrap n)) = bF (UInt8.ofNat n):=by
  unfold bF
  congr 2
theorem gq {P:Program} {f:FuncId} {vs:List AV} {x:AV} (h:az P f vs ⟨[]⟩ (fun v _=>AV.le v x)) (hx:x.NB) (hvs:∀ v ∈ vs,v.NB) (st:St):aw P f vs st x :=
  e8 (h.mono fun _ _ h=>.le _ _ h hx) hvs st
end Go.Fx
/- Regions that draw their order: evaluation. -/
namespace Go.Fx
open Go
section
variable (P:Program) (F:Nat→FuncId) (m:Bool) (locs0:List (Nat×List AV)) (st:St) (C:PK→Sf→Prop) (sf:Sf) (d:Option Nat) (x y i:Opd) (K:List PK→Sf→Prop) (ks:List PK)
theorem kY:ap P F locs0 st [] K ks sf = K ks sf:=rfl
theorem ec (i:AI) (r:List GI):ap P F locs0 st (⟨none,i⟩::r) K ks sf = am P F locs0 st i (fK (ap P F locs0 st r K) ks) sf:=rfl
theorem iI:am P F locs0 st (.mv d x) C sf = valH C d sf (sf.ev F x).dis:=rfl
theorem fX (k:BinK) (op:BinOp):am P F locs0 st (.bin d k op x y) C sf = (binI k op (sf.ev F x) (sf.ev F y)).wp (valH C d sf):=rfl
theorem m7 (k:ConvK):am P F locs0 st (.conv d k x) C sf = (d2 st k (sf.ev F x)).wp (valH C d sf):=rfl
theorem hh_addr (off:Nat):am P F locs0 st (.addr d x off) C sf = (addA (sf.ev F x) off).wp (valH C d sf):=rfl
theorem m8 (k:Nat):am P F locs0 st (.ixS d x i k) C sf = (ixSV (sf.ev F x) (sf.ev F i) k).wp (valH C d sf):=rfl
theorem gt (k:Option Nat):am P F locs0 st (.load d x k) C sf = (fR sf st (sf.ev F x) k).wp (valH C d sf):=rfl
theorem hh_ldF (k:Option Nat):am P F locs0 st (.x d (.ldF x k)) C sf = (fR ⟨sf.regs,locs0⟩ st (sf.ev F x) k).wp (valH C d sf):=rfl
theorem hh_nilck:am P F locs0 st (.nilck d x) C sf = (aM (sf.ev F x)).wp (valH C d sf):=rfl
theorem jX (lo hi:Option Opd) (k:Nat):am P F locs0 st (.sliS d x lo hi k) C sf = (c3 (sf.ev F x) (lo.map (sf.ev F)) (hi.map (sf.ev F)) k).wp (valH C d sf):=rfl
theorem hh_bsl (k len:Nat) (z:AV) (parts:List (Nat×Opd)):am P F locs0 st (.bsl d k len z parts) C sf = (bslV k len z (parts.map fun p=>(p.1,sf.ev F p.2))).wp (valH C d sf):=rfl
theorem hh_bst (places:List (Nat×Nat)) (z:AV) (parts:List (Nat×Opd)):am P F locs0 st (.bst d places z parts) C sf = (bstV places z (parts.map fun p=>(p.1,sf.ev F p.2))).wp (valH C d sf):=rfl
theorem jY (p:Bool) (f:Opd) (args:List Opd):am P F locs0 st (.call d p f args) C sf = eH P st d (sf.ev F f) (args.map (sf.ev F)) C sf:=rfl
theorem hh_store (k:Nat):am P F locs0 st (.store k x y) C sf = cI locs0 x (sf.ev F x) (sf.ev F y) k C sf:=rfl
theorem jM (a:Opd) (s:Nat) (v:AV) (k:Nat):cI locs0 a (.lptr s 0) v k C sf = cY v k s C sf (look s locs0):=rfl
theorem iJ (s:Nat) (v:AV) (k:Nat) (cs:List AV):cY v k s C sf (some cs) = (cs.length = k∧v.dis.solid = true∧v.dis.cells.length = k∧C (.store s v.dis.cells) sf):=rfl
end
def PK.keep:PK→Bool
  | .val _=>false
  | .skip=>false
  | _=>true
theorem bq:∀ ks:List PK,aB (ks.filter PK.keep) = aB ks
  | []=>rfl
  | .val _::r=>bq r
  | .skip::r=>bq r
  | .mk _ _::r=>bq r
  | .hole::r=>bq r
  | .chole _ _::r=>bq r
  | .nst _ _::r=>bq r
  | .new _ _::r=>bq r
  | .app _ _::r=>bq r
  | .store s _::r=>congrArg (s::·) (bq r)
theorem b5:∀ ks:List PK,bg (ks.filter PK.keep) = bg ks
  | []=>rfl
  | .val _::r=>b5 r
  | .skip::r=>b5 r
  | .mk _ _::r=>b5 r
  | .hole::r=>b5 r
  | .chole _ _::r=>b5 r
  | .nst _ _::r=>b5 r
  | .store _ _::r=>b5 r
  | .app _ _::r=>b5 r
  | .new s _::r=>congrArg (s::·) (b5 r)
theorem b6:∀ ks:List PK,bG (ks.filter PK.keep) = bG ks
  | []=>rfl
  | .val _::r=>b6 r
  | .skip::r=>b6 r
  | .mk _ _::r=>b6 r
  | .hole::r=>b6 r
  | .chole _ _::r=>b6 r
  | .nst _ _::r=>b6 r
  | .store _ _::r=>b6 r
  | .new _ _::r=>b6 r
  | .app s _::r=>congrArg (s::·) (b6 r)
theorem b7:∀ (ks:List PK) (sf:Sf),bO (ks.filter PK.keep) sf = bO ks sf
  | [],_=>rfl
  | .val _::r,sf=>b7 r sf
  | .skip::r,sf=>b7 r sf
  | .mk _ _::r,sf=>b7 r sf
  | .hole::r,sf=>b7 r sf
  | .chole _ _::r,sf=>b7 r sf
  | .nst _ _::r,sf=>b7 r sf
  | .new _ _::r,sf=>b7 r sf
  | .app _ _::r,sf=>b7 r sf
  | .store _ _::r,_=>b7 r _
theorem bJ (t:Nat):∀ ks:List PK,bM t (ks.filter PK.keep) = bM t ks
  | []=>rfl
  | .val _::r=>bJ t r
  | .skip::r=>bJ t r
  | .mk _ _::r=>bJ t r
  | .hole::r=>bJ t r
  | .chole _ _::r=>bJ t r
  | .store _ _::r=>bJ t r
  | .app _ _::r=>bJ t r
  | .new _ _::r=>bJ t r
  | .nst s cs :: r => by
    show (if s = t then some cs else bM t (r.filter PK.keep)) = if s = t then some cs else bM t r
    rw [bJ t r]
theorem b8:∀ ks:List PK,bH (ks.filter PK.keep) = bH ks
  | []=>rfl
  | .val _::r=>b8 r
  | .skip::r=>b8 r
  | .mk _ _::r=>b8 r
  | .hole::r=>b8 r
  | .chole _ _::r=>b8 r
  | .store _ _::r=>b8 r
  | .new _ _::r=>b8 r
  | .app _ _::r=>b8 r
  | .nst s _::r=>congrArg (s::·) (b8 r)
theorem b9:∀ (ks:List PK) (seen:List (Nat×Nat)),nstB seen (ks.filter PK.keep) = nstB seen ks
  | [],_=>rfl
  | .val _::r,s=>b9 r s
  | .skip::r,s=>b9 r s
  | .mk _ _::r,s=>b9 r s
  | .hole::r,s=>b9 r s
  | .chole _ _::r,s=>b9 r s
  | .store _ _::r,s=>b9 r s
  | .app _ _::r,s=>b9 r s
  | .new _ _::r,s=>b9 r _
  | .nst _ _::r,s=>congrArg (_ && ·) (b9 r s)
theorem ca (all:List PK):∀ (ks:List PK) (sf:Sf),bp (all.filter PK.keep) (ks.filter PK.keep) sf = bp all ks sf
  | [],_=>rfl
  | .val _::r,sf=>ca all r sf
  | .skip::r,sf=>ca all r sf
  | .mk _ _::r,sf=>ca all r sf
  | .hole::r,sf=>ca all r sf
  | .chole _ _::r,sf=>ca all r sf
  | .store _ _::r,sf=>ca all r sf
  | .app _ _::r,sf=>ca all r sf
  | .nst _ _::r,sf=>ca all r sf
  | .new s cs :: r, sf => by
    show bp (all.filter PK.keep) (r.filter PK.keep) (sf.newLoc s ((bM s (all.filter PK.keep)).getD cs)) = bp all r (sf.newLoc s ((bM s all).getD cs))
    rw [bJ,ca all r]
section
variable {P:Program} {F:Nat→FuncId} {m:Bool} {locs0:List (Nat×List AV)} {st st2:St} {drop lv ll:List Nat} {tl:List GI} {Q:Exit→Sf→St→Prop}
theorem tail_keep (ks:List PK) (sf:Sf):cZ P F m drop lv ll tl Q st (ks.filter PK.keep) sf = cZ P F m drop lv ll tl Q st ks sf:=by
  unfold cZ ksB
  rw [bq,b5,b6,b8,b9,b7,ca]
theorem gu:∀ (r:List GI) (ks:List PK) (sf:Sf),ap P F locs0 st r (cZ P F m drop lv ll tl Q st) (ks.filter PK.keep) sf = ap P F locs0 st r (cZ P F m drop lv ll tl Q st) ks sf
  | [],ks,sf=>tail_keep ks sf
  | ⟨g, i⟩ :: r, ks, sf => by
    have h1:fK (ap P F locs0 st r (cZ P F m drop lv ll tl Q st)) (ks.filter PK.keep) = fK (ap P F locs0 st r (cZ P F m drop lv ll tl Q st)) ks:=by
      funext k sf
      simp only [fK]
      rw [← gu r (ks++[k]) sf,← gu r (ks.filter PK.keep++[k]) sf]
      simp
    have h2:∀ d,lT (ap P F locs0 st r (cZ P F m drop lv ll tl Q st)) (ks.filter PK.keep) d = lT (ap P F locs0 st r (cZ P F m drop lv ll tl Q st)) ks d:=by
      intro d
      funext sf
      exact congrFun (congrFun h1 .skip) (sf.put d (.tup []))
    cases g with
    | none=>simp only [ap,h1]
    | some g=>obtain ⟨t,w⟩:=g; simp only [ap,h1,h2]
variable (ks:List PK) (sf:Sf) (r:List GI) (v:AV) (d:Option Nat)
theorem fY:fK (ap P F locs0 st r (cZ P F m drop lv ll tl Q st)) ks (.val v) sf = ap P F locs0 st r (cZ P F m drop lv ll tl Q st) ks sf:=by
  show ap P F locs0 st r _ (ks++[.val v]) sf = _
  exact (gu r (ks++[PK.val v]) sf).symm.trans ((congrArg (fun q=>ap P F locs0 st r (cZ P F m drop lv ll tl Q st) q sf) (by simp [PK.keep])).trans (gu r ks sf))
theorem cM:valH (fK (ap P F locs0 st r (cZ P F m drop lv ll tl Q st)) ks) d sf v = ap P F locs0 st r (cZ P F m drop lv ll tl Q st) ks (sf.put d v):=fY ks (sf.put d v) r v
theorem fZ:cZ P F m drop lv ll tl Q st [] sf = runI P F m tl (opsK lv ll Q) sf st:=propext ⟨fun h=>h.2,fun h=>⟨rfl,h⟩⟩
theorem tail_eq (k:PK):cZ P F m drop lv ll tl Q st (k::ks) sf = (ksB drop (k::ks) = true∧runI P F m tl (opsK lv ll Q) (bp (k::ks) (k::ks) (bO (k::ks) sf)) st):=rfl
end
section
variable (H:List PK→Sf→Prop) (ks:List PK) (sf:Sf) (s:Nat) (cs:List AV) (v:AV)
theorem kZ:fK H ks (.store s cs) sf = H (ks++[.store s cs]) sf:=rfl
end
theorem m9 {P:Program} {d:Option Nat} {q:FuncId} {fs cs args vs:List AV} {sf:Sf} {st:St} {C:PK→Sf→Prop} {v:AV} (hvs:fs++args.map AV.dis++cs = vs) (hent:aZ P q = true) (h:aw P q vs st v) (hn:args.all AV.noL = true) (hK:C (.val v) (sf.put d v)):eH P st d (.fn (.func q) fs cs) args C sf:=by
  subst hvs
  exact ⟨hn,hent,v,h,hK⟩
section
variable (P:Program) (F:Nat→FuncId) (L0:List (Nat×List AV)) (ρ:St) (C:PK→Sf→Prop) (sf:Sf) (d:Option Nat) (x y i:Opd) (K:List PK→Sf→Prop) (ks:List PK)
theorem m_nil:preM P F L0 ρ [] K ks sf = K ks sf:=rfl
theorem k7 (i:AI) (r:List GI):preM P F L0 ρ (⟨none,i⟩::r) K ks sf = oneM P F L0 ρ i (dF (preM P F L0 ρ r K) ks) sf:=rfl
theorem m_val (v:AV) (r:List GI):valM (dF (preM P F L0 ρ r K) ks) d sf v = preM P F L0 ρ r K (ks++[.val v]) (sf.put d v):=rfl
theorem k8:oneM P F L0 ρ (.mv d x) C sf = valM C d sf (sf.ev F x).dis:=rfl
theorem fg (off:Nat):oneM P F L0 ρ (.addr d x off) C sf = (addA (sf.ev F x) off).wp (valM C d sf):=rfl
theorem fh (k:Option Nat):oneM P F L0 ρ (.load d x k) C sf = (fR sf ρ (sf.ev F x) k).wp (valM C d sf):=rfl
theorem ed:oneM P F L0 ρ (.nilck d x) C sf = (aM (sf.ev F x)).wp (valM C d sf):=rfl
variable (KH:List PK→Prop) (st:St) (post:List (Bool×GI)) (T:St→Sf→Prop) (T1:Sf→Prop)
theorem hm_nil:bC P F L0 ρ [] KH ks sf = KH ks:=rfl
theorem hm_none (i:AI) (r:List (Bool×GI)):bC P F L0 ρ ((false,⟨none,i⟩)::r) KH ks sf = oneM P F L0 ρ i (dF (bC P F L0 ρ r KH) ks) sf:=rfl
theorem hm_val (v:AV) (r:List (Bool×GI)):valM (dF (bC P F L0 ρ r KH) ks) d sf v = bC P F L0 ρ r KH (ks++[.val v]) (sf.put d v):=rfl
variable (drop:List Nat) (ks1:List PK)
theorem atM_eq (f:Opd) (args:List Opd):atM P F L0 ρ st d f args post drop T ks1 sf = jC P F L0 ρ st d (sf.ev F f) (args.map (sf.ev F)) post drop T ks1 sf:=rfl
theorem k9 (ksh:List PK):postM post drop ks1 ksh T1 ks sf = (er post ksh ks∧finK drop T1 (ks1++ks) sf):=rfl
theorem na:finK drop T1 ks sf = (ksB drop ks = true∧T1 (bp ks ks (bO ks sf))):=rfl
theorem holeK_eq (A:List PK→Prop):holeK drop ks1 A ks = (ksB drop (ks1++ks) = true∧A ks):=rfl
theorem jn:er [] [] [] = True:=rfl
theorem nc (g:GI) (r:List (Bool×GI)) (a b:PK) (h k:List PK):er ((false,g)::r) (a::h) (b::k) = (b = a∧er r h k):=rfl
theorem la (m:Bool) (lv ll:List Nat) (tl:List GI) (Q:Exit→Sf→St→Prop):jE P F m lv ll tl Q st sf = runI P F m tl (opsK lv ll Q) sf st:=rfl
end
section
variable {P:Program} {F:Nat→FuncId} {L0:List (Nat×List AV)} {ρ st:St}
theorem draw_s {pre:List GI} {d:Option Nat} {f:Opd} {args:List Opd} {post:List (Bool×GI)} {sf:Sf} {T:St→Sf→Prop} (h:preM P F sf.locs st pre (atM P F sf.locs st st d f args post (fm pre post) T) [] ⟨sf.regs,a8 (fm pre post) sf.locs⟩):drawM P F pre d f args post sf st T:=⟨st,St.sub_refl st,h⟩
theorem call_m {q:FuncId} {fs cs args vs:List AV} {d:Option Nat} {post:List (Bool×GI)} {drop:List Nat} {T:St→Sf→Prop} {ks1:List PK} {sf:Sf} {Qc:AV→St→Prop} (hvs:fs++args.map AV.dis++cs = vs) (hent:aZ P q = true) (hA:az P q vs st Qc) (hn:args.all AV.noL = true)
    (hK:bC P F L0 ρ post (holeK drop ks1 (afterM P F L0 ρ post Qc d sf drop T ks1)) [] (sf.put d .any)):jC P F L0 ρ st d (.fn (.func q) fs cs) args post drop T ks1 sf:=by
  subst hvs
  exact ⟨hn,hent,Qc,hA,hK⟩
end
section
variable (P:Program) (F:Nat→FuncId) (L0:List (Nat×List AV)) (st s:St) (d:Option Nat) (f:Opd) (args:List Opd) (pre post:List GI) (T:St→Sf→Prop) (ks:List PK) (sf:Sf) (v:AV)
end
section
variable (P:Program) (F:Nat→FuncId) (L0:List (Nat×List AV)) (ρ:St) (C:PK→Sf→Prop) (sf:Sf) (d:Option Nat) (H:List PK→Sf→Prop) (KX:Nat→List PK→Sf→Prop) (ks:List PK) (SS:Nat→St→Prop) (j:Nat)
end
end Go.Fx
/- Numbers of bytes: shifts and the like. -/
namespace Go.Fx
open Go
theorem n_shr8 {k':IntKind} {n:Int}:binI .num .shr (.lit (.int .i64 n)) (.lit (.int k' 8)) = .req true (.ok (.lit (.int .i64 (n / 256)))):=by
  show ((iM .shr .i64 n 8).bind fun v=>Res.ok (AV.lit v)) = _
  have:n.fdiv (2 ^ 8) = n / 256:=Int.fdiv_eq_ediv_of_nonneg n (by decide)
  rw [← this]; rfl
theorem n_shl8 {k':IntKind} {n:Int}:binI .num .shl (.lit (.int .i64 n)) (.lit (.int k' 8)) = .req true (.ok (.lit (.int .i64 (IntKind.i64.wrap (n * 256))))):=rfl
theorem or_nat (a b:Nat) (ha:a < 65536) (hb:b < 256):(BitVec.ofInt 64 ((a:Int) * 256) ||| BitVec.ofInt 64 (b:Int)).toNat = a * 256 + b:=by
  have e:(a:Int) * 256 = ((a * 256:Nat):Int):=by omega
  rw [e,BitVec.toNat_or,BitVec.ofInt_natCast,BitVec.ofInt_natCast,BitVec.toNat_ofNat,BitVec.toNat_ofNat,Nat.mod_eq_of_lt (by omega),Nat.mod_eq_of_lt (by omega)]
  have h:=Nat.shiftLeft_add_eq_or_of_lt (i:=8) hb a
  rw [Nat.shiftLeft_eq] at h
  exact h.symm
theorem n_or8 (x y:UInt8):binI .num .or (.lit (.int .i64 ((x.toNat:Int) * 256))) (.lit (.int .i64 (y.toNat:Int))) = .ok (.lit (.int .i64 ((256 * x.toNat + y.toNat:Nat):Int))):=by
  have h:=or_nat x.toNat y.toNat (by have:=x.toNat_lt; omega) y.toNat_lt
  have e:IntKind.i64.wrap ((BitVec.ofInt 64 ((x.toNat:Int) * 256) ||| BitVec.ofInt 64 (y.toNat:Int)).toNat:Int) = ((256 * x.toNat + y.toNat:Nat):Int):=by
    rw [h,IntWalk.i64_in _ (by have:=x.toNat_lt; have:=y.toNat_lt; omega)]
    omega
  rw [← e]; rfl
theorem w_u8 (n:Nat):AV.lit (.int .u8 (IntKind.u8.wrap n)) = .lit (.int .u8 (UInt8.ofNat n).toNat):=byte_of n
theorem w_u8' {n:Nat} (h:n < 256):AV.lit (.int .u8 (n:Int)) = .lit (.int .u8 (UInt8.ofNat n).toNat):=by
  congr 2; simp [UInt8.toNat_ofNat']; omega
theorem BB_set (l:List UInt8) (j:Nat) (q:UInt8):(BB l).set j (.lit (.int .u8 q.toNat)) = BB (l.set j q):=by simp [BB,bF,List.map_set]
theorem len_sl (st:St) (o:Bool) (k:Nat) (es:List AV):lenI .sl st (.sl o k es) = .ok (.lit (.int .i64 es.length)):=rfl
theorem jZ (st:St):lenI .sl st (.lit (.slice none 0 0)) = .ok (.lit (.int .i64 0)):=rfl
theorem BB_snoc (l:List UInt8) (x:UInt8):BB l++[AV.lit (.int .u8 x.toNat)] = BB (l++[x]):=by simp [BB,bF]
def twoB (n:Nat):List UInt8:=[UInt8.ofNat (n / 256),UInt8.ofNat n]
theorem twoB_len (n:Nat):(twoB n).length = 2:=rfl
theorem twoB_of (x y:UInt8):twoB (256 * x.toNat + y.toNat) = [x,y]:=by
  have:=x.toNat_lt
  have:=y.toNat_lt
  simp only [twoB,List.cons.injEq,and_true]
  constructor <;> apply UInt8.toNat.inj <;> simp only [UInt8.toNat_ofNat'] <;> omega
theorem loop_op {P:Program} {F:Nat→FuncId} {m:Bool} {b:AC} {lv ll:List Nat} {Q:Exit→Sf→St→Prop} {A:Type} (μ:A→Nat) (S:A→Sf) (T:A→St) (I:A→Prop) (a0:A) {sf:Sf} {st:St} (h0:I a0) (hs:Sf.le (sf.mask lv ll) (S a0)) (ht:st = T a0)
    (step:∀ a,I a→∀ K:Exit→Sf→St→Prop,(∀ a' sf',I a'→μ a' < μ a→Sf.le (sf'.mask lv ll) (S a')→K .normal sf' (T a'))→(∀ id sf st,Q (.exit id) sf st→K (.exit id) sf st)→(∀ sf st,Q .ret sf st→K .ret sf st)→aC P F m b (S a) (T a) K):br (aC P F m b) lv ll sf st Q :=
  fW μ S T I a0 h0 hs ht fun a ha=>step a ha _ (fun a' _ h1 h2 h3=>⟨a',⟨h1,h2⟩,h3,rfl⟩) (fun _ _ _ h=>h) (fun _ _ h=>h)
theorem gv {P:Program} {X:Cx} {f:FuncId} {fn:AFun} {vs:List AV} {st:St} (hmix:P.follows .mixedOrders = true) (hf:jG P X f = some fn) (hX:X.F = id) (hlen:Nat.ble vs.length fn.n = true) {K:AV→St→Prop} (h:∀ Q:AV→St→Prop,(∀ v st',K v st'→Q v st')→aFun P id false fn vs st Q):az P f vs st K :=
  aW hmix hf hX hlen (h K fun _ _ h=>h)
end Go.Fx
/- Slices of plain cells that are written to and appended to. -/
namespace Go.Fx
open Go
def MB (v:AV) (st:St) (l:List AV):Prop:=(v = .lit (.slice none 0 0)∧l = [])∨∃ id cap r,v = .bs id 1 0 l.length cap∧st.get id = some (l++r)∧l.length≤cap∧cap≤(l++r).length
def Kept (st st':St) (v:AV):Prop:=st.boxes.length≤st'.boxes.length∧∀ id cs,st.get id = some cs→(∀ k o l c,v≠.bs id k o l c)→st'.get id = some cs
theorem Kept.refl (st:St) (v:AV):Kept st st v:=⟨Nat.le_refl _,fun _ _ h _=>h⟩
theorem MB.facts {v:AV} {st:St} {l:List AV} (h:MB v st l):v.dis = v∧v.own1 = v∧v.own2 = v∧v.solid1 = true∧v.noL = true∧v.cells = [v]∧(∀ s,kill s v = v)∧∀ st',lenI .sl st' v = .ok (.lit (.int .i64 l.length)):=by
  rcases h with ⟨rfl,rfl⟩ | ⟨id,cap,r,rfl,_⟩
  · exact ⟨rfl,rfl,rfl,rfl,rfl,rfl,fun _=>rfl,fun _=>rfl⟩
  · exact ⟨rfl,rfl,rfl,rfl,rfl,rfl,fun _=>rfl,fun _=>rfl⟩
def NBs (st:St):Prop:=∀ id cs,st.get id = some cs→∀ c ∈ cs,c.NB
theorem NBs.nil:NBs ⟨[]⟩:=fun id cs h=>by simp [St.get] at h
theorem NBs.push {st:St} {cs:List AV} (h:NBs st) (hc:∀ c ∈ cs,c.NB):NBs (st.push (.cells cs)):=by
  intro id ds hg
  by_cases e:id < st.boxes.length
  · rw [dM e] at hg
    exact h id ds hg
  · by_cases e2:id = st.boxes.length
    · subst e2
      rw [bN] at hg
      cases hg
      exact hc
    · have:=cv hg
      rw [len_push] at this
      omega
theorem NBs.set {st:St} {id:Nat} {cs:List AV} (h:NBs st) (hid:id < st.boxes.length) (hc:∀ c ∈ cs,c.NB):NBs (st.set id cs):=by
  intro id' ds hg
  by_cases e:id = id'
  · subst e
    rw [bE hid] at hg
    cases hg
    exact hc
  · rw [ea e] at hg
    exact h id' ds hg
theorem MB.app {v:AV} {st:St} {l new:List AV} {bytes:Nat} {C:AV→St→Prop} (h:MB v st l) (hl:Lits l) (hn:Lits new) (hr:fA (l.length + new.length) bytes = true)
    (hC:∀ v' st',MB v' st' (l++new)→Kept st st' v→(NBs st→NBs st')→C v' st'):appX false 1 bytes v C st new:=by
  rcases h with ⟨rfl,rfl⟩ | ⟨id,cap,r,rfl,hg,h1,h2⟩
  · refine ⟨rfl,by simpa using hr,?_⟩
    split
    · rename_i h
      have:new = []:=by simpa using h
      subst this
      exact hC _ _ (.inl ⟨rfl,rfl⟩) (Kept.refl _ _) id
    · intro c hc
      refine hC _ _ (.inr ⟨st.boxes.length,c,List.replicate (c - new.length) .any,by simp,?_,by simpa using hc,by simp; omega⟩) ⟨by simp [St.push],fun id cs hg _=>by rw [dM (cv hg)]; exact hg⟩ (fun h=>h.push fun x hx=>?_)
      · rw [hn.cellsD]
        simp only [List.nil_append,Nat.mul_one]
        exact bN st _
      · rw [hn.cellsD] at hx
        simp only [List.nil_append,Nat.mul_one,List.mem_append] at hx
        rcases hx with hx | hx
        · exact hn.nb x hx
        · rw [List.eq_of_mem_replicate hx]; exact .any
  · refine ⟨rfl,rfl,hr,?_⟩
    rw [hg]
    show (Res.ok _).wp _
    rw [wp_ok,hn.cellsD]
    have hid:=cv hg
    split
    · rename_i hc
      refine ⟨by omega,hC _ _ (.inr ⟨id,cap,r.drop new.length,by simp,?_,by simpa using hc,?_⟩) ⟨by simp [St.set],fun id' cs hg' hne=>?_⟩ (fun h=>h.set hid ?_)⟩
      · rw [bE hid,Nat.zero_add,Nat.mul_one,dD rfl (by simp at h2; omega)]
        simp
      · simp at h2 ⊢; omega
      · rw [ea (fun e=>hne _ _ _ _ (by rw [e])),hg']
      · rw [Nat.zero_add,Nat.mul_one,dD rfl (by simp at h2; omega)]
        have h3:=h id _ hg
        intro x hx
        simp only [List.mem_append] at hx
        rcases hx with hx | hx | hx
        · exact hl.nb x hx
        · exact hn.nb x hx
        · exact h3 x (List.mem_append_right _ (List.mem_of_mem_drop hx))
    · rename_i hc
      have e:List.map AV.own1 (List.take (l.length * 1) (List.drop 0 (l++r))) = l:=by simp [hl.own]
      refine ⟨by simp,fun c hc=>hC _ _ (.inr ⟨st.boxes.length,c,List.replicate (c - (l.length + new.length)) .any,by simp,?_,by simpa using hc,by simp; omega⟩) ⟨by simp [St.push],fun id' cs hg' _=>by rw [dM (cv hg')]; exact hg'⟩ (fun h=>h.push fun x hx=>?_)⟩
      · rw [e]
        simp only [Nat.mul_one]
        exact bN st _
      · rw [e] at hx
        simp only [List.mem_append] at hx
        rcases hx with (hx | hx) | hx
        · exact hl.nb x hx
        · exact hn.nb x hx
        · rw [List.eq_of_mem_replicate hx]; exact .any
theorem MB.frz {v:AV} {st:St} {l:List AV} (h:MB v st l) (hl:Lits l) (hr:NBs st):Frz st v (.sl false 1 l):=by
  rcases h with ⟨rfl,rfl⟩ | ⟨id,cap,r,rfl,hg,h1,h2⟩
  · exact .le _ _ (.nil _ _) (.sl _ _ _ (by simp))
  · have h3:grp 1 l.length ((l++r).drop 0) = l:=by rw [List.drop_zero,m3 (by simp),List.take_left]
    have:=Frz.bs (st:=st) id 1 0 l.length cap (l++r) hg (by simp) h1 (fun c hc=>hr id _ hg c (by simpa using hc))
    rw [h3] at this
    exact this
end Go.Fx
/- Functions that keep nothing may be handed what lies in boxes. -/
namespace Go.Fx
open Go
def iK:AV→Bool
  | .lit _=>true
  | _=>false
def AV.freshB:AV→Bool
  | .lit _=>true
  | .sl true _ es=>es.all iK
  | .tup vs=>vs.all iK
  | _=>false
theorem nf {g g':Gh} {x:AV} {u:Value} (h:iK x = true) (hr:R g x u):R g' x u:=by
  cases x <;> simp [iK] at h
  cases hr with
  | lit _ h=>exact .lit _ h
theorem fresh_R {g g':Gh} {w:World} {N:Nat} {L:Nat→Loc} {v:AV} {u:Value} (hf:v.freshB = true) (hr:R g v u) (ho:OwnV g w N L v u) (hi:∀ b,N≤b→g'.imm b = g.imm b):R g' v u:=by
  cases v with
  | lit x=>exact nf (x:=.lit x) rfl hr
  | tup vs =>
    cases hr with
    | tup _ us hu h =>
      refine .tup vs us hu fun i x u hx hu=>?_
      have:iK x = true:=List.all_eq_true.1 hf x (List.mem_of_getElem? hx)
      exact nf this (h i x u hx hu)
  | sl o k es =>
    cases o with
    | false=>simp [AV.freshB] at hf
    | true =>
      have hes:∀ x ∈ es,iK x = true:=List.all_eq_true.1 hf
      have hcell:∀ (i:Nat) (x:AV),(es.flatMap AV.cells)[i]? = some x→iK x = true:=by
        intro i x hx
        have:=List.mem_of_getElem? hx
        simp only [List.mem_flatMap] at this
        obtain ⟨e,he,hxe⟩:=this
        have h1:=hes e he
        cases e <;> simp [iK] at h1
        simp [AV.cells] at hxe
        subst hxe; rfl
      cases hr with
      | slE _ _ a c=>exact .slE _ _ a c
      | slN _ _=>exact .slN _ _
      | sl _ _ _ us b o c hc hk h1 h2 h3 =>
        have hO:=(ho 0 (.sl true k es) (.slice (some ⟨b,o,none⟩) es.length c) rfl rfl).1 k es rfl
        refine .sl true k es us b o c hc hk (fun i x hx=>?_) (fun i x hx=>nf (hcell i x hx) (h2 i x hx)) h3
        rcases hO with ⟨e,_⟩ | ⟨b',o',c',cur,T,q1,q2,_⟩
        · subst e; simp at hx
        · cases q1
          rw [hi b q2]; exact h1 i x hx
  | _=>simp [AV.freshB] at hf
def Gh.still (g:Gh) (w:World):Gh :=
  { base:=g.base,lb:=g.lb,bx:=fun _=>none
    imm:=fun b o=>match frzB g w 0 b with | some us=>us[o]? | none=>g.imm b o
    cls:=fun b=>match g.cls b with | some (.box _)=>none | c=>c }
def Gh.back (g g2:Gh) (n:Nat):Gh :=
  { base:=g.base,lb:=g.lb,bx:=g.bx
    imm:=fun b=>if b < n then g.imm b else g2.imm b
    cls:=fun b=>if b < n then g.cls b else g2.cls b }
theorem gU {g:Gh} {w:World} {b:Nat} {us:Array Value} (h:frzB g w 0 b = some us):(∃ id,g.cls b = some (.box id))∧∃ T,w.heap[b]? = some (.cells us T (0,0)):=by
  unfold frzB at h
  split at h
  · split at h
    · rename_i id us' T h1 h2
      cases h
      exact ⟨⟨id,h1⟩,T,h2⟩
    · cases h
  · cases h
theorem aw.view {P:Program} {f:FuncId} {vs vs':List AV} {v0:AV} (h:aw P f vs ⟨[]⟩ v0) (hf:v0.freshB = true) {st:St} (hv:frzL st vs' vs):aw P f vs' st v0:=by
  intro g w us L hg hbx ha
  obtain ⟨hvl,hvv⟩:=dt hv
  have k2:∀ b o u,g.imm b o = some u→(g.still w).imm b o = some u:=by
    intro b o u hi
    simp only [Gh.still]
    split
    · rename_i us e
      obtain ⟨⟨id,hid⟩,_⟩:=gU e
      rcases hg.immc b o u hi with h1 | ⟨L',h1⟩ <;> rw [hid] at h1 <;> cases h1
    · exact hi
  have kf:∀ b us,frzB g w 0 b = some us→∀ o:Nat,(g.still w).imm b o = us[o]?:=fun b us e o=>by simp only [Gh.still,e]
  have hgs:Good (g.still w) w:=by
    refine ⟨fun b o u hi=>?_,fun b o u hi=>?_,fun b c hc=>?_,hg.base⟩
    · simp only [Gh.still] at hi
      split at hi
      · rename_i us e
        obtain ⟨_,T,hT⟩:=gU e
        rw [cell_of_row w b o us T (0,0) hT]; exact hi
      · exact hg.imm b o u hi
    · simp only [Gh.still] at hi ⊢
      split at hi
      · rename_i us e
        obtain ⟨⟨id,hid⟩,_⟩:=gU e
        simp [hid]
      · rcases hg.immc b o u hi with h1 | ⟨L',h1⟩ <;> simp [h1]
    · simp only [Gh.still] at hc
      split at hc
      · cases hc
      · exact hg.cls b c hc
  have hbs:BoxR (g.still w) w ⟨[]⟩:=⟨fun _ _=>rfl,fun id cs hc=>by simp at hc,fun id bx hc=>by simp at hc⟩
  have has:en (g.still w) vs us:=by
    refine ⟨by rw [ha.1,hvl],fun i x u hx hu=>?_⟩
    have hlt:i < vs'.length:=by rw [← hvl]; exact (List.getElem?_eq_some_iff.1 hx).1
    exact frz_R (fzn_of hbx (fun _ _ _ _=>Nat.zero_le _) kf) k2 (hvv i vs'[i] x (by simp [hlt]) hx) (ha.2 i vs'[i] u (by simp [hlt]) hu)
  refine (h (g.still w) w us L hgs hbs has).mono fun e w' ⟨u,g2,he,hle,hR,hO⟩=>?_
  refine ⟨u,g.back g2 w.heap.size,he,⟨hle.below,fun b hb=>by funext o; simp [Gh.back,hb],fun b hb=>by simp [Gh.back,hb],rfl,rfl,rfl,fun _=>?_⟩,?_,?_⟩
  · have hg2:=hle.good hgs
    refine ⟨fun b o u hi=>?_,fun b o u hi=>?_,fun b c hc=>?_,?_⟩
    · simp only [Gh.back] at hi
      split at hi
      · rename_i hl
        have:=hg.imm b o u hi
        unfold World.cell? at this ⊢
        rw [hle.below.block b hl]; exact this
      · exact hg2.imm b o u hi
    · simp only [Gh.back] at hi ⊢
      split at hi
      · rename_i hl; simp only [hl,if_true]; exact hg.immc b o u hi
      · rename_i hl; simp only [hl,if_false]; exact hg2.immc b o u hi
    · simp only [Gh.back] at hc
      split at hc
      · rename_i hl
        have:=hg.cls b c hc
        exact ⟨this.1,Nat.lt_of_lt_of_le hl hle.below.size⟩
      · have:=hg2.cls b c hc
        have hb:=hle.base
        exact ⟨by simp only [Gh.back]; rw [hb] at this; exact this.1,this.2⟩
    · have:=hg2.base
      have hb:=hle.base
      rw [hb] at this
      exact this
  · exact fresh_R hf hR hO fun b hb=>by simp [Gh.back,Nat.not_lt.2 hb]
  · intro i c x hc hx
    refine ⟨fun k es e=>?_,fun id s l stp e=>?_⟩
    · rcases (hO i c x hc hx).1 k es e with h0 | ⟨b,o,c',cur,T,q1,q0,q2,q3,q4,q5,q6⟩
      · exact .inl h0
      · have hnl:¬ b < w.heap.size:=by omega
        exact .inr ⟨b,o,c',cur,T,q1,q0,by simp [Gh.back,hnl,q2],q3,q4,q5,fun j hj hj'=>by simp [Gh.back,hnl,q6 j hj hj']⟩
    · subst e
      cases v0 with
      | mit _ _ _ _=>simp [AV.freshB] at hf
      | agg _=>simp [AV.freshB] at hf
      | _=>cases i <;> simp [AV.cells] at hc
end Go.Fx
/- Maps with plain keys, as lists; boxes that others are left alone by. -/
namespace Go.Fx
open Go
section
variable {β:Type}
def lookP (t:Int):List (Int×β)→Option β
  | []=>none
  | (k,b)::r=>if t = k then some b else lookP t r
def keysP (m:List (Int×β)):List Int:=m.map Prod.fst
def encE (k:IntKind) (ev:β→AV) (p:Int×β):AV×AV:=(.lit (.int k p.1),ev p.2)
def encM (k:IntKind) (ev:β→AV) (m:List (Int×β)):List (AV×AV):=m.map (encE k ev)
end
section
variable {st st':St} {id q:Nat}
theorem getM_lt {es:List (AV×AV)} (h:st.getM id = some es):id < st.boxes.length:=by
  unfold St.getM at h
  split at h
  · rename_i hb
    exact (List.getElem?_eq_some_iff.1 hb).1
  · cases h
theorem get_at (h:st'.boxes[id]? = st.boxes[id]?):st'.get id = st.get id:=by unfold St.get; rw [h]
theorem getM_at (h:st'.boxes[id]? = st.boxes[id]?):st'.getM id = st.getM id:=by unfold St.getM; rw [h]
theorem getB_at (h:st'.boxes[id]? = st.boxes[id]?):st'.getB id = st.getB id:=by unfold St.getB; rw [h]
theorem ng {cs:List AV} (h:id≠q):(st.set q cs).boxes[id]? = st.boxes[id]?:=by simp [St.set,List.getElem?_set_ne (fun e=>h e.symm)]
theorem push_at {b:Box} (h:id < st.boxes.length):(st.push b).boxes[id]? = st.boxes[id]?:=by simp [St.push,List.getElem?_append_left h]
theorem get_mt {es:List (AV×AV)} (h:st.getM id = some es):st.get id = none:=by
  unfold St.getM at h; unfold St.get
  split at h
  · rename_i hb; simp [hb]
  · cases h
end
def Oth (st st':St) (S:List Nat):Prop:=st'.boxes.length = st.boxes.length∧∀ id,id ∉ S→st'.boxes[id]? = st.boxes[id]?
section
variable {β:Type}
structure MapIs (st:St) (id:Nat) (k:IntKind) (ev:β→AV) (m:List (Int×β)):Prop where
  get:st.getM id = some (encM k ev m)
  nd:(keysP m).Nodup
  bl:(st.getB id).1.length = m.length
  bn:(st.getB id).1.Nodup
  bc:∀ b ∈ (st.getB id).1,b < (st.getB id).2
variable {st st':St} {id:Nat} {k:IntKind} {ev:β→AV} {m:List (Int×β)}
theorem MapIs.lt (h:MapIs st id k ev m):id < st.boxes.length:=getM_lt h.get
theorem MapIs.at (h:MapIs st id k ev m) (hb:st'.boxes[id]? = st.boxes[id]?):MapIs st' id k ev m:=by
  refine ⟨(getM_at hb).trans h.get,h.nd,?_,?_,?_⟩ <;> rw [getB_at hb]
  · exact h.bl
  · exact h.bn
  · exact h.bc
theorem MapIs.ne (h:MapIs st id k ev m) {q:Nat} {cs:List AV} (hq:st.get q = some cs):id≠q:=by
  rintro rfl
  rw [get_mt h.get] at hq; cases hq
end
end Go.Fx
/- Linked nodes in a map: a queue (plain lists; no program in sight). -/
namespace Go.Fx
open Go
abbrev Nd:=Int×Nat×Nat
abbrev Qu:=List (Nat×Int)
def nxtOf:Qu→Nat→Nat
  | [],h=>h
  | (x,_)::_,_=>x
def iL:Nat→Qu→Nat
  | p,[]=>p
  | _,(t,_)::r=>iL t r
def nodeA:Nat→Qu→Nat→Nat→Option Nd
  | _,[],_,_=>none
  | p,(u,v)::r,h,t=>if t = u then some (v,p,nxtOf r h) else nodeA u r h t
def f0 (L:Qu):List Nat:=L.map Prod.fst
theorem last_mem:∀ {L:Qu} {p:Nat},L≠[]→iL p L ∈ f0 L
  | [(t,v)],p,_=>by simp [iL,f0]
  | (t, v) :: y :: r, p, _ => by
    have:=last_mem (L:=y::r) (p:=t) (by simp)
    simp only [iL,f0,List.map_cons,List.mem_cons] at this ⊢
    exact .inr this
theorem last_app (B:Qu):∀ (A:Qu) (p:Nat),iL p (A++B) = iL (iL p A) B
  | [],_=>rfl
  | (t,v)::A,p=>last_app B A t
def ndAV (x:Nd):AV:=.agg [.lit (.int .i64 x.1),.lit (.int .u64 (x.2.1:Nat)),.lit (.int .u64 (x.2.2:Nat))]
structure QIs (st:St) (q mid:Nat) (L:Qu) (g:Nat):Prop where
  get:st.get q = some [.lit (.int .u64 (nxtOf L 0:Nat)),.lit (.int .u64 (iL 0 L:Nat)),.lit (.int .u64 (g:Nat)),.map mid]
  mp:∃ m,MapIs st mid .u64 ndAV m∧(∀ t:Nat,lookP t m = nodeA 0 L 0 t)∧m.length = L.length
  srt:(f0 L).Pairwise (· < ·)
  pos:∀ t ∈ f0 L,0 < t∧t≤g
theorem QIs.ltq {st:St} {q mid g:Nat} {L:Qu} (h:QIs st q mid L g):q < st.boxes.length:=cv h.get
theorem QIs.ltm {st:St} {q mid g:Nat} {L:Qu} (h:QIs st q mid L g):mid < st.boxes.length:=by
  obtain ⟨m,hm,_⟩:=h.mp
  exact hm.lt
theorem QIs.at {st st':St} {q mid g:Nat} {L:Qu} (h:QIs st q mid L g) (h1:st'.boxes[q]? = st.boxes[q]?) (h2:st'.boxes[mid]? = st.boxes[mid]?):QIs st' q mid L g:=by
  obtain ⟨m,hm,h3,h4⟩:=h.mp
  exact ⟨(get_at h1).trans h.get,⟨m,hm.at h2,h3,h4⟩,h.srt,h.pos⟩
theorem ticks_app (A B:Qu):f0 (A++B) = f0 A++f0 B:=by simp [f0]
theorem QIs.del {st st':St} {q mid g:Nat} {A B:Qu} {t:Nat} {v:Int} (h:QIs st q mid (A++(t,v)::B) g) {m':List (Int×Nd)} (hg:st'.get q = some [.lit (.int .u64 (nxtOf (A++B) 0:Nat)),.lit (.int .u64 (iL 0 (A++B):Nat)),.lit (.int .u64 (g:Nat)),.map mid])
    (hm:MapIs st' mid .u64 ndAV m') (hl:∀ t:Nat,lookP t m' = nodeA 0 (A++B) 0 t) (hn:m'.length = (A++B).length):QIs st' q mid (A++B) g:=by
  have hsub:(f0 (A++B)).Sublist (f0 (A++(t,v)::B)):=by
    simp only [ticks_app]
    exact List.Sublist.append (List.Sublist.refl _) (List.sublist_cons_self _ _)
  exact ⟨hg,⟨m',hm,hl,hn⟩,h.srt.sublist hsub,fun x hx=>h.pos x (hsub.subset hx)⟩
end Go.Fx
/- A channel's state: plain lists, and where they lie. -/
namespace Go.Fx
open Go
abbrev W3:=Nat×Int×Int
structure ChP where
  closed:Bool
  cap:Nat
  buf:List Int
  S:List W3
  V:List W3
  g0:Nat
  g1:Nat
def qOf (l:List W3):Qu:=l.map fun x=>(x.1,x.2.1)
def wEnt (d:Int) (l:List W3):List (Int×(Int×Int×Nat)):=l.map fun x=>(x.2.1,(d,x.2.2,x.1))
def entC (S V:List W3):List (Int×(Int×Int×Nat)):=wEnt 0 S++wEnt 1 V
def wtAV (x:Int×Int×Nat):AV:=.agg [.lit (.int .i64 x.1),.lit (.int .i64 x.2.1),.lit (.int .u64 (x.2.2:Nat))]
def ints (l:List Int):List AV:=l.map fun v=>.lit (.int .i64 v)
def aO:AV→List Nat
  | .bs id _ _ _ _=>[id]
  | _=>[]
structure ChIs (st:St) (c:Nat) (P:ChP) (q0 m0 q1 m1 wid:Nat) (bv:AV):Prop where
  get:st.get c = some [.lit (.bool true),.lit (.bool P.closed),.lit (.int .i64 (P.cap:Nat)),bv,.ptr q0 0,.ptr q1 0,.map wid]
  buf:MB bv st (ints P.buf)
  s:QIs st q0 m0 (qOf P.S) P.g0
  r:QIs st q1 m1 (qOf P.V) P.g1
  w:∃ W,MapIs st wid .i64 wtAV W∧∀ t,lookP t W = lookP t (entC P.S P.V)
  ids:[c,q0,q1,m0,m1,wid].Nodup
  bid:∀ x ∈ aO bv,x ∉ [c,q0,q1,m0,m1,wid]
  nd:(keysP (entC P.S P.V)).Nodup
  rng:∀ t ∈ keysP (entC P.S P.V),0≤t∧t < 64
  zv:∀ x ∈ P.V,x.2.2 = 0
def Kp (st st':St) (F:List Nat):Prop:=st.boxes.length≤st'.boxes.length∧∀ id,id < st.boxes.length→id ∉ F→st'.boxes[id]? = st.boxes[id]?
theorem Kp.refl (st:St) (F:List Nat):Kp st st F:=⟨Nat.le_refl _,fun _ _ _=>rfl⟩
theorem MB.at {v:AV} {st st':St} {l:List AV} (h:MB v st l) (hb:∀ x ∈ aO v,st'.boxes[x]? = st.boxes[x]?):MB v st' l:=by
  rcases h with ⟨rfl,rfl⟩ | ⟨id,cap,r,rfl,hg,h1,h2⟩
  · exact .inl ⟨rfl,rfl⟩
  · exact .inr ⟨id,cap,r,rfl,(get_at (hb id (by simp [aO]))).trans hg,h1,h2⟩
theorem MB.lt {v:AV} {st:St} {l:List AV} (h:MB v st l):∀ x ∈ aO v,x < st.boxes.length:=by
  rcases h with ⟨rfl,rfl⟩ | ⟨id,cap,r,rfl,hg,h1,h2⟩
  · simp [aO]
  · intro x hx
    simp only [aO,List.mem_singleton] at hx
    subst hx
    exact cv hg
section
variable {st st':St} {c q0 m0 q1 m1 wid:Nat} {bv:AV} {P:ChP}
theorem ChIs.lts (h:ChIs st c P q0 m0 q1 m1 wid bv):∀ x ∈ [c,q0,q1,m0,m1,wid]++aO bv,x < st.boxes.length:=by
  obtain ⟨W,hW,_⟩:=h.w
  intro x hx
  simp only [List.mem_append,List.mem_cons,List.not_mem_nil,or_false] at hx
  rcases hx with (rfl | rfl | rfl | rfl | rfl | rfl) | hx
  · exact cv h.get
  · exact h.s.ltq
  · exact h.r.ltq
  · exact h.s.ltm
  · exact h.r.ltm
  · exact hW.lt
  · exact h.buf.lt x hx
end
theorem MB.grow {v:AV} {st:St} {l new:List AV} {bytes:Nat} {C:AV→St→Prop} (h:MB v st l) (hl:Lits l) (hn:Lits new) (hr:fA (l.length + new.length) bytes = true)
    (hC:∀ v' st',MB v' st' (l++new)→Kp st st' (aO v)→(∀ x ∈ aO v',x ∈ aO v∨st.boxes.length≤x)→C v' st'):appX false 1 bytes v C st new:=by
  rcases h with ⟨rfl,rfl⟩ | ⟨id,cap,r,rfl,hg,h1,h2⟩
  · refine ⟨rfl,by simpa using hr,?_⟩
    split
    · rename_i h
      have:new = []:=by simpa using h
      subst this
      exact hC _ _ (.inl ⟨rfl,rfl⟩) (Kp.refl _ _) (by simp [aO])
    · intro c hc
      refine hC _ _ (.inr ⟨st.boxes.length,c,List.replicate (c - new.length) .any,by simp,?_,by simpa using hc,by simp; omega⟩) ⟨by simp [St.push],fun id hid _=>push_at hid⟩ (by simp [aO])
      rw [hn.cellsD]
      simp only [List.nil_append,Nat.mul_one]
      exact bN st _
  · refine ⟨rfl,rfl,hr,?_⟩
    rw [hg]
    show (Res.ok _).wp _
    rw [wp_ok,hn.cellsD]
    have hid:=cv hg
    split
    · rename_i hc
      refine ⟨by omega,hC _ _ (.inr ⟨id,cap,r.drop new.length,by simp,?_,by simpa using hc,?_⟩) ⟨by simp [St.set],fun id' _ hne=>ng (by simpa [aO] using hne)⟩ (by simp [aO])⟩
      · rw [bE hid,Nat.zero_add,Nat.mul_one,dD rfl (by simp at h2; omega)]
        simp
      · simp at h2 ⊢; omega
    · rename_i hc
      have e:List.map AV.own1 (List.take (l.length * 1) (List.drop 0 (l++r))) = l:=by simp [hl.own]
      refine ⟨by simp,fun c hc=>hC _ _ (.inr ⟨st.boxes.length,c,List.replicate (c - (l.length + new.length)) .any,by simp,?_,by simpa using hc,by simp; omega⟩) ⟨by simp [St.push],fun id' hid' _=>push_at hid'⟩ (by simp [aO])⟩
      rw [e]
      simp only [Nat.mul_one]
      exact bN st _
def foot (c q0 m0 q1 m1 wid:Nat) (bv:AV):List Nat:=[c,q0,q1,m0,m1,wid]++aO bv
def ChPost (st:St) (c:Nat) (P:ChP) (q0 m0 q1 m1 wid:Nat) (bv:AV) (st':St):Prop :=
  ∃ bv',ChIs st' c P q0 m0 q1 m1 wid bv'∧Kp st st' (foot c q0 m0 q1 m1 wid bv)∧∀ x ∈ aO bv',x ∈ aO bv∨st.boxes.length≤x
theorem ChIs.post {st st':St} {c q0 m0 q1 m1 wid:Nat} {bv:AV} {P:ChP} (h:ChIs st' c P q0 m0 q1 m1 wid bv) (hk:Kp st st' (foot c q0 m0 q1 m1 wid bv)):ChPost st c P q0 m0 q1 m1 wid bv st':=⟨bv,h,hk,fun _ h=>.inl h⟩
theorem ChIs.rebufC {st st1:St} {c q0 m0 q1 m1 wid:Nat} {bv bv1:AV} {P:ChP} {cl:Bool} {b':List Int} (h:ChIs st c P q0 m0 q1 m1 wid bv) (hm:MB bv1 st1 (ints b')) (hk:Kp st st1 (aO bv)) (hb:∀ x ∈ aO bv1,x ∈ aO bv∨st.boxes.length≤x) :
    ChIs (st1.set c [.lit (.bool true),.lit (.bool cl),.lit (.int .i64 (P.cap:Nat)),bv1,.ptr q0 0,.ptr q1 0,.map wid]) c { P with buf:=b',closed:=cl } q0 m0 q1 m1 wid bv1 ∧
    Kp st (st1.set c [.lit (.bool true),.lit (.bool cl),.lit (.int .i64 (P.cap:Nat)),bv1,.ptr q0 0,.ptr q1 0,.map wid]) (foot c q0 m0 q1 m1 wid bv):=by
  have hlt:=h.lts
  have hids:=h.ids
  have hbid:=h.bid
  have hcl:c < st1.boxes.length:=Nat.lt_of_lt_of_le (hlt c (by simp)) hk.1
  simp only [List.nodup_cons,List.mem_cons,List.not_mem_nil,or_false,not_or] at hids
  have hat:∀ x ∈ [q0,q1,m0,m1,wid],(st1.set c [.lit (.bool true),.lit (.bool cl),.lit (.int .i64 (P.cap:Nat)),bv1,.ptr q0 0,.ptr q1 0,.map wid]).boxes[x]? = st.boxes[x]?:=by
    intro x hx
    rw [ng (by simp at hx; omega)]
    refine hk.2 x (hlt x (by simp at hx ⊢; omega)) fun e=>?_
    exact hbid x e (by simp at hx ⊢; omega)
  have hbc:∀ x ∈ aO bv1,x ∉ [c,q0,q1,m0,m1,wid]:=by
    intro x hx hin
    rcases hb x hx with e | e
    · exact hbid x e hin
    · have:=hlt x (List.mem_append_left _ hin); omega
  obtain ⟨W,hW,hl⟩:=h.w
  refine ⟨⟨bE hcl,hm.at fun x hx=>ng fun e=>hbc x hx (by simp [e]),h.s.at (hat _ (by simp)) (hat _ (by simp)),h.r.at (hat _ (by simp)) (hat _ (by simp)),⟨W,hW.at (hat _ (by simp)),hl⟩,h.ids,hbc,h.nd,h.rng,h.zv⟩,⟨by rw [m4]; exact hk.1,fun x hx hn=>?_⟩⟩
  simp only [foot,List.mem_append,List.mem_cons,List.not_mem_nil,or_false,not_or] at hn
  rw [ng hn.1.1]
  exact hk.2 x hx hn.2
end Go.Fx
