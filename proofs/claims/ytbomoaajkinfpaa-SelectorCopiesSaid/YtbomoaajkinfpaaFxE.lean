/- An evaluator for resolved code, proved against the model: part 5. -/
import Derived.Test.YtbomoaajkinfpaaFxD
import Derived.ProofKit
import Derived.IntWalk
/- From the readings of a row to abstract values, and back. -/
namespace Go.Fx
open Go Go.RowKit Go.ChangeShapes
inductive Sh where
  | bool
  | int (k:IntKind)
  | str
  | sl (e:Sh)
  | unit
  | pair (a r:Sh)
@[reducible] def Sh.T:Sh→Type
  | .bool=>Bool
  | .int _=>Int
  | .str=>ByteArray
  | .sl e=>List e.T
  | .unit=>Unit
  | .pair a r=>a.T×r.T
def Sh.size:Sh→Nat
  | .unit=>0
  | .pair a r=>a.size + r.size
  | _=>1
def Sh.isSt:Sh→Bool
  | .unit=>true
  | .pair _ _=>true
  | _=>false
def im:Bool→List AV→AV
  | true,cs=>.agg cs
  | false,cs=>cs.headD .any
def Sh.cells:(s:Sh)→s.T→List AV
  | .bool,b=>[.lit (.bool b)]
  | .int k,n=>[.lit (.int k n)]
  | .str,s=>[.lit (.string s)]
  | .sl e,l=>[.sl false e.size (List.map (fun x=>im e.isSt (e.cells x)) l)]
  | .unit,_=>[]
  | .pair a r,x=>a.cells x.1++r.cells x.2
def Sh.av (s:Sh) (x:s.T):AV:=im s.isSt (s.cells x)
def Sh.ok:(s:Sh)→s.T→Prop
  | .bool,_=>True
  | .int k,n=>k.min≤n∧n≤k.max
  | .str,s=>s.size≤maxLen
  | .sl e,l=>l.length≤maxLen∧∀ x ∈ l,e.ok x
  | .unit,_=>True
  | .pair a r,x=>a.ok x.1∧r.ok x.2
theorem Sh.cells_len:∀ (s:Sh) (x:s.T),(s.cells x).length = s.size
  | .bool,_=>rfl
  | .int _,_=>rfl
  | .str,_=>rfl
  | .sl _,_=>rfl
  | .unit,_=>rfl
  | .pair a r,x=>by simp [Sh.cells,Sh.size,Sh.cells_len a,Sh.cells_len r]
theorem Sh.av_cells (s:Sh) (x:s.T):(s.av x).cells = s.cells x:=by
  cases s <;> rfl
section
variable (P:Program)
mutual
def jU:Nat→TypeId→Option Sh
  | 0,_=>none
  | n + 1, t => match P.underlying t with
    | some .bool=>some .bool
    | some (.int k)=>some (.int k)
    | some .string=>some .str
    | some (.slice e)=>(jU n e).bind fun s=>if s.size = P.cellsOf e∧0 < s.size then some (.sl s) else none
    | some (.struct fs)=>(f0 n 0 fs.toList).bind fun s=>if s.size = P.cellsOf t then some s else none
    | _=>none
def f0:Nat→Nat→List Field→Option Sh
  | 0,_,_=>none
  | _ + 1,_,[]=>some .unit
  | n + 1,off,f::r=>if f.offset = off then (jU n f.type).bind fun a=>if a.size = P.cellsOf f.type then (f0 n (off + a.size) r).map (.pair a ·) else none else none
end
end
theorem shapeF_st {P:Program}:∀ {n off:Nat} {l:List Field} {s:Sh},f0 P n off l = some s→s.isSt = true
  | 0,_,_,_,h=>by simp [f0] at h
  | n + 1,off,[],s,h=>by simp [f0] at h; subst h; rfl
  | n + 1, off, f :: r, s, h => by
    simp only [f0] at h
    split at h
    · rw [Option.bind_eq_some_iff] at h
      obtain ⟨a,_,h⟩:=h
      split at h
      · obtain ⟨q,_,rfl⟩:=map_some h; rfl
      · cases h
    · cases h
section
variable {H:Type} {enc:TypeId×Value→H} {P:Program} {w:World} {base:Nat} {spare:Nat→Bool} {held:Bool} {g:Gh}
theorem oY {a:Addr} {q:Nat} {cs:List Value} (h:w.cells? base a q = some cs):cs.length = q∧∀ (i:Nat) (u:Value),cs[i]? = some u→w.cell? (a.add i) = some u:=by
  unfold World.cells? at h
  split at h
  · have key:∀ (l:List Nat) (cs:List Value),l.mapM (fun i=>w.cell? (a.add i)) = some cs→cs.length = l.length∧∀ (i j:Nat) (u:Value),l[i]? = some j→cs[i]? = some u→w.cell? (a.add j) = some u:=by
      intro l
      induction l with
      | nil=>intro cs h; simp at h; subst h; exact ⟨rfl,fun i j u h=>by simp at h⟩
      | cons x r ih =>
        intro cs h
        simp only [List.mapM_cons,bind,Option.bind_eq_some_iff,pure,Option.some.injEq] at h
        obtain ⟨v,hv,l',hl,rfl⟩:=h
        obtain ⟨h1,h2⟩:=ih l' hl
        refine ⟨by simp [h1],fun i j u hi hu=>?_⟩
        cases i with
        | zero=>simp at hi hu; subst hi; subst hu; exact hv
        | succ i=>exact h2 i j u (by simpa using hi) (by simpa using hu)
    obtain ⟨h1,h2⟩:=key _ _ h
    simp at h1
    refine ⟨h1,fun i u hu=>h2 i i u ?_ hu⟩
    have:i < q:=by rw [← h1]; exact (List.getElem?_eq_some_iff.1 hu).1
    simp [this]
  · cases h
theorem add_spot {a:Addr} {i:Nat} {u:Value} (h:w.cell? (a.add i) = some u):i = 0→a.spot = none:=by
  intro e
  subst e
  simp only [Addr.add,if_true] at h
  unfold World.cell? at h
  split at h
  · split at h
    · cases h
    · rename_i hs; simpa using hs
  · cases h
theorem gj {x:AV} {u:Value} (h:R g x u):RL g [x] [u]:=⟨rfl,fun i a b ha hb=>by cases i <;> simp at ha hb; subst ha; subst hb; exact h⟩
def Reads (g:Gh) (s:Sh) (cs:List Value):Prop:=∃ x:s.T,s.ok x∧RL g (s.cells x) cs∧∀ u ∈ cs,u.oneCell' = true
theorem shape_R (hi:∀ b o u,w.cell? ⟨b,o,none⟩ = some u→g.imm b o = some u):∀ (n:Nat),
    (∀ (t:TypeId) (s:Sh) (fuel:Nat) (cs:List Value) (x:DataW H×List MemPlace),jU P n t = some s→DataW.trod enc P w base spare held fuel t cs = some x→Reads g s cs) ∧
    (∀ (off:Nat) (l:List Field) (s:Sh) (fuel:Nat) (cs:List Value) (xs:List (DataW H×List MemPlace)),f0 P n off l = some s→cs.length = off + s.size →
      (l.mapM fun f=>DataW.trod enc P w base spare held fuel f.type ((cs.drop f.offset).take (P.cellsOf f.type))) = some xs→Reads g s (cs.drop off)):=by
  intro n
  induction n with
  | zero=>exact ⟨fun t s fuel cs x h=>by simp [jU] at h,fun off l s fuel cs xs h=>by simp [f0] at h⟩
  | succ n ih =>
    obtain ⟨ih1,ih2⟩:=ih
    constructor
    · intro t s fuel cs x hs ht
      cases fuel with
      | zero=>simp [DataW.trod] at ht
      | succ fuel =>
      simp only [jU] at hs
      split at hs
      · rename_i hu
        cases hs
        have:∃ b,cs = [.bool b]:=by
          simp only [DataW.trod,hu] at ht
          split at ht <;> simp_all
        obtain ⟨b,rfl⟩:=this
        exact ⟨b,trivial,gj (R.lit _ rfl),by simp [Value.oneCell']⟩
      · rename_i k hu
        cases hs
        have:∃ m,cs = [.int k m]∧(Lit.int k m).wf = true:=by
          simp only [DataW.trod,hu] at ht
          split at ht <;> simp_all
        obtain ⟨m,rfl,hwf⟩:=this
        simp only [Lit.wf,Bool.and_eq_true,decide_eq_true_eq] at hwf
        exact ⟨m,hwf,gj (R.lit _ rfl),by simp [Value.oneCell']⟩
      · rename_i hu
        cases hs
        have:∃ q,cs = [.string q]∧q.size≤maxLen:=by
          simp only [DataW.trod,hu] at ht
          split at ht <;> simp_all
        obtain ⟨q,rfl,hwf⟩:=this
        exact ⟨q,hwf,gj (R.lit _ rfl),by simp [Value.oneCell']⟩
      · rename_i e hu
        rw [Option.bind_eq_some_iff] at hs
        obtain ⟨se,hse,hs⟩:=hs
        split at hs
        case isFalse=>cases hs
        rename_i hsz
        cases hs
        have:cs = [.slice none 0 0]∨∃ a len cap elems,cs = [.slice (some a) len cap]∧len≤cap∧cap≤maxLen ∧
            (List.range len).mapM (fun i=>(w.cells? base (a.add (i * P.cellsOf e)) (P.cellsOf e)).bind (DataW.trod enc P w base spare held fuel e)) = some elems:=by
          simp only [DataW.trod,hu] at ht
          split at ht
          all_goals try (exfalso; simp_all; done)
          · rename_i e1 h1
            exact .inl rfl
          · rename_i e1 a len cap h1
            cases h1
            split at ht
            · rename_i hc
              rw [Option.bind_eq_some_iff] at ht
              obtain ⟨elems,hm,_⟩:=ht
              exact .inr ⟨a,len,cap,elems,rfl,hc.2.1,hc.2.2,hm⟩
            · cases ht
        rcases this with rfl | ⟨a,len,cap,elems,rfl,hlc,hcm,hm⟩
        · exact ⟨[],⟨Nat.zero_le _,by simp⟩,gj (R.slN _ _),by simp [Value.oneCell']⟩
        · have key:∀ (l:List Nat) (es:List (DataW H×List MemPlace)),l.mapM (fun i=>(w.cells? base (a.add (i * P.cellsOf e)) (P.cellsOf e)).bind (DataW.trod enc P w base spare held fuel e)) = some es →
              ∃ ys:List se.T,ys.length = l.length∧∀ (q j:Nat) (y:se.T),l[q]? = some j→ys[q]? = some y→se.ok y∧∃ cj,w.cells? base (a.add (j * P.cellsOf e)) (P.cellsOf e) = some cj∧RL g (se.cells y) cj∧∀ u ∈ cj,u.oneCell' = true:=by
            intro l
            induction l with
            | nil=>intro es _; exact ⟨[],rfl,fun q j y h=>by simp at h⟩
            | cons z r ihl =>
              intro es h
              simp only [List.mapM_cons,bind,Option.bind_eq_some_iff,pure,Option.some.injEq] at h
              obtain ⟨v,⟨cj,hcj,hv⟩,l',hl,rfl⟩:=h
              obtain ⟨ys,h1,h2⟩:=ihl l' hl
              obtain ⟨y,hy1,hy2,hy3⟩:=ih1 e se fuel cj v hse hv
              refine ⟨y::ys,by simp [h1],fun q j y' hq hy=>?_⟩
              cases q with
              | zero=>simp at hq hy; subst hq; subst hy; exact ⟨hy1,cj,hcj,hy2,hy3⟩
              | succ q=>exact h2 q j y' (by simpa using hq) (by simpa using hy)
          obtain ⟨ys,hyl,hys⟩:=key _ _ hm
          simp at hyl
          have hsz1:=hsz.1
          refine ⟨ys,⟨by rw [hyl]; omega,fun y hy=>?_⟩,gj ?_,by simp [Value.oneCell']⟩
          · obtain ⟨q,hq⟩:=List.mem_iff_getElem?.1 hy
            have hql:q < len:=by rw [← hyl]; exact (List.getElem?_eq_some_iff.1 hq).1
            exact (hys q q y (by simp [hql]) hq).1
          · have hel:(List.map (fun x=>im se.isSt (se.cells x)) ys).length = len:=by simp [hyl]
            rcases Nat.eq_zero_or_pos len with h0 | h0
            · subst h0
              have:ys = []:=List.eq_nil_of_length_eq_zero hyl
              subst this
              exact R.slE false _ a cap
            · have hsp:a.spot = none:=by
                obtain ⟨y0,hy0⟩:∃ y0,ys[0]? = some y0:=⟨ys[0],by simp⟩
                obtain ⟨_,cj,hcj,hrl,_⟩:=hys 0 0 y0 (by simp [h0]) hy0
                obtain ⟨hl0,hc0⟩:=oY hcj
                have hpos:0 < cj.length:=by rw [hl0,← hsz1]; exact hsz.2
                have:=hc0 0 cj[0] (by simp [hpos])
                simp only [Nat.zero_mul] at this
                have ha0:(a.add 0).add 0 = a.add 0:=by simp [Addr.add]
                rw [ha0] at this
                exact add_spot this rfl
              obtain ⟨b,o,sp⟩:=a
              simp only at hsp
              subst hsp
              have hcl:∀ x ∈ (List.map (fun x=>im se.isSt (se.cells x)) ys),x.cells.length = se.size:=by
                intro x hx
                obtain ⟨y,_,rfl⟩:=List.mem_map.1 hx
                have:=Sh.av_cells se y
                unfold Sh.av at this
                rw [this]; exact Sh.cells_len se y
              have hget:∀ (i:Nat) (x:AV),((List.map (fun x=>im se.isSt (se.cells x)) ys).flatMap AV.cells)[i]? = some x→∃ u,w.cell? ⟨b,o + i,none⟩ = some u∧R g x u∧u.oneCell' = true:=by
                intro i x hx
                obtain ⟨q,r,e',rfl,h2,h3⟩:=fm hcl hx
                simp only [List.getElem?_map,Option.map_eq_some_iff] at h2
                obtain ⟨y,hy,rfl⟩:=h2
                have hql:q < len:=by rw [← hyl]; exact (List.getElem?_eq_some_iff.1 hy).1
                obtain ⟨_,cj,hcj,hrl,hone⟩:=hys q q y (by simp [hql]) hy
                have hav:=Sh.av_cells se y
                unfold Sh.av at hav
                rw [hav] at h3
                obtain ⟨hl0,hc0⟩:=oY hcj
                have hr:r < cj.length:=by rw [hrl.1]; exact (List.getElem?_eq_some_iff.1 h3).1
                have h4:=hc0 r cj[r] (by simp [hr])
                rw [cA,cA,← hsz1] at h4
                refine ⟨cj[r],?_,hrl.2 r x _ h3 (by simp [hr]),hone _ (List.getElem_mem hr)⟩
                rw [← Nat.add_assoc]; exact h4
              have:=R.sl (g:=g) false se.size _ (fun i=>(w.cell? ⟨b,o + i,none⟩).getD undef) b o cap (by rw [hel]; exact hlc) hcl (fun i x hx=>?_) (fun i x hx=>?_) (fun i x hx=>?_)
              · rw [hel] at this; exact this
              · obtain ⟨u,h1,h2,h3⟩:=hget i x hx
                rw [h1]; exact hi _ _ _ h1
              · obtain ⟨u,h1,h2,h3⟩:=hget i x hx
                rw [h1]; exact h2
              · obtain ⟨u,h1,h2,h3⟩:=hget i x hx
                rw [h1]; exact h3
      · rename_i fs hu
        rw [Option.bind_eq_some_iff] at hs
        obtain ⟨s',hs',hs⟩:=hs
        split at hs
        case isFalse=>cases hs
        rename_i hsz
        have hss:s' = s:=Option.some.inj hs
        subst hss
        have:cs.length = P.cellsOf t∧∃ xs,(fs.toList.mapM fun f=>DataW.trod enc P w base spare held fuel f.type ((cs.drop f.offset).take (P.cellsOf f.type))) = some xs:=by
          simp only [DataW.trod,hu] at ht
          split at ht
          all_goals try (exfalso; simp_all; done)
          rename_i hc
          obtain ⟨xs,hxs,_⟩:=map_some ht
          exact ⟨hc,xs,hxs⟩
        obtain ⟨hlen,xs,hxs⟩:=this
        have:=ih2 0 fs.toList s' fuel cs xs hs' (by rw [hlen,hsz]; simp) hxs
        simpa using this
      · cases hs
    · intro off l s fuel cs xs hs hlen hm
      cases l with
      | nil =>
        simp only [f0] at hs
        cases hs
        refine ⟨(),trivial,?_,?_⟩
        · have:cs.drop off = []:=by apply List.drop_eq_nil_of_le; simp [Sh.size] at hlen; omega
          rw [this]; exact RL.nil
        · have:cs.drop off = []:=by apply List.drop_eq_nil_of_le; simp [Sh.size] at hlen; omega
          rw [this]; simp
      | cons f r =>
        simp only [f0] at hs
        split at hs
        case isFalse=>cases hs
        rename_i hoff
        rw [Option.bind_eq_some_iff] at hs
        obtain ⟨a,ha,hs⟩:=hs
        split at hs
        case isFalse=>cases hs
        rename_i hsz
        obtain ⟨q,hq,rfl⟩:=map_some hs
        simp only [List.mapM_cons,bind,Option.bind_eq_some_iff,pure,Option.some.injEq] at hm
        obtain ⟨x0,hx0,xr,hxr,rfl⟩:=hm
        obtain ⟨y,hy1,hy2,hy3⟩:=ih1 f.type a fuel _ x0 ha hx0
        obtain ⟨z,hz1,hz2,hz3⟩:=ih2 (off + a.size) r q fuel cs xr hq (by rw [hlen]; simp [Sh.size]; omega) hxr
        have hsplit:cs.drop off = (cs.drop f.offset).take (P.cellsOf f.type)++cs.drop (off + a.size):=by
          rw [hoff,← hsz,← List.drop_drop]
          exact (List.take_append_drop a.size (cs.drop off)).symm
        rw [hsplit]
        exact ⟨(y,z),⟨hy1,hz1⟩,hy2.append hz2,fun u hu=>(List.mem_append.1 hu).elim (hy3 u) (hz3 u)⟩
theorem cell_plain {r:Reach} {b0:Nat} {t:TypeId} {v:Value} {s:Sh} {n:Nat} (hs:jU P (n + 1) t = some s) (hv:Value.okWide P w r b0 t v):(s.isSt = true∧∃ cs,v = .agg cs)∨(s.isSt = false∧v.cells = #[v]):=by
  simp only [jU] at hs
  unfold Value.okWide at hv
  split at hs
  · rename_i hu
    cases hs
    simp only [hu,Cell.okWide,Cell.ok] at hv
    right
    refine ⟨rfl,?_⟩
    cases v <;> first | rfl | (simp at hv; done)
  · rename_i k hu
    cases hs
    simp only [hu,Cell.okWide,Cell.ok] at hv
    right
    refine ⟨rfl,?_⟩
    cases v <;> first | rfl | (simp at hv; done)
  · rename_i hu
    cases hs
    simp only [hu,Cell.okWide,Cell.ok] at hv
    right
    refine ⟨rfl,?_⟩
    cases v <;> first | rfl | (simp at hv; done)
  · rename_i e hu
    rw [Option.bind_eq_some_iff] at hs
    obtain ⟨se,hse,hs⟩:=hs
    split at hs
    case isFalse=>cases hs
    cases hs
    simp only [hu,Cell.okWide,Cell.ok] at hv
    right
    refine ⟨rfl,?_⟩
    cases v <;> first | rfl | (simp at hv; done)
  · rename_i fs hu
    rw [Option.bind_eq_some_iff] at hs
    obtain ⟨s',hs',hs⟩:=hs
    split at hs
    case isFalse=>cases hs
    have hss:s' = s:=Option.some.inj hs
    subst hss
    simp only [hu] at hv
    obtain ⟨cs,rfl,_⟩:=hv
    exact .inl ⟨shapeF_st hs',cs,rfl⟩
  · cases hs
theorem trod_sh (hi:∀ b o u,w.cell? ⟨b,o,none⟩ = some u→g.imm b o = some u) {n:Nat} {t:TypeId} {s:Sh} {v:Value} {d:DataW H} {ps:List MemPlace} {r:Reach} {b0:Nat} (hs:jU P (n + 1) t = some s) (h:DataW.Trod enc P w base spare held t v d ps)
    (hv:Value.okWide P w r b0 t v):∃ x:s.T,s.ok x∧R g (s.av x) v:=by
  obtain ⟨fuel,hf⟩:=h
  obtain ⟨x,h1,h2,h3⟩:=(shape_R (enc:=enc) (base:=base) (spare:=spare) (held:=held) hi (n + 1)).1 t s fuel _ _ hs hf
  refine ⟨x,h1,?_⟩
  rcases cell_plain hs hv with ⟨hst,cs,rfl⟩ | ⟨hst,hc⟩
  · unfold Sh.av
    rw [hst]
    have:=RL.agg h2
    simpa [im,Value.cells] using this
  · rw [hc] at h2
    unfold Sh.av
    rw [hst]
    simp only [im]
    have hl:=h2.1
    match hcs:s.cells x,hl with
    | [c], _ =>
      rw [hcs] at h2
      exact h2.2 0 c v rfl rfl
def parS (P:Program):List TypeId→Option Sh
  | []=>some .unit
  | t :: r => match jU P 20 t, parS P r with
    | some s,some q=>some (.pair s q)
    | _,_=>none
def fC:(s:Sh)→s.T→List AV
  | .pair a r,x=>a.av x.1::fC r x.2
  | .bool,_=>[]
  | .int _,_=>[]
  | .str,_=>[]
  | .sl _,_=>[]
  | .unit,_=>[]
theorem args_R (hi:∀ b o u,w.cell? ⟨b,o,none⟩ = some u→g.imm b o = some u) {b0:Nat}:∀ {ts:List TypeId} {vs:List Value} {ds:List (DataW H)} {ps:List MemPlace} {S:Sh},parS P ts = some S→DataW.TrodAll enc P w base spare held ts vs ds ps →
    (∀ (j:Nat) t v,ts[j]? = some t→vs[j]? = some v→Value.okWide P w .any b0 t v)→∃ x:S.T,S.ok x∧lh g (fC S x) vs.toArray
  | [], vs, ds, ps, S, hS, h, _ => by
    simp only [parS] at hS
    cases hS
    cases vs with
    | nil=>exact ⟨(),trivial,rfl,fun i x u hx=>by simp [fC] at hx⟩
    | cons v r=>cases ds <;> exact h.elim
  | t :: ts, vs, ds, ps, S, hS, h, hok => by
    simp only [parS] at hS
    split at hS
    · rename_i s q hs hq
      cases hS
      cases vs with
      | nil=>cases ds <;> exact h.elim
      | cons v vs =>
        cases ds with
        | nil=>exact h.elim
        | cons d ds =>
          obtain ⟨p1,p2,h1,h2,_⟩:=h
          obtain ⟨x,hx1,hx2⟩:=trod_sh hi (n:=19) hs h1 (hok 0 t v rfl rfl)
          obtain ⟨y,hy1,hy2⟩:=args_R hi hq h2 (fun j t v ht hv=>hok (j + 1) t v (by simpa using ht) (by simpa using hv))
          refine ⟨(x,y),⟨hx1,hy1⟩,by simpa [fC] using hy2.1,fun i a u ha hu=>?_⟩
          cases i with
          | zero=>simp [fC] at ha hu; subst ha; subst hu; exact hx2
          | succ i=>exact hy2.2 i a u (by simpa [fC] using ha) (by simpa using hu)
    · cases hS
theorem je (hl:laidOutB P = true) {W W':World} {sp':Nat→Bool}:∀ {ts:List TypeId} {vs:List Value} {ds:List (DataW H)} {ps:List MemPlace},(∀ t ∈ ts,P.readableRec t = true∧t < P.types.size) →
    DataW.TrodAll enc P W base (fun _=>true) true ts vs ds ps→(∀ p ∈ ps,W.sameAt W' p)→(∀ p ∈ ps,sp' p.block = true)→DataW.TrodAll enc P W' base sp' true ts vs ds ps
  | [],[],[],ps,_,h,_,_=>h
  | [],[],_::_,_,_,h,_,_=>h.elim
  | [],_::_,[],_,_,h,_,_=>h.elim
  | [],_::_,_::_,_,_,h,_,_=>h.elim
  | _::_,[],[],_,_,h,_,_=>h.elim
  | _::_,[],_::_,_,_,h,_,_=>h.elim
  | _::_,_::_,[],_,_,h,_,_=>h.elim
  | t :: ts, v :: vs, d :: ds, ps, ht, h, hs, hp => by
    obtain ⟨p,q,h1,h2,rfl⟩:=h
    exact ⟨p,q,WideElems.Trod_stays hl (ht t (by simp)).1 (ht t (by simp)).2 h1 (fun x hx=>hs x (by simp [hx])) (fun x hx=>hp x (by simp [hx])),
      je hl (fun t h=>ht t (by simp [h])) h2 (fun x hx=>hs x (by simp [hx])) (fun x hx=>hp x (by simp [hx])),rfl⟩
theorem n9 {W W':World} {may:MemPlace→Prop} (hb:Below W.heap.size W W'):W.keptBut W' may:=by
  refine ⟨hb.os,hb.output,fun i hi=>?_⟩
  rw [hb.block i hi]
  cases hh:W.heap[i]? with
  | none=>rfl
  | some o=>cases o <;> first | rfl | exact ⟨rfl,rfl,rfl,fun _ _=>rfl⟩ | exact .inr ⟨rfl,rfl⟩
theorem post_law {f:Func} {s:ChangeSpec} {apart fresh handsOn again:Bool} {W W':World} {args:Array Value} {ds gs:List (DataW H)} {before:List MemPlace} {tb:TypeId} (hl:laidOutB P = true) (ht:∀ t ∈ f.params.toList,P.readableRec t = true∧t < P.types.size)
    (hres:f.resultTypes = #[tb]) (htb:P.underlying tb = some .bool) (hvars:s.vars = []) (hfn:∀ ds:List (DataW H),ds.length = f.params.size→(s.fn H ds).results = [.lit (.bool true)]∧(s.fn H ds).args = ds∧(s.fn H ds).vars = [])
    (hW:DataW.Whole enc P f.params.toList s.vars apart W args.toList ds gs before) (hb:Below W.heap.size W W'):s.post enc P f apart fresh handsOn again W args (.bool true) W':=by
  have hW0:=hW
  obtain ⟨p,q,hA,hV,hpq,hz,hn⟩:=hW
  rw [hvars] at hV
  obtain ⟨rfl,rfl⟩:=trodVars_none hV
  simp only [List.append_nil] at hpq
  subst hpq
  have hlen:ds.length = f.params.size:=by
    have key:∀ {ts:List TypeId} {vs:List Value} {ds:List (DataW H)} {ps:List MemPlace},DataW.TrodAll enc P W 0 (fun _=>true) true ts vs ds ps→ds.length = ts.length:=by
      intro ts
      induction ts with
      | nil=>intro vs ds ps h; cases vs <;> cases ds <;> first | rfl | exact h.elim
      | cons t ts ih =>
        intro vs ds ps h
        cases vs <;> cases ds <;> first | exact h.elim | skip
        obtain ⟨_,_,_,h2,_⟩:=h
        simp [ih h2]
    have:=key hA
    simpa using this
  obtain ⟨hr1,hr2,hr3⟩:=hfn (ds++[]) (by simpa using hlen)
  have hlt:∀ x ∈ before,x.block < W.heap.size:=fun x hx=>by simpa using hW0.lt x hx
  have hsame:∀ x ∈ before,W.sameAt W' x:=fun x hx=>hb.same (hlt x hx)
  have hret:∀ (b:Nat) (sp:Nat→Bool) (hd:Bool),DataW.TrodAll enc P W' b sp hd f.resultTypes.toList ((Value.bool true).resultList f.resultTypes.size) (s.fn H (ds++[])).results []:=by
    intro b sp hd
    rw [hr1,hres]
    refine ⟨[],[],⟨1,?_⟩,rfl,rfl⟩
    simp [DataW.trod,htb,Value.cells]
  have hargs:∀ sp:Nat→Bool,(∀ p ∈ before,sp p.block = true)→DataW.TrodAll enc P W' 0 sp true f.params.toList args.toList (s.fn H (ds++[])).args before:=by
    intro sp hsp
    rw [hr2,List.append_nil]
    exact je hl ht hA hsame hsp
  have hvs:∀ sp:Nat→Bool,DataW.TrodVars enc P W' sp s.vars (s.fn H (ds++[])).vars []:=by
    intro sp
    rw [hvars,hr3]
    rfl
  refine ⟨ds,[],before,[],before,[],hW0,hret _ _ _,hargs _ (fun x hx=>by simpa using hlt x hx),hvs _,n9 hb,fun _=>?_⟩
  refine ⟨fun j t r hj hr=>?_,_,_,([]++before)++[],⟨[]++before,[],trodAll_append (hargs _ (fun _ _=>rfl)) (hret _ _ _),hvs _,rfl,?_,?_⟩,?_⟩
  · rw [hres] at hj hr
    match j with
    | 0 =>
      simp [Value.resultList] at hj hr
      subst hj; subst hr
      simp [Value.okWide,htb,Cell.okWide,Cell.ok]
    | j + 1=>simp at hj
  · intro b off hp
    have hp':(MemPlace.cell b off) ∈ before:=by simpa using hp
    have h1:=hz b off hp'
    have h2:=hlt _ hp'
    unfold World.frozen? at h1 ⊢
    rw [hb.block b h2]; exact h1
  · intro ha
    have:=hn ha
    simpa using this
  · intro x hx _
    simpa using hx
theorem wrap_nb {b:Bool} {l:List AV} (h:∀ c ∈ l,c.NB):(im b l).NB:=by
  cases b
  · cases l with
    | nil=>exact .any
    | cons c r=>exact h c (List.mem_cons_self ..)
  · exact .agg _ h
theorem jV:∀ (s:Sh) (x:s.T),∀ c ∈ s.cells x,c.NB
  | .bool,b,c,h=>by simp only [Sh.cells,List.mem_singleton] at h; subst h; exact .lit _
  | .int _,b,c,h=>by simp only [Sh.cells,List.mem_singleton] at h; subst h; exact .lit _
  | .str,b,c,h=>by simp only [Sh.cells,List.mem_singleton] at h; subst h; exact .lit _
  | .sl e, l, c, h => by
    simp only [Sh.cells,List.mem_singleton] at h; subst h
    refine .sl _ _ _ fun v hv=>?_
    obtain ⟨y,_,rfl⟩:=List.mem_map.1 hv
    exact wrap_nb (jV e y)
  | .unit,_,c,h=>by simp [Sh.cells] at h
  | .pair a r, x, c, h => by
    simp only [Sh.cells,List.mem_append] at h
    exact h.elim (jV a x.1 c) (jV r x.2 c)
theorem avsOf_nb:∀ (s:Sh) (x:s.T),∀ c ∈ fC s x,c.NB
  | .pair a r, x, c, h => by
    simp only [fC,List.mem_cons] at h
    rcases h with rfl | h
    · exact wrap_nb (jV a x.1)
    · exact avsOf_nb r x.2 c h
  | .bool,_,c,h=>by simp [fC] at h
  | .int _,_,c,h=>by simp [fC] at h
  | .str,_,c,h=>by simp [fC] at h
  | .sl _,_,c,h=>by simp [fC] at h
  | .unit,_,c,h=>by simp [fC] at h
theorem law_calls {f:FuncId} {fn:Func} {s:ChangeSpec} {apart fresh handsOn again:Bool} {tb:TypeId} {S:Sh} (hl:laidOutB P = true) (ht:∀ t ∈ fn.params.toList,P.readableRec t = true∧t < P.types.size)
    (hS:parS P fn.params.toList = some S) (hres:fn.resultTypes = #[tb]) (htb:P.underlying tb = some .bool) (hvars:s.vars = []) (hfn:∀ ds:List (DataW H),ds.length = fn.params.size→(s.fn H ds).results = [.lit (.bool true)]∧(s.fn H ds).args = ds∧(s.fn H ds).vars = [])
    (hlaw:∀ x:S.T,S.ok x→aD P f (fC S x) ⟨[]⟩ (.lit (.bool true)))
    (W:World) (b0:Nat) (args:Array Value) (ds gs:List (DataW H)) (before:List MemPlace) (hval:∀ (j:Nat) t v,fn.params[j]? = some t→args[j]? = some v→Value.okWide P W .any b0 t v)
    (hW:DataW.Whole enc P fn.params.toList s.vars apart W args.toList ds gs before):Calls P f args W fun e W'=>∃ v,e = .returned v∧s.post enc P fn apart fresh handsOn again W args v W':=by
  have hW0:=hW
  obtain ⟨p,q,hA,_⟩:=hW
  let g0:Gh:=⟨W.heap.size,fun b o=>W.cell? ⟨b,o,none⟩,fun _=>none,fun _ _=>none,fun _=>none⟩
  have hg:Good g0 W:=⟨fun _ _ _ h=>h,fun _ _ _ _=>.inl rfl,(fun b c hc=>by cases hc),Nat.le_refl _⟩
  have hbx:BoxR g0 W ⟨[]⟩:=⟨fun _ _=>rfl,fun id cs hc=>by simp at hc,fun id bx hc=>by simp at hc⟩
  obtain ⟨x,hx,hargs⟩:=args_R (g:=g0) (b0:=b0) (fun b o u h=>h) hS hA (fun j t v ht hv=>hval j t v (by simpa using ht) (by simpa using hv))
  refine (hlaw x hx g0 W args (fun _=>.box 0 0) hg hbx (by simpa using hargs)).mono fun e W' ⟨u,g',he,hle,hR,_⟩=>?_
  have hu:=hR.lit_inv.1
  subst hu
  exact ⟨_,he,post_law hl ht hres htb hvars hfn hW0 hle.below⟩
theorem law_top {f:FuncId} {fn:Func} {s:ChangeSpec} {apart fresh handsOn again:Bool} {tb:TypeId} {S:Sh} (hl:laidOutB P = true) (ht:(fn.params.toList.all fun t=>P.readableRec t && decide (t < P.types.size)) = true)
    (hS:parS P fn.params.toList = some S) (hres:fn.resultTypes = #[tb]) (htb:P.underlying tb = some .bool) (hvars:s.vars = []) (hfn:∀ ds:List (DataW H),ds.length = fn.params.size→(s.fn H ds).results = [.lit (.bool true)]∧(s.fn H ds).args = ds∧(s.fn H ds).vars = [])
    (hlaw:∀ x:S.T,S.ok x→aA P f (fC S x) ⟨[]⟩ fun v _=>v = .lit (.bool true))
    (W:World) (b0:Nat) (args:Array Value) (ds gs:List (DataW H)) (before:List MemPlace) (hval:∀ (j:Nat) t v,fn.params[j]? = some t→args[j]? = some v→Value.okWide P W .any b0 t v)
    (hW:DataW.Whole enc P fn.params.toList s.vars apart W args.toList ds gs before):Calls P f args W fun e W'=>∃ v,e = .returned v∧s.post enc P fn apart fresh handsOn again W args v W':=by
  refine law_calls hl (fun t h=>by have:=List.all_eq_true.1 ht t h; simpa using this) hS hres htb hvars hfn (fun x hx=>?_) W b0 args ds gs before hval hW
  refine pure_of ((hlaw x hx).mono fun v st e=>by subst e; exact .le _ _ (.refl _) (.lit _)) (fun v hv=>avsOf_nb S x v hv) _
end
end Go.Fx
/- The table of resolved functions. -/
namespace Go.Fx
open Go
def TabOk (P:Program) (F:Nat→FuncId) (T:FuncId→Option AFun):Prop:=∀ q fn,T q = some fn→db P q = true∧∃ X:Cx,X.F = F∧jb P X q = some fn
end Go.Fx
/- Evaluation by rewriting: small equations, and steps at branches. -/
namespace Go.Fx
open Go
section
variable (v:Value) (vs cs:List AV) (i o k s t n l c:Nat) (b:Bool) (x:AV) (f:Fn) (w:Option Nat)
theorem lX:(AV.lit v).dis = .lit v:=rfl
theorem lY:(AV.ptr i o).dis = .ptr i o:=rfl
theorem dis_sl:(AV.sl b k cs).dis = .sl false k cs:=rfl
theorem dis_map:(AV.map i).dis = .map i:=rfl
theorem mW (k:Nat):mkSl k [] = .sl true k []:=rfl
theorem mkSl_ptr (k i o:Nat) (r:List AV):mkSl k (.ptr i o::r) = .xs k (.ptr i o::r):=rfl
theorem cR (k:Nat) (v:Value) (r:List AV):mkSl k (.lit v::r) = .sl true k (.lit v::r):=rfl
theorem bu (k:Nat) (v:List AV) (r:List AV):mkSl k (.agg v::r) = .sl true k (.agg v::r):=rfl
theorem kH:(AV.fn f vs cs).dis = .fn f vs cs:=rfl
theorem eS:(AV.agg cs).dis = .agg (cs.map AV.own1):=rfl
theorem dis_tup:(AV.tup cs).dis = .tup (cs.map AV.own2):=rfl
theorem dis_bs:(AV.bs i k o l c).dis = .bs i k o l c:=rfl
theorem fD:(AV.lit v).own1 = .lit v:=rfl
theorem mX:(AV.ptr i o).own1 = .ptr i o:=rfl
theorem fU:(AV.sl b k cs).own1 = .sl false k cs:=rfl
theorem gk:(AV.map i).own1 = .map i:=rfl
theorem own2_lit:(AV.lit v).own2 = .lit v:=rfl
theorem mY:(AV.ptr i o).own2 = .ptr i o:=rfl
theorem dj:(AV.agg cs).own2 = .agg (cs.map AV.own1):=rfl
theorem kI:(AV.lit v).cells = [.lit v]:=rfl
theorem iG:(AV.ptr i o).cells = [.ptr i o]:=rfl
theorem d8:(AV.sl b k cs).cells = [.sl b k cs]:=rfl
theorem ff:(AV.map i).cells = [.map i]:=rfl
theorem oZ:(AV.agg cs).cells = cs:=rfl
theorem cells_bs:(AV.bs i k o l c).cells = [.bs i k o l c]:=rfl
theorem mZ:(AV.lit v).solid1 = true:=rfl
theorem dL:(AV.ptr i o).solid1 = true:=rfl
theorem o8:(AV.sl b k cs).solid1 = true:=rfl
theorem dk:(AV.map i).solid1 = true:=rfl
theorem solid1_bs:(AV.bs i k o l c).solid1 = true:=rfl
theorem solid_eq:x.solid = x.cells.all AV.solid1:=rfl
theorem jW:(AV.lit v).noL = true:=rfl
theorem eT:(AV.ptr i o).noL = true:=rfl
theorem eM:(AV.sl b k cs).noL = true:=rfl
theorem noL_map:(AV.map i).noL = true:=rfl
theorem iH:(AV.agg cs).noL = true:=rfl
theorem noL_tup:(AV.tup cs).noL = true:=rfl
theorem noL_bs:(AV.bs i k o l c).noL = true:=rfl
theorem gm:kill s .any = .any:=rfl
theorem kill_lit:kill s (.lit v) = .lit v:=rfl
theorem kill_ptr:kill s (.ptr i o) = .ptr i o:=rfl
theorem o9:kill s (.lptr t o) = if t = s then .any else .lptr t o:=rfl
theorem ci:kill s (.cptr cs) = .cptr cs:=rfl
theorem bS:kill s (.sl b k cs) = .sl b k cs:=rfl
theorem d9:kill s (.map i) = .map i:=rfl
theorem kill_agg:kill s (.agg cs) = .agg cs:=rfl
theorem dH:kill s (.tup cs) = .tup cs:=rfl
theorem jX:kill s (.bs i k o l c) = .bs i k o l c:=rfl
end
section
variable (F:Nat→FuncId) (sf:Sf) (t g:Nat) (v:AV) (st:St)
theorem ev_r:sf.ev F (.r t) = sf.reg t:=rfl
theorem ev_c:sf.ev F (.c v) = v:=rfl
theorem ev_f:sf.ev F (.f g) = .fn (.func (F g)) [] []:=rfl
theorem evOwn_r:sf.evOwn F (.r t) = sf.reg t:=rfl
theorem jY:sf.evOwn F (.c v) = v.dis:=rfl
theorem disOp_r:sf.disOp (.r t) = sf.disAt t:=rfl
theorem jZ:sf.disOp (.c v) = sf:=rfl
theorem setB_r (b:Bool):(Opd.r t).setB sf b = sf.set t (.lit (.bool b)):=rfl
theorem putS (d:Nat):sf.put (some d) v = sf.set d v:=rfl
theorem putN:sf.put none v = sf:=rfl
variable (k k':IntKind) (a b:Int) (p q:Bool) (sa sb:ByteArray)
theorem n_add:binI .num .add (.lit (.int k a)) (.lit (.int k b)) = .ok (.lit (.int k (k.wrap (a + b)))):=by cases k <;> rfl
theorem n_eql:binI .num .eql (.lit (.int k a)) (.lit (.int k b)) = .ok (.lit (.bool (decide (a = b)))):=by cases k <;> rfl
theorem n_neq:binI .num .neq (.lit (.int k a)) (.lit (.int k b)) = .ok (.lit (.bool (decide (¬ a = b)))):=by
  have h:(a != b) = decide (¬ a = b):=by rw [bne_eq,decide_not]; rfl
  rw [← h]
  cases k <;> rfl
theorem n_lss:binI .num .lss (.lit (.int k a)) (.lit (.int k b)) = .ok (.lit (.bool (decide (a < b)))):=by cases k <;> rfl
theorem n_leq:binI .num .leq (.lit (.int k a)) (.lit (.int k b)) = .ok (.lit (.bool (decide (a≤b)))):=by cases k <;> rfl
theorem dA:binI .num .gtr (.lit (.int k a)) (.lit (.int k b)) = .ok (.lit (.bool (decide (a > b)))):=by cases k <;> rfl
theorem cF:binI .num .geq (.lit (.int k a)) (.lit (.int k b)) = .ok (.lit (.bool (decide (a ≥ b)))):=by cases k <;> rfl
end
theorem req_dec {A:Type} {p:Prop} [Decidable p] {r:Res A} {K:A→Prop} (h:p):(Res.req (decide p) r).wp K = r.wp K:=by
  rw [wp_req,decide_eq_true h]
  exact propext ⟨fun q=>q.2,fun q=>⟨rfl,q⟩⟩
theorem req_tt {A:Type} {r:Res A} {K:A→Prop}:(Res.req true r).wp K = r.wp K:=propext ⟨fun q=>q.2,fun q=>⟨rfl,q⟩⟩
theorem n_rem {k:IntKind} {a b:Int} (h:b≠0):binI .num .rem (.lit (.int k a)) (.lit (.int k b)) = .req true (.ok (.lit (.int k (a.tmod b)))):=by
  have:(b != 0) = true:=by simpa using h
  rw [← this]
  cases k <;> rfl
section
variable {x:Opd} {p:Prop} [Decidable p] {A B:Sf→St→(Exit→Sf→St→Prop)→Prop} {sf:Sf} {st:St} {Q:Exit→Sf→St→Prop} {t:Nat} {b:Bool} {Y N:Sf→St→Prop}
theorem pT:ij x (.lit (.bool true)) A B sf st Q = A (x.setB sf true) st Q:=by
  rw [condI_eq]; exact propext ⟨fun h=>h.1 rfl,fun h=>⟨fun _=>h,fun e=>by cases e⟩⟩
theorem pU:ij x (.lit (.bool false)) A B sf st Q = B (x.setB sf false) st Q:=by
  rw [condI_eq]; exact propext ⟨fun h=>h.2 rfl,fun h=>⟨fun e=>(by cases e),fun _=>h⟩⟩
theorem m8 (h:p):ij x (.lit (.bool (decide p))) A B sf st Q = A (x.setB sf true) st Q:=by
  rw [decide_eq_true h,pT]
theorem pV (h:¬ p):ij x (.lit (.bool (decide p))) A B sf st Q = B (x.setB sf false) st Q:=by
  rw [decide_eq_false h,pU]
theorem aH (h1:p→A (x.setB sf true) st Q) (h2:¬ p→B (x.setB sf false) st Q):ij x (.lit (.bool (decide p))) A B sf st Q:=by
  by_cases h:p
  · rw [m8 h]; exact h1 h
  · rw [pV h]; exact h2 h
theorem m9 {want:Bool}:fA t want (.lit (.bool true)) Y N sf st = if want = true then Y (sf.set t (.lit (.bool true))) st else N (sf.set t (.lit (.bool true))) st:=by
  rw [oW]
  cases want
  · exact propext ⟨fun h=>h.2 rfl,fun h=>⟨fun e=>(by cases e),fun _=>h⟩⟩
  · exact propext ⟨fun h=>h.1 rfl,fun h=>⟨fun _=>h,fun e=>(by cases e)⟩⟩
theorem na {want:Bool}:fA t want (.lit (.bool false)) Y N sf st = if want = true then N (sf.set t (.lit (.bool false))) st else Y (sf.set t (.lit (.bool false))) st:=by
  rw [oW]
  cases want
  · exact propext ⟨fun h=>h.1 rfl,fun h=>⟨fun _=>h,fun e=>(by cases e)⟩⟩
  · exact propext ⟨fun h=>h.2 rfl,fun h=>⟨fun e=>(by cases e),fun _=>h⟩⟩
theorem dR (h:p) {want:Bool}:fA t want (.lit (.bool (decide p))) Y N sf st = if want = true then Y (sf.set t (.lit (.bool true))) st else N (sf.set t (.lit (.bool true))) st:=by
  rw [decide_eq_true h,m9]
theorem eb (h:¬ p) {want:Bool}:fA t want (.lit (.bool (decide p))) Y N sf st = if want = true then N (sf.set t (.lit (.bool false))) st else Y (sf.set t (.lit (.bool false))) st:=by
  rw [decide_eq_false h,na]
theorem aK {want:Bool} (h1:p→if want = true then Y (sf.set t (.lit (.bool true))) st else N (sf.set t (.lit (.bool true))) st) (h2:¬ p→if want = true then N (sf.set t (.lit (.bool false))) st else Y (sf.set t (.lit (.bool false))) st):fA t want (.lit (.bool (decide p))) Y N sf st:=by
  by_cases h:p
  · rw [dR h]; exact h1 h
  · rw [eb h]; exact h2 h
end
def nc:List Nat→List (Nat×AV)→List (Nat×AV)
  | [],_=>[]
  | t::r,l=>(t,getR l t)::nc r l
theorem pb (l:List (Nat×AV)):nc [] l = []:=rfl
theorem nf (t:Nat) (r:List Nat) (l:List (Nat×AV)):nc (t::r) l = (t,getR l t)::nc r l:=rfl
theorem mask_eq (sf:Sf) (lv ll:List Nat):sf.mask lv ll = ⟨nc lv sf.regs,ii ll sf.locs⟩:=by
  have:∀ lv:List Nat,(lv.map fun t=>(t,sf.reg t)) = nc lv sf.regs:=by
    intro lv
    induction lv with
    | nil=>rfl
    | cons t r ih=>simp only [List.map_cons,nc,ih]; rfl
  unfold Sf.mask
  rw [this]
theorem and_pre {p q:Prop} (h:p):(p∧q) = q:=propext ⟨fun a=>a.2,fun a=>⟨h,a⟩⟩
theorem ba {n bytes:Nat} (h:n * bytes≤140737488355328∧n≤1000000000000000):ez n bytes = true:=decide_eq_true h
theorem cy (k:NilK) (x y:AV):binI (.nil k) .eql x y = (Res.ofOpt (cb k x y)).bind fun b=>.ok (.lit (.bool b)):=rfl
theorem b_eql (a b:Bool):binI .bool .eql (.lit (.bool a)) (.lit (.bool b)) = .ok (.lit (.bool (a == b))):=rfl
theorem b_neq (a b:Bool):binI .bool .neq (.lit (.bool a)) (.lit (.bool b)) = .ok (.lit (.bool !(a == b))):=rfl
theorem ng (op:BinOp) (C:AV→St→Prop) (st:St):nilX op (.lit (.slice none 0 0)) (.lit (.slice none 0 0)) C st = (binI (.nil .sl) op (.lit (.slice none 0 0)) (.lit (.slice none 0 0))).wp (atS C st):=rfl
theorem pW (op:BinOp) (i k o l c:Nat) (C:AV→St→Prop) (st:St):nilX op (.bs i k o l c) (.lit (.slice none 0 0)) C st = (binI (.nil .sl) op (.bs i k o l c) (.lit (.slice none 0 0))).wp (atS C st):=rfl
theorem nilX_cons (op:BinOp) (o:Bool) (k:Nat) (x:AV) (l:List AV) (C:AV→St→Prop) (st:St):nilX op (.sl o k (x::l)) (.lit (.slice none 0 0)) C st = (binI (.nil .sl) op (.sl o k (x::l)) (.lit (.slice none 0 0))).wp (atS C st):=rfl
theorem nh (c:AV) (r:List AV):iY none (c::r) = .ok c:=rfl
theorem ni (n:Nat) (r:List AV):iY (some n) r = .req (decide (n≤r.length)) (.ok (.agg (r.take n))):=rfl
section
variable (c a b:AV) (q:Bool) (vs:List AV) (i:Nat)
theorem pick_tt:pickV (.lit (.bool true)) a b = .ok a.dis:=rfl
theorem pick_ff:pickV (.lit (.bool false)) a b = .ok b.dis:=rfl
end
end Go.Fx
/- What k9 of weaker demands; loops that are carried out round by round. -/
namespace Go.Fx
open Go
section
variable {P:Program} {F:Nat→FuncId} {m:Bool}
theorem callI_mono {p:Bool} {d:Option Nat} {f:AV} {args:List AV} {K K':Sf→St→Prop} {sf:Sf} {st:St} (h:∀ sf st,K sf st→K' sf st):jO P m p d f args K sf st→jO P m p d f args K' sf st:=by
  unfold jO
  split
  · rintro ⟨h1,h2⟩
    refine ⟨h1,?_⟩
    split
    · rename_i e; rw [if_pos e] at h2; obtain ⟨a,v,b,c⟩:=h2; exact ⟨a,v,b,h _ _ c⟩
    · rename_i e; rw [if_neg e] at h2; obtain ⟨a,Q,b,c⟩:=h2; exact ⟨a,Q,b,fun v st' q=>h _ _ (c v st' q)⟩
  · rintro ⟨h1,h2,Q,h3,h4⟩; exact ⟨h1,h2,Q,h3,fun t st' q=>h _ _ (h4 t st' q)⟩
  · exact id
theorem appX_mono {m:Bool} {k bytes:Nat} {b:AV} {C C':AV→St→Prop} {st:St} {new:List AV} (h:∀ v st,C v st→C' v st):appX m k bytes b C st new→appX m k bytes b C' st new:=by
  unfold appX
  split
  · rintro ⟨h1,h2,h3,h4⟩
    refine ⟨h1,h2,h3,Res.wp_mono h4 fun cs hc=>?_⟩
    split
    · rename_i e; rw [if_pos e] at hc; exact ⟨hc.1,h _ _ hc.2⟩
    · rename_i e; rw [if_neg e] at hc; exact ⟨hc.1,fun c hc'=>h _ _ (hc.2 c hc')⟩
  · rintro ⟨h1,h2,h3⟩
    refine ⟨h1,h2,?_⟩
    split
    · rename_i e; rw [if_pos e] at h3; exact h _ _ h3
    · rename_i e; rw [if_neg e] at h3; exact fun c hc=>h _ _ (h3 c hc)
  · exact id
theorem stepX_mono {i:XI} {d:Option Nat} {K K':Sf→St→Prop} {sf:Sf} {st:St} (h:∀ sf st,K sf st→K' sf st):aY F m i d K sf st→aY F m i d K' sf st:=by
  have hk:∀ v st,putK K d sf v st→putK K' d sf v st:=fun v st=>h _ _
  cases i with
  | bad=>exact id
  | nilU op x y =>
    simp only [aY,nilX]
    split
    · exact fun q b=>hk _ _ (q b)
    · exact fun q=>Res.wp_mono q fun v=>hk v st
  | appB s k bytes y=>exact fun q=>Res.wp_mono q fun es=>appX_mono hk
  | clrB k z x =>
    simp only [aY,clrX]
    split
    · rintro ⟨h1,h2,h4⟩; exact ⟨h1,h2,Res.wp_mono h4 fun cs hc=>⟨hc.1,hk _ _ hc.2⟩⟩
    · exact hk _ _
    · exact id
  | mksB k bytes z l c =>
    simp only [aY,mksBX]
    split
    · rintro ⟨h1,h2,h3,h4,h5,h6⟩; exact ⟨h1,h2,h3,h4,h5,hk _ _ h6⟩
    · exact id
  | rng x =>
    simp only [aY,rngX]
    split
    · exact fun q=>Res.wp_mono q fun _=>hk _ _
    · exact hk _ _
    · exact id
  | nxt s =>
    simp only [aY,nxtX]
    split
    · exact h _ _
    · refine fun q=>Res.wp_mono q fun es ⟨h1,h2,h3,h4⟩=>⟨h1,h2,fun i k x b a1 a2 a3=>h _ _ (h3 i k x b a1 a2 a3),fun a=>h _ _ (h4 a)⟩
    · exact id
  | ent s =>
    simp only [aY,entX]
    split
    · exact fun q=>Res.wp_mono q fun es ⟨h1,i,k,x,b,h2,h3,h4,h5⟩=>⟨h1,i,k,x,b,h2,h3,h4,hk _ _ h5⟩
    · exact id
  | mclone x =>
    simp only [aY,jN]
    split
    · rintro ⟨h1,h4⟩; exact ⟨h1,Res.wp_mono h4 fun cs hc=>hk _ _ hc⟩
    · exact id
theorem kJ {i:AI} {K K':Sf→St→Prop} {sf:Sf} {st:St} (h:∀ sf st,K sf st→K' sf st):oneI P F m i K sf st→oneI P F m i K' sf st:=by
  unfold oneI
  split
  · exact callI_mono h
  · exact stepX_mono h
  · exact fun q=>Res.wp_mono q fun r=>h r.1 r.2
theorem dw:∀ {l:List GI} {K K':Sf→St→Prop} {sf:Sf} {st:St},(∀ sf st,K sf st→K' sf st)→runI P F m l K sf st→runI P F m l K' sf st
  | [],K,K',sf,st,h=>h _ _
  | ⟨none, i⟩ :: r, K, K', sf, st, h => by
    simp only [runI]
    exact kJ fun sf st=>dw h
  | ⟨some (t, want), i⟩ :: r, K, K', sf, st, h => by
    simp only [runI,fA]
    split
    · intro q c hc
      have q:=q c hc
      split
      · rename_i e; rw [if_pos e] at q; exact kJ (fun sf st=>dw h) q
      · rename_i e; rw [if_neg e] at q; exact dw h q
    · exact fun ⟨a,b⟩=>⟨kJ (fun sf st=>dw h) a,dw h b⟩
    · exact dw h
    · exact id
theorem j0 {locs0:List (Nat×List AV)} {st:St} {i:AI} {C C':PK→Sf→Prop} {sf:Sf} (h:∀ k sf,C k sf→C' k sf):aS P F locs0 st i C sf→aS P F locs0 st i C' sf:=by
  unfold aS
  split
  · unfold ic
    split
    · rintro ⟨h1,h2,v,h3,h4⟩; exact ⟨h1,h2,v,h3,h _ _ h4⟩
    · exact id
  · exact h _ _
  · unfold dF
    split
    · unfold el
      split
      · rintro ⟨h1,h2,h3,h4⟩; exact ⟨h1,h2,h3,h _ _ h4⟩
      · exact id
    · unfold jQ
      split
      · rintro ⟨h1,h2,h3⟩; exact ⟨h1,h2,h _ _ h3⟩
      · exact id
    · exact id
  · unfold pM
    split
    · exact fun q=>Res.wp_mono q fun v=>h _ _
    · exact fun q=>Res.wp_mono q fun v=>h _ _
  · exact fun q=>Res.wp_mono q fun v=>h _ _
theorem fE {locs0:List (Nat×List AV)} {st:St}:∀ {l:List GI} {K K':List PK→Sf→Prop} {ks:List PK} {sf:Sf},(∀ ks sf,K ks sf→K' ks sf)→aB P F locs0 st l K ks sf→aB P F locs0 st l K' ks sf
  | [],K,K',ks,sf,h=>h _ _
  | ⟨none, i⟩ :: r, K, K', ks, sf, h => by
    simp only [aB]
    exact j0 fun k sf=>fE h
  | ⟨some (t, want), i⟩ :: r, K, K', ks, sf, h => by
    simp only [aB,cL]
    split
    · intro q c hc
      have q:=q c hc
      split
      · rename_i e; rw [if_pos e] at q; exact j0 (fun k sf=>fE h) q
      · rename_i e; rw [if_neg e] at q; exact fE h q
    · exact fE h
    · exact id
theorem iI {locs0:List (Nat×List AV)} {ρ:St} {i:AI} {C C':PK→Sf→Prop} {sf:Sf} (h:∀ k sf,C k sf→C' k sf):oneM P F locs0 ρ i C sf→oneM P F locs0 ρ i C' sf:=by
  unfold oneM
  split
  · unfold mM
    split
    · rintro ⟨h1,h2,v,h3,h4⟩; exact ⟨h1,h2,v,h3,h _ _ h4⟩
    · exact id
  · exact h _ _
  · unfold dF
    split
    · unfold el
      split
      · rintro ⟨h1,h2,h3,h4⟩; exact ⟨h1,h2,h3,h _ _ h4⟩
      · exact id
    · unfold jQ
      split
      · rintro ⟨h1,h2,h3⟩; exact ⟨h1,h2,h _ _ h3⟩
      · exact id
    · exact id
  · exact fun q=>Res.wp_mono q fun v=>h _ _
theorem lq {t:Nat} {want:Bool} {v:AV} {Y Y' N N':Sf→Prop} {sf:Sf} (hy:∀ sf,Y sf→Y' sf) (hn:∀ sf,N sf→N' sf):cL t want v Y N sf→cL t want v Y' N' sf:=by
  unfold cL
  split
  · intro q c hc
    have q:=q c hc
    split
    · rename_i e; rw [if_pos e] at q; exact hy _ q
    · rename_i e; rw [if_neg e] at q; exact hn _ q
  · exact hn _
  · exact id
theorem gn {locs0:List (Nat×List AV)} {ρ:St}:∀ {l:List GI} {K K':List PK→Sf→Prop} {ks:List PK} {sf:Sf},(∀ ks sf,K ks sf→K' ks sf)→preM P F locs0 ρ l K ks sf→preM P F locs0 ρ l K' ks sf
  | [],K,K',ks,sf,h=>h _ _
  | ⟨none, i⟩ :: r, K, K', ks, sf, h => by
    simp only [preM]
    exact iI fun v sf=>gn h
  | ⟨some (t, want), i⟩ :: r, K, K', ks, sf, h => by
    simp only [preM]
    exact lq (fun sf=>iI fun v sf=>gn h) fun sf=>gn h
theorem fF {locs0:List (Nat×List AV)} {ρ:St}:∀ {l:List (Bool×GI)} {K K':List PK→Prop} {ks:List PK} {sf:Sf},(∀ ks,K ks→K' ks)→cE P F locs0 ρ l K ks sf→cE P F locs0 ρ l K' ks sf
  | [],K,K',ks,sf,h=>h _
  | (true, g) :: r, K, K', ks, sf, h => by
    simp only [cE]
    exact fF h
  | (false, ⟨none, i⟩) :: r, K, K', ks, sf, h => by
    simp only [cE]
    exact iI fun v sf=>fF h
  | (false, ⟨some (t, want), i⟩) :: r, K, K', ks, sf, h => by
    simp only [cE]
    exact lq (fun sf=>iI fun v sf=>fF h) fun sf=>fF h
theorem callM_mono {locs0:List (Nat×List AV)} {ρ st:St} {d:Option Nat} {f:AV} {args:List AV} {post:List (Bool×GI)} {drop:List Nat} {T T':St→Sf→Prop} {ks1:List PK} {sf:Sf} (h:∀ st sf,T st sf→T' st sf):mN P F locs0 ρ st d f args post drop T ks1 sf→mN P F locs0 ρ st d f args post drop T' ks1 sf:=by
  unfold mN
  split
  · rintro ⟨h1,h2,Qc,h3,h4⟩
    exact ⟨h1,h2,Qc,h3,fF (fun ks hk=>⟨hk.1,fun v s hq=>⟨(hk.2 v s hq).1,gn (fun ks sf hp=>⟨hp.1,hp.2.1,h _ _ hp.2.2⟩) (hk.2 v s hq).2⟩⟩) h4⟩
  · exact id
theorem aC_mono:∀ {c:AC} {Q Q':Exit→Sf→St→Prop} {sf:Sf} {st:St},(∀ e sf st,Q e sf st→Q' e sf st)→aC P F m c sf st Q→aC P F m c sf st Q':=by
  intro c
  induction c with
  | skip=>intro Q Q' sf st h; exact h _ _ _
  | ops lv ll l=>intro Q Q' sf st h; exact dw fun sf st=>h _ _ _
  | draw lv ll dr hl tl=>intro Q Q' sf st h; exact fE fun ks sf ⟨h1,h2⟩=>⟨h1,dw (fun sf st=>h _ _ _) h2⟩
  | drawM lv ll pre d f args post tl =>
    intro Q Q' sf st h
    rintro ⟨hm,ρ,hs,hp⟩
    exact ⟨hm,ρ,hs,gn (fun ks sf=>callM_mono fun st sf=>dw fun sf st=>h _ _ _) hp⟩
  | seq a b iha ihb =>
    intro Q Q' sf st h
    exact iha fun e sf st=>by
      cases e with
      | normal=>exact ihb h
      | _=>exact h _ _ _
  | cond x a b iha ihb =>
    intro Q Q' sf st h
    simp only [aC,ij]
    split
    · exact fun q=>⟨fun e=>iha h (q.1 e),fun e=>ihb h (q.2 e)⟩
    · exact id
  | block id b ih =>
    intro Q Q' sf st h
    exact ih fun e sf st=>by
      cases e with
      | exit i =>
        simp only [gK]
        split
        · exact h _ _ _
        · exact h _ _ _
      | _=>exact h _ _ _
  | loop lv ll b ih =>
    intro Q Q' sf st h
    rintro ⟨I,h0,hr⟩
    exact ⟨I,h0,fun k sf st hi=>ih (fun e sf st=>by
      cases e with
      | normal=>exact fun q=>q
      | _=>exact h _ _ _) (hr k sf st hi)⟩
  | exit lv ll id=>intro Q Q' sf st h; exact h _ _ _
  | scope b ih =>
    intro Q Q' sf st h
    exact ih fun e sf st=>by
      cases e with
      | goto l=>exact fun q=>q
      | _=>exact h _ _ _
  | ret=>intro Q Q' sf st h; exact h _ _ _
  | bad=>intro Q Q' sf st h; exact fun q=>q
end
theorem tabOk_nil {P:Program} {F:Nat→FuncId}:TabOk P F (fun _=>none):=fun q fn h=>by cases h
theorem af {P:Program} {F:Nat→FuncId} {T:FuncId→Option AFun} {n:FuncId} {X:Cx} {c:AFun} (h1:db P n = true) (h2:jb P X n = some c) (h3:X.F = F) (hT:TabOk P F T):TabOk P F (fun q=>if q = n then some c else T q):=by
  intro q fn h
  by_cases e:q = n
  · subst e
    simp only [if_true,Option.some.injEq] at h
    subst h
    exact ⟨h1,X,h3,h2⟩
  · simp only [e,if_false] at h
    exact hT q fn h
def unrQ (L:Sf→St→Prop) (Q:Exit→Sf→St→Prop):Exit→Sf→St→Prop
  | .normal,sf,st=>L sf st
  | e,sf,st=>Q e sf st
section
variable {P:Program} {F:Nat→FuncId} {m:Bool} {b:AC} {lv ll:List Nat} {Q:Exit→Sf→St→Prop}
def loopN (P:Program) (F:Nat→FuncId) (m:Bool) (b:AC) (lv ll:List Nat) (Q:Exit→Sf→St→Prop):Nat→Sf→St→Prop
  | 0,_,_=>False
  | n + 1,sf,st=>aC P F m b (sf.mask lv ll) st (unrQ (loopN P F m b lv ll Q n) Q)
theorem loop_rounds (n:Nat) {sf:Sf} {st:St} (h:loopN P F m b lv ll Q n sf st):aE (aC P F m b) lv ll sf st Q:=by
  cases n with
  | zero=>exact h.elim
  | succ n =>
    refine ⟨fun k sf st=>aC P F m b sf st (unrQ (loopN P F m b lv ll Q k) Q),⟨n,_,Sf.le_refl _,h⟩,fun k sf st hk=>aC_mono (fun e sf st=>?_) hk⟩
    cases e with
    | normal =>
      cases k with
      | zero=>exact fun q=>q.elim
      | succ k=>exact fun q=>⟨k,Nat.lt_succ_self k,_,Sf.le_refl _,q⟩
    | _=>exact fun q=>q
variable (sf:Sf) (st:St) (L:Sf→St→Prop) (n:Nat)
theorem jq:loopN P F m b lv ll Q (n + 1) sf st = aC P F m b (sf.mask lv ll) st (unrQ (loopN P F m b lv ll Q n) Q):=rfl
theorem lu:unrQ L Q .normal sf st = L sf st:=rfl
theorem unrQ_exit (id:Nat):unrQ L Q (.exit id) sf st = Q (.exit id) sf st:=rfl
end
end Go.Fx
/- Lists of cells, boxes and numbers: small laws for evaluation. -/
namespace Go.Fx
open Go
theorem up_addL (a k:Nat):(a:Int) + (no_index (OfNat.ofNat k)) = ((a + OfNat.ofNat k:Nat):Int):=by exact id rfl
theorem gL {α β:Type} (f:α→β) (L:List α):List.take L.length (L.map f) = L.map f:=List.take_of_length_le (by simp)
theorem iJ:∀ (vs cs:List AV) (i:Nat),(bQ cs i vs).length = cs.length
  | [],cs,i=>rfl
  | v::vs,cs,i=>by simp only [bQ]; rw [iJ vs]; simp
theorem pe (cs:List AV) (i:Nat):bQ cs i [] = cs:=by cases cs <;> rfl
theorem cellsD_nil:Fx.cellsD [] = []:=rfl
theorem kK:∀ (vs xs rs:List AV),vs.length≤rs.length→bQ (xs++rs) xs.length vs = xs++(vs++rs.drop vs.length)
  | [],xs,rs,_=>by simp [bQ]
  | v::vs,xs,[],h=>by simp at h
  | v :: vs, xs, r :: rs, h => by
    simp only [bQ]
    have h1:(xs++r::rs).set xs.length v = (xs++[v])++rs:=by simp
    have h2:xs.length + 1 = (xs++[v]).length:=by simp
    rw [h1,h2,kK vs (xs++[v]) rs (by simpa using h)]
    simp
theorem setAt_zero {vs cs:List AV} (h:vs.length≤cs.length):bQ cs 0 vs = vs++cs.drop vs.length:=kK vs [] cs h
theorem go {vs xs rs:List AV} {n:Nat} (hn:n = xs.length) (h:vs.length≤rs.length):bQ (xs++rs) n vs = xs++(vs++rs.drop vs.length):=by subst hn; exact kK vs xs rs h
def Lits (l:List AV):Prop:=∀ x ∈ l,∃ v,x = .lit v
theorem Lits.nil:Lits []:=fun _ h=>by cases h
theorem Lits.app {l l':List AV} (h:Lits l) (h':Lits l'):Lits (l++l'):=fun x hx=>(List.mem_append.1 hx).elim (h x) (h' x)
theorem Lits.drop {l:List AV} (h:Lits l) (n:Nat):Lits (l.drop n):=fun x hx=>h x (List.mem_of_mem_drop hx)
theorem Lits.map {A:Type} (f:A→Value) (l:List A):Lits (l.map fun a=>.lit (f a)):=fun x hx=>by
  obtain ⟨a,_,rfl⟩:=List.mem_map.1 hx; exact ⟨_,rfl⟩
theorem Lits.dis {l:List AV} (h:Lits l):l.map AV.dis = l:=by
  induction l with
  | nil=>rfl
  | cons x r ih =>
    obtain ⟨v,rfl⟩:=h x (List.mem_cons_self ..)
    simp only [List.map_cons,lX]
    rw [ih fun y hy=>h y (List.mem_cons_of_mem _ hy)]
theorem Lits.own {l:List AV} (h:Lits l):l.map AV.own1 = l:=by
  induction l with
  | nil=>rfl
  | cons x r ih =>
    obtain ⟨v,rfl⟩:=h x (List.mem_cons_self ..)
    simp only [List.map_cons,fD]
    rw [ih fun y hy=>h y (List.mem_cons_of_mem _ hy)]
theorem Lits.cells {l:List AV} (h:Lits l):l.flatMap AV.cells = l:=by
  induction l with
  | nil=>rfl
  | cons x r ih =>
    obtain ⟨v,rfl⟩:=h x (List.mem_cons_self ..)
    simp only [List.flatMap_cons,kI]
    rw [ih fun y hy=>h y (List.mem_cons_of_mem _ hy)]
    rfl
theorem Lits.cellsD {l:List AV} (h:Lits l):Fx.cellsD l = l:=by unfold Fx.cellsD; rw [h.dis,h.cells]
theorem Lits.grp {l:List AV}:∀ (n:Nat) (l:List AV),n≤l.length→Fx.grp 1 n l = l.take n
  | 0,l,_=>by simp [Fx.grp]
  | n + 1,[],h=>by simp at h
  | n + 1,x::l,h=>by simp only [Fx.grp,if_true,List.getD_cons_zero,List.drop_succ_cons,List.drop_zero,List.take_succ_cons]; rw [Lits.grp (l:=l) n l (by simpa using h)]
theorem pX {n:Nat} {l:List AV} (h:n≤l.length):grp 1 n l = l.take n:=Lits.grp (l:=l) n l h
theorem Lits.nb {l:List AV} (h:Lits l):∀ x ∈ l,x.NB:=fun x hx=>by obtain ⟨v,rfl⟩:=h x hx; exact .lit v
theorem acalls_id {P:Program} {X:Cx} {f:FuncId} {fn:AFun} {vs:List AV} {st:St} (hmix:P.follows .mixedOrders = true) (hf:jb P X f = some fn) (hX:X.F = id) (hlen:Nat.ble vs.length fn.n = true) {K:AV→St→Prop} (h:aFun P id false fn vs st K):aA P f vs st K:=by
  refine acalls_of hmix hf (Nat.le_of_ble_eq_true hlen) ?_
  rw [hX]; exact h
theorem bN (st:St) (cs:List AV):(st.push (.cells cs)).get st.boxes.length = some cs:=by simp [St.push,St.get]
theorem pf (st:St) (es:List (AV×AV)) (bs:List Nat) (k:Nat):(st.push (.mp es bs k)).getM st.boxes.length = some es:=by simp [St.push,St.getM]
theorem pg (st:St) (es:List (AV×AV)) (bs:List Nat) (k:Nat):(st.push (.mp es bs k)).getB st.boxes.length = (bs,k):=by simp [St.push,St.getB]
theorem set_push (st:St) (b:Box) (cs:List AV):(st.push b).set st.boxes.length cs = st.push (.cells cs):=by simp [St.push,St.set]
theorem aR (st:St) (b:Box):(st.push b).boxes.length = st.boxes.length + 1:=by simp [St.push]
theorem ce (st:St) (id:Nat) (cs:List AV):(st.set id cs).boxes.length = st.boxes.length:=by simp [St.set]
theorem eU {st:St} {b:Box} {id:Nat} (h:id < st.boxes.length):(st.push b).get id = st.get id:=by simp [St.push,St.get,List.getElem?_append_left h]
theorem bj {st:St} {id:Nat} {cs:List AV} (h:st.get id = some cs):id < st.boxes.length:=by
  rcases Nat.lt_or_ge id st.boxes.length with hl | hl
  · exact hl
  · simp [St.get,List.getElem?_eq_none hl] at h
theorem aU {st:St} {id:Nat} {cs:List AV} (h:id < st.boxes.length):(st.set id cs).get id = some cs:=by simp [St.set,St.get,h]
theorem nj {st:St} {id id':Nat} {cs:List AV} (h:id≠id'):(st.set id cs).get id' = st.get id':=by simp [St.set,St.get,List.getElem?_set_ne h]
theorem j5 (st:St) (id:Nat) (cs ds:List AV):(st.set id cs).set id ds = st.set id ds:=by simp [St.set]
theorem nn (cs:List AV) (i:Nat) (v:AV) (vs:List AV):bQ cs i (v::vs) = bQ (cs.set i v) (i + 1) vs:=rfl
end Go.Fx
/- Loops with states that are told; lists of bytes. -/
namespace Go.Fx
open Go
section
variable {P:Program} {F:Nat→FuncId} {m:Bool} {b:AC} {lv ll:List Nat} {Q:Exit→Sf→St→Prop}
def stepQ {A:Type} (S:A→Sf) (T:A→St) (R:A→Prop) (lv ll:List Nat) (Q:Exit→Sf→St→Prop):Exit→Sf→St→Prop
  | .normal,sf,st=>∃ a,R a∧Sf.le (sf.mask lv ll) (S a)∧st = T a
  | e,sf,st=>Q e sf st
theorem loop_for {A:Type} (μ:A→Nat) (S:A→Sf) (T:A→St) (I:A→Prop) (a0:A) {sf:Sf} {st:St} (h0:I a0) (hs:Sf.le (sf.mask lv ll) (S a0)) (ht:st = T a0)
    (step:∀ a,I a→aC P F m b (S a) (T a) (stepQ S T (fun a'=>I a'∧μ a' < μ a) lv ll Q)):aE (aC P F m b) lv ll sf st Q:=by
  refine ⟨fun k sf st=>∃ a,I a∧μ a = k∧sf = S a∧st = T a,⟨μ a0,_,hs,a0,h0,rfl,rfl,ht⟩,?_⟩
  rintro k sf st ⟨a,ha,rfl,rfl,rfl⟩
  refine aC_mono (fun e sf st=>?_) (step a ha)
  cases e with
  | normal=>exact fun ⟨a',⟨h1,h2⟩,h3,h4⟩=>⟨μ a',h2,S a',h3,a',h1,rfl,rfl,h4⟩
  | _=>exact fun q=>q
variable {A:Type} (S:A→Sf) (T:A→St) (R:A→Prop) (sf:Sf) (st:St)
end
section
variable {CB:Sf→St→(Exit→Sf→St→Prop)→Prop} {id:Nat} {r:Loop} {rs:List (Nat×AV)} {Q:Bool→St→Prop} {sf:Sf} {st:St}
end
end Go.Fx
/- Regions that draw their order: evaluation. -/
namespace Go.Fx
open Go
section
variable (P:Program) (F:Nat→FuncId) (m:Bool) (locs0:List (Nat×List AV)) (st:St) (C:PK→Sf→Prop) (sf:Sf) (d:Option Nat) (x y i:Opd) (K:List PK→Sf→Prop) (ks:List PK)
theorem h_nil:aB P F locs0 st [] K ks sf = K ks sf:=rfl
theorem h_none (i:AI) (r:List GI):aB P F locs0 st (⟨none,i⟩::r) K ks sf = aS P F locs0 st i (ib (aB P F locs0 st r K) ks) sf:=rfl
theorem dD (t:Nat) (want:Bool) (i:AI) (r:List GI):aB P F locs0 st (⟨some (t,want),i⟩::r) K ks sf = cL t want (sf.reg t) (aS P F locs0 st i (ib (aB P F locs0 st r K) ks)) (jP (aB P F locs0 st r K) ks i.dst) sf:=rfl
theorem hh_mv:aS P F locs0 st (.mv d x) C sf = valH C d sf (sf.ev F x).dis:=rfl
theorem lZ (c a b:Opd):aS P F locs0 st (.pick d c a b) C sf = (pickV (sf.ev F c) (sf.ev F a) (sf.ev F b)).wp (valH C d sf):=rfl
theorem f8 (k:BinK) (op:BinOp):aS P F locs0 st (.bin d k op x y) C sf = (binI k op (sf.ev F x) (sf.ev F y)).wp (valH C d sf):=rfl
theorem hh_un (op:UnOp):aS P F locs0 st (.un d op x) C sf = (unA op (sf.ev F x)).wp (valH C d sf):=rfl
theorem hh_field (off:Nat) (k:Option Nat):aS P F locs0 st (.field d x off k) C sf = (mU (sf.ev F x) off k).wp (valH C d sf):=rfl
theorem hh_addr (off:Nat):aS P F locs0 st (.addr d x off) C sf = (addA (sf.ev F x) off).wp (valH C d sf):=rfl
theorem bW (k:Nat):aS P F locs0 st (.ixS d x i k) C sf = (ixSV (sf.ev F x) (sf.ev F i) k).wp (valH C d sf):=rfl
theorem pY (n k:Nat):aS P F locs0 st (.ixA d x i n k) C sf = ((Fx.ixA (sf.ev F i) n).bind fun j=>addA (sf.ev F x) (j * k)).wp (valH C d sf):=rfl
theorem hh_load (k:Option Nat):aS P F locs0 st (.load d x k) C sf = (jd sf st (sf.ev F x) k).wp (valH C d sf):=rfl
theorem aW:aS P F locs0 st (.nilck d x) C sf = (ai (sf.ev F x)).wp (valH C d sf):=rfl
theorem iK (lo hi:Option Opd) (k:Nat):aS P F locs0 st (.sliS d x lo hi k) C sf = (gY (sf.ev F x) (lo.map (sf.ev F)) (hi.map (sf.ev F)) k).wp (valH C d sf):=rfl
theorem np (k len:Nat) (z:AV) (parts:List (Nat×Opd)):aS P F locs0 st (.bsl d k len z parts) C sf = (bslV k len z (parts.map fun p=>(p.1,sf.ev F p.2))).wp (valH C d sf):=rfl
theorem kL (places:List (Nat×Nat)) (z:AV) (parts:List (Nat×Opd)):aS P F locs0 st (.bst d places z parts) C sf = (bstV places z (parts.map fun p=>(p.1,sf.ev F p.2))).wp (valH C d sf):=rfl
theorem eo (k:KeyK) (z:AV) (ok:Bool) (mp key:Opd):aS P F locs0 st (.lookup d k z ok mp key) C sf = (bF k z ok st (sf.ev F mp) (sf.ev F key)).wp (valH C d sf):=rfl
theorem hh_mkfn (g:Nat) (first cap:List Opd):aS P F locs0 st (.mkfn d g first cap) C sf = (mkfnV (F g) (first.map (sf.ev F)) (cap.map (sf.ev F))).wp (valH C d sf):=rfl
theorem io (k:LenK):aS P F locs0 st (.len d k x) C sf = (lenI k st (sf.ev F x)).wp (valH C d sf):=rfl
theorem hh_app (k bytes:Nat):aS P F locs0 st (.app d k bytes x y) C sf = (bR st k bytes (sf.ev F x) (sf.ev F y)).wp (valH C d sf):=rfl
theorem de (p:Bool) (f:Opd) (args:List Opd):aS P F locs0 st (.call d p f args) C sf = ic P st d (sf.ev F f) (args.map (sf.ev F)) C sf:=rfl
theorem l0 (s:Nat) (cs:List AV):aS P F locs0 st (.newL s cs) C sf = C (.new s cs) (sf.set s .any):=rfl
theorem eD (k:Nat):aS P F locs0 st (.store k x y) C sf = dF locs0 x (sf.ev F x) (sf.ev F y) k C sf:=rfl
theorem cG (a:Opd) (s:Nat) (v:AV) (k:Nat):dF locs0 a (.lptr s 0) v k C sf = el v k s C sf (look s locs0):=rfl
theorem nq (s:Nat) (v:AV) (k:Nat):dF locs0 (.r s) .any v k C sf = (v.dis.solid = true∧v.dis.cells.length = k∧C (.nst s v.dis.cells) sf):=rfl
theorem ck (s:Nat) (v:AV) (k:Nat) (cs:List AV):el v k s C sf (some cs) = (cs.length = k∧v.dis.solid = true∧v.dis.cells.length = k∧C (.store s v.dis.cells) sf):=rfl
theorem ph (t:Nat) (want:Bool) (Y N:Sf→Prop):cL t want (.lit (.bool true)) Y N sf = if true = want then Y (sf.set t (.lit (.bool true))) else N (sf.set t (.lit (.bool true))):=by
  unfold cL
  exact propext ⟨fun h=>h true rfl,fun h c e=>by subst e; exact h⟩
theorem b9 (t:Nat) (want:Bool) (Y N:Sf→Prop):cL t want (.lit (.bool false)) Y N sf = if false = want then Y (sf.set t (.lit (.bool false))) else N (sf.set t (.lit (.bool false))):=by
  unfold cL
  exact propext ⟨fun h=>h false rfl,fun h c e=>by subst e; exact h⟩
end
theorem j6 {p:Prop} [Decidable p] {t:Nat} {want:Bool} {Y N:Sf→Prop} {sf:Sf} (h1:p→cL t want (.lit (.bool true)) Y N sf) (h2:¬ p→cL t want (.lit (.bool false)) Y N sf):cL t want (.lit (.bool (decide p))) Y N sf:=by
  by_cases h:p
  · rw [decide_eq_true h]; exact h1 h
  · rw [decide_eq_false h]; exact h2 h
def PK.keep:PK→Bool
  | .val _=>false
  | .skip=>false
  | _=>true
theorem bY:∀ ks:List PK,aG (ks.filter PK.keep) = aG ks
  | []=>rfl
  | .val _::r=>bY r
  | .skip::r=>bY r
  | .mk _ _::r=>bY r
  | .hole::r=>bY r
  | .chole _ _::r=>bY r
  | .nst _ _::r=>bY r
  | .new _ _::r=>bY r
  | .app _ _::r=>bY r
  | .store s _::r=>congrArg (s::·) (bY r)
theorem cS:∀ ks:List PK,aV (ks.filter PK.keep) = aV ks
  | []=>rfl
  | .val _::r=>cS r
  | .skip::r=>cS r
  | .mk _ _::r=>cS r
  | .hole::r=>cS r
  | .chole _ _::r=>cS r
  | .nst _ _::r=>cS r
  | .store _ _::r=>cS r
  | .app _ _::r=>cS r
  | .new s _::r=>congrArg (s::·) (cS r)
theorem cT:∀ ks:List PK,aZ (ks.filter PK.keep) = aZ ks
  | []=>rfl
  | .val _::r=>cT r
  | .skip::r=>cT r
  | .mk _ _::r=>cT r
  | .hole::r=>cT r
  | .chole _ _::r=>cT r
  | .nst _ _::r=>cT r
  | .store _ _::r=>cT r
  | .new _ _::r=>cT r
  | .app s _::r=>congrArg (s::·) (cT r)
theorem cU:∀ (ks:List PK) (sf:Sf),bV (ks.filter PK.keep) sf = bV ks sf
  | [],_=>rfl
  | .val _::r,sf=>cU r sf
  | .skip::r,sf=>cU r sf
  | .mk _ _::r,sf=>cU r sf
  | .hole::r,sf=>cU r sf
  | .chole _ _::r,sf=>cU r sf
  | .nst _ _::r,sf=>cU r sf
  | .new _ _::r,sf=>cU r sf
  | .app _ _::r,sf=>cU r sf
  | .store _ _::r,_=>cU r _
theorem nst_beq (a b c d:Nat):((a,b) == (c,d)) = ((a == c) && (b == d)):=rfl
theorem cr (t:Nat):∀ ks:List PK,cf t (ks.filter PK.keep) = cf t ks
  | []=>rfl
  | .val _::r=>cr t r
  | .skip::r=>cr t r
  | .mk _ _::r=>cr t r
  | .hole::r=>cr t r
  | .chole _ _::r=>cr t r
  | .store _ _::r=>cr t r
  | .app _ _::r=>cr t r
  | .new _ _::r=>cr t r
  | .nst s cs :: r => by
    show (if s = t then some cs else cf t (r.filter PK.keep)) = if s = t then some cs else cf t r
    rw [cr t r]
theorem cV:∀ ks:List PK,a9 (ks.filter PK.keep) = a9 ks
  | []=>rfl
  | .val _::r=>cV r
  | .skip::r=>cV r
  | .mk _ _::r=>cV r
  | .hole::r=>cV r
  | .chole _ _::r=>cV r
  | .store _ _::r=>cV r
  | .new _ _::r=>cV r
  | .app _ _::r=>cV r
  | .nst s _::r=>congrArg (s::·) (cV r)
theorem cW:∀ (ks:List PK) (seen:List (Nat×Nat)),nstB seen (ks.filter PK.keep) = nstB seen ks
  | [],_=>rfl
  | .val _::r,s=>cW r s
  | .skip::r,s=>cW r s
  | .mk _ _::r,s=>cW r s
  | .hole::r,s=>cW r s
  | .chole _ _::r,s=>cW r s
  | .store _ _::r,s=>cW r s
  | .app _ _::r,s=>cW r s
  | .new _ _::r,s=>cW r _
  | .nst _ _::r,s=>congrArg (_ && ·) (cW r s)
theorem cX (all:List PK):∀ (ks:List PK) (sf:Sf),bC (all.filter PK.keep) (ks.filter PK.keep) sf = bC all ks sf
  | [],_=>rfl
  | .val _::r,sf=>cX all r sf
  | .skip::r,sf=>cX all r sf
  | .mk _ _::r,sf=>cX all r sf
  | .hole::r,sf=>cX all r sf
  | .chole _ _::r,sf=>cX all r sf
  | .store _ _::r,sf=>cX all r sf
  | .app _ _::r,sf=>cX all r sf
  | .nst _ _::r,sf=>cX all r sf
  | .new s cs :: r, sf => by
    show bC (all.filter PK.keep) (r.filter PK.keep) (sf.newLoc s ((cf s (all.filter PK.keep)).getD cs)) = bC all r (sf.newLoc s ((cf s all).getD cs))
    rw [cr,cX all r]
section
variable {P:Program} {F:Nat→FuncId} {m:Bool} {locs0:List (Nat×List AV)} {st st2:St} {drop lv ll:List Nat} {tl:List GI} {Q:Exit→Sf→St→Prop}
theorem tail_keep (ks:List PK) (sf:Sf):dG P F m drop lv ll tl Q st (ks.filter PK.keep) sf = dG P F m drop lv ll tl Q st ks sf:=by
  unfold dG ksB
  rw [bY,cS,cT,cV,cW,cU,cX]
theorem fg:∀ (r:List GI) (ks:List PK) (sf:Sf),aB P F locs0 st r (dG P F m drop lv ll tl Q st) (ks.filter PK.keep) sf = aB P F locs0 st r (dG P F m drop lv ll tl Q st) ks sf
  | [],ks,sf=>tail_keep ks sf
  | ⟨g, i⟩ :: r, ks, sf => by
    have h1:ib (aB P F locs0 st r (dG P F m drop lv ll tl Q st)) (ks.filter PK.keep) = ib (aB P F locs0 st r (dG P F m drop lv ll tl Q st)) ks:=by
      funext k sf
      simp only [ib]
      rw [← fg r (ks++[k]) sf,← fg r (ks.filter PK.keep++[k]) sf]
      simp
    have h2:∀ d,jP (aB P F locs0 st r (dG P F m drop lv ll tl Q st)) (ks.filter PK.keep) d = jP (aB P F locs0 st r (dG P F m drop lv ll tl Q st)) ks d:=by
      intro d
      funext sf
      exact congrFun (congrFun h1 .skip) (sf.put d (.tup []))
    cases g with
    | none=>simp only [aB,h1]
    | some g=>obtain ⟨t,w⟩:=g; simp only [aB,h1,h2]
variable (ks:List PK) (sf:Sf) (r:List GI) (v:AV) (d:Option Nat)
theorem cc:ib (aB P F locs0 st r (dG P F m drop lv ll tl Q st)) ks (.val v) sf = aB P F locs0 st r (dG P F m drop lv ll tl Q st) ks sf:=by
  show aB P F locs0 st r _ (ks++[.val v]) sf = _
  exact (fg r (ks++[PK.val v]) sf).symm.trans ((congrArg (fun q=>aB P F locs0 st r (dG P F m drop lv ll tl Q st) q sf) (by simp [PK.keep])).trans (fg r ks sf))
theorem pi:jP (aB P F locs0 st r (dG P F m drop lv ll tl Q st)) ks d sf = aB P F locs0 st r (dG P F m drop lv ll tl Q st) ks (sf.put d (.tup [])):=by
  show aB P F locs0 st r _ (ks++[.skip]) (sf.put d (.tup [])) = _
  exact (fg r (ks++[PK.skip]) _).symm.trans ((congrArg (fun q=>aB P F locs0 st r (dG P F m drop lv ll tl Q st) q (sf.put d (.tup []))) (by simp [PK.keep])).trans (fg r ks _))
theorem val_head:valH (ib (aB P F locs0 st r (dG P F m drop lv ll tl Q st)) ks) d sf v = aB P F locs0 st r (dG P F m drop lv ll tl Q st) ks (sf.put d v):=cc ks (sf.put d v) r v
theorem tail_nil:dG P F m drop lv ll tl Q st [] sf = runI P F m tl (opsK lv ll Q) sf st:=propext ⟨fun h=>h.2,fun h=>⟨rfl,h⟩⟩
theorem dK (k:PK):dG P F m drop lv ll tl Q st (k::ks) sf = (ksB drop (k::ks) = true∧runI P F m tl (opsK lv ll Q) (bC (k::ks) (k::ks) (bV (k::ks) sf)) st):=rfl
end
section
variable (H:List PK→Sf→Prop) (ks:List PK) (sf:Sf) (s:Nat) (cs:List AV) (v:AV)
theorem j7:ib H ks (.new s cs) sf = H (ks++[.new s cs]) sf:=rfl
theorem dl:ib H ks (.store s cs) sf = H (ks++[.store s cs]) sf:=rfl
end
theorem ec {P:Program} {d:Option Nat} {q:FuncId} {fs cs args vs:List AV} {sf:Sf} {st:St} {C:PK→Sf→Prop} {v:AV} (hvs:fs++args.map AV.dis++cs = vs) (hent:db P q = true) (h:aD P q vs st v) (hn:args.all AV.noL = true) (hK:C (.val v) (sf.put d v)):ic P st d (.fn (.func q) fs cs) args C sf:=by
  subst hvs
  exact ⟨hn,hent,v,h,hK⟩
section
variable (P:Program) (F:Nat→FuncId) (L0:List (Nat×List AV)) (ρ:St) (C:PK→Sf→Prop) (sf:Sf) (d:Option Nat) (x y i:Opd) (K:List PK→Sf→Prop) (ks:List PK)
theorem eP:preM P F L0 ρ [] K ks sf = K ks sf:=rfl
theorem dM (i:AI) (r:List GI):preM P F L0 ρ (⟨none,i⟩::r) K ks sf = oneM P F L0 ρ i (fT (preM P F L0 ρ r K) ks) sf:=rfl
theorem m_some (t:Nat) (want:Bool) (i:AI) (r:List GI):preM P F L0 ρ (⟨some (t,want),i⟩::r) K ks sf = cL t want (sf.reg t) (oneM P F L0 ρ i (fT (preM P F L0 ρ r K) ks)) (jP (preM P F L0 ρ r K) ks i.dst) sf:=rfl
theorem fG (v:AV) (r:List GI):valM (fT (preM P F L0 ρ r K) ks) d sf v = preM P F L0 ρ r K (ks++[.val v]) (sf.put d v):=rfl
theorem mm_call (p:Bool) (f:Opd) (args:List Opd):oneM P F L0 ρ (.call d p f args) C sf = mM P ρ d (sf.ev F f) (args.map (sf.ev F)) C sf:=rfl
theorem gp:oneM P F L0 ρ (.mv d x) C sf = valM C d sf (sf.ev F x).dis:=rfl
theorem mm_un (op:UnOp):oneM P F L0 ρ (.un d op x) C sf = (unA op (sf.ev F x)).wp (valM C d sf):=rfl
theorem mm_ext (j:Nat):oneM P F L0 ρ (.ext d x j) C sf = (extV (sf.ev F x) j).wp (valM C d sf):=rfl
theorem iL (off:Nat):oneM P F L0 ρ (.addr d x off) C sf = (addA (sf.ev F x) off).wp (valM C d sf):=rfl
theorem mm_ixS (k:Nat):oneM P F L0 ρ (.ixS d x i k) C sf = (ixSV (sf.ev F x) (sf.ev F i) k).wp (valM C d sf):=rfl
theorem mm_ixA (n k:Nat):oneM P F L0 ρ (.ixA d x i n k) C sf = ((Fx.ixA (sf.ev F i) n).bind fun j=>addA (sf.ev F x) (j * k)).wp (valM C d sf):=rfl
theorem df (k:Option Nat):oneM P F L0 ρ (.load d x k) C sf = (jd sf ρ (sf.ev F x) k).wp (valM C d sf):=rfl
theorem ip:oneM P F L0 ρ (.nilck d x) C sf = (ai (sf.ev F x)).wp (valM C d sf):=rfl
theorem mm_bsl (k len:Nat) (z:AV) (parts:List (Nat×Opd)):oneM P F L0 ρ (.bsl d k len z parts) C sf = (bslV k len z (parts.map fun p=>(p.1,sf.ev F p.2))).wp (valM C d sf):=rfl
theorem mm_bst (places:List (Nat×Nat)) (z:AV) (parts:List (Nat×Opd)):oneM P F L0 ρ (.bst d places z parts) C sf = (bstV places z (parts.map fun p=>(p.1,sf.ev F p.2))).wp (valM C d sf):=rfl
variable (KH:List PK→Prop) (st:St) (post:List (Bool×GI)) (T:St→Sf→Prop) (T1:Sf→Prop)
theorem iq:cE P F L0 ρ [] KH ks sf = KH ks:=rfl
theorem l3 (g:GI) (r:List (Bool×GI)):cE P F L0 ρ ((true,g)::r) KH ks sf = cE P F L0 ρ r KH (ks++[.hole]) (sf.put g.i.dst .any):=by simp only [cE]
theorem j8 (i:AI) (r:List (Bool×GI)):cE P F L0 ρ ((false,⟨none,i⟩)::r) KH ks sf = oneM P F L0 ρ i (fT (cE P F L0 ρ r KH) ks) sf:=rfl
theorem hm_val (v:AV) (r:List (Bool×GI)):valM (fT (cE P F L0 ρ r KH) ks) d sf v = cE P F L0 ρ r KH (ks++[.val v]) (sf.put d v):=rfl
theorem m_new (s:Nat) (cs:List AV) (r:List GI):fT (preM P F L0 ρ r K) ks (.new s cs) sf = preM P F L0 ρ r K (ks++[.new s cs]) sf:=rfl
theorem m_nst (s:Nat) (cs:List AV) (r:List GI):fT (preM P F L0 ρ r K) ks (.nst s cs) sf = preM P F L0 ρ r K (ks++[.nst s cs]) sf:=rfl
theorem hm_new (s:Nat) (cs:List AV) (r:List (Bool×GI)):fT (cE P F L0 ρ r KH) ks (.new s cs) sf = cE P F L0 ρ r KH (ks++[.new s cs]) sf:=rfl
theorem l5 (s:Nat) (cs:List AV):oneM P F L0 ρ (.newL s cs) C sf = C (.new s cs) (sf.set s .any):=rfl
theorem mm_store (k:Nat):oneM P F L0 ρ (.store k x y) C sf = dF L0 x (sf.ev F x) (sf.ev F y) k C sf:=rfl
variable (drop:List Nat) (ks1:List PK)
theorem ir (f:Opd) (args:List Opd):atM P F L0 ρ st d f args post drop T ks1 sf = mN P F L0 ρ st d (sf.ev F f) (args.map (sf.ev F)) post drop T ks1 sf:=rfl
theorem eE (ksh:List PK):postM post drop ks1 ksh T1 ks sf = (eN post ksh ks∧finK drop T1 (ks1++ks) sf):=rfl
theorem fV:finK drop T1 ks sf = (ksB drop ks = true∧T1 (bC ks ks (bV ks sf))):=rfl
theorem eF (A:List PK→Prop):holeK drop ks1 A ks = (ksB drop (ks1++ks) = true∧A ks):=rfl
theorem dS:eN [] [] [] = True:=rfl
theorem l6 (g:GI) (r:List (Bool×GI)) (a:PK) (v:AV) (h k:List PK):eN ((true,g)::r) (a::h) (.val v::k) = eN r h k:=rfl
theorem compM_tn (g:GI) (r:List (Bool×GI)) (a:PK) (s:Nat) (cs:List AV) (h k:List PK):eN ((true,g)::r) (a::h) (.nst s cs::k) = eN r h k:=rfl
theorem j9 (g:GI) (r:List (Bool×GI)) (a b:PK) (h k:List PK):eN ((false,g)::r) (a::h) (b::k) = (b = a∧eN r h k):=rfl
theorem eG (m:Bool) (lv ll:List Nat) (tl:List GI) (Q:Exit→Sf→St→Prop):tailM P F m lv ll tl Q st sf = runI P F m tl (opsK lv ll Q) sf st:=rfl
end
section
variable {P:Program} {F:Nat→FuncId} {L0:List (Nat×List AV)} {ρ st:St}
theorem nr {pre:List GI} {d:Option Nat} {f:Opd} {args:List Opd} {post:List (Bool×GI)} {sf:Sf} {T:St→Sf→Prop} (ρ:St) (hs:St.sub ρ st) (h:preM P F sf.locs ρ pre (atM P F sf.locs ρ st d f args post (fB pre post) T) [] ⟨sf.regs,dV (fB pre post) sf.locs⟩):drawM P F pre d f args post sf st T:=⟨ρ,hs,h⟩
theorem draw_s {pre:List GI} {d:Option Nat} {f:Opd} {args:List Opd} {post:List (Bool×GI)} {sf:Sf} {T:St→Sf→Prop} (h:preM P F sf.locs st pre (atM P F sf.locs st st d f args post (fB pre post) T) [] ⟨sf.regs,dV (fB pre post) sf.locs⟩):drawM P F pre d f args post sf st T:=⟨st,St.sub_refl st,h⟩
theorem iu {q:FuncId} {fs cs args vs:List AV} {d:Option Nat} {post:List (Bool×GI)} {drop:List Nat} {T:St→Sf→Prop} {ks1:List PK} {sf:Sf} {Qc:AV→St→Prop} (hvs:fs++args.map AV.dis++cs = vs) (hent:db P q = true) (hA:aA P q vs st Qc) (hn:args.all AV.noL = true)
    (hK:cE P F L0 ρ post (holeK drop ks1 (afterM P F L0 ρ post Qc d sf drop T ks1)) [] (sf.put d .any)):mN P F L0 ρ st d (.fn (.func q) fs cs) args post drop T ks1 sf:=by
  subst hvs
  exact ⟨hn,hent,Qc,hA,hK⟩
end
section
variable (P:Program) (F:Nat→FuncId) (L0:List (Nat×List AV)) (st s:St) (d:Option Nat) (f:Opd) (args:List Opd) (pre post:List GI) (T:St→Sf→Prop) (ks:List PK) (sf:Sf) (v:AV)
end
section
variable (P:Program) (F:Nat→FuncId) (L0:List (Nat×List AV)) (ρ:St) (C:PK→Sf→Prop) (sf:Sf) (d:Option Nat) (H:List PK→Sf→Prop) (KX:Nat→List PK→Sf→Prop) (ks:List PK) (SS:Nat→St→Prop) (j:Nat)
end
theorem call_1 {P:Program} {ρ:St} {q:FuncId} {fs cs args vs:List AV} {d:Option Nat} {sf:Sf} {C:PK→Sf→Prop} {v:AV} (hvs:fs++args.map AV.dis++cs = vs) (hent:db P q = true) (h:∀ s,St.sub ρ s→aD P q vs s v) (hn:args.all AV.noL = true) (hK:valM C d sf v):mM P ρ d (.fn (.func q) fs cs) args C sf:=by
  subst hvs
  exact ⟨hn,hent,v,h,hK⟩
end Go.Fx
/- Numbers of bytes: shifts and the like. -/
namespace Go.Fx
open Go
theorem len_sl (st:St) (o:Bool) (k:Nat) (es:List AV):lenI .sl st (.sl o k es) = .ok (.lit (.int .i64 es.length)):=rfl
theorem aX {P:Program} {F:Nat→FuncId} {m:Bool} {b:AC} {lv ll:List Nat} {Q:Exit→Sf→St→Prop} {A:Type} (μ:A→Nat) (S:A→Sf) (T:A→St) (I:A→Prop) (a0:A) {sf:Sf} {st:St} (h0:I a0) (hs:Sf.le (sf.mask lv ll) (S a0)) (ht:st = T a0)
    (step:∀ a,I a→∀ K:Exit→Sf→St→Prop,(∀ a' sf',I a'→μ a' < μ a→Sf.le (sf'.mask lv ll) (S a')→K .normal sf' (T a'))→(∀ id sf st,Q (.exit id) sf st→K (.exit id) sf st)→(∀ sf st,Q .ret sf st→K .ret sf st)→aC P F m b (S a) (T a) K):aE (aC P F m b) lv ll sf st Q :=
  loop_for μ S T I a0 h0 hs ht fun a ha=>step a ha _ (fun a' _ h1 h2 h3=>⟨a',⟨h1,h2⟩,h3,rfl⟩) (fun _ _ _ h=>h) (fun _ _ h=>h)
theorem aq {P:Program} {X:Cx} {f:FuncId} {fn:AFun} {vs:List AV} {st:St} (hmix:P.follows .mixedOrders = true) (hf:jb P X f = some fn) (hX:X.F = id) (hlen:Nat.ble vs.length fn.n = true) {K:AV→St→Prop} (h:∀ Q:AV→St→Prop,(∀ v st',K v st'→Q v st')→aFun P id false fn vs st Q):aA P f vs st K :=
  acalls_id hmix hf hX hlen (h K fun _ _ h=>h)
end Go.Fx
/- Slices of plain cells that are written to and appended to. -/
namespace Go.Fx
open Go
def MB (v:AV) (st:St) (l:List AV):Prop:=(v = .lit (.slice none 0 0)∧l = [])∨∃ id cap r,v = .bs id 1 0 l.length cap∧st.get id = some (l++r)∧l.length≤cap∧cap≤(l++r).length
def Kept (st st':St) (v:AV):Prop:=st.boxes.length≤st'.boxes.length∧∀ id cs,st.get id = some cs→(∀ k o l c,v≠.bs id k o l c)→st'.get id = some cs
theorem Kept.refl (st:St) (v:AV):Kept st st v:=⟨Nat.le_refl _,fun _ _ h _=>h⟩
theorem MB.facts {v:AV} {st:St} {l:List AV} (h:MB v st l):v.dis = v∧v.own1 = v∧v.own2 = v∧v.solid1 = true∧v.noL = true∧v.cells = [v]∧(∀ s,kill s v = v)∧∀ st',lenI .sl st' v = .ok (.lit (.int .i64 l.length)):=by
  rcases h with ⟨rfl,rfl⟩ | ⟨id,cap,r,rfl,_⟩
  · exact ⟨rfl,rfl,rfl,rfl,rfl,rfl,fun _=>rfl,fun _=>rfl⟩
  · exact ⟨rfl,rfl,rfl,rfl,rfl,rfl,fun _=>rfl,fun _=>rfl⟩
def NBs (st:St):Prop:=∀ id cs,st.get id = some cs→∀ c ∈ cs,c.NB
theorem NBs.nil:NBs ⟨[]⟩:=fun id cs h=>by simp [St.get] at h
theorem NBs.push {st:St} {cs:List AV} (h:NBs st) (hc:∀ c ∈ cs,c.NB):NBs (st.push (.cells cs)):=by
  intro id ds hg
  by_cases e:id < st.boxes.length
  · rw [eU e] at hg
    exact h id ds hg
  · by_cases e2:id = st.boxes.length
    · subst e2
      rw [bN] at hg
      cases hg
      exact hc
    · have:=bj hg
      rw [aR] at this
      omega
theorem NBs.set {st:St} {id:Nat} {cs:List AV} (h:NBs st) (hid:id < st.boxes.length) (hc:∀ c ∈ cs,c.NB):NBs (st.set id cs):=by
  intro id' ds hg
  by_cases e:id = id'
  · subst e
    rw [aU hid] at hg
    cases hg
    exact hc
  · rw [nj e] at hg
    exact h id' ds hg
theorem MB.app {v:AV} {st:St} {l new:List AV} {bytes:Nat} {C:AV→St→Prop} (h:MB v st l) (hl:Lits l) (hn:Lits new) (hr:ez (l.length + new.length) bytes = true)
    (hC:∀ v' st',MB v' st' (l++new)→Kept st st' v→(NBs st→NBs st')→C v' st'):appX false 1 bytes v C st new:=by
  rcases h with ⟨rfl,rfl⟩ | ⟨id,cap,r,rfl,hg,h1,h2⟩
  · refine ⟨rfl,by simpa using hr,?_⟩
    split
    · rename_i h
      have:new = []:=by simpa using h
      subst this
      exact hC _ _ (.inl ⟨rfl,rfl⟩) (Kept.refl _ _) id
    · intro c hc
      refine hC _ _ (.inr ⟨st.boxes.length,c,List.replicate (c - new.length) .any,by simp,?_,by simpa using hc,by simp; omega⟩) ⟨by simp [St.push],fun id cs hg _=>by rw [eU (bj hg)]; exact hg⟩ (fun h=>h.push fun x hx=>?_)
      · rw [hn.cellsD]
        simp only [List.nil_append,Nat.mul_one]
        exact bN st _
      · rw [hn.cellsD] at hx
        simp only [List.nil_append,Nat.mul_one,List.mem_append] at hx
        rcases hx with hx | hx
        · exact hn.nb x hx
        · rw [List.eq_of_mem_replicate hx]; exact .any
  · refine ⟨rfl,rfl,hr,?_⟩
    rw [hg]
    show (Res.ok _).wp _
    rw [wp_ok,hn.cellsD]
    have hid:=bj hg
    split
    · rename_i hc
      refine ⟨by omega,hC _ _ (.inr ⟨id,cap,r.drop new.length,by simp,?_,by simpa using hc,?_⟩) ⟨by simp [St.set],fun id' cs hg' hne=>?_⟩ (fun h=>h.set hid ?_)⟩
      · rw [aU hid,Nat.zero_add,Nat.mul_one,go rfl (by simp at h2; omega)]
        simp
      · simp at h2 ⊢; omega
      · rw [nj (fun e=>hne _ _ _ _ (by rw [e])),hg']
      · rw [Nat.zero_add,Nat.mul_one,go rfl (by simp at h2; omega)]
        have h3:=h id _ hg
        intro x hx
        simp only [List.mem_append] at hx
        rcases hx with hx | hx | hx
        · exact hl.nb x hx
        · exact hn.nb x hx
        · exact h3 x (List.mem_append_right _ (List.mem_of_mem_drop hx))
    · rename_i hc
      have e:List.map AV.own1 (List.take (l.length * 1) (List.drop 0 (l++r))) = l:=by simp [hl.own]
      refine ⟨by simp,fun c hc=>hC _ _ (.inr ⟨st.boxes.length,c,List.replicate (c - (l.length + new.length)) .any,by simp,?_,by simpa using hc,by simp; omega⟩) ⟨by simp [St.push],fun id' cs hg' _=>by rw [eU (bj hg')]; exact hg'⟩ (fun h=>h.push fun x hx=>?_)⟩
      · rw [e]
        simp only [Nat.mul_one]
        exact bN st _
      · rw [e] at hx
        simp only [List.mem_append] at hx
        rcases hx with (hx | hx) | hx
        · exact hl.nb x hx
        · exact hn.nb x hx
        · rw [List.eq_of_mem_replicate hx]; exact .any
theorem MB.src {v:AV} {st:St} {l:List AV} (h:MB v st l):∃ r,srcA st 1 v = r∧∀ K:List AV→Prop,K l→r.wp K:=by
  refine ⟨_,rfl,fun K hK=>?_⟩
  rcases h with ⟨rfl,rfl⟩ | ⟨id,cap,r,rfl,hg,h1,h2⟩
  · exact hK
  · show (cx st id 1 0 l.length).wp K
    unfold cx
    rw [hg]
    show _∧_
    refine ⟨by simp,?_⟩
    rw [List.drop_zero,pX (by simp),List.take_left]
    exact hK
end Go.Fx
/- Functions that keep nothing may be handed what lies in boxes. -/
namespace Go.Fx
open Go
def litB1:AV→Bool
  | .lit _=>true
  | _=>false
end Go.Fx
/- Maps with plain keys, as lists; boxes that others are left alone by. -/
namespace Go.Fx
open Go
section
variable {β:Type}
def fW (t:Int):List (Int×β)→Nat→Option (Nat×β)
  | [],_=>none
  | (k,b)::r,i=>if t = k then some (i,b) else fW t r (i + 1)
def ap (t:Int):List (Int×β)→Option β
  | []=>none
  | (k,b)::r=>if t = k then some b else ap t r
def updP (t:Int) (b:β):List (Int×β)→List (Int×β)
  | []=>[(t,b)]
  | (k,c)::r=>if t = k then (t,b)::r else (k,c)::updP t b r
def delP (t:Int):List (Int×β)→List (Int×β)
  | []=>[]
  | (k,c)::r=>if t = k then r else (k,c)::delP t r
def aI (m:List (Int×β)):List Int:=m.map Prod.fst
theorem fH (t:Int):∀ (m:List (Int×β)) (i:Nat),(fW t m i).map Prod.snd = ap t m
  | [],_=>rfl
  | (k, b) :: r, i => by
    simp only [fW,ap]; split; · rfl
    · exact fH t r (i + 1)
theorem kM {γ:Type} (e:Int×β→γ) (t:Int) (b:β):∀ (m:List (Int×β)) (i:Nat),match fW t m i with
    | some (j,_)=>i≤j∧(m.map e).set (j - i) (e (t,b)) = (updP t b m).map e∧(m.map e).eraseIdx (j - i) = (delP t m).map e∧j - i < m.length
    | none=>m.map e++[e (t,b)] = (updP t b m).map e∧delP t m = m
  | [],_=>by simp [fW,updP,delP]
  | (k, c) :: r, i => by
    simp only [fW]
    by_cases h:t = k
    · subst h
      simp [updP,delP]
    · rw [if_neg h]
      have ih:=kM e t b r (i + 1)
      cases hf:fW t r (i + 1) with
      | none=>rw [hf] at ih; simp only at ih; simp [updP,delP,h,ih.1,ih.2]
      | some p =>
        obtain ⟨j,c'⟩:=p
        rw [hf] at ih
        simp only at ih ⊢
        obtain ⟨h1,h2,h3,h4⟩:=ih
        obtain ⟨q,rfl⟩:∃ q,j = i + 1 + q:=⟨j - (i + 1),by omega⟩
        rw [show i + 1 + q - (i + 1) = q by omega] at h2 h3 h4
        rw [show i + 1 + q - i = q + 1 by omega]
        refine ⟨by omega,?_,?_,by simp; omega⟩
        · simp [updP,h,h2]
        · simp [delP,h,h3]
theorem cm (t t':Int) (b:β):∀ m:List (Int×β),ap t' (updP t b m) = if t' = t then some b else ap t' m
  | []=>by simp only [updP,ap]
  | (k, c) :: r => by
    simp only [updP]
    by_cases h:t = k
    · subst h
      rw [if_pos rfl]
      simp only [ap]
      split <;> rfl
    · rw [if_neg h]
      simp only [ap]
      rw [cm t t' b r]
      by_cases h1:t' = k
      · subst h1
        have:¬ t' = t:=fun e=>h e.symm
        simp [this]
      · simp [h1]
theorem kN {t:Int}:∀ {m:List (Int×β)},t ∉ aI m→ap t m = none
  | [],_=>rfl
  | (k, c) :: r, h => by
    simp only [aI,List.map_cons,List.mem_cons,not_or] at h
    simp only [ap]
    rw [if_neg h.1]
    exact kN h.2
theorem fI (t t':Int):∀ {m:List (Int×β)},(aI m).Nodup→ap t' (delP t m) = if t' = t then none else ap t' m
  | [],_=>by simp [delP,ap]
  | (k, c) :: r, hn => by
    simp only [aI,List.map_cons,List.nodup_cons] at hn
    simp only [delP]
    by_cases h:t = k
    · subst h
      rw [if_pos rfl]
      simp only [ap]
      by_cases h1:t' = t
      · subst h1; rw [if_pos rfl]; exact kN hn.1
      · rw [if_neg h1,if_neg h1]
    · rw [if_neg h]
      simp only [ap]
      by_cases h1:t' = k
      · subst h1
        have:¬ t' = t:=fun e=>h e.symm
        simp [this]
      · rw [if_neg h1,if_neg h1]; exact fI t t' hn.2
theorem eV (t:Int) (b:β):∀ m:List (Int×β),(updP t b m).length = if (ap t m).isSome then m.length else m.length + 1
  | []=>by simp [updP,ap]
  | (k, c) :: r => by
    simp only [updP,ap]
    by_cases h:t = k
    · simp [h]
    · simp only [if_neg h,List.length_cons,eV t b r]
      split <;> rfl
theorem pZ (t:Int):∀ m:List (Int×β),(delP t m).length = if (ap t m).isSome then m.length - 1 else m.length
  | []=>by simp [delP,ap]
  | (k, c) :: r => by
    simp only [delP,ap]
    by_cases h:t = k
    · simp [h]
    · simp only [if_neg h,List.length_cons,pZ t r]
      split
      · rename_i q
        have:r≠[]:=by rintro rfl; simp [ap] at q
        have:=List.length_pos_iff.2 this
        omega
      · rfl
theorem keys_upd (t:Int) (b:β):∀ m:List (Int×β),aI (updP t b m) = if (ap t m).isSome then aI m else aI m++[t]
  | []=>by simp [updP,ap,aI]
  | (k, c) :: r => by
    simp only [updP,ap]
    by_cases h:t = k
    · simp [h,aI]
    · have:=keys_upd t b r
      simp only [aI] at this
      simp only [if_neg h,aI,List.map_cons,this]
      split <;> rfl
theorem ka (t x:Int):∀ {m:List (Int×β)},x ∈ aI (delP t m)→x ∈ aI m
  | [],h=>h
  | (k, c) :: r, h => by
    simp only [delP] at h
    simp only [aI,List.map_cons,List.mem_cons]
    split at h
    · exact .inr h
    · simp only [aI,List.map_cons,List.mem_cons] at h
      rcases h with h | h
      · exact .inl h
      · exact .inr (ka t x h)
theorem pj {t:Int} {b:β} {m:List (Int×β)} (h:(aI m).Nodup):(aI (updP t b m)).Nodup:=by
  rw [keys_upd]
  split
  · exact h
  · rename_i hs
    refine List.nodup_append.2 ⟨h,by simp,?_⟩
    intro x hx y hy
    simp only [List.mem_singleton] at hy
    subst hy
    rintro rfl
    have:∀ m:List (Int×β),x ∈ aI m→(ap x m).isSome = true:=by
      intro m
      induction m with
      | nil=>intro h; simp [aI] at h
      | cons p r ih =>
        obtain ⟨k,c⟩:=p
        intro h
        simp only [aI,List.map_cons,List.mem_cons] at h
        simp only [ap]
        split
        · rfl
        · rename_i hne
          rcases h with h | h
          · exact absurd h hne
          · exact ih h
    exact hs (this m hx)
theorem pl {t:Int}:∀ {m:List (Int×β)},(aI m).Nodup→(aI (delP t m)).Nodup
  | [],h=>h
  | (k, c) :: r, h => by
    simp only [aI,List.map_cons,List.nodup_cons] at h
    simp only [delP]
    split
    · exact h.2
    · simp only [aI,List.map_cons,List.nodup_cons]
      exact ⟨fun e=>h.1 (ka t k e),pl h.2⟩
def encE (k:IntKind) (ev:β→AV) (p:Int×β):AV×AV:=(.lit (.int k p.1),ev p.2)
def encM (k:IntKind) (ev:β→AV) (m:List (Int×β)):List (AV×AV):=m.map (encE k ev)
theorem iM (k:IntKind) (ev:β→AV) (t:Int):∀ (m:List (Int×β)) (i:Nat),dh (.lit (.int k t)) (encM k ev m) i = .ok ((fW t m i).map fun p=>(p.1,ev p.2))
  | [],_=>rfl
  | (q, b) :: r, i => by
    have ih:=iM k ev t r (i + 1)
    simp only [encM,List.map_cons,encE,dh,fj,if_true,fW] at ih ⊢
    by_cases h:t = q
    · subst h; simp
    · have:(t == q) = false:=by simpa using h
      simp only [this,if_neg h,Bool.false_eq_true,if_false]
      exact ih
end
section
variable {st st':St} {id q:Nat}
theorem getM_lt {es:List (AV×AV)} (h:st.getM id = some es):id < st.boxes.length:=by
  unfold St.getM at h
  split at h
  · rename_i hb
    exact (List.getElem?_eq_some_iff.1 hb).1
  · cases h
theorem bz (h:st'.boxes[id]? = st.boxes[id]?):st'.get id = st.get id:=by unfold St.get; rw [h]
theorem getM_at (h:st'.boxes[id]? = st.boxes[id]?):st'.getM id = st.getM id:=by unfold St.getM; rw [h]
theorem p0 (h:st'.boxes[id]? = st.boxes[id]?):st'.getB id = st.getB id:=by unfold St.getB; rw [h]
theorem bE {cs:List AV} (h:id≠q):(st.set q cs).boxes[id]? = st.boxes[id]?:=by simp [St.set,List.getElem?_set_ne (fun e=>h e.symm)]
theorem p7 {es:List (AV×AV)} {bs:List Nat} {c:Nat} (h:id≠q):(st.setM q es bs c).boxes[id]? = st.boxes[id]?:=by simp [St.setM,List.getElem?_set_ne (fun e=>h e.symm)]
theorem bG {b:Box} (h:id < st.boxes.length):(st.push b).boxes[id]? = st.boxes[id]?:=by simp [St.push,List.getElem?_append_left h]
theorem kP {es:List (AV×AV)} {bs:List Nat} {c:Nat} (h:id < st.boxes.length):(st.setM id es bs c).getM id = some es:=by simp [St.setM,St.getM,h]
theorem dx {es:List (AV×AV)} {bs:List Nat} {c:Nat} (h:id < st.boxes.length):(st.setM id es bs c).getB id = (bs,c):=by simp [St.setM,St.getB,h]
theorem get_mt {es:List (AV×AV)} (h:st.getM id = some es):st.get id = none:=by
  unfold St.getM at h; unfold St.get
  split at h
  · rename_i hb; simp [hb]
  · cases h
end
theorem St.sub_push (st:St) (b:Box):St.sub st (st.push b):=fun id x h=>by
  rw [bG (List.getElem?_eq_some_iff.1 h).1]; exact h
theorem St.sub_of {st st':St} (h:∀ id,id < st.boxes.length→st'.boxes[id]? = st.boxes[id]?):St.sub st st':=fun id x hx=>by
  rw [h id (List.getElem?_eq_some_iff.1 hx).1]; exact hx
def Oth (st st':St) (S:List Nat):Prop:=st'.boxes.length = st.boxes.length∧∀ id,id ∉ S→st'.boxes[id]? = st.boxes[id]?
theorem Oth.refl (st:St) (S:List Nat):Oth st st S:=⟨rfl,fun _ _=>rfl⟩
theorem Oth.trans {a b c:St} {S:List Nat} (h:Oth a b S) (k:Oth b c S):Oth a c S:=⟨k.1.trans h.1,fun id hid=>(k.2 id hid).trans (h.2 id hid)⟩
theorem Oth.mono {a b:St} {S S':List Nat} (h:Oth a b S) (hs:∀ x ∈ S,x ∈ S'):Oth a b S':=⟨h.1,fun id hid=>h.2 id fun e=>hid (hs id e)⟩
theorem Oth.set (st:St) (q:Nat) (cs:List AV) {S:List Nat} (h:q ∈ S):Oth st (st.set q cs) S:=⟨ce ..,fun id hid=>bE fun e=>hid (e ▸ h)⟩
theorem Oth.get {a b:St} {S:List Nat} (h:Oth a b S) {id:Nat} (hid:id ∉ S):b.get id = a.get id:=bz (h.2 id hid)
section
variable {β:Type}
structure MapIs (st:St) (id:Nat) (k:IntKind) (ev:β→AV) (m:List (Int×β)):Prop where
  get:st.getM id = some (encM k ev m)
  nd:(aI m).Nodup
  bl:(st.getB id).1.length = m.length
  bn:(st.getB id).1.Nodup
  bc:∀ b ∈ (st.getB id).1,b < (st.getB id).2
variable {st st':St} {id:Nat} {k:IntKind} {ev:β→AV} {m:List (Int×β)}
theorem MapIs.lt (h:MapIs st id k ev m):id < st.boxes.length:=getM_lt h.get
theorem MapIs.at (h:MapIs st id k ev m) (hb:st'.boxes[id]? = st.boxes[id]?):MapIs st' id k ev m:=by
  refine ⟨(getM_at hb).trans h.get,h.nd,?_,?_,?_⟩ <;> rw [p0 hb]
  · exact h.bl
  · exact h.bn
  · exact h.bc
theorem MapIs.oth {S:List Nat} (h:MapIs st id k ev m) (ho:Oth st st' S) (hid:id ∉ S):MapIs st' id k ev m:=h.at (ho.2 id hid)
theorem MapIs.set (h:MapIs st id k ev m) {q:Nat} {cs:List AV} (hq:id≠q):MapIs (st.set q cs) id k ev m:=h.at (bE hq)
theorem MapIs.push (h:MapIs st id k ev m) (b:Box):MapIs (st.push b) id k ev m:=h.at (bG h.lt)
theorem MapIs.ne (h:MapIs st id k ev m) {q:Nat} {cs:List AV} (hq:st.get q = some cs):id≠q:=by
  rintro rfl
  rw [get_mt h.get] at hq; cases hq
theorem bI (h:MapIs st id k ev m) {z:AV} {ok:Bool} {t:Int}:bF (.int k) z ok st (.map id) (.lit (.int k t)) = .ok (match ap t m with
    | some b=>if ok then .tup [(ev b).dis,.lit (.bool true)] else (ev b).dis
    | none=>if ok then .tup [z,.lit (.bool false)] else z):=by
  have hk:keyI (.int k) (.lit (.int k t)) = true:=by simp [keyI]
  unfold bF
  rw [if_pos hk]
  simp only [h.get,Res.ofOpt,Res.bind,iM]
  rw [← fH t m 0]
  cases fW t m 0 <;> rfl
theorem dm (h:MapIs st id k ev m) {t:Int} {b:β} {x:AV} (hx:x.solid = true) (hd:x.dis = ev b) {K:Sf→St→Prop} {sf:Sf}
    (hK:∀ st',MapIs st' id k ev (updP t b m)→Oth st st' [id]→K sf st'):updX false (.int k) (.map id) (.lit (.int k t)) x K sf st:=by
  refine ⟨by simp [keyI],rfl,hx,?_⟩
  have hlt:=h.lt
  simp only [h.get,Res.ofOpt,Res.wp,iM,hd]
  have hu:=kM (encE k ev) t b m 0
  cases hf:fW t m 0 with
  | none =>
    rw [hf] at hu
    simp only [Option.map_none,St.updM,updA]
    have hno:ap t m = none:=by rw [← fH t m 0,hf]; rfl
    refine hK _ ⟨?_,pj h.nd,?_,?_,?_⟩ ⟨by simp [St.setM],fun q hq=>p7 (by simpa using hq)⟩
    · rw [kP hlt]; exact congrArg some hu.1
    · rw [dx hlt,eV,hno]; simp [h.bl]
    · rw [dx hlt]
      refine List.nodup_append.2 ⟨h.bn,by simp,fun x hx y hy e=>?_⟩
      simp only [List.mem_singleton] at hy
      subst hy; subst e
      exact Nat.lt_irrefl _ (h.bc _ hx)
    · rw [dx hlt]
      intro b hb
      simp only [List.mem_append,List.mem_singleton] at hb
      rcases hb with hb | rfl
      · have:=h.bc b hb; simp only; omega
      · simp
  | some p =>
    obtain ⟨j,c⟩:=p
    rw [hf] at hu
    simp only [Nat.sub_zero] at hu
    simp only [Option.map_some,St.updM,updA]
    have hyes:(ap t m).isSome = true:=by rw [← fH t m 0,hf]; rfl
    refine hK _ ⟨?_,pj h.nd,?_,?_,?_⟩ ⟨by simp [St.setM],fun q hq=>p7 (by simpa using hq)⟩
    · rw [kP hlt]; exact congrArg some hu.2.1
    · rw [dx hlt,eV,if_pos hyes]; exact h.bl
    · rw [dx hlt]; exact h.bn
    · rw [dx hlt]; exact h.bc
theorem gq (h:MapIs st id k ev m) {t:Int} {K:Sf→St→Prop} {sf:Sf}
    (hK:∀ st',MapIs st' id k ev (delP t m)→Oth st st' [id]→K sf st'):delX false (.int k) (.map id) (.lit (.int k t)) K sf st:=by
  refine ⟨by simp [keyI],rfl,?_⟩
  have hlt:=h.lt
  simp only [h.get,Res.ofOpt,Res.wp,iM]
  cases hf:fW t m 0 with
  | none =>
    have hu:delP t m = m:=by
      have:∀ (m:List (Int×β)) (i:Nat),fW t m i = none→delP t m = m:=by
        intro m
        induction m with
        | nil=>intro i _; rfl
        | cons p r ih =>
          obtain ⟨k,c⟩:=p
          intro i h
          simp only [fW] at h
          simp only [delP]
          split at h
          · cases h
          · rename_i hne; rw [if_neg hne,ih (i + 1) h]
      exact this m 0 hf
    simp only [Option.map_none]
    exact hK _ (by rw [hu]; exact h) (Oth.refl _ _)
  | some p =>
    obtain ⟨j,c⟩:=p
    have hu:=kM (encE k ev) t c m 0
    rw [hf] at hu
    simp only [Nat.sub_zero] at hu
    simp only [Option.map_some,St.delM]
    have hyes:(ap t m).isSome = true:=by rw [← fH t m 0,hf]; rfl
    refine hK _ ⟨?_,pl h.nd,?_,?_,?_⟩ ⟨by simp [St.setM],fun q hq=>p7 (by simpa using hq)⟩
    · rw [kP hlt]; exact congrArg some hu.2.2.1
    · rw [dx hlt,pZ,if_pos hyes]
      simp only [List.length_eraseIdx,h.bl,if_pos hu.2.2.2]
    · rw [dx hlt]; exact h.bn.sublist (List.eraseIdx_sublist ..)
    · rw [dx hlt]; exact fun b hb=>h.bc b (List.mem_of_mem_eraseIdx hb)
theorem ns (h:MapIs st id k ev m):lenI .mp st (.map id) = .ok (.lit (.int .i64 m.length)):=by
  simp only [lenI,h.get,Res.ofOpt,Res.bind,encM,List.length_map]
theorem MapIs.clone (h:MapIs st id k ev m):MapIs (st.push (.mp (encM k ev m) (st.getB id).1 (st.getB id).2)) st.boxes.length k ev m:=by
  refine ⟨pf ..,h.nd,?_,?_,?_⟩ <;> rw [pg]
  · exact h.bl
  · exact h.bn
  · exact h.bc
theorem MapIs.new (st:St) (k:IntKind) (ev:β→AV):MapIs (st.push (.mp [] [] 0)) st.boxes.length k ev []:=by
  refine ⟨pf ..,by simp [aI],?_,?_,?_⟩ <;> rw [pg] <;> simp
end
theorem am {P:Program} {X:Cx} {f:FuncId} {fn:AFun} {vs:List AV} {st:St} (hmix:P.follows .mixedOrders = true) (hf:jb P X f = some fn) (hX:X.F = id) (hlen:Nat.ble vs.length fn.n = true) {v0:AV} (h:∀ Q:AV→St→Prop,(∀ st',Q v0 st')→aFun P id true fn vs st Q):aD P f vs st v0:=by
  refine pcalls_of hmix hf (Nat.le_of_ble_eq_true hlen) ?_
  rw [hX]; exact h _ fun _=>rfl
end Go.Fx
/- Linked nodes in a map: a queue (plain lists; no program in sight). -/
namespace Go.Fx
open Go
abbrev Nd:=Int×Nat×Nat
abbrev Qu:=List (Nat×Int)
def aO:Qu→Nat→Nat
  | [],h=>h
  | (x,_)::_,_=>x
def aL:Nat→Qu→Nat
  | p,[]=>p
  | _,(t,_)::r=>aL t r
def bg:Nat→Qu→Nat→Nat→Option Nd
  | _,[],_,_=>none
  | p,(u,v)::r,h,t=>if t = u then some (v,p,aO r h) else bg u r h t
def aT (L:Qu):List Nat:=L.map Prod.fst
theorem gu (B:Qu) (h t:Nat):∀ (A:Qu) (p:Nat),bg p (A++B) h t = match bg p A (aO B h) t with | some x=>some x | none=>bg (aL p A) B h t
  | [],p=>rfl
  | (u, v) :: A, p => by
    simp only [List.cons_append,bg,aL]
    split
    · cases A <;> rfl
    · exact gu B h t A u
theorem cM {h t:Nat}:∀ {L:Qu} {p:Nat},t ∉ aT L→bg p L h t = none
  | [],_,_=>rfl
  | (u, v) :: r, p, hn => by
    simp only [aT,List.map_cons,List.mem_cons,not_or] at hn
    simp only [bg]
    rw [if_neg hn.1]
    exact cM hn.2
theorem eH:∀ {L:Qu} {p:Nat},L≠[]→aL p L ∈ aT L
  | [(t,v)],p,_=>by simp [aL,aT]
  | (t, v) :: y :: r, p, _ => by
    have:=eH (L:=y::r) (p:=t) (by simp)
    simp only [aL,aT,List.map_cons,List.mem_cons] at this ⊢
    exact .inr this
theorem gv (B:Qu):∀ (A:Qu) (p:Nat),aL p (A++B) = aL (aL p A) B
  | [],_=>rfl
  | (t,v)::A,p=>gv B A t
theorem last_ne {L:Qu} {p p':Nat} (h:L≠[]):aL p L = aL p' L:=by
  cases L with
  | nil=>exact absurd rfl h
  | cons x r=>rfl
theorem p8 {h h' t:Nat}:∀ {L:Qu} {p:Nat},(aT L).Nodup→L≠[]→bg p L h' t = if t = aL p L then (bg p L h t).map (fun x=>(x.1,x.2.1,h')) else bg p L h t
  | [(u, v)], p, _, _ => by
    simp only [bg,aL,aO]
    by_cases e:t = u
    · simp [e]
    · simp [e]
  | (u, v) :: (u2, v2) :: r, p, hn, _ => by
    have ih:=p8 (h:=h) (h':=h') (t:=t) (L:=(u2,v2)::r) (p:=u) (List.nodup_cons.1 hn).2 (by simp)
    have hl:=eH (L:=(u2,v2)::r) (p:=u) (by simp)
    have hne:u≠aL u ((u2,v2)::r):=fun e=>(List.nodup_cons.1 hn).1 (by rw [e]; exact hl)
    have e0:∀ q,bg p ((u,v)::(u2,v2)::r) q t = if t = u then some (v,p,u2) else bg u ((u2,v2)::r) q t:=fun q=>rfl
    rw [e0,e0,show aL p ((u,v)::(u2,v2)::r) = aL u ((u2,v2)::r) from rfl]
    by_cases e:t = u
    · subst e; rw [if_pos rfl,if_pos rfl,if_neg hne]
    · rw [if_neg e,if_neg e]; exact ih
theorem nodeA_p {h t p p':Nat} {u:Nat} {v:Int} {r:Qu} (hn:(aT ((u,v)::r)).Nodup):bg p' ((u,v)::r) h t = if t = u then (bg p ((u,v)::r) h t).map (fun x=>(x.1,p',x.2.2)) else bg p ((u,v)::r) h t:=by
  simp only [bg]
  by_cases e:t = u
  · simp [e]
  · simp [e]
theorem nodeA_push {L:Qu} {u:Nat} {v:Int} {t:Nat} (hn:(aT L).Nodup) (hu:u ∉ aT L) (hL:L≠[]) :
    bg 0 (L++[(u,v)]) 0 t = if t = aL 0 L then (bg 0 L 0 t).map (fun x=>(x.1,x.2.1,u)) else if t = u then some (v,aL 0 L,0) else bg 0 L 0 t:=by
  rw [gu]
  simp only [aO,bg]
  have hl:=eH (p:=0) hL
  rw [p8 (h:=0) hn hL]
  by_cases e:t = aL 0 L
  · rw [if_pos e,if_pos e]
    cases hx:bg 0 L 0 t with
    | some x=>rfl
    | none =>
      exfalso
      have:∀ (L:Qu) (p:Nat),t ∈ aT L→bg p L 0 t≠none:=by
        intro L
        induction L with
        | nil=>intro p h; simp [aT] at h
        | cons y r ih =>
          obtain ⟨a,b⟩:=y
          intro p h
          simp only [bg]
          split
          · simp
          · rename_i hne
            simp only [aT,List.map_cons,List.mem_cons] at h
            exact ih a (h.resolve_left hne)
      exact this L 0 (e ▸ hl) hx
  · rw [if_neg e,if_neg e]
    by_cases e2:t = u
    · subst e2; rw [cM hu]
      try simp
    · simp only [if_neg e2]
      cases bg 0 L 0 t <;> rfl
theorem nodeA_del {A B:Qu} {u:Nat} {v:Int} {t:Nat} (hn:(aT (A++(u,v)::B)).Nodup) :
    bg 0 (A++B) 0 t = if t = u then none else
      if A≠[]∧t = aL 0 A then (bg 0 (A++(u,v)::B) 0 t).map (fun x=>(x.1,x.2.1,aO B 0)) else
      if B≠[]∧t = aO B 0 then (bg 0 (A++(u,v)::B) 0 t).map (fun x=>(x.1,aL 0 A,x.2.2)) else bg 0 (A++(u,v)::B) 0 t:=by
  have h1:(aT A).Nodup∧(aT ((u,v)::B)).Nodup∧∀ x ∈ aT A,∀ y ∈ aT ((u,v)::B),x≠y:=by
    simp only [aT,List.map_append] at hn
    exact List.nodup_append.1 hn
  obtain ⟨hA,hB0,hAB⟩:=h1
  have hB:=List.nodup_cons.1 hB0
  have hu:u ∉ aT A:=fun e=>hAB u e u (by simp [aT]) rfl
  rw [gu,gu,show aO ((u,v)::B) 0 = u from rfl]
  by_cases e:t = u
  · subst e
    rw [if_pos rfl,cM hu]
    exact cM hB.1
  · rw [if_neg e]
    have e1:bg (aL 0 A) ((u,v)::B) 0 t = bg u B 0 t:=by simp only [bg]; rw [if_neg e]
    rw [e1]
    by_cases hAe:A = []
    · subst hAe
      simp only [bg,aL,ne_eq,not_true_eq_false,false_and,if_false]
      cases B with
      | nil=>simp [bg]
      | cons y r =>
        obtain ⟨w,z⟩:=y
        rw [nodeA_p (p:=u) (p':=0) hB.2]
        simp [show aO ((w,z)::r) 0 = w from rfl]
    · rw [p8 (h:=u) (h':=aO B 0) hA hAe]
      by_cases e2:t = aL 0 A
      · have hin:t ∈ aT A:=e2 ▸ eH hAe
        rw [if_pos e2,if_pos ⟨hAe,e2⟩]
        cases hx:bg 0 A u t with
        | some x=>rfl
        | none =>
          have hnb:t ∉ aT B:=fun hb=>hAB t hin t (by simp only [aT,List.map_cons,List.mem_cons]; exact .inr hb) rfl
          simp only [Option.map_none,cM hnb]
      · rw [if_neg e2,if_neg (fun q=>e2 q.2)]
        cases B with
        | nil=>simp [bg]
        | cons y r =>
          obtain ⟨w,z⟩:=y
          rw [nodeA_p (p:=u) (p':=aL 0 A) hB.2]
          simp only [show aO ((w,z)::r) 0 = w from rfl,ne_eq,reduceCtorEq,not_false_eq_true,true_and]
          by_cases e3:t = w
          · have hna:t ∉ aT A:=fun ha=>hAB t ha t (by simp [aT,e3]) rfl
            rw [if_pos e3,if_pos e3,cM hna]
          · rw [if_neg e3,if_neg e3]
theorem nodeA_at {A B:Qu} {u:Nat} {v:Int} (hu:u ∉ aT A):bg 0 (A++(u,v)::B) 0 u = some (v,aL 0 A,aO B 0):=by
  rw [gu,cM hu]
  simp [bg]
def ndAV (x:Nd):AV:=.agg [.lit (.int .i64 x.1),.lit (.int .u64 (x.2.1:Nat)),.lit (.int .u64 (x.2.2:Nat))]
theorem ndAV_dis (x:Nd):(ndAV x).dis = ndAV x:=rfl
structure QIs (st:St) (q mid:Nat) (L:Qu) (g:Nat):Prop where
  get:st.get q = some [.lit (.int .u64 (aO L 0:Nat)),.lit (.int .u64 (aL 0 L:Nat)),.lit (.int .u64 (g:Nat)),.map mid]
  mp:∃ m,MapIs st mid .u64 ndAV m∧(∀ t:Nat,ap t m = bg 0 L 0 t)∧m.length = L.length
  srt:(aT L).Pairwise (· < ·)
  pos:∀ t ∈ aT L,0 < t∧t≤g
theorem QIs.nd {st:St} {q mid g:Nat} {L:Qu} (h:QIs st q mid L g):(aT L).Nodup:=h.srt.imp fun h=>Nat.ne_of_lt h
theorem QIs.ne {st:St} {q mid g:Nat} {L:Qu} (h:QIs st q mid L g):mid≠q:=by
  obtain ⟨m,hm,_⟩:=h.mp
  exact hm.ne h.get
theorem QIs.ltq {st:St} {q mid g:Nat} {L:Qu} (h:QIs st q mid L g):q < st.boxes.length:=bj h.get
theorem QIs.ltm {st:St} {q mid g:Nat} {L:Qu} (h:QIs st q mid L g):mid < st.boxes.length:=by
  obtain ⟨m,hm,_⟩:=h.mp
  exact hm.lt
theorem QIs.at {st st':St} {q mid g:Nat} {L:Qu} (h:QIs st q mid L g) (h1:st'.boxes[q]? = st.boxes[q]?) (h2:st'.boxes[mid]? = st.boxes[mid]?):QIs st' q mid L g:=by
  obtain ⟨m,hm,h3,h4⟩:=h.mp
  exact ⟨(bz h1).trans h.get,⟨m,hm.at h2,h3,h4⟩,h.srt,h.pos⟩
theorem QIs.oth {st st':St} {q mid g:Nat} {L:Qu} {S:List Nat} (h:QIs st q mid L g) (ho:Oth st st' S) (h1:q ∉ S) (h2:mid ∉ S):QIs st' q mid L g:=h.at (ho.2 _ h1) (ho.2 _ h2)
theorem QIs.nil_iff {st:St} {q mid g:Nat} {L:Qu} (h:QIs st q mid L g):(aO L 0 = 0↔L = [])∧(aL 0 L = 0↔L = []):=by
  cases L with
  | nil=>simp [aO,aL]
  | cons x r =>
    obtain ⟨t,v⟩:=x
    have h1:=h.pos t (by simp [aT])
    have h2:=h.pos _ (eH (L:=(t,v)::r) (p:=0) (by simp))
    simp only [aO,reduceCtorEq,iff_false]
    omega
theorem fJ {t:Nat}:∀ {L:Qu} {p:Nat},t ∈ aT L→∃ x,bg p L 0 t = some x
  | (u, v) :: r, p, h => by
    simp only [bg]
    split
    · exact ⟨_,rfl⟩
    · rename_i hne
      simp only [aT,List.map_cons,List.mem_cons] at h
      exact fJ (h.resolve_left hne)
theorem cY (A B:Qu):aT (A++B) = aT A++aT B:=by simp [aT]
theorem QIs.clone {st st':St} {q mid q' mid' g:Nat} {L:Qu} (h:QIs st q mid L g) (hg:st'.get q' = some [.lit (.int .u64 (aO L 0:Nat)),.lit (.int .u64 (aL 0 L:Nat)),.lit (.int .u64 (g:Nat)),.map mid'])
    (hm:∀ m,MapIs st mid .u64 ndAV m→MapIs st' mid' .u64 ndAV m):QIs st' q' mid' L g:=by
  obtain ⟨m,h1,h2,h3⟩:=h.mp
  exact ⟨hg,⟨m,hm m h1,h2,h3⟩,h.srt,h.pos⟩
theorem QIs.push {st st':St} {q mid g:Nat} {L:Qu} {v:Int} (h:QIs st q mid L g) {m':List (Int×Nd)} (hg:st'.get q = some [.lit (.int .u64 (aO (L++[(g + 1,v)]) 0:Nat)),.lit (.int .u64 ((g + 1:Nat))),.lit (.int .u64 ((g + 1:Nat))),.map mid])
    (hm:MapIs st' mid .u64 ndAV m') (hl:∀ t:Nat,ap t m' = bg 0 (L++[(g + 1,v)]) 0 t) (hn:m'.length = L.length + 1):QIs st' q mid (L++[(g + 1,v)]) (g + 1):=by
  refine ⟨by rw [gv]; exact hg,⟨m',hm,hl,by simp [hn]⟩,?_,fun t ht=>?_⟩
  · rw [cY]
    refine List.pairwise_append.2 ⟨h.srt,by simp [aT],fun x hx y hy=>?_⟩
    simp only [aT,List.map_cons,List.map_nil,List.mem_singleton] at hy
    have:=(h.pos x hx).2
    omega
  · rw [cY] at ht
    rcases List.mem_append.1 ht with ht | ht
    · have:=h.pos t ht; omega
    · simp only [aT,List.map_cons,List.map_nil,List.mem_singleton] at ht
      omega
theorem QIs.fresh {st:St} {q mid g:Nat} {L:Qu} (h:QIs st q mid L g):g + 1 ∉ aT L:=fun e=>by have:=(h.pos _ e).2; omega
theorem QIs.del {st st':St} {q mid g:Nat} {A B:Qu} {t:Nat} {v:Int} (h:QIs st q mid (A++(t,v)::B) g) {m':List (Int×Nd)} (hg:st'.get q = some [.lit (.int .u64 (aO (A++B) 0:Nat)),.lit (.int .u64 (aL 0 (A++B):Nat)),.lit (.int .u64 (g:Nat)),.map mid])
    (hm:MapIs st' mid .u64 ndAV m') (hl:∀ t:Nat,ap t m' = bg 0 (A++B) 0 t) (hn:m'.length = (A++B).length):QIs st' q mid (A++B) g:=by
  have hsub:(aT (A++B)).Sublist (aT (A++(t,v)::B)):=by
    simp only [cY]
    exact List.Sublist.append (List.Sublist.refl _) (List.sublist_cons_self _ _)
  exact ⟨hg,⟨m',hm,hl,hn⟩,h.srt.sublist hsub,fun x hx=>h.pos x (hsub.subset hx)⟩
end Go.Fx
/- A channel's state: plain lists, and where they lie. -/
namespace Go.Fx
open Go
abbrev W3:=Nat×Int×Int
structure ChP where
  closed:Bool
  cap:Nat
  buf:List Int
  S:List W3
  V:List W3
  g0:Nat
  g1:Nat
def qOf (l:List W3):Qu:=l.map fun x=>(x.1,x.2.1)
def wEnt (d:Int) (l:List W3):List (Int×(Int×Int×Nat)):=l.map fun x=>(x.2.1,(d,x.2.2,x.1))
def entC (S V:List W3):List (Int×(Int×Int×Nat)):=wEnt 0 S++wEnt 1 V
def wtAV (x:Int×Int×Nat):AV:=.agg [.lit (.int .i64 x.1),.lit (.int .i64 x.2.1),.lit (.int .u64 (x.2.2:Nat))]
def ints (l:List Int):List AV:=l.map fun v=>.lit (.int .i64 v)
theorem ca (l:List Int):Lits (ints l):=fun x hx=>by
  simp only [ints,List.mem_map] at hx
  obtain ⟨v,_,rfl⟩:=hx
  exact ⟨_,rfl⟩
theorem ak (l:List Int):(ints l).length = l.length:=by simp [ints]
theorem ed (l k:List Int):ints (l++k) = ints l++ints k:=by simp [ints]
theorem dN {β:Type} {k:Int} {x:β} {B:List (Int×β)}:∀ {A:List (Int×β)},(aI (A++(k,x)::B)).Nodup→ap k (A++(k,x)::B) = some x∧∀ t,ap t (A++B) = if t = k then none else ap t (A++(k,x)::B)
  | [], h => by
    simp only [List.nil_append,aI,List.map_cons,List.nodup_cons] at h
    refine ⟨by simp [ap],fun t=>?_⟩
    by_cases e:t = k
    · subst e; rw [if_pos rfl]; exact kN h.1
    · simp [ap,e]
  | (a, b) :: A, h => by
    simp only [List.cons_append,aI,List.map_cons,List.nodup_cons] at h
    obtain ⟨h1,h2⟩:=dN (A:=A) (B:=B) (k:=k) (x:=x) h.2
    have hne:¬ k = a:=fun e=>h.1 (by rw [← e]; simp)
    refine ⟨by simp only [List.cons_append,ap]; rw [if_neg hne]; exact h1,fun t=>?_⟩
    simp only [List.cons_append,ap]
    by_cases e:t = a
    · have e2:¬ t = k:=fun q=>hne (by rw [← q,e])
      rw [if_pos e,if_neg e2,if_pos e]
    · rw [if_neg e,if_neg e]; exact h2 t
theorem eI {β:Type} (A B:List (Int×β)):aI (A++B) = aI A++aI B:=by simp [aI]
theorem look_of_mem {β:Type} {k:Int} {m:List (Int×β)}:(ap k m).isSome = decide (k ∈ aI m):=by
  induction m with
  | nil=>simp [ap,aI]
  | cons p r ih =>
    obtain ⟨a,b⟩:=p
    simp only [ap,aI,List.map_cons,List.mem_cons]
    by_cases e:k = a
    · simp [e]
    · simp only [if_neg e,e,false_or]; exact ih
def ae:AV→List Nat
  | .bs id _ _ _ _=>[id]
  | _=>[]
structure ChIs (st:St) (c:Nat) (P:ChP) (q0 m0 q1 m1 wid:Nat) (bv:AV):Prop where
  get:st.get c = some [.lit (.bool true),.lit (.bool P.closed),.lit (.int .i64 (P.cap:Nat)),bv,.ptr q0 0,.ptr q1 0,.map wid]
  buf:MB bv st (ints P.buf)
  s:QIs st q0 m0 (qOf P.S) P.g0
  r:QIs st q1 m1 (qOf P.V) P.g1
  w:∃ W,MapIs st wid .i64 wtAV W∧∀ t,ap t W = ap t (entC P.S P.V)
  ids:[c,q0,q1,m0,m1,wid].Nodup
  bid:∀ x ∈ ae bv,x ∉ [c,q0,q1,m0,m1,wid]
  nd:(aI (entC P.S P.V)).Nodup
  rng:∀ t ∈ aI (entC P.S P.V),0≤t∧t < 64
  zv:∀ x ∈ P.V,x.2.2 = 0
def Kp (st st':St) (F:List Nat):Prop:=st.boxes.length≤st'.boxes.length∧∀ id,id < st.boxes.length→id ∉ F→st'.boxes[id]? = st.boxes[id]?
theorem Kp.refl (st:St) (F:List Nat):Kp st st F:=⟨Nat.le_refl _,fun _ _ _=>rfl⟩
theorem Kp.trans {a b c:St} {F F':List Nat} (h:Kp a b F) (k:Kp b c F') (hf:∀ x ∈ F',x ∈ F∨a.boxes.length≤x):Kp a c F :=
  ⟨Nat.le_trans h.1 k.1,fun id hid hn=>(k.2 id (Nat.lt_of_lt_of_le hid h.1) fun e=>(hf id e).elim hn (fun q=>by omega)).trans (h.2 id hid hn)⟩
theorem Oth.kp {st st':St} {S F:List Nat} (h:Oth st st' S) (hs:∀ x ∈ S,x ∈ F):Kp st st' F:=⟨Nat.le_of_eq h.1.symm,fun id _ hn=>h.2 id fun e=>hn (hs id e)⟩
theorem MB.at {v:AV} {st st':St} {l:List AV} (h:MB v st l) (hb:∀ x ∈ ae v,st'.boxes[x]? = st.boxes[x]?):MB v st' l:=by
  rcases h with ⟨rfl,rfl⟩ | ⟨id,cap,r,rfl,hg,h1,h2⟩
  · exact .inl ⟨rfl,rfl⟩
  · exact .inr ⟨id,cap,r,rfl,(bz (hb id (by simp [ae]))).trans hg,h1,h2⟩
theorem MB.lt {v:AV} {st:St} {l:List AV} (h:MB v st l):∀ x ∈ ae v,x < st.boxes.length:=by
  rcases h with ⟨rfl,rfl⟩ | ⟨id,cap,r,rfl,hg,h1,h2⟩
  · simp [ae]
  · intro x hx
    simp only [ae,List.mem_singleton] at hx
    subst hx
    exact bj hg
section
variable {st st':St} {c q0 m0 q1 m1 wid:Nat} {bv:AV} {P:ChP}
theorem ChIs.lts (h:ChIs st c P q0 m0 q1 m1 wid bv):∀ x ∈ [c,q0,q1,m0,m1,wid]++ae bv,x < st.boxes.length:=by
  obtain ⟨W,hW,_⟩:=h.w
  intro x hx
  simp only [List.mem_append,List.mem_cons,List.not_mem_nil,or_false] at hx
  rcases hx with (rfl | rfl | rfl | rfl | rfl | rfl) | hx
  · exact bj h.get
  · exact h.s.ltq
  · exact h.r.ltq
  · exact h.s.ltm
  · exact h.r.ltm
  · exact hW.lt
  · exact h.buf.lt x hx
theorem ChIs.kp (h:ChIs st c P q0 m0 q1 m1 wid bv) {F:List Nat} (hk:Kp st st' F) (hf:∀ x ∈ [c,q0,q1,m0,m1,wid]++ae bv,x ∉ F):ChIs st' c P q0 m0 q1 m1 wid bv:=by
  have hat:∀ x ∈ [c,q0,q1,m0,m1,wid]++ae bv,st'.boxes[x]? = st.boxes[x]?:=fun x hx=>hk.2 x (h.lts x hx) (hf x hx)
  obtain ⟨W,hW,hl⟩:=h.w
  exact ⟨(bz (hat c (by simp))).trans h.get,h.buf.at fun x hx=>hat x (by simp only [List.mem_append]; exact .inr hx),h.s.at (hat _ (by simp)) (hat _ (by simp)),h.r.at (hat _ (by simp)) (hat _ (by simp)),⟨W,hW.at (hat _ (by simp)),hl⟩,h.ids,h.bid,h.nd,h.rng,h.zv⟩
end
theorem MB.grow {v:AV} {st:St} {l new:List AV} {bytes:Nat} {C:AV→St→Prop} (h:MB v st l) (hl:Lits l) (hn:Lits new) (hr:ez (l.length + new.length) bytes = true)
    (hC:∀ v' st',MB v' st' (l++new)→Kp st st' (ae v)→(∀ x ∈ ae v',x ∈ ae v∨st.boxes.length≤x)→C v' st'):appX false 1 bytes v C st new:=by
  rcases h with ⟨rfl,rfl⟩ | ⟨id,cap,r,rfl,hg,h1,h2⟩
  · refine ⟨rfl,by simpa using hr,?_⟩
    split
    · rename_i h
      have:new = []:=by simpa using h
      subst this
      exact hC _ _ (.inl ⟨rfl,rfl⟩) (Kp.refl _ _) (by simp [ae])
    · intro c hc
      refine hC _ _ (.inr ⟨st.boxes.length,c,List.replicate (c - new.length) .any,by simp,?_,by simpa using hc,by simp; omega⟩) ⟨by simp [St.push],fun id hid _=>bG hid⟩ (by simp [ae])
      rw [hn.cellsD]
      simp only [List.nil_append,Nat.mul_one]
      exact bN st _
  · refine ⟨rfl,rfl,hr,?_⟩
    rw [hg]
    show (Res.ok _).wp _
    rw [wp_ok,hn.cellsD]
    have hid:=bj hg
    split
    · rename_i hc
      refine ⟨by omega,hC _ _ (.inr ⟨id,cap,r.drop new.length,by simp,?_,by simpa using hc,?_⟩) ⟨by simp [St.set],fun id' _ hne=>bE (by simpa [ae] using hne)⟩ (by simp [ae])⟩
      · rw [aU hid,Nat.zero_add,Nat.mul_one,go rfl (by simp at h2; omega)]
        simp
      · simp at h2 ⊢; omega
    · rename_i hc
      have e:List.map AV.own1 (List.take (l.length * 1) (List.drop 0 (l++r))) = l:=by simp [hl.own]
      refine ⟨by simp,fun c hc=>hC _ _ (.inr ⟨st.boxes.length,c,List.replicate (c - (l.length + new.length)) .any,by simp,?_,by simpa using hc,by simp; omega⟩) ⟨by simp [St.push],fun id' hid' _=>bG hid'⟩ (by simp [ae])⟩
      rw [e]
      simp only [Nat.mul_one]
      exact bN st _
abbrev It := Int × Int × Int  -- task, value, error
def itAV (x:It):AV:=.agg [.lit (.int .i64 x.1),.lit (.int .i64 0),.lit (.int .i64 x.2.1),.lit (.int .i64 x.2.2)]
def bO (l:List It):AV:=if l = [] then .lit (.slice none 0 0) else .sl false 4 (l.map itAV)
theorem co (l:List It):(bO l).dis = bO l∧(bO l).own1 = bO l∧(bO l).own2 = bO l∧(bO l).solid1 = true∧(bO l).noL = true∧(bO l).cells = [bO l]∧∀ s,kill s (bO l) = bO l:=by
  unfold bO; split <;> exact ⟨rfl,rfl,rfl,rfl,rfl,rfl,fun _=>rfl⟩
def aM (P:ChP) (v:Int):ChP×List It×Int :=
  if P.closed = true then (P,[],14) else
  match P.V with
  | x::l=>({ P with V:=l },[(x.2.1,v,0)],0)
  | []=>if P.buf.length < P.cap then ({ P with buf:=P.buf++[v] },[],0) else (P,[],16)
def foot (c q0 m0 q1 m1 wid:Nat) (bv:AV):List Nat:=[c,q0,q1,m0,m1,wid]++ae bv
def cu (st:St) (c:Nat) (P:ChP) (q0 m0 q1 m1 wid:Nat) (bv:AV) (st':St):Prop :=
  ∃ bv',ChIs st' c P q0 m0 q1 m1 wid bv'∧Kp st st' (foot c q0 m0 q1 m1 wid bv)∧∀ x ∈ ae bv',x ∈ ae bv∨st.boxes.length≤x
theorem ChIs.post {st st':St} {c q0 m0 q1 m1 wid:Nat} {bv:AV} {P:ChP} (h:ChIs st' c P q0 m0 q1 m1 wid bv) (hk:Kp st st' (foot c q0 m0 q1 m1 wid bv)):cu st c P q0 m0 q1 m1 wid bv st':=⟨bv,h,hk,fun _ h=>.inl h⟩
theorem cu.trans {a b st':St} {c q0 m0 q1 m1 wid:Nat} {bv bv1:AV} {P:ChP} (hk:Kp a b (foot c q0 m0 q1 m1 wid bv)) (hb:∀ x ∈ ae bv1,x ∈ ae bv∨a.boxes.length≤x) (h:cu b c P q0 m0 q1 m1 wid bv1 st'):cu a c P q0 m0 q1 m1 wid bv st':=by
  obtain ⟨bv',h1,h2,h3⟩:=h
  refine ⟨bv',h1,hk.trans h2 fun x hx=>?_,fun x hx=>?_⟩
  · simp only [foot,List.mem_append] at hx ⊢
    rcases hx with hx | hx
    · exact .inl (.inl hx)
    · exact (hb x hx).elim (fun e=>.inl (.inr e)) .inr
  · rcases h3 x hx with h | h
    · exact hb x h
    · exact .inr (Nat.le_trans hk.1 h)
theorem ChIs.rebufC {st st1:St} {c q0 m0 q1 m1 wid:Nat} {bv bv1:AV} {P:ChP} {cl:Bool} {b':List Int} (h:ChIs st c P q0 m0 q1 m1 wid bv) (hm:MB bv1 st1 (ints b')) (hk:Kp st st1 (ae bv)) (hb:∀ x ∈ ae bv1,x ∈ ae bv∨st.boxes.length≤x) :
    ChIs (st1.set c [.lit (.bool true),.lit (.bool cl),.lit (.int .i64 (P.cap:Nat)),bv1,.ptr q0 0,.ptr q1 0,.map wid]) c { P with buf:=b',closed:=cl } q0 m0 q1 m1 wid bv1 ∧
    Kp st (st1.set c [.lit (.bool true),.lit (.bool cl),.lit (.int .i64 (P.cap:Nat)),bv1,.ptr q0 0,.ptr q1 0,.map wid]) (foot c q0 m0 q1 m1 wid bv):=by
  have hlt:=h.lts
  have hids:=h.ids
  have hbid:=h.bid
  have hcl:c < st1.boxes.length:=Nat.lt_of_lt_of_le (hlt c (by simp)) hk.1
  simp only [List.nodup_cons,List.mem_cons,List.not_mem_nil,or_false,not_or] at hids
  have hat:∀ x ∈ [q0,q1,m0,m1,wid],(st1.set c [.lit (.bool true),.lit (.bool cl),.lit (.int .i64 (P.cap:Nat)),bv1,.ptr q0 0,.ptr q1 0,.map wid]).boxes[x]? = st.boxes[x]?:=by
    intro x hx
    rw [bE (by simp at hx; omega)]
    refine hk.2 x (hlt x (by simp at hx ⊢; omega)) fun e=>?_
    exact hbid x e (by simp at hx ⊢; omega)
  have hbc:∀ x ∈ ae bv1,x ∉ [c,q0,q1,m0,m1,wid]:=by
    intro x hx hin
    rcases hb x hx with e | e
    · exact hbid x e hin
    · have:=hlt x (List.mem_append_left _ hin); omega
  obtain ⟨W,hW,hl⟩:=h.w
  refine ⟨⟨aU hcl,hm.at fun x hx=>bE fun e=>hbc x hx (by simp [e]),h.s.at (hat _ (by simp)) (hat _ (by simp)),h.r.at (hat _ (by simp)) (hat _ (by simp)),⟨W,hW.at (hat _ (by simp)),hl⟩,h.ids,hbc,h.nd,h.rng,h.zv⟩,⟨by rw [ce]; exact hk.1,fun x hx hn=>?_⟩⟩
  simp only [foot,List.mem_append,List.mem_cons,List.not_mem_nil,or_false,not_or] at hn
  rw [bE hn.1.1]
  exact hk.2 x hx hn.2
theorem ChIs.rebuf {st st1:St} {c q0 m0 q1 m1 wid:Nat} {bv bv1:AV} {P:ChP} {cl:Bool} {b':List Int} (h:ChIs st c P q0 m0 q1 m1 wid bv) (hm:MB bv1 st1 (ints b')) (hk:Kp st st1 (ae bv)) (hb:∀ x ∈ ae bv1,x ∈ ae bv∨st.boxes.length≤x) :
    cu st c { P with buf:=b',closed:=cl } q0 m0 q1 m1 wid bv (st1.set c [.lit (.bool true),.lit (.bool cl),.lit (.int .i64 (P.cap:Nat)),bv1,.ptr q0 0,.ptr q1 0,.map wid]) :=
  ⟨bv1,(h.rebufC hm hk hb).1,(h.rebufC hm hk hb).2,hb⟩
def chk (P:ChP) (t:Int):Int:=if t < 0∨64≤t then 2 else if t ∈ aI (entC P.S P.V) then 11 else 0
def kb (P:ChP) (t v:Int):ChP×Bool×List It×Int :=
  if chk P t≠0 then (P,false,[],chk P t) else
  if (aM P v).2.2 = 16 then ({ P with S:=P.S++[(P.g0 + 1,t,v)],g0:=P.g0 + 1 },false,[],0)
  else ((aM P v).1,(aM P v).2.2 == 0,(aM P v).2.1,(aM P v).2.2)
def ao (P:ChP):ChP×Int×List It×Int :=
  match P.S with
  | x::l=>({ P with S:=l,buf:=(P.buf++[x.2.2]).tail },(P.buf++[x.2.2]).headD 0,[(x.2.1,0,0)],0)
  | [] => match P.buf with
    | []=>(P,0,[],if P.closed = true then 13 else 16)
    | x::b=>({ P with buf:=b },x,[],0)
def f9 (P:ChP):ChP×List It×Int :=
  if P.closed = true then (P,[],14) else ({ P with closed:=true,S:=[],V:=[] },P.V.map (fun x=>(x.2.1,0,13))++P.S.map (fun x=>(x.2.1,0,14)),0)
def gM (P:ChP) (t:Int):ChP×Int :=
  if chk P t = 11 then ({ P with S:=P.S.filter (fun x=>x.2.1 != t),V:=P.V.filter (fun x=>x.2.1 != t) },0) else if chk P t = 0 then (P,9) else (P,chk P t)
def dI (P:ChP) (t:Int):ChP×Int×Bool×List It×Int :=
  if chk P t≠0 then (P,0,false,[],chk P t) else
  if (ao P).2.2.2 = 16 then ({ P with V:=P.V++[(P.g1 + 1,t,0)],g1:=P.g1 + 1 },0,false,[],0)
  else ((ao P).1,(ao P).2.1,(ao P).2.2.2 == 0,(ao P).2.2.1,(ao P).2.2.2)
def Bd (P:ChP) (n:Nat):Prop:=P.g0≤n∧P.g1≤n∧P.buf.length≤n∧P.S.length≤n∧P.V.length≤n∧P.cap≤4096
theorem try_16 {P:ChP} {v:Int} (h:(aM P v).2.2 = 16):(aM P v).1 = P∧(aM P v).2.1 = []:=by
  unfold aM at *
  split
  · exact ⟨rfl,rfl⟩
  · rename_i h1
    rw [if_neg h1] at h
    split
    · rename_i h2; rw [h2] at h; simp at h
    · rename_i h2; rw [h2] at h
      split
      · rename_i h3; simp [if_pos h3] at h
      · exact ⟨rfl,rfl⟩
theorem tryr_16 {P:ChP} (h:(ao P).2.2.2 = 16):(ao P).1 = P∧(ao P).2.2.1 = []∧(ao P).2.1 = 0:=by
  unfold ao at *
  split
  · rename_i h1; rw [h1] at h; simp at h
  · rename_i h1
    split
    · exact ⟨rfl,rfl,rfl⟩
    · rename_i h2; rw [h1,h2] at h; simp at h
end Go.Fx
