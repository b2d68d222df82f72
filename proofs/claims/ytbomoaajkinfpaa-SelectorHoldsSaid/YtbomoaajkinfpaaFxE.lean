/- An evaluator for resolved code, proved against the model: part 5. -/
import Derived.Test.YtbomoaajkinfpaaFxD
import Derived.IntWalk
/- The table of resolved functions. -/
namespace Go.Fx
open Go
def TabOk (P:Program) (F:Nat→FuncId) (T:FuncId→Option AFun):Prop:=∀ q fn,T q = some fn→cW P q = true∧∃ X:Cx,X.F = F∧ii P X q = some fn
end Go.Fx
/- Evaluation by rewriting: small equations, and steps at branches. -/
namespace Go.Fx
open Go
section
variable (v:Value) (vs cs:List AV) (i o k s t n l c:Nat) (b:Bool) (x:AV) (f:Fn) (w:Option Nat)
theorem kJ:(AV.lit v).dis = .lit v:=rfl
theorem oC:(AV.ptr i o).dis = .ptr i o:=rfl
theorem dis_sl:(AV.sl b k cs).dis = .sl false k cs:=rfl
theorem dis_map:(AV.map i).dis = .map i:=rfl
theorem lS (k:Nat):mkSl k [] = .sl true k []:=rfl
theorem mkSl_ptr (k i o:Nat) (r:List AV):mkSl k (.ptr i o::r) = .xs k (.ptr i o::r):=rfl
theorem eM (k:Nat) (v:Value) (r:List AV):mkSl k (.lit v::r) = .sl true k (.lit v::r):=rfl
theorem bV (k:Nat) (v:List AV) (r:List AV):mkSl k (.agg v::r) = .sl true k (.agg v::r):=rfl
theorem jM:(AV.fn f vs cs).dis = .fn f vs cs:=rfl
theorem kK:(AV.agg cs).dis = .agg (cs.map AV.own1):=rfl
theorem dis_tup:(AV.tup cs).dis = .tup (cs.map AV.own2):=rfl
theorem bY:(AV.bs i k o l c).dis = .bs i k o l c:=rfl
theorem jc:(AV.lit v).own1 = .lit v:=rfl
theorem lT:(AV.ptr i o).own1 = .ptr i o:=rfl
theorem own1_sl:(AV.sl b k cs).own1 = .sl false k cs:=rfl
theorem fv:(AV.map i).own1 = .map i:=rfl
theorem own2_lit:(AV.lit v).own2 = .lit v:=rfl
theorem lU:(AV.ptr i o).own2 = .ptr i o:=rfl
theorem dH:(AV.agg cs).own2 = .agg (cs.map AV.own1):=rfl
theorem jN:(AV.lit v).cells = [.lit v]:=rfl
theorem gP:(AV.ptr i o).cells = [.ptr i o]:=rfl
theorem cells_sl:(AV.sl b k cs).cells = [.sl b k cs]:=rfl
theorem ep:(AV.map i).cells = [.map i]:=rfl
theorem nu:(AV.agg cs).cells = cs:=rfl
theorem lV:(AV.lit v).solid1 = true:=rfl
theorem dt:(AV.ptr i o).solid1 = true:=rfl
theorem nv:(AV.sl b k cs).solid1 = true:=rfl
theorem cZ:(AV.map i).solid1 = true:=rfl
theorem solid_eq:x.solid = x.cells.all AV.solid1:=rfl
theorem oD:(AV.lit v).noL = true:=rfl
theorem fU:(AV.ptr i o).noL = true:=rfl
theorem gv:(AV.sl b k cs).noL = true:=rfl
theorem noL_map:(AV.map i).noL = true:=rfl
theorem bM:(AV.agg cs).noL = true:=rfl
theorem noL_tup:(AV.tup cs).noL = true:=rfl
theorem noL_bs:(AV.bs i k o l c).noL = true:=rfl
theorem jd:kill s .any = .any:=rfl
theorem kill_lit:kill s (.lit v) = .lit v:=rfl
theorem kill_ptr:kill s (.ptr i o) = .ptr i o:=rfl
theorem bg:kill s (.lptr t o) = if t = s then .any else .lptr t o:=rfl
theorem b8:kill s (.cptr cs) = .cptr cs:=rfl
theorem bN:kill s (.sl b k cs) = .sl b k cs:=rfl
theorem bW:kill s (.map i) = .map i:=rfl
theorem kill_agg:kill s (.agg cs) = .agg cs:=rfl
theorem dI:kill s (.tup cs) = .tup cs:=rfl
theorem kL:kill s (.bs i k o l c) = .bs i k o l c:=rfl
end
section
variable (F:Nat→FuncId) (sf:Sf) (t g:Nat) (v:AV) (st:St)
theorem ev_r:sf.ev F (.r t) = sf.reg t:=rfl
theorem ev_c:sf.ev F (.c v) = v:=rfl
theorem ev_f:sf.ev F (.f g) = .fn (.func (F g)) [] []:=rfl
theorem evOwn_r:sf.evOwn F (.r t) = sf.reg t:=rfl
theorem evOwn_c:sf.evOwn F (.c v) = v.dis:=rfl
theorem disOp_r:sf.disOp (.r t) = sf.disAt t:=rfl
theorem disOp_c:sf.disOp (.c v) = sf:=rfl
theorem setB_r (b:Bool):(Opd.r t).setB sf b = sf.set t (.lit (.bool b)):=rfl
theorem putS (d:Nat):sf.put (some d) v = sf.set d v:=rfl
theorem putN:sf.put none v = sf:=rfl
variable (k k':IntKind) (a b:Int) (p q:Bool) (sa sb:ByteArray)
theorem n_add:binI .num .add (.lit (.int k a)) (.lit (.int k b)) = .ok (.lit (.int k (k.wrap (a + b)))):=by cases k <;> rfl
theorem n_mul:binI .num .mul (.lit (.int k a)) (.lit (.int k b)) = .ok (.lit (.int k (k.wrap (a * b)))):=by cases k <;> rfl
theorem n_eql:binI .num .eql (.lit (.int k a)) (.lit (.int k b)) = .ok (.lit (.bool (decide (a = b)))):=by cases k <;> rfl
theorem n_neq:binI .num .neq (.lit (.int k a)) (.lit (.int k b)) = .ok (.lit (.bool (decide (¬ a = b)))):=by
  have h:(a != b) = decide (¬ a = b):=by rw [bne_eq,decide_not]; rfl
  rw [← h]
  cases k <;> rfl
theorem n_lss:binI .num .lss (.lit (.int k a)) (.lit (.int k b)) = .ok (.lit (.bool (decide (a < b)))):=by cases k <;> rfl
theorem n_leq:binI .num .leq (.lit (.int k a)) (.lit (.int k b)) = .ok (.lit (.bool (decide (a≤b)))):=by cases k <;> rfl
theorem dZ:binI .num .gtr (.lit (.int k a)) (.lit (.int k b)) = .ok (.lit (.bool (decide (a > b)))):=by cases k <;> rfl
theorem e8:binI .num .geq (.lit (.int k a)) (.lit (.int k b)) = .ok (.lit (.bool (decide (a ≥ b)))):=by cases k <;> rfl
end
theorem req_dec {A:Type} {p:Prop} [Decidable p] {r:Res A} {K:A→Prop} (h:p):(Res.req (decide p) r).wp K = r.wp K:=by
  rw [wp_req,decide_eq_true h]
  exact propext ⟨fun q=>q.2,fun q=>⟨rfl,q⟩⟩
theorem req_tt {A:Type} {r:Res A} {K:A→Prop}:(Res.req true r).wp K = r.wp K:=propext ⟨fun q=>q.2,fun q=>⟨rfl,q⟩⟩
theorem n_rem {k:IntKind} {a b:Int} (h:b≠0):binI .num .rem (.lit (.int k a)) (.lit (.int k b)) = .req true (.ok (.lit (.int k (a.tmod b)))):=by
  have:(b != 0) = true:=by simpa using h
  rw [← this]
  cases k <;> rfl
section
variable {x:Opd} {p:Prop} [Decidable p] {A B:Sf→St→(Exit→Sf→St→Prop)→Prop} {sf:Sf} {st:St} {Q:Exit→Sf→St→Prop} {t:Nat} {b:Bool} {Y N:Sf→St→Prop}
theorem oE:gp x (.lit (.bool true)) A B sf st Q = A (x.setB sf true) st Q:=by
  rw [condI_eq]; exact propext ⟨fun h=>h.1 rfl,fun h=>⟨fun _=>h,fun e=>by cases e⟩⟩
theorem oF:gp x (.lit (.bool false)) A B sf st Q = B (x.setB sf false) st Q:=by
  rw [condI_eq]; exact propext ⟨fun h=>h.2 rfl,fun h=>⟨fun e=>(by cases e),fun _=>h⟩⟩
theorem aM (h:p):gp x (.lit (.bool (decide p))) A B sf st Q = A (x.setB sf true) st Q:=by
  rw [decide_eq_true h,oE]
theorem aY (h:¬ p):gp x (.lit (.bool (decide p))) A B sf st Q = B (x.setB sf false) st Q:=by
  rw [decide_eq_false h,oF]
theorem aP (h1:p→A (x.setB sf true) st Q) (h2:¬ p→B (x.setB sf false) st Q):gp x (.lit (.bool (decide p))) A B sf st Q:=by
  by_cases h:p
  · rw [aM h]; exact h1 h
  · rw [aY h]; exact h2 h
theorem lW {want:Bool}:eK t want (.lit (.bool true)) Y N sf st = if want = true then Y (sf.set t (.lit (.bool true))) st else N (sf.set t (.lit (.bool true))) st:=by
  rw [ns]
  cases want
  · exact propext ⟨fun h=>h.2 rfl,fun h=>⟨fun e=>(by cases e),fun _=>h⟩⟩
  · exact propext ⟨fun h=>h.1 rfl,fun h=>⟨fun _=>h,fun e=>(by cases e)⟩⟩
theorem lX {want:Bool}:eK t want (.lit (.bool false)) Y N sf st = if want = true then N (sf.set t (.lit (.bool false))) st else Y (sf.set t (.lit (.bool false))) st:=by
  rw [ns]
  cases want
  · exact propext ⟨fun h=>h.1 rfl,fun h=>⟨fun _=>h,fun e=>(by cases e)⟩⟩
  · exact propext ⟨fun h=>h.2 rfl,fun h=>⟨fun e=>(by cases e),fun _=>h⟩⟩
theorem de (h:p) {want:Bool}:eK t want (.lit (.bool (decide p))) Y N sf st = if want = true then Y (sf.set t (.lit (.bool true))) st else N (sf.set t (.lit (.bool true))) st:=by
  rw [decide_eq_true h,lW]
theorem cp (h:¬ p) {want:Bool}:eK t want (.lit (.bool (decide p))) Y N sf st = if want = true then N (sf.set t (.lit (.bool false))) st else Y (sf.set t (.lit (.bool false))) st:=by
  rw [decide_eq_false h,lX]
theorem bw {want:Bool} (h1:p→if want = true then Y (sf.set t (.lit (.bool true))) st else N (sf.set t (.lit (.bool true))) st) (h2:¬ p→if want = true then N (sf.set t (.lit (.bool false))) st else Y (sf.set t (.lit (.bool false))) st):eK t want (.lit (.bool (decide p))) Y N sf st:=by
  by_cases h:p
  · rw [de h]; exact h1 h
  · rw [cp h]; exact h2 h
end
def lY:List Nat→List (Nat×AV)→List (Nat×AV)
  | [],_=>[]
  | t::r,l=>(t,getR l t)::lY r l
theorem nw (l:List (Nat×AV)):lY [] l = []:=rfl
theorem lZ (t:Nat) (r:List Nat) (l:List (Nat×AV)):lY (t::r) l = (t,getR l t)::lY r l:=rfl
theorem mask_eq (sf:Sf) (lv ll:List Nat):sf.mask lv ll = ⟨lY lv sf.regs,go ll sf.locs⟩:=by
  have:∀ lv:List Nat,(lv.map fun t=>(t,sf.reg t)) = lY lv sf.regs:=by
    intro lv
    induction lv with
    | nil=>rfl
    | cons t r ih=>simp only [List.map_cons,lY,ih]; rfl
  unfold Sf.mask
  rw [this]
theorem and_pre {p q:Prop} (h:p):(p∧q) = q:=propext ⟨fun a=>a.2,fun a=>⟨h,a⟩⟩
theorem cy {n bytes:Nat} (h:n * bytes≤140737488355328∧n≤1000000000000000):dW n bytes = true:=decide_eq_true h
theorem cT (k:NilK) (x y:AV):binI (.nil k) .eql x y = (Res.ofOpt (cb k x y)).bind fun b=>.ok (.lit (.bool b)):=rfl
theorem b_neq (a b:Bool):binI .bool .neq (.lit (.bool a)) (.lit (.bool b)) = .ok (.lit (.bool !(a == b))):=rfl
theorem l0 (op:BinOp) (C:AV→St→Prop) (st:St):nilX op (.lit (.slice none 0 0)) (.lit (.slice none 0 0)) C st = (binI (.nil .sl) op (.lit (.slice none 0 0)) (.lit (.slice none 0 0))).wp (atS C st):=rfl
theorem oG (op:BinOp) (i k o l c:Nat) (C:AV→St→Prop) (st:St):nilX op (.bs i k o l c) (.lit (.slice none 0 0)) C st = (binI (.nil .sl) op (.bs i k o l c) (.lit (.slice none 0 0))).wp (atS C st):=rfl
theorem nilX_cons (op:BinOp) (o:Bool) (k:Nat) (x:AV) (l:List AV) (C:AV→St→Prop) (st:St):nilX op (.sl o k (x::l)) (.lit (.slice none 0 0)) C st = (binI (.nil .sl) op (.sl o k (x::l)) (.lit (.slice none 0 0))).wp (atS C st):=rfl
theorem l3 (c:AV) (r:List AV):ia none (c::r) = .ok c:=rfl
theorem l5 (n:Nat) (r:List AV):ia (some n) r = .req (decide (n≤r.length)) (.ok (.agg (r.take n))):=rfl
section
variable (c a b:AV) (q:Bool) (vs:List AV) (i:Nat)
theorem pick_tt:pickV (.lit (.bool true)) a b = .ok a.dis:=rfl
theorem pick_ff:pickV (.lit (.bool false)) a b = .ok b.dis:=rfl
end
end Go.Fx
/- What jY of weaker demands; loops that are carried out round by round. -/
namespace Go.Fx
open Go
section
variable {P:Program} {F:Nat→FuncId} {m:Bool}
theorem callI_mono {p:Bool} {d:Option Nat} {f:AV} {args:List AV} {K K':Sf→St→Prop} {sf:Sf} {st:St} (h:∀ sf st,K sf st→K' sf st):iW P m p d f args K sf st→iW P m p d f args K' sf st:=by
  unfold iW
  split
  · rintro ⟨h1,h2⟩
    refine ⟨h1,?_⟩
    split
    · rename_i e; rw [if_pos e] at h2; obtain ⟨a,v,b,c⟩:=h2; exact ⟨a,v,b,h _ _ c⟩
    · rename_i e; rw [if_neg e] at h2; obtain ⟨a,Q,b,c⟩:=h2; exact ⟨a,Q,b,fun v st' q=>h _ _ (c v st' q)⟩
  · rintro ⟨h1,h2,Q,h3,h4⟩; exact ⟨h1,h2,Q,h3,fun t st' q=>h _ _ (h4 t st' q)⟩
  · exact id
theorem appX_mono {m:Bool} {k bytes:Nat} {b:AV} {C C':AV→St→Prop} {st:St} {new:List AV} (h:∀ v st,C v st→C' v st):appX m k bytes b C st new→appX m k bytes b C' st new:=by
  unfold appX
  split
  · rintro ⟨h1,h2,h3,h4⟩
    refine ⟨h1,h2,h3,Res.wp_mono h4 fun cs hc=>?_⟩
    split
    · rename_i e; rw [if_pos e] at hc; exact ⟨hc.1,h _ _ hc.2⟩
    · rename_i e; rw [if_neg e] at hc; exact ⟨hc.1,fun c hc'=>h _ _ (hc.2 c hc')⟩
  · rintro ⟨h1,h2,h3⟩
    refine ⟨h1,h2,?_⟩
    split
    · rename_i e; rw [if_pos e] at h3; exact h _ _ h3
    · rename_i e; rw [if_neg e] at h3; exact fun c hc=>h _ _ (h3 c hc)
  · exact id
theorem stepX_mono {i:XI} {d:Option Nat} {K K':Sf→St→Prop} {sf:Sf} {st:St} (h:∀ sf st,K sf st→K' sf st):bb F m i d K sf st→bb F m i d K' sf st:=by
  have hk:∀ v st,putK K d sf v st→putK K' d sf v st:=fun v st=>h _ _
  cases i with
  | bad=>exact id
  | nilU op x y =>
    simp only [bb,nilX]
    split
    · exact fun q b=>hk _ _ (q b)
    · exact fun q=>Res.wp_mono q fun v=>hk v st
  | appB s k bytes y=>exact fun q=>Res.wp_mono q fun es=>appX_mono hk
  | clrB k z x =>
    simp only [bb,clrX]
    split
    · rintro ⟨h1,h2,h4⟩; exact ⟨h1,h2,Res.wp_mono h4 fun cs hc=>⟨hc.1,hk _ _ hc.2⟩⟩
    · exact hk _ _
    · exact id
  | mksB k bytes z l c =>
    simp only [bb,mksBX]
    split
    · rintro ⟨h1,h2,h3,h4,h5,h6⟩; exact ⟨h1,h2,h3,h4,h5,hk _ _ h6⟩
    · exact id
  | rng x =>
    simp only [bb,rngX]
    split
    · exact fun q=>Res.wp_mono q fun _=>hk _ _
    · exact hk _ _
    · exact id
  | nxt s =>
    simp only [bb,nxtX]
    split
    · exact h _ _
    · refine fun q=>Res.wp_mono q fun es ⟨h1,h2,h3,h4⟩=>⟨h1,h2,fun i k x b a1 a2 a3=>h _ _ (h3 i k x b a1 a2 a3),fun a=>h _ _ (h4 a)⟩
    · exact id
  | ent s =>
    simp only [bb,entX]
    split
    · exact fun q=>Res.wp_mono q fun es ⟨h1,i,k,x,b,h2,h3,h4,h5⟩=>⟨h1,i,k,x,b,h2,h3,h4,hk _ _ h5⟩
    · exact id
  | mclone x =>
    simp only [bb,iV]
    split
    · rintro ⟨h1,h4⟩; exact ⟨h1,Res.wp_mono h4 fun cs hc=>hk _ _ hc⟩
    · exact id
theorem jO {i:AI} {K K':Sf→St→Prop} {sf:Sf} {st:St} (h:∀ sf st,K sf st→K' sf st):oneI P F m i K sf st→oneI P F m i K' sf st:=by
  unfold oneI
  split
  · exact callI_mono h
  · exact stepX_mono h
  · exact fun q=>Res.wp_mono q fun r=>h r.1 r.2
theorem df:∀ {l:List GI} {K K':Sf→St→Prop} {sf:Sf} {st:St},(∀ sf st,K sf st→K' sf st)→runI P F m l K sf st→runI P F m l K' sf st
  | [],K,K',sf,st,h=>h _ _
  | ⟨none, i⟩ :: r, K, K', sf, st, h => by
    simp only [runI]
    exact jO fun sf st=>df h
  | ⟨some (t, want), i⟩ :: r, K, K', sf, st, h => by
    simp only [runI,eK]
    split
    · intro q c hc
      have q:=q c hc
      split
      · rename_i e; rw [if_pos e] at q; exact jO (fun sf st=>df h) q
      · rename_i e; rw [if_neg e] at q; exact df h q
    · exact fun ⟨a,b⟩=>⟨jO (fun sf st=>df h) a,df h b⟩
    · exact df h
    · exact id
theorem je {locs0:List (Nat×List AV)} {st:St} {i:AI} {C C':PK→Sf→Prop} {sf:Sf} (h:∀ k sf,C k sf→C' k sf):aQ P F locs0 st i C sf→aQ P F locs0 st i C' sf:=by
  unfold aQ
  split
  · unfold gm
    split
    · rintro ⟨h1,h2,v,h3,h4⟩; exact ⟨h1,h2,v,h3,h _ _ h4⟩
    · exact id
  · exact h _ _
  · unfold fp
    split
    · unfold fo
      split
      · rintro ⟨h1,h2,h3,h4⟩; exact ⟨h1,h2,h3,h _ _ h4⟩
      · exact id
    · unfold iX
      split
      · rintro ⟨h1,h2,h3⟩; exact ⟨h1,h2,h _ _ h3⟩
      · exact id
    · exact id
  · unfold ol
    split
    · exact fun q=>Res.wp_mono q fun v=>h _ _
    · exact fun q=>Res.wp_mono q fun v=>h _ _
  · exact fun q=>Res.wp_mono q fun v=>h _ _
theorem eN {locs0:List (Nat×List AV)} {st:St}:∀ {l:List GI} {K K':List PK→Sf→Prop} {ks:List PK} {sf:Sf},(∀ ks sf,K ks sf→K' ks sf)→aw P F locs0 st l K ks sf→aw P F locs0 st l K' ks sf
  | [],K,K',ks,sf,h=>h _ _
  | ⟨none, i⟩ :: r, K, K', ks, sf, h => by
    simp only [aw]
    exact je fun k sf=>eN h
  | ⟨some (t, want), i⟩ :: r, K, K', ks, sf, h => by
    simp only [aw,cP]
    split
    · intro q c hc
      have q:=q c hc
      split
      · rename_i e; rw [if_pos e] at q; exact je (fun k sf=>eN h) q
      · rename_i e; rw [if_neg e] at q; exact eN h q
    · exact eN h
    · exact id
theorem gQ {locs0:List (Nat×List AV)} {ρ:St} {i:AI} {C C':PK→Sf→Prop} {sf:Sf} (h:∀ k sf,C k sf→C' k sf):oneM P F locs0 ρ i C sf→oneM P F locs0 ρ i C' sf:=by
  unfold oneM
  split
  · unfold callM1
    split
    · rintro ⟨h1,h2,v,h3,h4⟩; exact ⟨h1,h2,v,h3,h _ _ h4⟩
    · exact id
  · exact h _ _
  · unfold fp
    split
    · unfold fo
      split
      · rintro ⟨h1,h2,h3,h4⟩; exact ⟨h1,h2,h3,h _ _ h4⟩
      · exact id
    · unfold iX
      split
      · rintro ⟨h1,h2,h3⟩; exact ⟨h1,h2,h _ _ h3⟩
      · exact id
    · exact id
  · exact fun q=>Res.wp_mono q fun v=>h _ _
theorem kh {t:Nat} {want:Bool} {v:AV} {Y Y' N N':Sf→Prop} {sf:Sf} (hy:∀ sf,Y sf→Y' sf) (hn:∀ sf,N sf→N' sf):cP t want v Y N sf→cP t want v Y' N' sf:=by
  unfold cP
  split
  · intro q c hc
    have q:=q c hc
    split
    · rename_i e; rw [if_pos e] at q; exact hy _ q
    · rename_i e; rw [if_neg e] at q; exact hn _ q
  · exact hn _
  · exact id
theorem fw {locs0:List (Nat×List AV)} {ρ:St}:∀ {l:List GI} {K K':List PK→Sf→Prop} {ks:List PK} {sf:Sf},(∀ ks sf,K ks sf→K' ks sf)→preM P F locs0 ρ l K ks sf→preM P F locs0 ρ l K' ks sf
  | [],K,K',ks,sf,h=>h _ _
  | ⟨none, i⟩ :: r, K, K', ks, sf, h => by
    simp only [preM]
    exact gQ fun v sf=>fw h
  | ⟨some (t, want), i⟩ :: r, K, K', ks, sf, h => by
    simp only [preM]
    exact kh (fun sf=>gQ fun v sf=>fw h) fun sf=>fw h
theorem eO {locs0:List (Nat×List AV)} {ρ:St}:∀ {l:List (Bool×GI)} {K K':List PK→Prop} {ks:List PK} {sf:Sf},(∀ ks,K ks→K' ks)→cR P F locs0 ρ l K ks sf→cR P F locs0 ρ l K' ks sf
  | [],K,K',ks,sf,h=>h _
  | (true, g) :: r, K, K', ks, sf, h => by
    simp only [cR]
    exact eO h
  | (false, ⟨none, i⟩) :: r, K, K', ks, sf, h => by
    simp only [cR]
    exact gQ fun v sf=>eO h
  | (false, ⟨some (t, want), i⟩) :: r, K, K', ks, sf, h => by
    simp only [cR]
    exact kh (fun sf=>gQ fun v sf=>eO h) fun sf=>eO h
theorem callM_mono {locs0:List (Nat×List AV)} {ρ st:St} {d:Option Nat} {f:AV} {args:List AV} {post:List (Bool×GI)} {drop:List Nat} {T T':St→Sf→Prop} {ks1:List PK} {sf:Sf} (h:∀ st sf,T st sf→T' st sf):lH P F locs0 ρ st d f args post drop T ks1 sf→lH P F locs0 ρ st d f args post drop T' ks1 sf:=by
  unfold lH
  split
  · rintro ⟨h1,h2,Qc,h3,h4⟩
    exact ⟨h1,h2,Qc,h3,eO (fun ks hk=>⟨hk.1,fun v s hq=>⟨(hk.2 v s hq).1,fw (fun ks sf hp=>⟨hp.1,hp.2.1,h _ _ hp.2.2⟩) (hk.2 v s hq).2⟩⟩) h4⟩
  · exact id
theorem aC_mono:∀ {c:AC} {Q Q':Exit→Sf→St→Prop} {sf:Sf} {st:St},(∀ e sf st,Q e sf st→Q' e sf st)→aC P F m c sf st Q→aC P F m c sf st Q':=by
  intro c
  induction c with
  | skip=>intro Q Q' sf st h; exact h _ _ _
  | ops lv ll l=>intro Q Q' sf st h; exact df fun sf st=>h _ _ _
  | draw lv ll dr hl tl=>intro Q Q' sf st h; exact eN fun ks sf ⟨h1,h2⟩=>⟨h1,df (fun sf st=>h _ _ _) h2⟩
  | drawM lv ll pre d f args post tl =>
    intro Q Q' sf st h
    rintro ⟨hm,ρ,hs,hp⟩
    exact ⟨hm,ρ,hs,fw (fun ks sf=>callM_mono fun st sf=>df fun sf st=>h _ _ _) hp⟩
  | seq a b iha ihb =>
    intro Q Q' sf st h
    exact iha fun e sf st=>by
      cases e with
      | normal=>exact ihb h
      | _=>exact h _ _ _
  | cond x a b iha ihb =>
    intro Q Q' sf st h
    simp only [aC,gp]
    split
    · exact fun q=>⟨fun e=>iha h (q.1 e),fun e=>ihb h (q.2 e)⟩
    · exact id
  | block id b ih =>
    intro Q Q' sf st h
    exact ih fun e sf st=>by
      cases e with
      | exit i =>
        simp only [fT]
        split
        · exact h _ _ _
        · exact h _ _ _
      | _=>exact h _ _ _
  | loop lv ll b ih =>
    intro Q Q' sf st h
    rintro ⟨I,h0,hr⟩
    exact ⟨I,h0,fun k sf st hi=>ih (fun e sf st=>by
      cases e with
      | normal=>exact fun q=>q
      | _=>exact h _ _ _) (hr k sf st hi)⟩
  | exit lv ll id=>intro Q Q' sf st h; exact h _ _ _
  | scope b ih =>
    intro Q Q' sf st h
    exact ih fun e sf st=>by
      cases e with
      | goto l=>exact fun q=>q
      | _=>exact h _ _ _
  | ret=>intro Q Q' sf st h; exact h _ _ _
  | bad=>intro Q Q' sf st h; exact fun q=>q
end
theorem tabOk_nil {P:Program} {F:Nat→FuncId}:TabOk P F (fun _=>none):=fun q fn h=>by cases h
theorem af {P:Program} {F:Nat→FuncId} {T:FuncId→Option AFun} {n:FuncId} {X:Cx} {c:AFun} (h1:cW P n = true) (h2:ii P X n = some c) (h3:X.F = F) (hT:TabOk P F T):TabOk P F (fun q=>if q = n then some c else T q):=by
  intro q fn h
  by_cases e:q = n
  · subst e
    simp only [if_true,Option.some.injEq] at h
    subst h
    exact ⟨h1,X,h3,h2⟩
  · simp only [e,if_false] at h
    exact hT q fn h
def unrQ (L:Sf→St→Prop) (Q:Exit→Sf→St→Prop):Exit→Sf→St→Prop
  | .normal,sf,st=>L sf st
  | e,sf,st=>Q e sf st
section
variable {P:Program} {F:Nat→FuncId} {m:Bool} {b:AC} {lv ll:List Nat} {Q:Exit→Sf→St→Prop}
def loopN (P:Program) (F:Nat→FuncId) (m:Bool) (b:AC) (lv ll:List Nat) (Q:Exit→Sf→St→Prop):Nat→Sf→St→Prop
  | 0,_,_=>False
  | n + 1,sf,st=>aC P F m b (sf.mask lv ll) st (unrQ (loopN P F m b lv ll Q n) Q)
theorem loop_rounds (n:Nat) {sf:Sf} {st:St} (h:loopN P F m b lv ll Q n sf st):aB (aC P F m b) lv ll sf st Q:=by
  cases n with
  | zero=>exact h.elim
  | succ n =>
    refine ⟨fun k sf st=>aC P F m b sf st (unrQ (loopN P F m b lv ll Q k) Q),⟨n,_,Sf.le_refl _,h⟩,fun k sf st hk=>aC_mono (fun e sf st=>?_) hk⟩
    cases e with
    | normal =>
      cases k with
      | zero=>exact fun q=>q.elim
      | succ k=>exact fun q=>⟨k,Nat.lt_succ_self k,_,Sf.le_refl _,q⟩
    | _=>exact fun q=>q
variable (sf:Sf) (st:St) (L:Sf→St→Prop) (n:Nat)
theorem iE:loopN P F m b lv ll Q (n + 1) sf st = aC P F m b (sf.mask lv ll) st (unrQ (loopN P F m b lv ll Q n) Q):=rfl
theorem ki:unrQ L Q .normal sf st = L sf st:=rfl
theorem unrQ_exit (id:Nat):unrQ L Q (.exit id) sf st = Q (.exit id) sf st:=rfl
end
end Go.Fx
/- Lists of cells, boxes and numbers: small laws for evaluation. -/
namespace Go.Fx
open Go
theorem up_addL (a k:Nat):(a:Int) + (no_index (OfNat.ofNat k)) = ((a + OfNat.ofNat k:Nat):Int):=by exact id rfl
theorem nx:∀ (vs cs:List AV) (i:Nat),(bK cs i vs).length = cs.length
  | [],cs,i=>rfl
  | v::vs,cs,i=>by simp only [bK]; rw [nx vs]; simp
theorem ny (cs:List AV) (i:Nat):bK cs i [] = cs:=by cases cs <;> rfl
theorem cellsD_nil:Fx.cellsD [] = []:=rfl
theorem jP:∀ (vs xs rs:List AV),vs.length≤rs.length→bK (xs++rs) xs.length vs = xs++(vs++rs.drop vs.length)
  | [],xs,rs,_=>by simp [bK]
  | v::vs,xs,[],h=>by simp at h
  | v :: vs, xs, r :: rs, h => by
    simp only [bK]
    have h1:(xs++r::rs).set xs.length v = (xs++[v])++rs:=by simp
    have h2:xs.length + 1 = (xs++[v]).length:=by simp
    rw [h1,h2,jP vs (xs++[v]) rs (by simpa using h)]
    simp
theorem setAt_zero {vs cs:List AV} (h:vs.length≤cs.length):bK cs 0 vs = vs++cs.drop vs.length:=jP vs [] cs h
theorem fA {vs xs rs:List AV} {n:Nat} (hn:n = xs.length) (h:vs.length≤rs.length):bK (xs++rs) n vs = xs++(vs++rs.drop vs.length):=by subst hn; exact jP vs xs rs h
def Lits (l:List AV):Prop:=∀ x ∈ l,∃ v,x = .lit v
theorem Lits.nil:Lits []:=fun _ h=>by cases h
theorem Lits.app {l l':List AV} (h:Lits l) (h':Lits l'):Lits (l++l'):=fun x hx=>(List.mem_append.1 hx).elim (h x) (h' x)
theorem Lits.drop {l:List AV} (h:Lits l) (n:Nat):Lits (l.drop n):=fun x hx=>h x (List.mem_of_mem_drop hx)
theorem Lits.map {A:Type} (f:A→Value) (l:List A):Lits (l.map fun a=>.lit (f a)):=fun x hx=>by
  obtain ⟨a,_,rfl⟩:=List.mem_map.1 hx; exact ⟨_,rfl⟩
theorem Lits.dis {l:List AV} (h:Lits l):l.map AV.dis = l:=by
  induction l with
  | nil=>rfl
  | cons x r ih =>
    obtain ⟨v,rfl⟩:=h x (List.mem_cons_self ..)
    simp only [List.map_cons,kJ]
    rw [ih fun y hy=>h y (List.mem_cons_of_mem _ hy)]
theorem Lits.own {l:List AV} (h:Lits l):l.map AV.own1 = l:=by
  induction l with
  | nil=>rfl
  | cons x r ih =>
    obtain ⟨v,rfl⟩:=h x (List.mem_cons_self ..)
    simp only [List.map_cons,jc]
    rw [ih fun y hy=>h y (List.mem_cons_of_mem _ hy)]
theorem Lits.cells {l:List AV} (h:Lits l):l.flatMap AV.cells = l:=by
  induction l with
  | nil=>rfl
  | cons x r ih =>
    obtain ⟨v,rfl⟩:=h x (List.mem_cons_self ..)
    simp only [List.flatMap_cons,jN]
    rw [ih fun y hy=>h y (List.mem_cons_of_mem _ hy)]
    rfl
theorem Lits.cellsD {l:List AV} (h:Lits l):Fx.cellsD l = l:=by unfold Fx.cellsD; rw [h.dis,h.cells]
theorem Lits.grp {l:List AV}:∀ (n:Nat) (l:List AV),n≤l.length→Fx.grp 1 n l = l.take n
  | 0,l,_=>by simp [Fx.grp]
  | n + 1,[],h=>by simp at h
  | n + 1,x::l,h=>by simp only [Fx.grp,if_true,List.getD_cons_zero,List.drop_succ_cons,List.drop_zero,List.take_succ_cons]; rw [Lits.grp (l:=l) n l (by simpa using h)]
theorem grp_one {n:Nat} {l:List AV} (h:n≤l.length):grp 1 n l = l.take n:=Lits.grp (l:=l) n l h
theorem Lits.nb {l:List AV} (h:Lits l):∀ x ∈ l,x.NB:=fun x hx=>by obtain ⟨v,rfl⟩:=h x hx; exact .lit v
theorem acalls_id {P:Program} {X:Cx} {f:FuncId} {fn:AFun} {vs:List AV} {st:St} (hmix:P.follows .mixedOrders = true) (hf:ii P X f = some fn) (hX:X.F = id) (hlen:Nat.ble vs.length fn.n = true) {K:AV→St→Prop} (h:aFun P id false fn vs st K):aA P f vs st K:=by
  refine acalls_of hmix hf (Nat.le_of_ble_eq_true hlen) ?_
  rw [hX]; exact h
theorem bI (st:St) (cs:List AV):(st.push (.cells cs)).get st.boxes.length = some cs:=by simp [St.push,St.get]
theorem nz (st:St) (es:List (AV×AV)) (bs:List Nat) (k:Nat):(st.push (.mp es bs k)).getM st.boxes.length = some es:=by simp [St.push,St.getM]
theorem nA (st:St) (es:List (AV×AV)) (bs:List Nat) (k:Nat):(st.push (.mp es bs k)).getB st.boxes.length = (bs,k):=by simp [St.push,St.getB]
theorem set_push (st:St) (b:Box) (cs:List AV):(st.push b).set st.boxes.length cs = st.push (.cells cs):=by simp [St.push,St.set]
theorem aK (st:St) (b:Box):(st.push b).boxes.length = st.boxes.length + 1:=by simp [St.push]
theorem cz (st:St) (id:Nat) (cs:List AV):(st.set id cs).boxes.length = st.boxes.length:=by simp [St.set]
theorem eh {st:St} {b:Box} {id:Nat} (h:id < st.boxes.length):(st.push b).get id = st.get id:=by simp [St.push,St.get,List.getElem?_append_left h]
theorem bq {st:St} {id:Nat} {cs:List AV} (h:st.get id = some cs):id < st.boxes.length:=by
  rcases Nat.lt_or_ge id st.boxes.length with hl | hl
  · exact hl
  · simp [St.get,List.getElem?_eq_none hl] at h
theorem aS {st:St} {id:Nat} {cs:List AV} (h:id < st.boxes.length):(st.set id cs).get id = some cs:=by simp [St.set,St.get,h]
theorem l6 {st:St} {id id':Nat} {cs:List AV} (h:id≠id'):(st.set id cs).get id' = st.get id':=by simp [St.set,St.get,List.getElem?_set_ne h]
theorem kM (st:St) (id:Nat) (cs ds:List AV):(st.set id cs).set id ds = st.set id ds:=by simp [St.set]
theorem l7 (cs:List AV) (i:Nat) (v:AV) (vs:List AV):bK cs i (v::vs) = bK (cs.set i v) (i + 1) vs:=rfl
end Go.Fx
/- Loops with states that are told; lists of bytes. -/
namespace Go.Fx
open Go
section
variable {P:Program} {F:Nat→FuncId} {m:Bool} {b:AC} {lv ll:List Nat} {Q:Exit→Sf→St→Prop}
def stepQ {A:Type} (S:A→Sf) (T:A→St) (R:A→Prop) (lv ll:List Nat) (Q:Exit→Sf→St→Prop):Exit→Sf→St→Prop
  | .normal,sf,st=>∃ a,R a∧Sf.le (sf.mask lv ll) (S a)∧st = T a
  | e,sf,st=>Q e sf st
theorem loop_for {A:Type} (μ:A→Nat) (S:A→Sf) (T:A→St) (I:A→Prop) (a0:A) {sf:Sf} {st:St} (h0:I a0) (hs:Sf.le (sf.mask lv ll) (S a0)) (ht:st = T a0)
    (step:∀ a,I a→aC P F m b (S a) (T a) (stepQ S T (fun a'=>I a'∧μ a' < μ a) lv ll Q)):aB (aC P F m b) lv ll sf st Q:=by
  refine ⟨fun k sf st=>∃ a,I a∧μ a = k∧sf = S a∧st = T a,⟨μ a0,_,hs,a0,h0,rfl,rfl,ht⟩,?_⟩
  rintro k sf st ⟨a,ha,rfl,rfl,rfl⟩
  refine aC_mono (fun e sf st=>?_) (step a ha)
  cases e with
  | normal=>exact fun ⟨a',⟨h1,h2⟩,h3,h4⟩=>⟨μ a',h2,S a',h3,a',h1,rfl,rfl,h4⟩
  | _=>exact fun q=>q
variable {A:Type} (S:A→Sf) (T:A→St) (R:A→Prop) (sf:Sf) (st:St)
end
section
variable {CB:Sf→St→(Exit→Sf→St→Prop)→Prop} {id:Nat} {r:Loop} {rs:List (Nat×AV)} {Q:Bool→St→Prop} {sf:Sf} {st:St}
end
end Go.Fx
/- Regions that draw their order: evaluation. -/
namespace Go.Fx
open Go
section
variable (P:Program) (F:Nat→FuncId) (m:Bool) (locs0:List (Nat×List AV)) (st:St) (C:PK→Sf→Prop) (sf:Sf) (d:Option Nat) (x y i:Opd) (K:List PK→Sf→Prop) (ks:List PK)
theorem h_nil:aw P F locs0 st [] K ks sf = K ks sf:=rfl
theorem h_none (i:AI) (r:List GI):aw P F locs0 st (⟨none,i⟩::r) K ks sf = aQ P F locs0 st i (ic (aw P F locs0 st r K) ks) sf:=rfl
theorem gw (t:Nat) (want:Bool) (i:AI) (r:List GI):aw P F locs0 st (⟨some (t,want),i⟩::r) K ks sf = cP t want (sf.reg t) (aQ P F locs0 st i (ic (aw P F locs0 st r K) ks)) (j9 (aw P F locs0 st r K) ks i.dst) sf:=rfl
theorem hh_mv:aQ P F locs0 st (.mv d x) C sf = valH C d sf (sf.ev F x).dis:=rfl
theorem hh_pick (c a b:Opd):aQ P F locs0 st (.pick d c a b) C sf = (pickV (sf.ev F c) (sf.ev F a) (sf.ev F b)).wp (valH C d sf):=rfl
theorem oH (k:BinK) (op:BinOp):aQ P F locs0 st (.bin d k op x y) C sf = (binI k op (sf.ev F x) (sf.ev F y)).wp (valH C d sf):=rfl
theorem hh_un (op:UnOp):aQ P F locs0 st (.un d op x) C sf = (unA op (sf.ev F x)).wp (valH C d sf):=rfl
theorem hh_field (off:Nat) (k:Option Nat):aQ P F locs0 st (.field d x off k) C sf = (lO (sf.ev F x) off k).wp (valH C d sf):=rfl
theorem hh_addr (off:Nat):aQ P F locs0 st (.addr d x off) C sf = (addA (sf.ev F x) off).wp (valH C d sf):=rfl
theorem dk (k:Nat):aQ P F locs0 st (.ixS d x i k) C sf = (ixSV (sf.ev F x) (sf.ev F i) k).wp (valH C d sf):=rfl
theorem oI (n k:Nat):aQ P F locs0 st (.ixA d x i n k) C sf = ((Fx.ixA (sf.ev F i) n).bind fun j=>addA (sf.ev F x) (j * k)).wp (valH C d sf):=rfl
theorem hh_load (k:Option Nat):aQ P F locs0 st (.load d x k) C sf = (ik sf st (sf.ev F x) k).wp (valH C d sf):=rfl
theorem aU:aQ P F locs0 st (.nilck d x) C sf = (ai (sf.ev F x)).wp (valH C d sf):=rfl
theorem hh_sliS (lo hi:Option Opd) (k:Nat):aQ P F locs0 st (.sliS d x lo hi k) C sf = (lP (sf.ev F x) (lo.map (sf.ev F)) (hi.map (sf.ev F)) k).wp (valH C d sf):=rfl
theorem hh_bsl (k len:Nat) (z:AV) (parts:List (Nat×Opd)):aQ P F locs0 st (.bsl d k len z parts) C sf = (bslV k len z (parts.map fun p=>(p.1,sf.ev F p.2))).wp (valH C d sf):=rfl
theorem hh_bst (places:List (Nat×Nat)) (z:AV) (parts:List (Nat×Opd)):aQ P F locs0 st (.bst d places z parts) C sf = (bstV places z (parts.map fun p=>(p.1,sf.ev F p.2))).wp (valH C d sf):=rfl
theorem dT (k:KeyK) (z:AV) (ok:Bool) (mp key:Opd):aQ P F locs0 st (.lookup d k z ok mp key) C sf = (aZ k z ok st (sf.ev F mp) (sf.ev F key)).wp (valH C d sf):=rfl
theorem hh_mkfn (g:Nat) (first cap:List Opd):aQ P F locs0 st (.mkfn d g first cap) C sf = (mkfnV (F g) (first.map (sf.ev F)) (cap.map (sf.ev F))).wp (valH C d sf):=rfl
theorem oJ (k:LenK):aQ P F locs0 st (.len d k x) C sf = (lenI k st (sf.ev F x)).wp (valH C d sf):=rfl
theorem oK (p:Bool) (f:Opd) (args:List Opd):aQ P F locs0 st (.call d p f args) C sf = gm P st d (sf.ev F f) (args.map (sf.ev F)) C sf:=rfl
theorem kN (s:Nat) (cs:List AV):aQ P F locs0 st (.newL s cs) C sf = C (.new s cs) (sf.set s .any):=rfl
theorem nB (t:Nat) (want:Bool) (Y N:Sf→Prop):cP t want (.lit (.bool true)) Y N sf = if true = want then Y (sf.set t (.lit (.bool true))) else N (sf.set t (.lit (.bool true))):=by
  unfold cP
  exact propext ⟨fun h=>h true rfl,fun h c e=>by subst e; exact h⟩
theorem gR (t:Nat) (want:Bool) (Y N:Sf→Prop):cP t want (.lit (.bool false)) Y N sf = if false = want then Y (sf.set t (.lit (.bool false))) else N (sf.set t (.lit (.bool false))):=by
  unfold cP
  exact propext ⟨fun h=>h false rfl,fun h c e=>by subst e; exact h⟩
end
theorem jf {p:Prop} [Decidable p] {t:Nat} {want:Bool} {Y N:Sf→Prop} {sf:Sf} (h1:p→cP t want (.lit (.bool true)) Y N sf) (h2:¬ p→cP t want (.lit (.bool false)) Y N sf):cP t want (.lit (.bool (decide p))) Y N sf:=by
  by_cases h:p
  · rw [decide_eq_true h]; exact h1 h
  · rw [decide_eq_false h]; exact h2 h
def PK.keep:PK→Bool
  | .val _=>false
  | .skip=>false
  | _=>true
theorem bT:∀ ks:List PK,aR (ks.filter PK.keep) = aR ks
  | []=>rfl
  | .val _::r=>bT r
  | .skip::r=>bT r
  | .mk _ _::r=>bT r
  | .hole::r=>bT r
  | .chole _ _::r=>bT r
  | .nst _ _::r=>bT r
  | .new _ _::r=>bT r
  | .app _ _::r=>bT r
  | .store s _::r=>congrArg (s::·) (bT r)
theorem cG:∀ ks:List PK,bA (ks.filter PK.keep) = bA ks
  | []=>rfl
  | .val _::r=>cG r
  | .skip::r=>cG r
  | .mk _ _::r=>cG r
  | .hole::r=>cG r
  | .chole _ _::r=>cG r
  | .nst _ _::r=>cG r
  | .store _ _::r=>cG r
  | .app _ _::r=>cG r
  | .new s _::r=>congrArg (s::·) (cG r)
theorem cH:∀ ks:List PK,bQ (ks.filter PK.keep) = bQ ks
  | []=>rfl
  | .val _::r=>cH r
  | .skip::r=>cH r
  | .mk _ _::r=>cH r
  | .hole::r=>cH r
  | .chole _ _::r=>cH r
  | .nst _ _::r=>cH r
  | .store _ _::r=>cH r
  | .new _ _::r=>cH r
  | .app s _::r=>congrArg (s::·) (cH r)
theorem cI:∀ (ks:List PK) (sf:Sf),cX (ks.filter PK.keep) sf = cX ks sf
  | [],_=>rfl
  | .val _::r,sf=>cI r sf
  | .skip::r,sf=>cI r sf
  | .mk _ _::r,sf=>cI r sf
  | .hole::r,sf=>cI r sf
  | .chole _ _::r,sf=>cI r sf
  | .nst _ _::r,sf=>cI r sf
  | .new _ _::r,sf=>cI r sf
  | .app _ _::r,sf=>cI r sf
  | .store _ _::r,_=>cI r _
theorem cd (t:Nat):∀ ks:List PK,ck t (ks.filter PK.keep) = ck t ks
  | []=>rfl
  | .val _::r=>cd t r
  | .skip::r=>cd t r
  | .mk _ _::r=>cd t r
  | .hole::r=>cd t r
  | .chole _ _::r=>cd t r
  | .store _ _::r=>cd t r
  | .app _ _::r=>cd t r
  | .new _ _::r=>cd t r
  | .nst s cs :: r => by
    show (if s = t then some cs else ck t (r.filter PK.keep)) = if s = t then some cs else ck t r
    rw [cd t r]
theorem cJ:∀ ks:List PK,bR (ks.filter PK.keep) = bR ks
  | []=>rfl
  | .val _::r=>cJ r
  | .skip::r=>cJ r
  | .mk _ _::r=>cJ r
  | .hole::r=>cJ r
  | .chole _ _::r=>cJ r
  | .store _ _::r=>cJ r
  | .new _ _::r=>cJ r
  | .app _ _::r=>cJ r
  | .nst s _::r=>congrArg (s::·) (cJ r)
theorem cK:∀ (ks:List PK) (seen:List (Nat×Nat)),nstB seen (ks.filter PK.keep) = nstB seen ks
  | [],_=>rfl
  | .val _::r,s=>cK r s
  | .skip::r,s=>cK r s
  | .mk _ _::r,s=>cK r s
  | .hole::r,s=>cK r s
  | .chole _ _::r,s=>cK r s
  | .store _ _::r,s=>cK r s
  | .app _ _::r,s=>cK r s
  | .new _ _::r,s=>cK r _
  | .nst _ _::r,s=>congrArg (_ && ·) (cK r s)
theorem cL (all:List PK):∀ (ks:List PK) (sf:Sf),b9 (all.filter PK.keep) (ks.filter PK.keep) sf = b9 all ks sf
  | [],_=>rfl
  | .val _::r,sf=>cL all r sf
  | .skip::r,sf=>cL all r sf
  | .mk _ _::r,sf=>cL all r sf
  | .hole::r,sf=>cL all r sf
  | .chole _ _::r,sf=>cL all r sf
  | .store _ _::r,sf=>cL all r sf
  | .app _ _::r,sf=>cL all r sf
  | .nst _ _::r,sf=>cL all r sf
  | .new s cs :: r, sf => by
    show b9 (all.filter PK.keep) (r.filter PK.keep) (sf.newLoc s ((ck s (all.filter PK.keep)).getD cs)) = b9 all r (sf.newLoc s ((ck s all).getD cs))
    rw [cd,cL all r]
section
variable {P:Program} {F:Nat→FuncId} {m:Bool} {locs0:List (Nat×List AV)} {st st2:St} {drop lv ll:List Nat} {tl:List GI} {Q:Exit→Sf→St→Prop}
theorem tail_keep (ks:List PK) (sf:Sf):dm P F m drop lv ll tl Q st (ks.filter PK.keep) sf = dm P F m drop lv ll tl Q st ks sf:=by
  unfold dm ksB
  rw [bT,cG,cH,cJ,cK,cI,cL]
theorem eu:∀ (r:List GI) (ks:List PK) (sf:Sf),aw P F locs0 st r (dm P F m drop lv ll tl Q st) (ks.filter PK.keep) sf = aw P F locs0 st r (dm P F m drop lv ll tl Q st) ks sf
  | [],ks,sf=>tail_keep ks sf
  | ⟨g, i⟩ :: r, ks, sf => by
    have h1:ic (aw P F locs0 st r (dm P F m drop lv ll tl Q st)) (ks.filter PK.keep) = ic (aw P F locs0 st r (dm P F m drop lv ll tl Q st)) ks:=by
      funext k sf
      simp only [ic]
      rw [← eu r (ks++[k]) sf,← eu r (ks.filter PK.keep++[k]) sf]
      simp
    have h2:∀ d,j9 (aw P F locs0 st r (dm P F m drop lv ll tl Q st)) (ks.filter PK.keep) d = j9 (aw P F locs0 st r (dm P F m drop lv ll tl Q st)) ks d:=by
      intro d
      funext sf
      exact congrFun (congrFun h1 .skip) (sf.put d (.tup []))
    cases g with
    | none=>simp only [aw,h1]
    | some g=>obtain ⟨t,w⟩:=g; simp only [aw,h1,h2]
variable (ks:List PK) (sf:Sf) (r:List GI) (v:AV) (d:Option Nat)
theorem jg:ic (aw P F locs0 st r (dm P F m drop lv ll tl Q st)) ks (.val v) sf = aw P F locs0 st r (dm P F m drop lv ll tl Q st) ks sf:=by
  show aw P F locs0 st r _ (ks++[.val v]) sf = _
  exact (eu r (ks++[PK.val v]) sf).symm.trans ((congrArg (fun q=>aw P F locs0 st r (dm P F m drop lv ll tl Q st) q sf) (by simp [PK.keep])).trans (eu r ks sf))
theorem nC:j9 (aw P F locs0 st r (dm P F m drop lv ll tl Q st)) ks d sf = aw P F locs0 st r (dm P F m drop lv ll tl Q st) ks (sf.put d (.tup [])):=by
  show aw P F locs0 st r _ (ks++[.skip]) (sf.put d (.tup [])) = _
  exact (eu r (ks++[PK.skip]) _).symm.trans ((congrArg (fun q=>aw P F locs0 st r (dm P F m drop lv ll tl Q st) q (sf.put d (.tup []))) (by simp [PK.keep])).trans (eu r ks _))
theorem val_head:valH (ic (aw P F locs0 st r (dm P F m drop lv ll tl Q st)) ks) d sf v = aw P F locs0 st r (dm P F m drop lv ll tl Q st) ks (sf.put d v):=jg ks (sf.put d v) r v
theorem tail_nil:dm P F m drop lv ll tl Q st [] sf = runI P F m tl (opsK lv ll Q) sf st:=propext ⟨fun h=>h.2,fun h=>⟨rfl,h⟩⟩
theorem kP (k:PK):dm P F m drop lv ll tl Q st (k::ks) sf = (ksB drop (k::ks) = true∧runI P F m tl (opsK lv ll Q) (b9 (k::ks) (k::ks) (cX (k::ks) sf)) st):=rfl
end
section
variable (H:List PK→Sf→Prop) (ks:List PK) (sf:Sf) (s:Nat) (cs:List AV) (v:AV)
theorem jh:ic H ks (.new s cs) sf = H (ks++[.new s cs]) sf:=rfl
end
theorem call_h {P:Program} {d:Option Nat} {q:FuncId} {fs cs args vs:List AV} {sf:Sf} {st:St} {C:PK→Sf→Prop} {v:AV} (hvs:fs++args.map AV.dis++cs = vs) (hent:cW P q = true) (h:aL P q vs st v) (hn:args.all AV.noL = true) (hK:C (.val v) (sf.put d v)):gm P st d (.fn (.func q) fs cs) args C sf:=by
  subst hvs
  exact ⟨hn,hent,v,h,hK⟩
section
variable (P:Program) (F:Nat→FuncId) (L0:List (Nat×List AV)) (ρ:St) (C:PK→Sf→Prop) (sf:Sf) (d:Option Nat) (x y i:Opd) (K:List PK→Sf→Prop) (ks:List PK)
theorem im:preM P F L0 ρ [] K ks sf = K ks sf:=rfl
theorem gx (i:AI) (r:List GI):preM P F L0 ρ (⟨none,i⟩::r) K ks sf = oneM P F L0 ρ i (ig (preM P F L0 ρ r K) ks) sf:=rfl
theorem kj (v:AV) (r:List GI):valM (ig (preM P F L0 ρ r K) ks) d sf v = preM P F L0 ρ r K (ks++[.val v]) (sf.put d v):=rfl
theorem l8:oneM P F L0 ρ (.mv d x) C sf = valM C d sf (sf.ev F x).dis:=rfl
theorem gS (off:Nat):oneM P F L0 ρ (.addr d x off) C sf = (addA (sf.ev F x) off).wp (valM C d sf):=rfl
theorem mm_ixA (n k:Nat):oneM P F L0 ρ (.ixA d x i n k) C sf = ((Fx.ixA (sf.ev F i) n).bind fun j=>addA (sf.ev F x) (j * k)).wp (valM C d sf):=rfl
theorem e9 (k:Option Nat):oneM P F L0 ρ (.load d x k) C sf = (ik sf ρ (sf.ev F x) k).wp (valM C d sf):=rfl
theorem gy:oneM P F L0 ρ (.nilck d x) C sf = (ai (sf.ev F x)).wp (valM C d sf):=rfl
theorem mm_bsl (k len:Nat) (z:AV) (parts:List (Nat×Opd)):oneM P F L0 ρ (.bsl d k len z parts) C sf = (bslV k len z (parts.map fun p=>(p.1,sf.ev F p.2))).wp (valM C d sf):=rfl
theorem mm_bst (places:List (Nat×Nat)) (z:AV) (parts:List (Nat×Opd)):oneM P F L0 ρ (.bst d places z parts) C sf = (bstV places z (parts.map fun p=>(p.1,sf.ev F p.2))).wp (valM C d sf):=rfl
variable (KH:List PK→Prop) (st:St) (post:List (Bool×GI)) (T:St→Sf→Prop) (T1:Sf→Prop)
theorem l9:cR P F L0 ρ [] KH ks sf = KH ks:=rfl
theorem hm_hole (g:GI) (r:List (Bool×GI)):cR P F L0 ρ ((true,g)::r) KH ks sf = cR P F L0 ρ r KH (ks++[.hole]) (sf.put g.i.dst .any):=by simp only [cR]
theorem hm_none (i:AI) (r:List (Bool×GI)):cR P F L0 ρ ((false,⟨none,i⟩)::r) KH ks sf = oneM P F L0 ρ i (ig (cR P F L0 ρ r KH) ks) sf:=rfl
theorem hm_val (v:AV) (r:List (Bool×GI)):valM (ig (cR P F L0 ρ r KH) ks) d sf v = cR P F L0 ρ r KH (ks++[.val v]) (sf.put d v):=rfl
variable (drop:List Nat) (ks1:List PK)
theorem ma (f:Opd) (args:List Opd):atM P F L0 ρ st d f args post drop T ks1 sf = lH P F L0 ρ st d (sf.ev F f) (args.map (sf.ev F)) post drop T ks1 sf:=rfl
theorem gz (ksh:List PK):postM post drop ks1 ksh T1 ks sf = (e7 post ksh ks∧finK drop T1 (ks1++ks) sf):=rfl
theorem ji:finK drop T1 ks sf = (ksB drop ks = true∧T1 (b9 ks ks (cX ks sf))):=rfl
theorem gA (A:List PK→Prop):holeK drop ks1 A ks = (ksB drop (ks1++ks) = true∧A ks):=rfl
theorem fB:e7 [] [] [] = True:=rfl
theorem compM_t (g:GI) (r:List (Bool×GI)) (a:PK) (v:AV) (h k:List PK):e7 ((true,g)::r) (a::h) (.val v::k) = e7 r h k:=rfl
theorem compM_f (g:GI) (r:List (Bool×GI)) (a b:PK) (h k:List PK):e7 ((false,g)::r) (a::h) (b::k) = (b = a∧e7 r h k):=rfl
theorem gB (m:Bool) (lv ll:List Nat) (tl:List GI) (Q:Exit→Sf→St→Prop):tailM P F m lv ll tl Q st sf = runI P F m tl (opsK lv ll Q) sf st:=rfl
end
section
variable {P:Program} {F:Nat→FuncId} {L0:List (Nat×List AV)} {ρ st:St}
theorem draw_m {pre:List GI} {d:Option Nat} {f:Opd} {args:List Opd} {post:List (Bool×GI)} {sf:Sf} {T:St→Sf→Prop} (ρ:St) (hs:St.sub ρ st) (h:preM P F sf.locs ρ pre (atM P F sf.locs ρ st d f args post (f9 pre post) T) [] ⟨sf.regs,dD (f9 pre post) sf.locs⟩):drawM P F pre d f args post sf st T:=⟨ρ,hs,h⟩
theorem draw_s {pre:List GI} {d:Option Nat} {f:Opd} {args:List Opd} {post:List (Bool×GI)} {sf:Sf} {T:St→Sf→Prop} (h:preM P F sf.locs st pre (atM P F sf.locs st st d f args post (f9 pre post) T) [] ⟨sf.regs,dD (f9 pre post) sf.locs⟩):drawM P F pre d f args post sf st T:=⟨st,St.sub_refl st,h⟩
theorem mc {q:FuncId} {fs cs args vs:List AV} {d:Option Nat} {post:List (Bool×GI)} {drop:List Nat} {T:St→Sf→Prop} {ks1:List PK} {sf:Sf} {Qc:AV→St→Prop} (hvs:fs++args.map AV.dis++cs = vs) (hent:cW P q = true) (hA:aA P q vs st Qc) (hn:args.all AV.noL = true)
    (hK:cR P F L0 ρ post (holeK drop ks1 (afterM P F L0 ρ post Qc d sf drop T ks1)) [] (sf.put d .any)):lH P F L0 ρ st d (.fn (.func q) fs cs) args post drop T ks1 sf:=by
  subst hvs
  exact ⟨hn,hent,Qc,hA,hK⟩
end
section
variable (P:Program) (F:Nat→FuncId) (L0:List (Nat×List AV)) (st s:St) (d:Option Nat) (f:Opd) (args:List Opd) (pre post:List GI) (T:St→Sf→Prop) (ks:List PK) (sf:Sf) (v:AV)
end
section
variable (P:Program) (F:Nat→FuncId) (L0:List (Nat×List AV)) (ρ:St) (C:PK→Sf→Prop) (sf:Sf) (d:Option Nat) (H:List PK→Sf→Prop) (KX:Nat→List PK→Sf→Prop) (ks:List PK) (SS:Nat→St→Prop) (j:Nat)
end
end Go.Fx
/- Numbers of bytes: shifts and the like. -/
namespace Go.Fx
open Go
theorem len_sl (st:St) (o:Bool) (k:Nat) (es:List AV):lenI .sl st (.sl o k es) = .ok (.lit (.int .i64 es.length)):=rfl
theorem bj {P:Program} {F:Nat→FuncId} {m:Bool} {b:AC} {lv ll:List Nat} {Q:Exit→Sf→St→Prop} {A:Type} (μ:A→Nat) (S:A→Sf) (T:A→St) (I:A→Prop) (a0:A) {sf:Sf} {st:St} (h0:I a0) (hs:Sf.le (sf.mask lv ll) (S a0)) (ht:st = T a0)
    (step:∀ a,I a→∀ K:Exit→Sf→St→Prop,(∀ a' sf',I a'→μ a' < μ a→Sf.le (sf'.mask lv ll) (S a')→K .normal sf' (T a'))→(∀ id sf st,Q (.exit id) sf st→K (.exit id) sf st)→(∀ sf st,Q .ret sf st→K .ret sf st)→aC P F m b (S a) (T a) K):aB (aC P F m b) lv ll sf st Q :=
  loop_for μ S T I a0 h0 hs ht fun a ha=>step a ha _ (fun a' _ h1 h2 h3=>⟨a',⟨h1,h2⟩,h3,rfl⟩) (fun _ _ _ h=>h) (fun _ _ h=>h)
theorem ap {P:Program} {X:Cx} {f:FuncId} {fn:AFun} {vs:List AV} {st:St} (hmix:P.follows .mixedOrders = true) (hf:ii P X f = some fn) (hX:X.F = id) (hlen:Nat.ble vs.length fn.n = true) {K:AV→St→Prop} (h:∀ Q:AV→St→Prop,(∀ v st',K v st'→Q v st')→aFun P id false fn vs st Q):aA P f vs st K :=
  acalls_id hmix hf hX hlen (h K fun _ _ h=>h)
end Go.Fx
/- Slices of plain cells that are written to and appended to. -/
namespace Go.Fx
open Go
def MB (v:AV) (st:St) (l:List AV):Prop:=(v = .lit (.slice none 0 0)∧l = [])∨∃ id cap r,v = .bs id 1 0 l.length cap∧st.get id = some (l++r)∧l.length≤cap∧cap≤(l++r).length
def Kept (st st':St) (v:AV):Prop:=st.boxes.length≤st'.boxes.length∧∀ id cs,st.get id = some cs→(∀ k o l c,v≠.bs id k o l c)→st'.get id = some cs
theorem Kept.refl (st:St) (v:AV):Kept st st v:=⟨Nat.le_refl _,fun _ _ h _=>h⟩
theorem MB.facts {v:AV} {st:St} {l:List AV} (h:MB v st l):v.dis = v∧v.own1 = v∧v.own2 = v∧v.solid1 = true∧v.noL = true∧v.cells = [v]∧(∀ s,kill s v = v)∧∀ st',lenI .sl st' v = .ok (.lit (.int .i64 l.length)):=by
  rcases h with ⟨rfl,rfl⟩ | ⟨id,cap,r,rfl,_⟩
  · exact ⟨rfl,rfl,rfl,rfl,rfl,rfl,fun _=>rfl,fun _=>rfl⟩
  · exact ⟨rfl,rfl,rfl,rfl,rfl,rfl,fun _=>rfl,fun _=>rfl⟩
def NBs (st:St):Prop:=∀ id cs,st.get id = some cs→∀ c ∈ cs,c.NB
theorem NBs.nil:NBs ⟨[]⟩:=fun id cs h=>by simp [St.get] at h
theorem NBs.push {st:St} {cs:List AV} (h:NBs st) (hc:∀ c ∈ cs,c.NB):NBs (st.push (.cells cs)):=by
  intro id ds hg
  by_cases e:id < st.boxes.length
  · rw [eh e] at hg
    exact h id ds hg
  · by_cases e2:id = st.boxes.length
    · subst e2
      rw [bI] at hg
      cases hg
      exact hc
    · have:=bq hg
      rw [aK] at this
      omega
theorem NBs.set {st:St} {id:Nat} {cs:List AV} (h:NBs st) (hid:id < st.boxes.length) (hc:∀ c ∈ cs,c.NB):NBs (st.set id cs):=by
  intro id' ds hg
  by_cases e:id = id'
  · subst e
    rw [aS hid] at hg
    cases hg
    exact hc
  · rw [l6 e] at hg
    exact h id' ds hg
theorem MB.app {v:AV} {st:St} {l new:List AV} {bytes:Nat} {C:AV→St→Prop} (h:MB v st l) (hl:Lits l) (hn:Lits new) (hr:dW (l.length + new.length) bytes = true)
    (hC:∀ v' st',MB v' st' (l++new)→Kept st st' v→(NBs st→NBs st')→C v' st'):appX false 1 bytes v C st new:=by
  rcases h with ⟨rfl,rfl⟩ | ⟨id,cap,r,rfl,hg,h1,h2⟩
  · refine ⟨rfl,by simpa using hr,?_⟩
    split
    · rename_i h
      have:new = []:=by simpa using h
      subst this
      exact hC _ _ (.inl ⟨rfl,rfl⟩) (Kept.refl _ _) id
    · intro c hc
      refine hC _ _ (.inr ⟨st.boxes.length,c,List.replicate (c - new.length) .any,by simp,?_,by simpa using hc,by simp; omega⟩) ⟨by simp [St.push],fun id cs hg _=>by rw [eh (bq hg)]; exact hg⟩ (fun h=>h.push fun x hx=>?_)
      · rw [hn.cellsD]
        simp only [List.nil_append,Nat.mul_one]
        exact bI st _
      · rw [hn.cellsD] at hx
        simp only [List.nil_append,Nat.mul_one,List.mem_append] at hx
        rcases hx with hx | hx
        · exact hn.nb x hx
        · rw [List.eq_of_mem_replicate hx]; exact .any
  · refine ⟨rfl,rfl,hr,?_⟩
    rw [hg]
    show (Res.ok _).wp _
    rw [wp_ok,hn.cellsD]
    have hid:=bq hg
    split
    · rename_i hc
      refine ⟨by omega,hC _ _ (.inr ⟨id,cap,r.drop new.length,by simp,?_,by simpa using hc,?_⟩) ⟨by simp [St.set],fun id' cs hg' hne=>?_⟩ (fun h=>h.set hid ?_)⟩
      · rw [aS hid,Nat.zero_add,Nat.mul_one,fA rfl (by simp at h2; omega)]
        simp
      · simp at h2 ⊢; omega
      · rw [l6 (fun e=>hne _ _ _ _ (by rw [e])),hg']
      · rw [Nat.zero_add,Nat.mul_one,fA rfl (by simp at h2; omega)]
        have h3:=h id _ hg
        intro x hx
        simp only [List.mem_append] at hx
        rcases hx with hx | hx | hx
        · exact hl.nb x hx
        · exact hn.nb x hx
        · exact h3 x (List.mem_append_right _ (List.mem_of_mem_drop hx))
    · rename_i hc
      have e:List.map AV.own1 (List.take (l.length * 1) (List.drop 0 (l++r))) = l:=by simp [hl.own]
      refine ⟨by simp,fun c hc=>hC _ _ (.inr ⟨st.boxes.length,c,List.replicate (c - (l.length + new.length)) .any,by simp,?_,by simpa using hc,by simp; omega⟩) ⟨by simp [St.push],fun id' cs hg' _=>by rw [eh (bq hg')]; exact hg'⟩ (fun h=>h.push fun x hx=>?_)⟩
      · rw [e]
        simp only [Nat.mul_one]
        exact bI st _
      · rw [e] at hx
        simp only [List.mem_append] at hx
        rcases hx with (hx | hx) | hx
        · exact hl.nb x hx
        · exact hn.nb x hx
        · rw [List.eq_of_mem_replicate hx]; exact .any
theorem MB.src {v:AV} {st:St} {l:List AV} (h:MB v st l):∃ r,srcA st 1 v = r∧∀ K:List AV→Prop,K l→r.wp K:=by
  refine ⟨_,rfl,fun K hK=>?_⟩
  rcases h with ⟨rfl,rfl⟩ | ⟨id,cap,r,rfl,hg,h1,h2⟩
  · exact hK
  · show (cQ st id 1 0 l.length).wp K
    unfold cQ
    rw [hg]
    show _∧_
    refine ⟨by simp,?_⟩
    rw [List.drop_zero,grp_one (by simp),List.take_left]
    exact hK
end Go.Fx
/- Functions that keep nothing may be handed what lies in boxes. -/
namespace Go.Fx
open Go
def litB1:AV→Bool
  | .lit _=>true
  | _=>false
end Go.Fx
/- Maps with plain keys, as lists; boxes that others are left alone by. -/
namespace Go.Fx
open Go
section
variable {β:Type}
def fa (t:Int):List (Int×β)→Nat→Option (Nat×β)
  | [],_=>none
  | (k,b)::r,i=>if t = k then some (i,b) else fa t r (i + 1)
def ag (t:Int):List (Int×β)→Option β
  | []=>none
  | (k,b)::r=>if t = k then some b else ag t r
def updP (t:Int) (b:β):List (Int×β)→List (Int×β)
  | []=>[(t,b)]
  | (k,c)::r=>if t = k then (t,b)::r else (k,c)::updP t b r
def delP (t:Int):List (Int×β)→List (Int×β)
  | []=>[]
  | (k,c)::r=>if t = k then r else (k,c)::delP t r
def az (m:List (Int×β)):List Int:=m.map Prod.fst
theorem eP (t:Int):∀ (m:List (Int×β)) (i:Nat),(fa t m i).map Prod.snd = ag t m
  | [],_=>rfl
  | (k, b) :: r, i => by
    simp only [fa,ag]; split; · rfl
    · exact eP t r (i + 1)
theorem jQ {γ:Type} (e:Int×β→γ) (t:Int) (b:β):∀ (m:List (Int×β)) (i:Nat),match fa t m i with
    | some (j,_)=>i≤j∧(m.map e).set (j - i) (e (t,b)) = (updP t b m).map e∧(m.map e).eraseIdx (j - i) = (delP t m).map e∧j - i < m.length
    | none=>m.map e++[e (t,b)] = (updP t b m).map e∧delP t m = m
  | [],_=>by simp [fa,updP,delP]
  | (k, c) :: r, i => by
    simp only [fa]
    by_cases h:t = k
    · subst h
      simp [updP,delP]
    · rw [if_neg h]
      have ih:=jQ e t b r (i + 1)
      cases hf:fa t r (i + 1) with
      | none=>rw [hf] at ih; simp only at ih; simp [updP,delP,h,ih.1,ih.2]
      | some p =>
        obtain ⟨j,c'⟩:=p
        rw [hf] at ih
        simp only at ih ⊢
        obtain ⟨h1,h2,h3,h4⟩:=ih
        obtain ⟨q,rfl⟩:∃ q,j = i + 1 + q:=⟨j - (i + 1),by omega⟩
        rw [show i + 1 + q - (i + 1) = q by omega] at h2 h3 h4
        rw [show i + 1 + q - i = q + 1 by omega]
        refine ⟨by omega,?_,?_,by simp; omega⟩
        · simp [updP,h,h2]
        · simp [delP,h,h3]
theorem bX (t t':Int) (b:β):∀ m:List (Int×β),ag t' (updP t b m) = if t' = t then some b else ag t' m
  | []=>by simp only [updP,ag]
  | (k, c) :: r => by
    simp only [updP]
    by_cases h:t = k
    · subst h
      rw [if_pos rfl]
      simp only [ag]
      split <;> rfl
    · rw [if_neg h]
      simp only [ag]
      rw [bX t t' b r]
      by_cases h1:t' = k
      · subst h1
        have:¬ t' = t:=fun e=>h e.symm
        simp [this]
      · simp [h1]
theorem jR {t:Int}:∀ {m:List (Int×β)},t ∉ az m→ag t m = none
  | [],_=>rfl
  | (k, c) :: r, h => by
    simp only [az,List.map_cons,List.mem_cons,not_or] at h
    simp only [ag]
    rw [if_neg h.1]
    exact jR h.2
theorem me {t:Int}:∀ {m:List (Int×β)} {b:β},ag t m = some b→t ∈ az m
  | (k, c) :: r, b, h => by
    simp only [ag] at h
    simp only [az,List.map_cons,List.mem_cons]
    split at h
    · rename_i e; exact .inl e
    · exact .inr (me h)
theorem dJ (t t':Int):∀ {m:List (Int×β)},(az m).Nodup→ag t' (delP t m) = if t' = t then none else ag t' m
  | [],_=>by simp [delP,ag]
  | (k, c) :: r, hn => by
    simp only [az,List.map_cons,List.nodup_cons] at hn
    simp only [delP]
    by_cases h:t = k
    · subst h
      rw [if_pos rfl]
      simp only [ag]
      by_cases h1:t' = t
      · subst h1; rw [if_pos rfl]; exact jR hn.1
      · rw [if_neg h1,if_neg h1]
    · rw [if_neg h]
      simp only [ag]
      by_cases h1:t' = k
      · subst h1
        have:¬ t' = t:=fun e=>h e.symm
        simp [this]
      · rw [if_neg h1,if_neg h1]; exact dJ t t' hn.2
theorem ei (t:Int) (b:β):∀ m:List (Int×β),(updP t b m).length = if (ag t m).isSome then m.length else m.length + 1
  | []=>by simp [updP,ag]
  | (k, c) :: r => by
    simp only [updP,ag]
    by_cases h:t = k
    · simp [h]
    · simp only [if_neg h,List.length_cons,ei t b r]
      split <;> rfl
theorem oL (t:Int):∀ m:List (Int×β),(delP t m).length = if (ag t m).isSome then m.length - 1 else m.length
  | []=>by simp [delP,ag]
  | (k, c) :: r => by
    simp only [delP,ag]
    by_cases h:t = k
    · simp [h]
    · simp only [if_neg h,List.length_cons,oL t r]
      split
      · rename_i q
        have:r≠[]:=by rintro rfl; simp [ag] at q
        have:=List.length_pos_iff.2 this
        omega
      · rfl
theorem keys_upd (t:Int) (b:β):∀ m:List (Int×β),az (updP t b m) = if (ag t m).isSome then az m else az m++[t]
  | []=>by simp [updP,ag,az]
  | (k, c) :: r => by
    simp only [updP,ag]
    by_cases h:t = k
    · simp [h,az]
    · have:=keys_upd t b r
      simp only [az] at this
      simp only [if_neg h,az,List.map_cons,this]
      split <;> rfl
theorem jk (t x:Int):∀ {m:List (Int×β)},x ∈ az (delP t m)→x ∈ az m
  | [],h=>h
  | (k, c) :: r, h => by
    simp only [delP] at h
    simp only [az,List.map_cons,List.mem_cons]
    split at h
    · exact .inr h
    · simp only [az,List.map_cons,List.mem_cons] at h
      rcases h with h | h
      · exact .inl h
      · exact .inr (jk t x h)
theorem nD {t:Int} {b:β} {m:List (Int×β)} (h:(az m).Nodup):(az (updP t b m)).Nodup:=by
  rw [keys_upd]
  split
  · exact h
  · rename_i hs
    refine List.nodup_append.2 ⟨h,by simp,?_⟩
    intro x hx y hy
    simp only [List.mem_singleton] at hy
    subst hy
    rintro rfl
    have:∀ m:List (Int×β),x ∈ az m→(ag x m).isSome = true:=by
      intro m
      induction m with
      | nil=>intro h; simp [az] at h
      | cons p r ih =>
        obtain ⟨k,c⟩:=p
        intro h
        simp only [az,List.map_cons,List.mem_cons] at h
        simp only [ag]
        split
        · rfl
        · rename_i hne
          rcases h with h | h
          · exact absurd h hne
          · exact ih h
    exact hs (this m hx)
theorem nE {t:Int}:∀ {m:List (Int×β)},(az m).Nodup→(az (delP t m)).Nodup
  | [],h=>h
  | (k, c) :: r, h => by
    simp only [az,List.map_cons,List.nodup_cons] at h
    simp only [delP]
    split
    · exact h.2
    · simp only [az,List.map_cons,List.nodup_cons]
      exact ⟨fun e=>h.1 (jk t k e),nE h.2⟩
def encE (k:IntKind) (ev:β→AV) (p:Int×β):AV×AV:=(.lit (.int k p.1),ev p.2)
def encM (k:IntKind) (ev:β→AV) (m:List (Int×β)):List (AV×AV):=m.map (encE k ev)
theorem gT (k:IntKind) (ev:β→AV) (t:Int):∀ (m:List (Int×β)) (i:Nat),cV (.lit (.int k t)) (encM k ev m) i = .ok ((fa t m i).map fun p=>(p.1,ev p.2))
  | [],_=>rfl
  | (q, b) :: r, i => by
    have ih:=gT k ev t r (i + 1)
    simp only [encM,List.map_cons,encE,cV,eA,if_true,fa] at ih ⊢
    by_cases h:t = q
    · subst h; simp
    · have:(t == q) = false:=by simpa using h
      simp only [this,if_neg h,Bool.false_eq_true,if_false]
      exact ih
end
section
variable {st st':St} {id q:Nat}
theorem getM_lt {es:List (AV×AV)} (h:st.getM id = some es):id < st.boxes.length:=by
  unfold St.getM at h
  split at h
  · rename_i hb
    exact (List.getElem?_eq_some_iff.1 hb).1
  · cases h
theorem bt (h:st'.boxes[id]? = st.boxes[id]?):st'.get id = st.get id:=by unfold St.get; rw [h]
theorem getM_at (h:st'.boxes[id]? = st.boxes[id]?):st'.getM id = st.getM id:=by unfold St.getM; rw [h]
theorem oM (h:st'.boxes[id]? = st.boxes[id]?):st'.getB id = st.getB id:=by unfold St.getB; rw [h]
theorem ce {cs:List AV} (h:id≠q):(st.set q cs).boxes[id]? = st.boxes[id]?:=by simp [St.set,List.getElem?_set_ne (fun e=>h e.symm)]
theorem oN {es:List (AV×AV)} {bs:List Nat} {c:Nat} (h:id≠q):(st.setM q es bs c).boxes[id]? = st.boxes[id]?:=by simp [St.setM,List.getElem?_set_ne (fun e=>h e.symm)]
theorem bu {b:Box} (h:id < st.boxes.length):(st.push b).boxes[id]? = st.boxes[id]?:=by simp [St.push,List.getElem?_append_left h]
theorem jS {es:List (AV×AV)} {bs:List Nat} {c:Nat} (h:id < st.boxes.length):(st.setM id es bs c).getM id = some es:=by simp [St.setM,St.getM,h]
theorem dg {es:List (AV×AV)} {bs:List Nat} {c:Nat} (h:id < st.boxes.length):(st.setM id es bs c).getB id = (bs,c):=by simp [St.setM,St.getB,h]
theorem get_mt {es:List (AV×AV)} (h:st.getM id = some es):st.get id = none:=by
  unfold St.getM at h; unfold St.get
  split at h
  · rename_i hb; simp [hb]
  · cases h
end
theorem St.sub_push (st:St) (b:Box):St.sub st (st.push b):=fun id x h=>by
  rw [bu (List.getElem?_eq_some_iff.1 h).1]; exact h
theorem St.sub_of {st st':St} (h:∀ id,id < st.boxes.length→st'.boxes[id]? = st.boxes[id]?):St.sub st st':=fun id x hx=>by
  rw [h id (List.getElem?_eq_some_iff.1 hx).1]; exact hx
def Oth (st st':St) (S:List Nat):Prop:=st'.boxes.length = st.boxes.length∧∀ id,id ∉ S→st'.boxes[id]? = st.boxes[id]?
theorem Oth.refl (st:St) (S:List Nat):Oth st st S:=⟨rfl,fun _ _=>rfl⟩
theorem Oth.trans {a b c:St} {S:List Nat} (h:Oth a b S) (k:Oth b c S):Oth a c S:=⟨k.1.trans h.1,fun id hid=>(k.2 id hid).trans (h.2 id hid)⟩
theorem Oth.mono {a b:St} {S S':List Nat} (h:Oth a b S) (hs:∀ x ∈ S,x ∈ S'):Oth a b S':=⟨h.1,fun id hid=>h.2 id fun e=>hid (hs id e)⟩
theorem Oth.set (st:St) (q:Nat) (cs:List AV) {S:List Nat} (h:q ∈ S):Oth st (st.set q cs) S:=⟨cz ..,fun id hid=>ce fun e=>hid (e ▸ h)⟩
theorem Oth.get {a b:St} {S:List Nat} (h:Oth a b S) {id:Nat} (hid:id ∉ S):b.get id = a.get id:=bt (h.2 id hid)
section
variable {β:Type}
structure MapIs (st:St) (id:Nat) (k:IntKind) (ev:β→AV) (m:List (Int×β)):Prop where
  get:st.getM id = some (encM k ev m)
  nd:(az m).Nodup
  bl:(st.getB id).1.length = m.length
  bn:(st.getB id).1.Nodup
  bc:∀ b ∈ (st.getB id).1,b < (st.getB id).2
variable {st st':St} {id:Nat} {k:IntKind} {ev:β→AV} {m:List (Int×β)}
theorem MapIs.lt (h:MapIs st id k ev m):id < st.boxes.length:=getM_lt h.get
theorem MapIs.at (h:MapIs st id k ev m) (hb:st'.boxes[id]? = st.boxes[id]?):MapIs st' id k ev m:=by
  refine ⟨(getM_at hb).trans h.get,h.nd,?_,?_,?_⟩ <;> rw [oM hb]
  · exact h.bl
  · exact h.bn
  · exact h.bc
theorem MapIs.oth {S:List Nat} (h:MapIs st id k ev m) (ho:Oth st st' S) (hid:id ∉ S):MapIs st' id k ev m:=h.at (ho.2 id hid)
theorem MapIs.set (h:MapIs st id k ev m) {q:Nat} {cs:List AV} (hq:id≠q):MapIs (st.set q cs) id k ev m:=h.at (ce hq)
theorem MapIs.push (h:MapIs st id k ev m) (b:Box):MapIs (st.push b) id k ev m:=h.at (bu h.lt)
theorem MapIs.ne (h:MapIs st id k ev m) {q:Nat} {cs:List AV} (hq:st.get q = some cs):id≠q:=by
  rintro rfl
  rw [get_mt h.get] at hq; cases hq
theorem aW (h:MapIs st id k ev m) {z:AV} {ok:Bool} {t:Int}:aZ (.int k) z ok st (.map id) (.lit (.int k t)) = .ok (match ag t m with
    | some b=>if ok then .tup [(ev b).dis,.lit (.bool true)] else (ev b).dis
    | none=>if ok then .tup [z,.lit (.bool false)] else z):=by
  have hk:keyI (.int k) (.lit (.int k t)) = true:=by simp [keyI]
  unfold aZ
  rw [if_pos hk]
  simp only [h.get,Res.ofOpt,Res.bind,gT]
  rw [← eP t m 0]
  cases fa t m 0 <;> rfl
theorem cE (h:MapIs st id k ev m) {t:Int} {b:β} {x:AV} (hx:x.solid = true) (hd:x.dis = ev b) {K:Sf→St→Prop} {sf:Sf}
    (hK:∀ st',MapIs st' id k ev (updP t b m)→Oth st st' [id]→K sf st'):updX false (.int k) (.map id) (.lit (.int k t)) x K sf st:=by
  refine ⟨by simp [keyI],rfl,hx,?_⟩
  have hlt:=h.lt
  simp only [h.get,Res.ofOpt,Res.wp,gT,hd]
  have hu:=jQ (encE k ev) t b m 0
  cases hf:fa t m 0 with
  | none =>
    rw [hf] at hu
    simp only [Option.map_none,St.updM,updA]
    have hno:ag t m = none:=by rw [← eP t m 0,hf]; rfl
    refine hK _ ⟨?_,nD h.nd,?_,?_,?_⟩ ⟨by simp [St.setM],fun q hq=>oN (by simpa using hq)⟩
    · rw [jS hlt]; exact congrArg some hu.1
    · rw [dg hlt,ei,hno]; simp [h.bl]
    · rw [dg hlt]
      refine List.nodup_append.2 ⟨h.bn,by simp,fun x hx y hy e=>?_⟩
      simp only [List.mem_singleton] at hy
      subst hy; subst e
      exact Nat.lt_irrefl _ (h.bc _ hx)
    · rw [dg hlt]
      intro b hb
      simp only [List.mem_append,List.mem_singleton] at hb
      rcases hb with hb | rfl
      · have:=h.bc b hb; simp only; omega
      · simp
  | some p =>
    obtain ⟨j,c⟩:=p
    rw [hf] at hu
    simp only [Nat.sub_zero] at hu
    simp only [Option.map_some,St.updM,updA]
    have hyes:(ag t m).isSome = true:=by rw [← eP t m 0,hf]; rfl
    refine hK _ ⟨?_,nD h.nd,?_,?_,?_⟩ ⟨by simp [St.setM],fun q hq=>oN (by simpa using hq)⟩
    · rw [jS hlt]; exact congrArg some hu.2.1
    · rw [dg hlt,ei,if_pos hyes]; exact h.bl
    · rw [dg hlt]; exact h.bn
    · rw [dg hlt]; exact h.bc
theorem d7 (h:MapIs st id k ev m) {t:Int} {K:Sf→St→Prop} {sf:Sf}
    (hK:∀ st',MapIs st' id k ev (delP t m)→Oth st st' [id]→K sf st'):delX false (.int k) (.map id) (.lit (.int k t)) K sf st:=by
  refine ⟨by simp [keyI],rfl,?_⟩
  have hlt:=h.lt
  simp only [h.get,Res.ofOpt,Res.wp,gT]
  cases hf:fa t m 0 with
  | none =>
    have hu:delP t m = m:=by
      have:∀ (m:List (Int×β)) (i:Nat),fa t m i = none→delP t m = m:=by
        intro m
        induction m with
        | nil=>intro i _; rfl
        | cons p r ih =>
          obtain ⟨k,c⟩:=p
          intro i h
          simp only [fa] at h
          simp only [delP]
          split at h
          · cases h
          · rename_i hne; rw [if_neg hne,ih (i + 1) h]
      exact this m 0 hf
    simp only [Option.map_none]
    exact hK _ (by rw [hu]; exact h) (Oth.refl _ _)
  | some p =>
    obtain ⟨j,c⟩:=p
    have hu:=jQ (encE k ev) t c m 0
    rw [hf] at hu
    simp only [Nat.sub_zero] at hu
    simp only [Option.map_some,St.delM]
    have hyes:(ag t m).isSome = true:=by rw [← eP t m 0,hf]; rfl
    refine hK _ ⟨?_,nE h.nd,?_,?_,?_⟩ ⟨by simp [St.setM],fun q hq=>oN (by simpa using hq)⟩
    · rw [jS hlt]; exact congrArg some hu.2.2.1
    · rw [dg hlt,oL,if_pos hyes]
      simp only [List.length_eraseIdx,h.bl,if_pos hu.2.2.2]
    · rw [dg hlt]; exact h.bn.sublist (List.eraseIdx_sublist ..)
    · rw [dg hlt]; exact fun b hb=>h.bc b (List.mem_of_mem_eraseIdx hb)
theorem mf (h:MapIs st id k ev m):lenI .mp st (.map id) = .ok (.lit (.int .i64 m.length)):=by
  simp only [lenI,h.get,Res.ofOpt,Res.bind,encM,List.length_map]
theorem MapIs.clone (h:MapIs st id k ev m):MapIs (st.push (.mp (encM k ev m) (st.getB id).1 (st.getB id).2)) st.boxes.length k ev m:=by
  refine ⟨nz ..,h.nd,?_,?_,?_⟩ <;> rw [nA]
  · exact h.bl
  · exact h.bn
  · exact h.bc
theorem MapIs.new (st:St) (k:IntKind) (ev:β→AV):MapIs (st.push (.mp [] [] 0)) st.boxes.length k ev []:=by
  refine ⟨nz ..,by simp [az],?_,?_,?_⟩ <;> rw [nA] <;> simp
end
theorem aD {P:Program} {X:Cx} {f:FuncId} {fn:AFun} {vs:List AV} {st:St} (hmix:P.follows .mixedOrders = true) (hf:ii P X f = some fn) (hX:X.F = id) (hlen:Nat.ble vs.length fn.n = true) {v0:AV} (h:∀ Q:AV→St→Prop,(∀ st',Q v0 st')→aFun P id true fn vs st Q):aL P f vs st v0:=by
  refine pcalls_of hmix hf (Nat.le_of_ble_eq_true hlen) ?_
  rw [hX]; exact h _ fun _=>rfl
end Go.Fx
/- Linked nodes in a map: a queue (plain lists; no program in sight). -/
namespace Go.Fx
open Go
abbrev Nd:=Int×Nat×Nat
abbrev Qu:=List (Nat×Int)
def aI:Qu→Nat→Nat
  | [],h=>h
  | (x,_)::_,_=>x
def aF:Nat→Qu→Nat
  | p,[]=>p
  | _,(t,_)::r=>aF t r
def aX:Nat→Qu→Nat→Nat→Option Nd
  | _,[],_,_=>none
  | p,(u,v)::r,h,t=>if t = u then some (v,p,aI r h) else aX u r h t
def aO (L:Qu):List Nat:=L.map Prod.fst
theorem fC (B:Qu) (h t:Nat):∀ (A:Qu) (p:Nat),aX p (A++B) h t = match aX p A (aI B h) t with | some x=>some x | none=>aX (aF p A) B h t
  | [],p=>rfl
  | (u, v) :: A, p => by
    simp only [List.cons_append,aX,aF]
    split
    · cases A <;> rfl
    · exact fC B h t A u
theorem cA {h t:Nat}:∀ {L:Qu} {p:Nat},t ∉ aO L→aX p L h t = none
  | [],_,_=>rfl
  | (u, v) :: r, p, hn => by
    simp only [aO,List.map_cons,List.mem_cons,not_or] at hn
    simp only [aX]
    rw [if_neg hn.1]
    exact cA hn.2
theorem d8:∀ {L:Qu} {p:Nat},L≠[]→aF p L ∈ aO L
  | [(t,v)],p,_=>by simp [aF,aO]
  | (t, v) :: y :: r, p, _ => by
    have:=d8 (L:=y::r) (p:=t) (by simp)
    simp only [aF,aO,List.map_cons,List.mem_cons] at this ⊢
    exact .inr this
theorem fD (B:Qu):∀ (A:Qu) (p:Nat),aF p (A++B) = aF (aF p A) B
  | [],_=>rfl
  | (t,v)::A,p=>fD B A t
theorem last_ne {L:Qu} {p p':Nat} (h:L≠[]):aF p L = aF p' L:=by
  cases L with
  | nil=>exact absurd rfl h
  | cons x r=>rfl
theorem oO {h h' t:Nat}:∀ {L:Qu} {p:Nat},(aO L).Nodup→L≠[]→aX p L h' t = if t = aF p L then (aX p L h t).map (fun x=>(x.1,x.2.1,h')) else aX p L h t
  | [(u, v)], p, _, _ => by
    simp only [aX,aF,aI]
    by_cases e:t = u
    · simp [e]
    · simp [e]
  | (u, v) :: (u2, v2) :: r, p, hn, _ => by
    have ih:=oO (h:=h) (h':=h') (t:=t) (L:=(u2,v2)::r) (p:=u) (List.nodup_cons.1 hn).2 (by simp)
    have hl:=d8 (L:=(u2,v2)::r) (p:=u) (by simp)
    have hne:u≠aF u ((u2,v2)::r):=fun e=>(List.nodup_cons.1 hn).1 (by rw [e]; exact hl)
    have e0:∀ q,aX p ((u,v)::(u2,v2)::r) q t = if t = u then some (v,p,u2) else aX u ((u2,v2)::r) q t:=fun q=>rfl
    rw [e0,e0,show aF p ((u,v)::(u2,v2)::r) = aF u ((u2,v2)::r) from rfl]
    by_cases e:t = u
    · subst e; rw [if_pos rfl,if_pos rfl,if_neg hne]
    · rw [if_neg e,if_neg e]; exact ih
theorem nodeA_p {h t p p':Nat} {u:Nat} {v:Int} {r:Qu} (hn:(aO ((u,v)::r)).Nodup):aX p' ((u,v)::r) h t = if t = u then (aX p ((u,v)::r) h t).map (fun x=>(x.1,p',x.2.2)) else aX p ((u,v)::r) h t:=by
  simp only [aX]
  by_cases e:t = u
  · simp [e]
  · simp [e]
theorem nodeA_push {L:Qu} {u:Nat} {v:Int} {t:Nat} (hn:(aO L).Nodup) (hu:u ∉ aO L) (hL:L≠[]) :
    aX 0 (L++[(u,v)]) 0 t = if t = aF 0 L then (aX 0 L 0 t).map (fun x=>(x.1,x.2.1,u)) else if t = u then some (v,aF 0 L,0) else aX 0 L 0 t:=by
  rw [fC]
  simp only [aI,aX]
  have hl:=d8 (p:=0) hL
  rw [oO (h:=0) hn hL]
  by_cases e:t = aF 0 L
  · rw [if_pos e,if_pos e]
    cases hx:aX 0 L 0 t with
    | some x=>rfl
    | none =>
      exfalso
      have:∀ (L:Qu) (p:Nat),t ∈ aO L→aX p L 0 t≠none:=by
        intro L
        induction L with
        | nil=>intro p h; simp [aO] at h
        | cons y r ih =>
          obtain ⟨a,b⟩:=y
          intro p h
          simp only [aX]
          split
          · simp
          · rename_i hne
            simp only [aO,List.map_cons,List.mem_cons] at h
            exact ih a (h.resolve_left hne)
      exact this L 0 (e ▸ hl) hx
  · rw [if_neg e,if_neg e]
    by_cases e2:t = u
    · subst e2; rw [cA hu]
      try simp
    · simp only [if_neg e2]
      cases aX 0 L 0 t <;> rfl
theorem nodeA_del {A B:Qu} {u:Nat} {v:Int} {t:Nat} (hn:(aO (A++(u,v)::B)).Nodup) :
    aX 0 (A++B) 0 t = if t = u then none else
      if A≠[]∧t = aF 0 A then (aX 0 (A++(u,v)::B) 0 t).map (fun x=>(x.1,x.2.1,aI B 0)) else
      if B≠[]∧t = aI B 0 then (aX 0 (A++(u,v)::B) 0 t).map (fun x=>(x.1,aF 0 A,x.2.2)) else aX 0 (A++(u,v)::B) 0 t:=by
  have h1:(aO A).Nodup∧(aO ((u,v)::B)).Nodup∧∀ x ∈ aO A,∀ y ∈ aO ((u,v)::B),x≠y:=by
    simp only [aO,List.map_append] at hn
    exact List.nodup_append.1 hn
  obtain ⟨hA,hB0,hAB⟩:=h1
  have hB:=List.nodup_cons.1 hB0
  have hu:u ∉ aO A:=fun e=>hAB u e u (by simp [aO]) rfl
  rw [fC,fC,show aI ((u,v)::B) 0 = u from rfl]
  by_cases e:t = u
  · subst e
    rw [if_pos rfl,cA hu]
    exact cA hB.1
  · rw [if_neg e]
    have e1:aX (aF 0 A) ((u,v)::B) 0 t = aX u B 0 t:=by simp only [aX]; rw [if_neg e]
    rw [e1]
    by_cases hAe:A = []
    · subst hAe
      simp only [aX,aF,ne_eq,not_true_eq_false,false_and,if_false]
      cases B with
      | nil=>simp [aX]
      | cons y r =>
        obtain ⟨w,z⟩:=y
        rw [nodeA_p (p:=u) (p':=0) hB.2]
        simp [show aI ((w,z)::r) 0 = w from rfl]
    · rw [oO (h:=u) (h':=aI B 0) hA hAe]
      by_cases e2:t = aF 0 A
      · have hin:t ∈ aO A:=e2 ▸ d8 hAe
        rw [if_pos e2,if_pos ⟨hAe,e2⟩]
        cases hx:aX 0 A u t with
        | some x=>rfl
        | none =>
          have hnb:t ∉ aO B:=fun hb=>hAB t hin t (by simp only [aO,List.map_cons,List.mem_cons]; exact .inr hb) rfl
          simp only [Option.map_none,cA hnb]
      · rw [if_neg e2,if_neg (fun q=>e2 q.2)]
        cases B with
        | nil=>simp [aX]
        | cons y r =>
          obtain ⟨w,z⟩:=y
          rw [nodeA_p (p:=u) (p':=aF 0 A) hB.2]
          simp only [show aI ((w,z)::r) 0 = w from rfl,ne_eq,reduceCtorEq,not_false_eq_true,true_and]
          by_cases e3:t = w
          · have hna:t ∉ aO A:=fun ha=>hAB t ha t (by simp [aO,e3]) rfl
            rw [if_pos e3,if_pos e3,cA hna]
          · rw [if_neg e3,if_neg e3]
theorem nodeA_at {A B:Qu} {u:Nat} {v:Int} (hu:u ∉ aO A):aX 0 (A++(u,v)::B) 0 u = some (v,aF 0 A,aI B 0):=by
  rw [fC,cA hu]
  simp [aX]
def ndAV (x:Nd):AV:=.agg [.lit (.int .i64 x.1),.lit (.int .u64 (x.2.1:Nat)),.lit (.int .u64 (x.2.2:Nat))]
theorem ndAV_dis (x:Nd):(ndAV x).dis = ndAV x:=rfl
structure QIs (st:St) (q mid:Nat) (L:Qu) (g:Nat):Prop where
  get:st.get q = some [.lit (.int .u64 (aI L 0:Nat)),.lit (.int .u64 (aF 0 L:Nat)),.lit (.int .u64 (g:Nat)),.map mid]
  mp:∃ m,MapIs st mid .u64 ndAV m∧(∀ t:Nat,ag t m = aX 0 L 0 t)∧m.length = L.length
  srt:(aO L).Pairwise (· < ·)
  pos:∀ t ∈ aO L,0 < t∧t≤g
theorem QIs.nd {st:St} {q mid g:Nat} {L:Qu} (h:QIs st q mid L g):(aO L).Nodup:=h.srt.imp fun h=>Nat.ne_of_lt h
theorem QIs.ne {st:St} {q mid g:Nat} {L:Qu} (h:QIs st q mid L g):mid≠q:=by
  obtain ⟨m,hm,_⟩:=h.mp
  exact hm.ne h.get
theorem QIs.ltq {st:St} {q mid g:Nat} {L:Qu} (h:QIs st q mid L g):q < st.boxes.length:=bq h.get
theorem QIs.ltm {st:St} {q mid g:Nat} {L:Qu} (h:QIs st q mid L g):mid < st.boxes.length:=by
  obtain ⟨m,hm,_⟩:=h.mp
  exact hm.lt
theorem QIs.at {st st':St} {q mid g:Nat} {L:Qu} (h:QIs st q mid L g) (h1:st'.boxes[q]? = st.boxes[q]?) (h2:st'.boxes[mid]? = st.boxes[mid]?):QIs st' q mid L g:=by
  obtain ⟨m,hm,h3,h4⟩:=h.mp
  exact ⟨(bt h1).trans h.get,⟨m,hm.at h2,h3,h4⟩,h.srt,h.pos⟩
theorem QIs.oth {st st':St} {q mid g:Nat} {L:Qu} {S:List Nat} (h:QIs st q mid L g) (ho:Oth st st' S) (h1:q ∉ S) (h2:mid ∉ S):QIs st' q mid L g:=h.at (ho.2 _ h1) (ho.2 _ h2)
theorem QIs.nil_iff {st:St} {q mid g:Nat} {L:Qu} (h:QIs st q mid L g):(aI L 0 = 0↔L = [])∧(aF 0 L = 0↔L = []):=by
  cases L with
  | nil=>simp [aI,aF]
  | cons x r =>
    obtain ⟨t,v⟩:=x
    have h1:=h.pos t (by simp [aO])
    have h2:=h.pos _ (d8 (L:=(t,v)::r) (p:=0) (by simp))
    simp only [aI,reduceCtorEq,iff_false]
    omega
theorem eQ {t:Nat}:∀ {L:Qu} {p:Nat},t ∈ aO L→∃ x,aX p L 0 t = some x
  | (u, v) :: r, p, h => by
    simp only [aX]
    split
    · exact ⟨_,rfl⟩
    · rename_i hne
      simp only [aO,List.map_cons,List.mem_cons] at h
      exact eQ (h.resolve_left hne)
theorem cM (A B:Qu):aO (A++B) = aO A++aO B:=by simp [aO]
theorem QIs.clone {st st':St} {q mid q' mid' g:Nat} {L:Qu} (h:QIs st q mid L g) (hg:st'.get q' = some [.lit (.int .u64 (aI L 0:Nat)),.lit (.int .u64 (aF 0 L:Nat)),.lit (.int .u64 (g:Nat)),.map mid'])
    (hm:∀ m,MapIs st mid .u64 ndAV m→MapIs st' mid' .u64 ndAV m):QIs st' q' mid' L g:=by
  obtain ⟨m,h1,h2,h3⟩:=h.mp
  exact ⟨hg,⟨m,hm m h1,h2,h3⟩,h.srt,h.pos⟩
theorem QIs.push {st st':St} {q mid g:Nat} {L:Qu} {v:Int} (h:QIs st q mid L g) {m':List (Int×Nd)} (hg:st'.get q = some [.lit (.int .u64 (aI (L++[(g + 1,v)]) 0:Nat)),.lit (.int .u64 ((g + 1:Nat))),.lit (.int .u64 ((g + 1:Nat))),.map mid])
    (hm:MapIs st' mid .u64 ndAV m') (hl:∀ t:Nat,ag t m' = aX 0 (L++[(g + 1,v)]) 0 t) (hn:m'.length = L.length + 1):QIs st' q mid (L++[(g + 1,v)]) (g + 1):=by
  refine ⟨by rw [fD]; exact hg,⟨m',hm,hl,by simp [hn]⟩,?_,fun t ht=>?_⟩
  · rw [cM]
    refine List.pairwise_append.2 ⟨h.srt,by simp [aO],fun x hx y hy=>?_⟩
    simp only [aO,List.map_cons,List.map_nil,List.mem_singleton] at hy
    have:=(h.pos x hx).2
    omega
  · rw [cM] at ht
    rcases List.mem_append.1 ht with ht | ht
    · have:=h.pos t ht; omega
    · simp only [aO,List.map_cons,List.map_nil,List.mem_singleton] at ht
      omega
theorem QIs.fresh {st:St} {q mid g:Nat} {L:Qu} (h:QIs st q mid L g):g + 1 ∉ aO L:=fun e=>by have:=(h.pos _ e).2; omega
theorem QIs.del {st st':St} {q mid g:Nat} {A B:Qu} {t:Nat} {v:Int} (h:QIs st q mid (A++(t,v)::B) g) {m':List (Int×Nd)} (hg:st'.get q = some [.lit (.int .u64 (aI (A++B) 0:Nat)),.lit (.int .u64 (aF 0 (A++B):Nat)),.lit (.int .u64 (g:Nat)),.map mid])
    (hm:MapIs st' mid .u64 ndAV m') (hl:∀ t:Nat,ag t m' = aX 0 (A++B) 0 t) (hn:m'.length = (A++B).length):QIs st' q mid (A++B) g:=by
  have hsub:(aO (A++B)).Sublist (aO (A++(t,v)::B)):=by
    simp only [cM]
    exact List.Sublist.append (List.Sublist.refl _) (List.sublist_cons_self _ _)
  exact ⟨hg,⟨m',hm,hl,hn⟩,h.srt.sublist hsub,fun x hx=>h.pos x (hsub.subset hx)⟩
end Go.Fx
/- A channel's state: plain lists, and where they lie. -/
namespace Go.Fx
open Go
abbrev W3:=Nat×Int×Int
structure ChP where
  closed:Bool
  cap:Nat
  buf:List Int
  S:List W3
  V:List W3
  g0:Nat
  g1:Nat
def qOf (l:List W3):Qu:=l.map fun x=>(x.1,x.2.1)
def wEnt (d:Int) (l:List W3):List (Int×(Int×Int×Nat)):=l.map fun x=>(x.2.1,(d,x.2.2,x.1))
def entC (S V:List W3):List (Int×(Int×Int×Nat)):=wEnt 0 S++wEnt 1 V
def wtAV (x:Int×Int×Nat):AV:=.agg [.lit (.int .i64 x.1),.lit (.int .i64 x.2.1),.lit (.int .u64 (x.2.2:Nat))]
def ints (l:List Int):List AV:=l.map fun v=>.lit (.int .i64 v)
theorem dz (l:List Int):Lits (ints l):=fun x hx=>by
  simp only [ints,List.mem_map] at hx
  obtain ⟨v,_,rfl⟩:=hx
  exact ⟨_,rfl⟩
theorem al (l:List Int):(ints l).length = l.length:=by simp [ints]
theorem gC (l k:List Int):ints (l++k) = ints l++ints k:=by simp [ints]
theorem du {β:Type} {k:Int} {x:β} {B:List (Int×β)}:∀ {A:List (Int×β)},(az (A++(k,x)::B)).Nodup→ag k (A++(k,x)::B) = some x∧∀ t,ag t (A++B) = if t = k then none else ag t (A++(k,x)::B)
  | [], h => by
    simp only [List.nil_append,az,List.map_cons,List.nodup_cons] at h
    refine ⟨by simp [ag],fun t=>?_⟩
    by_cases e:t = k
    · subst e; rw [if_pos rfl]; exact jR h.1
    · simp [ag,e]
  | (a, b) :: A, h => by
    simp only [List.cons_append,az,List.map_cons,List.nodup_cons] at h
    obtain ⟨h1,h2⟩:=du (A:=A) (B:=B) (k:=k) (x:=x) h.2
    have hne:¬ k = a:=fun e=>h.1 (by rw [← e]; simp)
    refine ⟨by simp only [List.cons_append,ag]; rw [if_neg hne]; exact h1,fun t=>?_⟩
    simp only [List.cons_append,ag]
    by_cases e:t = a
    · have e2:¬ t = k:=fun q=>hne (by rw [← q,e])
      rw [if_pos e,if_neg e2,if_pos e]
    · rw [if_neg e,if_neg e]; exact h2 t
theorem d9 {β:Type} (A B:List (Int×β)):az (A++B) = az A++az B:=by simp [az]
theorem ea {β:Type} {k:Int} {m:List (Int×β)}:(ag k m).isSome = decide (k ∈ az m):=by
  induction m with
  | nil=>simp [ag,az]
  | cons p r ih =>
    obtain ⟨a,b⟩:=p
    simp only [ag,az,List.map_cons,List.mem_cons]
    by_cases e:k = a
    · simp [e]
    · simp only [if_neg e,e,false_or]; exact ih
def ae:AV→List Nat
  | .bs id _ _ _ _=>[id]
  | _=>[]
structure ChIs (st:St) (c:Nat) (P:ChP) (q0 m0 q1 m1 wid:Nat) (bv:AV):Prop where
  get:st.get c = some [.lit (.bool true),.lit (.bool P.closed),.lit (.int .i64 (P.cap:Nat)),bv,.ptr q0 0,.ptr q1 0,.map wid]
  buf:MB bv st (ints P.buf)
  s:QIs st q0 m0 (qOf P.S) P.g0
  r:QIs st q1 m1 (qOf P.V) P.g1
  w:∃ W,MapIs st wid .i64 wtAV W∧∀ t,ag t W = ag t (entC P.S P.V)
  ids:[c,q0,q1,m0,m1,wid].Nodup
  bid:∀ x ∈ ae bv,x ∉ [c,q0,q1,m0,m1,wid]
  nd:(az (entC P.S P.V)).Nodup
  rng:∀ t ∈ az (entC P.S P.V),0≤t∧t < 64
  zv:∀ x ∈ P.V,x.2.2 = 0
def Kp (st st':St) (F:List Nat):Prop:=st.boxes.length≤st'.boxes.length∧∀ id,id < st.boxes.length→id ∉ F→st'.boxes[id]? = st.boxes[id]?
theorem Kp.refl (st:St) (F:List Nat):Kp st st F:=⟨Nat.le_refl _,fun _ _ _=>rfl⟩
theorem Kp.trans {a b c:St} {F F':List Nat} (h:Kp a b F) (k:Kp b c F') (hf:∀ x ∈ F',x ∈ F∨a.boxes.length≤x):Kp a c F :=
  ⟨Nat.le_trans h.1 k.1,fun id hid hn=>(k.2 id (Nat.lt_of_lt_of_le hid h.1) fun e=>(hf id e).elim hn (fun q=>by omega)).trans (h.2 id hid hn)⟩
theorem Oth.kp {st st':St} {S F:List Nat} (h:Oth st st' S) (hs:∀ x ∈ S,x ∈ F):Kp st st' F:=⟨Nat.le_of_eq h.1.symm,fun id _ hn=>h.2 id fun e=>hn (hs id e)⟩
theorem MB.at {v:AV} {st st':St} {l:List AV} (h:MB v st l) (hb:∀ x ∈ ae v,st'.boxes[x]? = st.boxes[x]?):MB v st' l:=by
  rcases h with ⟨rfl,rfl⟩ | ⟨id,cap,r,rfl,hg,h1,h2⟩
  · exact .inl ⟨rfl,rfl⟩
  · exact .inr ⟨id,cap,r,rfl,(bt (hb id (by simp [ae]))).trans hg,h1,h2⟩
theorem MB.lt {v:AV} {st:St} {l:List AV} (h:MB v st l):∀ x ∈ ae v,x < st.boxes.length:=by
  rcases h with ⟨rfl,rfl⟩ | ⟨id,cap,r,rfl,hg,h1,h2⟩
  · simp [ae]
  · intro x hx
    simp only [ae,List.mem_singleton] at hx
    subst hx
    exact bq hg
section
variable {st st':St} {c q0 m0 q1 m1 wid:Nat} {bv:AV} {P:ChP}
theorem ChIs.lts (h:ChIs st c P q0 m0 q1 m1 wid bv):∀ x ∈ [c,q0,q1,m0,m1,wid]++ae bv,x < st.boxes.length:=by
  obtain ⟨W,hW,_⟩:=h.w
  intro x hx
  simp only [List.mem_append,List.mem_cons,List.not_mem_nil,or_false] at hx
  rcases hx with (rfl | rfl | rfl | rfl | rfl | rfl) | hx
  · exact bq h.get
  · exact h.s.ltq
  · exact h.r.ltq
  · exact h.s.ltm
  · exact h.r.ltm
  · exact hW.lt
  · exact h.buf.lt x hx
theorem ChIs.kp (h:ChIs st c P q0 m0 q1 m1 wid bv) {F:List Nat} (hk:Kp st st' F) (hf:∀ x ∈ [c,q0,q1,m0,m1,wid]++ae bv,x ∉ F):ChIs st' c P q0 m0 q1 m1 wid bv:=by
  have hat:∀ x ∈ [c,q0,q1,m0,m1,wid]++ae bv,st'.boxes[x]? = st.boxes[x]?:=fun x hx=>hk.2 x (h.lts x hx) (hf x hx)
  obtain ⟨W,hW,hl⟩:=h.w
  exact ⟨(bt (hat c (by simp))).trans h.get,h.buf.at fun x hx=>hat x (by simp only [List.mem_append]; exact .inr hx),h.s.at (hat _ (by simp)) (hat _ (by simp)),h.r.at (hat _ (by simp)) (hat _ (by simp)),⟨W,hW.at (hat _ (by simp)),hl⟩,h.ids,h.bid,h.nd,h.rng,h.zv⟩
end
theorem MB.grow {v:AV} {st:St} {l new:List AV} {bytes:Nat} {C:AV→St→Prop} (h:MB v st l) (hl:Lits l) (hn:Lits new) (hr:dW (l.length + new.length) bytes = true)
    (hC:∀ v' st',MB v' st' (l++new)→Kp st st' (ae v)→(∀ x ∈ ae v',x ∈ ae v∨st.boxes.length≤x)→C v' st'):appX false 1 bytes v C st new:=by
  rcases h with ⟨rfl,rfl⟩ | ⟨id,cap,r,rfl,hg,h1,h2⟩
  · refine ⟨rfl,by simpa using hr,?_⟩
    split
    · rename_i h
      have:new = []:=by simpa using h
      subst this
      exact hC _ _ (.inl ⟨rfl,rfl⟩) (Kp.refl _ _) (by simp [ae])
    · intro c hc
      refine hC _ _ (.inr ⟨st.boxes.length,c,List.replicate (c - new.length) .any,by simp,?_,by simpa using hc,by simp; omega⟩) ⟨by simp [St.push],fun id hid _=>bu hid⟩ (by simp [ae])
      rw [hn.cellsD]
      simp only [List.nil_append,Nat.mul_one]
      exact bI st _
  · refine ⟨rfl,rfl,hr,?_⟩
    rw [hg]
    show (Res.ok _).wp _
    rw [wp_ok,hn.cellsD]
    have hid:=bq hg
    split
    · rename_i hc
      refine ⟨by omega,hC _ _ (.inr ⟨id,cap,r.drop new.length,by simp,?_,by simpa using hc,?_⟩) ⟨by simp [St.set],fun id' _ hne=>ce (by simpa [ae] using hne)⟩ (by simp [ae])⟩
      · rw [aS hid,Nat.zero_add,Nat.mul_one,fA rfl (by simp at h2; omega)]
        simp
      · simp at h2 ⊢; omega
    · rename_i hc
      have e:List.map AV.own1 (List.take (l.length * 1) (List.drop 0 (l++r))) = l:=by simp [hl.own]
      refine ⟨by simp,fun c hc=>hC _ _ (.inr ⟨st.boxes.length,c,List.replicate (c - (l.length + new.length)) .any,by simp,?_,by simpa using hc,by simp; omega⟩) ⟨by simp [St.push],fun id' hid' _=>bu hid'⟩ (by simp [ae])⟩
      rw [e]
      simp only [Nat.mul_one]
      exact bI st _
abbrev It := Int × Int × Int  -- task, value, error
def itAV (x:It):AV:=.agg [.lit (.int .i64 x.1),.lit (.int .i64 0),.lit (.int .i64 x.2.1),.lit (.int .i64 x.2.2)]
def bJ (l:List It):AV:=if l = [] then .lit (.slice none 0 0) else .sl false 4 (l.map itAV)
theorem ca (l:List It):(bJ l).dis = bJ l∧(bJ l).own1 = bJ l∧(bJ l).own2 = bJ l∧(bJ l).solid1 = true∧(bJ l).noL = true∧(bJ l).cells = [bJ l]∧∀ s,kill s (bJ l) = bJ l:=by
  unfold bJ; split <;> exact ⟨rfl,rfl,rfl,rfl,rfl,rfl,fun _=>rfl⟩
def aG (P:ChP) (v:Int):ChP×List It×Int :=
  if P.closed = true then (P,[],14) else
  match P.V with
  | x::l=>({ P with V:=l },[(x.2.1,v,0)],0)
  | []=>if P.buf.length < P.cap then ({ P with buf:=P.buf++[v] },[],0) else (P,[],16)
def foot (c q0 m0 q1 m1 wid:Nat) (bv:AV):List Nat:=[c,q0,q1,m0,m1,wid]++ae bv
def cf (st:St) (c:Nat) (P:ChP) (q0 m0 q1 m1 wid:Nat) (bv:AV) (st':St):Prop :=
  ∃ bv',ChIs st' c P q0 m0 q1 m1 wid bv'∧Kp st st' (foot c q0 m0 q1 m1 wid bv)∧∀ x ∈ ae bv',x ∈ ae bv∨st.boxes.length≤x
theorem ChIs.post {st st':St} {c q0 m0 q1 m1 wid:Nat} {bv:AV} {P:ChP} (h:ChIs st' c P q0 m0 q1 m1 wid bv) (hk:Kp st st' (foot c q0 m0 q1 m1 wid bv)):cf st c P q0 m0 q1 m1 wid bv st':=⟨bv,h,hk,fun _ h=>.inl h⟩
theorem cf.trans {a b st':St} {c q0 m0 q1 m1 wid:Nat} {bv bv1:AV} {P:ChP} (hk:Kp a b (foot c q0 m0 q1 m1 wid bv)) (hb:∀ x ∈ ae bv1,x ∈ ae bv∨a.boxes.length≤x) (h:cf b c P q0 m0 q1 m1 wid bv1 st'):cf a c P q0 m0 q1 m1 wid bv st':=by
  obtain ⟨bv',h1,h2,h3⟩:=h
  refine ⟨bv',h1,hk.trans h2 fun x hx=>?_,fun x hx=>?_⟩
  · simp only [foot,List.mem_append] at hx ⊢
    rcases hx with hx | hx
    · exact .inl (.inl hx)
    · exact (hb x hx).elim (fun e=>.inl (.inr e)) .inr
  · rcases h3 x hx with h | h
    · exact hb x h
    · exact .inr (Nat.le_trans hk.1 h)
theorem ChIs.rebufC {st st1:St} {c q0 m0 q1 m1 wid:Nat} {bv bv1:AV} {P:ChP} {cl:Bool} {b':List Int} (h:ChIs st c P q0 m0 q1 m1 wid bv) (hm:MB bv1 st1 (ints b')) (hk:Kp st st1 (ae bv)) (hb:∀ x ∈ ae bv1,x ∈ ae bv∨st.boxes.length≤x) :
    ChIs (st1.set c [.lit (.bool true),.lit (.bool cl),.lit (.int .i64 (P.cap:Nat)),bv1,.ptr q0 0,.ptr q1 0,.map wid]) c { P with buf:=b',closed:=cl } q0 m0 q1 m1 wid bv1 ∧
    Kp st (st1.set c [.lit (.bool true),.lit (.bool cl),.lit (.int .i64 (P.cap:Nat)),bv1,.ptr q0 0,.ptr q1 0,.map wid]) (foot c q0 m0 q1 m1 wid bv):=by
  have hlt:=h.lts
  have hids:=h.ids
  have hbid:=h.bid
  have hcl:c < st1.boxes.length:=Nat.lt_of_lt_of_le (hlt c (by simp)) hk.1
  simp only [List.nodup_cons,List.mem_cons,List.not_mem_nil,or_false,not_or] at hids
  have hat:∀ x ∈ [q0,q1,m0,m1,wid],(st1.set c [.lit (.bool true),.lit (.bool cl),.lit (.int .i64 (P.cap:Nat)),bv1,.ptr q0 0,.ptr q1 0,.map wid]).boxes[x]? = st.boxes[x]?:=by
    intro x hx
    rw [ce (by simp at hx; omega)]
    refine hk.2 x (hlt x (by simp at hx ⊢; omega)) fun e=>?_
    exact hbid x e (by simp at hx ⊢; omega)
  have hbc:∀ x ∈ ae bv1,x ∉ [c,q0,q1,m0,m1,wid]:=by
    intro x hx hin
    rcases hb x hx with e | e
    · exact hbid x e hin
    · have:=hlt x (List.mem_append_left _ hin); omega
  obtain ⟨W,hW,hl⟩:=h.w
  refine ⟨⟨aS hcl,hm.at fun x hx=>ce fun e=>hbc x hx (by simp [e]),h.s.at (hat _ (by simp)) (hat _ (by simp)),h.r.at (hat _ (by simp)) (hat _ (by simp)),⟨W,hW.at (hat _ (by simp)),hl⟩,h.ids,hbc,h.nd,h.rng,h.zv⟩,⟨by rw [cz]; exact hk.1,fun x hx hn=>?_⟩⟩
  simp only [foot,List.mem_append,List.mem_cons,List.not_mem_nil,or_false,not_or] at hn
  rw [ce hn.1.1]
  exact hk.2 x hx hn.2
theorem ChIs.rebuf {st st1:St} {c q0 m0 q1 m1 wid:Nat} {bv bv1:AV} {P:ChP} {cl:Bool} {b':List Int} (h:ChIs st c P q0 m0 q1 m1 wid bv) (hm:MB bv1 st1 (ints b')) (hk:Kp st st1 (ae bv)) (hb:∀ x ∈ ae bv1,x ∈ ae bv∨st.boxes.length≤x) :
    cf st c { P with buf:=b',closed:=cl } q0 m0 q1 m1 wid bv (st1.set c [.lit (.bool true),.lit (.bool cl),.lit (.int .i64 (P.cap:Nat)),bv1,.ptr q0 0,.ptr q1 0,.map wid]) :=
  ⟨bv1,(h.rebufC hm hk hb).1,(h.rebufC hm hk hb).2,hb⟩
def chk (P:ChP) (t:Int):Int:=if t < 0∨64≤t then 2 else if t ∈ az (entC P.S P.V) then 11 else 0
def jl (P:ChP) (t v:Int):ChP×Bool×List It×Int :=
  if chk P t≠0 then (P,false,[],chk P t) else
  if (aG P v).2.2 = 16 then ({ P with S:=P.S++[(P.g0 + 1,t,v)],g0:=P.g0 + 1 },false,[],0)
  else ((aG P v).1,(aG P v).2.2 == 0,(aG P v).2.1,(aG P v).2.2)
def ak (P:ChP):ChP×Int×List It×Int :=
  match P.S with
  | x::l=>({ P with S:=l,buf:=(P.buf++[x.2.2]).tail },(P.buf++[x.2.2]).headD 0,[(x.2.1,0,0)],0)
  | [] => match P.buf with
    | []=>(P,0,[],if P.closed = true then 13 else 16)
    | x::b=>({ P with buf:=b },x,[],0)
def fg (P:ChP):ChP×List It×Int :=
  if P.closed = true then (P,[],14) else ({ P with closed:=true,S:=[],V:=[] },P.V.map (fun x=>(x.2.1,0,13))++P.S.map (fun x=>(x.2.1,0,14)),0)
def fV (P:ChP) (t:Int):ChP×Int :=
  if chk P t = 11 then ({ P with S:=P.S.filter (fun x=>x.2.1 != t),V:=P.V.filter (fun x=>x.2.1 != t) },0) else if chk P t = 0 then (P,9) else (P,chk P t)
def dp (P:ChP) (t:Int):ChP×Int×Bool×List It×Int :=
  if chk P t≠0 then (P,0,false,[],chk P t) else
  if (ak P).2.2.2 = 16 then ({ P with V:=P.V++[(P.g1 + 1,t,0)],g1:=P.g1 + 1 },0,false,[],0)
  else ((ak P).1,(ak P).2.1,(ak P).2.2.2 == 0,(ak P).2.2.1,(ak P).2.2.2)
def Bd (P:ChP) (n:Nat):Prop:=P.g0≤n∧P.g1≤n∧P.buf.length≤n∧P.S.length≤n∧P.V.length≤n∧P.cap≤4096
theorem try_16 {P:ChP} {v:Int} (h:(aG P v).2.2 = 16):(aG P v).1 = P∧(aG P v).2.1 = []:=by
  unfold aG at *
  split
  · exact ⟨rfl,rfl⟩
  · rename_i h1
    rw [if_neg h1] at h
    split
    · rename_i h2; rw [h2] at h; simp at h
    · rename_i h2; rw [h2] at h
      split
      · rename_i h3; simp [if_pos h3] at h
      · exact ⟨rfl,rfl⟩
theorem tryr_16 {P:ChP} (h:(ak P).2.2.2 = 16):(ak P).1 = P∧(ak P).2.2.1 = []∧(ak P).2.1 = 0:=by
  unfold ak at *
  split
  · rename_i h1; rw [h1] at h; simp at h
  · rename_i h1
    split
    · exact ⟨rfl,rfl,rfl⟩
    · rename_i h2; rw [h1,h2] at h; simp at h
end Go.Fx
