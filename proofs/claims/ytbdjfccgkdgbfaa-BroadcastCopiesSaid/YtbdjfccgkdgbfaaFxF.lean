/- An evaluator for resolved code, proved against the model: part 6. -/
import Derived.Test.YtbdjfccgkdgbfaaFxE
/- Numbers of bytes: shifts and the like. -/
namespace Go.Fx
open Go
theorem n_shr8 {k':IntKind} {n:Int}:binI .num .shr (.lit (.int .i64 n)) (.lit (.int k' 8)) = .req true (.ok (.lit (.int .i64 (n / 256)))):=by
 show ((kQ .shr .i64 n 8).bind fun v=>Res.ok (AV.lit v)) = _
 have:n.fdiv (2 ^ 8) = n / 256:=Int.fdiv_eq_ediv_of_nonneg n (by decide)
 rw [← this]; rfl
theorem n_shl8 {k':IntKind} {n:Int}:binI .num .shl (.lit (.int .i64 n)) (.lit (.int k' 8)) = .req true (.ok (.lit (.int .i64 (IntKind.i64.wrap (n * 256))))):=rfl
theorem or_nat (a b:Nat) (ha:a < 65536) (hb:b < 256):(BitVec.ofInt 64 ((a:Int) * 256) ||| BitVec.ofInt 64 (b:Int)).toNat = a * 256 + b:=by
 have e:(a:Int) * 256 = ((a * 256:Nat):Int):=by omega
 rw [e,BitVec.toNat_or,BitVec.ofInt_natCast,BitVec.ofInt_natCast,BitVec.toNat_ofNat,BitVec.toNat_ofNat,Nat.mod_eq_of_lt (by omega),Nat.mod_eq_of_lt (by omega)]
 have h:=Nat.shiftLeft_add_eq_or_of_lt (i:=8) hb a
 rw [Nat.shiftLeft_eq] at h
 exact h.symm
theorem n_or8 (x y:UInt8):binI .num .or (.lit (.int .i64 ((x.toNat:Int) * 256))) (.lit (.int .i64 (y.toNat:Int))) = .ok (.lit (.int .i64 ((256 * x.toNat + y.toNat:Nat):Int))):=by
 have h:=or_nat x.toNat y.toNat (by have:=x.toNat_lt; omega) y.toNat_lt
 have e:IntKind.i64.wrap ((BitVec.ofInt 64 ((x.toNat:Int) * 256) ||| BitVec.ofInt 64 (y.toNat:Int)).toNat:Int) = ((256 * x.toNat + y.toNat:Nat):Int):=by
  rw [h,IntWalk.i64_in _ (by have:=x.toNat_lt; have:=y.toNat_lt; omega)]
  omega
 rw [← e]; rfl
theorem w_u8 (n:Nat):AV.lit (.int .u8 (IntKind.u8.wrap n)) = .lit (.int .u8 (UInt8.ofNat n).toNat):=byte_of n
theorem w_u8' {n:Nat} (h:n < 256):AV.lit (.int .u8 (n:Int)) = .lit (.int .u8 (UInt8.ofNat n).toNat):=by
 congr 2; simp [UInt8.toNat_ofNat']; omega
theorem iE (st:St) (o:Bool) (k:Nat) (es:List AV):lenI .sl st (.sl o k es) = .ok (.lit (.int .i64 es.length)):=rfl
def twoB (n:Nat):List UInt8:=[UInt8.ofNat (n / 256),UInt8.ofNat n]
theorem kJ (n:Nat):(twoB n).length = 2:=rfl
theorem a8 {P:Program} {F:Nat→FuncId} {m:Bool} {b:AC} {lv ll:List Nat} {Q:Exit→Sf→St→Prop} {A:Type} (μ:A→Nat) (S:A→Sf) (T:A→St) (I:A→Prop) (a0:A) {sf:Sf} {st:St} (h0:I a0) (hs:Sf.le (sf.mask lv ll) (S a0)) (ht:st = T a0)
  (step:∀ a,I a→∀ K:Exit→Sf→St→Prop,(∀ a' sf',I a'→μ a' < μ a→Sf.le (sf'.mask lv ll) (S a')→K .normal sf' (T a'))→(∀ id sf st,Q (.exit id) sf st→K (.exit id) sf st)→(∀ sf st,Q .ret sf st→K .ret sf st)→aC P F m b (S a) (T a) K):ar (aC P F m b) lv ll sf st Q :=
 loop_for μ S T I a0 h0 hs ht fun a ha=>step a ha _ (fun a' _ h1 h2 h3=>⟨a',⟨h1,h2⟩,h3,rfl⟩) (fun _ _ _ h=>h) (fun _ _ h=>h)
theorem dA {p:Prop} [Decidable p] (h:p) {t:Nat} {want:Bool} {Y N:Sf→Prop} {sf:Sf}:cL t want (.lit (.bool (decide p))) Y N sf = if true = want then Y (sf.set t (.lit (.bool true))) else N (sf.set t (.lit (.bool true))):=by
 rw [decide_eq_true h,co]
theorem eO {p:Prop} [Decidable p] (h:¬ p) {t:Nat} {want:Bool} {Y N:Sf→Prop} {sf:Sf}:cL t want (.lit (.bool (decide p))) Y N sf = if false = want then Y (sf.set t (.lit (.bool false))) else N (sf.set t (.lit (.bool false))):=by
 rw [decide_eq_false h,dc]
theorem ap {P:Program} {X:Cx} {f:FuncId} {fn:AFun} {vs:List AV} {st:St} (hmix:P.follows .mixedOrders = true) (hf:ir P X f = some fn) (hX:X.F = id) (hlen:Nat.ble vs.length fn.n = true) {K:AV→St→Prop} (h:∀ Q:AV→St→Prop,(∀ v st',K v st'→Q v st')→aFun P id false fn vs st Q):am P f vs st K :=
 acalls_id hmix hf hX hlen (h K fun _ _ h=>h)
theorem pure_lev {P:Program} {X:Cx} {f:FuncId} {fn:AFun} {vs:List AV} {x:AV} (hmix:P.follows .mixedOrders = true) (hf:ir P X f = some fn) (hX:X.F = id) (hlen:Nat.ble vs.length fn.n = true) (hx:x.NB) (hvs:∀ v ∈ vs,v.NB)
  (h:∀ Q:AV→St→Prop,(∀ v st',v.le x→Q v st')→aFun P id false fn vs ⟨[]⟩ Q) (st:St):aB P f vs st x :=
 pure_eq (ap hmix hf hX hlen fun Q hQ=>h Q fun v st' hv=>hQ v st' hv) hx hvs st
end Go.Fx
/- Slices of plain cells that are written to and appended to. -/
namespace Go.Fx
open Go
def MB (v:AV) (st:St) (l:List AV):Prop:=(v = .lit (.slice none 0 0)∧l = [])∨∃ id cap r,v = .bs id 1 0 l.length cap∧st.get id = some (l++r)∧l.length≤cap∧cap≤(l++r).length
def Kept (st st':St) (v:AV):Prop:=st.boxes.length≤st'.boxes.length∧∀ id cs,st.get id = some cs→(∀ k o l c,v≠.bs id k o l c)→st'.get id = some cs
theorem Kept.refl (st:St) (v:AV):Kept st st v:=⟨Nat.le_refl _,fun _ _ h _=>h⟩
theorem MB.facts {v:AV} {st:St} {l:List AV} (h:MB v st l):v.dis = v∧v.own1 = v∧v.own2 = v∧v.solid1 = true∧v.noL = true∧v.cells = [v]∧(∀ s,kill s v = v)∧∀ st',lenI .sl st' v = .ok (.lit (.int .i64 l.length)):=by
 rcases h with ⟨rfl,rfl⟩ | ⟨id,cap,r,rfl,_⟩
 ·exact ⟨rfl,rfl,rfl,rfl,rfl,rfl,fun _=>rfl,fun _=>rfl⟩
 ·exact ⟨rfl,rfl,rfl,rfl,rfl,rfl,fun _=>rfl,fun _=>rfl⟩
def NBs (st:St):Prop:=∀ id cs,st.get id = some cs→∀ c ∈ cs,c.NB
theorem NBs.nil:NBs ⟨[]⟩:=fun id cs h=>by simp [St.get] at h
theorem NBs.push {st:St} {cs:List AV} (h:NBs st) (hc:∀ c ∈ cs,c.NB):NBs (st.push (.cells cs)):=by
 intro id ds hg
 by_cases e:id < st.boxes.length
 ·rw [bU e] at hg
  exact h id ds hg
 ·by_cases e2:id = st.boxes.length
  ·subst e2
   rw [bq] at hg
   cases hg
   exact hc
  ·have:=bw hg
   rw [aE] at this
   omega
theorem NBs.set {st:St} {id:Nat} {cs:List AV} (h:NBs st) (hid:id < st.boxes.length) (hc:∀ c ∈ cs,c.NB):NBs (st.set id cs):=by
 intro id' ds hg
 by_cases e:id = id'
 ·subst e
  rw [aG hid] at hg
  cases hg
  exact hc
 ·rw [cu e] at hg
  exact h id' ds hg
theorem MB.app {v:AV} {st:St} {l new:List AV} {bytes:Nat} {C:AV→St→Prop} (h:MB v st l) (hl:Lits l) (hn:Lits new) (hr:gX (l.length + new.length) bytes = true)
  (hC:∀ v' st',MB v' st' (l++new)→Kept st st' v→(NBs st→NBs st')→C v' st'):appX false 1 bytes v C st new:=by
 rcases h with ⟨rfl,rfl⟩ | ⟨id,cap,r,rfl,hg,h1,h2⟩
 ·refine ⟨rfl,by simpa using hr,?_⟩
  split
  ·rename_i h
   have:new = []:=by simpa using h
   subst this
   exact hC _ _ (.inl ⟨rfl,rfl⟩) (Kept.refl _ _) id
  ·intro c hc
   refine hC _ _ (.inr ⟨st.boxes.length,c,List.replicate (c - new.length) .any,by simp,?_,by simpa using hc,by simp; omega⟩) ⟨by simp [St.push],fun id cs hg _=>by rw [bU (bw hg)]; exact hg⟩ (fun h=>h.push fun x hx=>?_)
   ·rw [hn.cellsD]
    simp only [List.nil_append,Nat.mul_one]
    exact bq st _
   ·rw [hn.cellsD] at hx
    simp only [List.nil_append,Nat.mul_one,List.mem_append] at hx
    rcases hx with hx | hx
    ·exact hn.nb x hx
    ·rw [List.eq_of_mem_replicate hx]; exact .any
 ·refine ⟨rfl,rfl,hr,?_⟩
  rw [hg]
  show (Res.ok _).wp _
  rw [wp_ok,hn.cellsD]
  have hid:=bw hg
  split
  ·rename_i hc
   refine ⟨by omega,hC _ _ (.inr ⟨id,cap,r.drop new.length,by simp,?_,by simpa using hc,?_⟩) ⟨by simp [St.set],fun id' cs hg' hne=>?_⟩ (fun h=>h.set hid ?_)⟩
   ·rw [aG hid,Nat.zero_add,Nat.mul_one,gv rfl (by simp at h2; omega)]
    simp
   ·simp at h2 ⊢; omega
   ·rw [cu (fun e=>hne _ _ _ _ (by rw [e])),hg']
   ·rw [Nat.zero_add,Nat.mul_one,gv rfl (by simp at h2; omega)]
    have h3:=h id _ hg
    intro x hx
    simp only [List.mem_append] at hx
    rcases hx with hx | hx | hx
    ·exact hl.nb x hx
    ·exact hn.nb x hx
    ·exact h3 x (List.mem_append_right _ (List.mem_of_mem_drop hx))
  ·rename_i hc
   have e:List.map AV.own1 (List.take (l.length * 1) (List.drop 0 (l++r))) = l:=by simp [hl.own]
   refine ⟨by simp,fun c hc=>hC _ _ (.inr ⟨st.boxes.length,c,List.replicate (c - (l.length + new.length)) .any,by simp,?_,by simpa using hc,by simp; omega⟩) ⟨by simp [St.push],fun id' cs hg' _=>by rw [bU (bw hg')]; exact hg'⟩ (fun h=>h.push fun x hx=>?_)⟩
   ·rw [e]
    simp only [Nat.mul_one]
    exact bq st _
   ·rw [e] at hx
    simp only [List.mem_append] at hx
    rcases hx with (hx | hx) | hx
    ·exact hl.nb x hx
    ·exact hn.nb x hx
    ·rw [List.eq_of_mem_replicate hx]; exact .any
end Go.Fx
/- Functions that keep nothing may be handed what lies in boxes. -/
namespace Go.Fx
open Go
def l8:AV→Bool
 | .lit _=>true
 | _=>false
def AV.freshB:AV→Bool
 | .lit _=>true
 | .sl true _ es=>es.all l8
 | .tup vs=>vs.all l8
 | _=>false
theorem qt {g g':Gh} {x:AV} {u:Value} (h:l8 x = true) (hr:R g x u):R g' x u:=by
 cases x <;> simp [l8] at h
 cases hr with
 | lit _ h=>exact .lit _ h
theorem fresh_R {g g':Gh} {w:World} {N:Nat} {L:Nat→Loc} {v:AV} {u:Value} (hf:v.freshB = true) (hr:R g v u) (ho:OwnV g w N L v u) (hi:∀ b,N≤b→g'.imm b = g.imm b):R g' v u:=by
 cases v with
 | lit x=>exact qt (x:=.lit x) rfl hr
 | tup vs =>
   cases hr with
   | tup _ us hu h =>
     refine .tup vs us hu fun i x u hx hu=>?_
     have:l8 x = true:=List.all_eq_true.1 hf x (List.mem_of_getElem? hx)
     exact qt this (h i x u hx hu)
 | sl o k es =>
   cases o with
   | false=>simp [AV.freshB] at hf
   | true =>
     have hes:∀ x ∈ es,l8 x = true:=List.all_eq_true.1 hf
     have hcell:∀ (i:Nat) (x:AV),(es.flatMap AV.cells)[i]? = some x→l8 x = true:=by
      intro i x hx
      have:=List.mem_of_getElem? hx
      simp only [List.mem_flatMap] at this
      obtain ⟨e,he,hxe⟩:=this
      have h1:=hes e he
      cases e <;> simp [l8] at h1
      simp [AV.cells] at hxe
      subst hxe; rfl
     cases hr with
     | slE _ _ a c=>exact .slE _ _ a c
     | slN _ _=>exact .slN _ _
     | sl _ _ _ us b o c hc hk h1 h2 h3 =>
       have hO:=(ho 0 (.sl true k es) (.slice (some ⟨b,o,none⟩) es.length c) rfl rfl).1 k es rfl
       refine .sl true k es us b o c hc hk (fun i x hx=>?_) (fun i x hx=>qt (hcell i x hx) (h2 i x hx)) h3
       rcases hO with ⟨e,_⟩ | ⟨b',o',c',cur,T,q1,q2,_⟩
       ·subst e; simp at hx
       ·cases q1
        rw [hi b q2]; exact h1 i x hx
 | _=>simp [AV.freshB] at hf
def Gh.still (g:Gh) (w:World):Gh :=
 { base:=g.base,lb:=g.lb,bx:=fun _=>none
   imm:=fun b o=>match frzB g w 0 b with | some us=>us[o]? | none=>g.imm b o
   cls:=fun b=>match g.cls b with | some (.box _)=>none | c=>c }
def Gh.back (g g2:Gh) (n:Nat):Gh :=
 { base:=g.base,lb:=g.lb,bx:=g.bx
   imm:=fun b=>if b < n then g.imm b else g2.imm b
   cls:=fun b=>if b < n then g.cls b else g2.cls b }
theorem jQ {g:Gh} {w:World} {b:Nat} {us:Array Value} (h:frzB g w 0 b = some us):(∃ id,g.cls b = some (.box id))∧∃ T,w.heap[b]? = some (.cells us T (0,0)):=by
 unfold frzB at h
 split at h
 ·split at h
  ·rename_i id us' T h1 h2
   cases h
   exact ⟨⟨id,h1⟩,T,h2⟩
  ·cases h
 ·cases h
theorem aB.view {P:Program} {f:FuncId} {vs vs':List AV} {v0:AV} (h:aB P f vs ⟨[]⟩ v0) (hf:v0.freshB = true) {st:St} (hv:frzL st vs' vs):aB P f vs' st v0:=by
 intro g w us L hg hbx ha
 obtain ⟨hvl,hvv⟩:=eI hv
 have k2:∀ b o u,g.imm b o = some u→(g.still w).imm b o = some u:=by
  intro b o u hi
  simp only [Gh.still]
  split
  ·rename_i us e
   obtain ⟨⟨id,hid⟩,_⟩:=jQ e
   rcases hg.immc b o u hi with h1 | ⟨L',h1⟩ <;> rw [hid] at h1 <;> cases h1
  ·exact hi
 have kf:∀ b us,frzB g w 0 b = some us→∀ o:Nat,(g.still w).imm b o = us[o]?:=fun b us e o=>by simp only [Gh.still,e]
 have hgs:Good (g.still w) w:=by
  refine ⟨fun b o u hi=>?_,fun b o u hi=>?_,fun b c hc=>?_,hg.base⟩
  ·simp only [Gh.still] at hi
   split at hi
   ·rename_i us e
    obtain ⟨_,T,hT⟩:=jQ e
    rw [cell_of_row w b o us T (0,0) hT]; exact hi
   ·exact hg.imm b o u hi
  ·simp only [Gh.still] at hi ⊢
   split at hi
   ·rename_i us e
    obtain ⟨⟨id,hid⟩,_⟩:=jQ e
    simp [hid]
   ·rcases hg.immc b o u hi with h1 | ⟨L',h1⟩ <;> simp [h1]
  ·simp only [Gh.still] at hc
   split at hc
   ·cases hc
   ·exact hg.cls b c hc
 have hbs:BoxR (g.still w) w ⟨[]⟩:=⟨fun _ _=>rfl,fun id cs hc=>by simp at hc,fun id bx hc=>by simp at hc⟩
 have has:gY (g.still w) vs us:=by
  refine ⟨by rw [ha.1,hvl],fun i x u hx hu=>?_⟩
  have hlt:i < vs'.length:=by rw [← hvl]; exact (List.getElem?_eq_some_iff.1 hx).1
  exact frz_R (fzn_of hbx (fun _ _ _ _=>Nat.zero_le _) kf) k2 (hvv i vs'[i] x (by simp [hlt]) hx) (ha.2 i vs'[i] u (by simp [hlt]) hu)
 refine (h (g.still w) w us L hgs hbs has).mono fun e w' ⟨u,g2,he,hle,hR,hO⟩=>?_
 refine ⟨u,g.back g2 w.heap.size,he,⟨hle.below,fun b hb=>by funext o; simp [Gh.back,hb],fun b hb=>by simp [Gh.back,hb],rfl,rfl,rfl,fun _=>?_⟩,?_,?_⟩
 ·have hg2:=hle.good hgs
  refine ⟨fun b o u hi=>?_,fun b o u hi=>?_,fun b c hc=>?_,?_⟩
  ·simp only [Gh.back] at hi
   split at hi
   ·rename_i hl
    have:=hg.imm b o u hi
    unfold World.cell? at this ⊢
    rw [hle.below.block b hl]; exact this
   ·exact hg2.imm b o u hi
  ·simp only [Gh.back] at hi ⊢
   split at hi
   ·rename_i hl; simp only [hl,if_true]; exact hg.immc b o u hi
   ·rename_i hl; simp only [hl,if_false]; exact hg2.immc b o u hi
  ·simp only [Gh.back] at hc
   split at hc
   ·rename_i hl
    have:=hg.cls b c hc
    exact ⟨this.1,Nat.lt_of_lt_of_le hl hle.below.size⟩
   ·have:=hg2.cls b c hc
    have hb:=hle.base
    exact ⟨by simp only [Gh.back]; rw [hb] at this; exact this.1,this.2⟩
  ·have:=hg2.base
   have hb:=hle.base
   rw [hb] at this
   exact this
 ·exact fresh_R hf hR hO fun b hb=>by simp [Gh.back,Nat.not_lt.2 hb]
 ·intro i c x hc hx
  refine ⟨fun k es e=>?_,fun id s l stp e=>?_⟩
  ·rcases (hO i c x hc hx).1 k es e with h0 | ⟨b,o,c',cur,T,q1,q0,q2,q3,q4,q5,q6⟩
   ·exact .inl h0
   ·have hnl:¬ b < w.heap.size:=by omega
    exact .inr ⟨b,o,c',cur,T,q1,q0,by simp [Gh.back,hnl,q2],q3,q4,q5,fun j hj hj'=>by simp [Gh.back,hnl,q6 j hj hj']⟩
  ·subst e
   cases v0 with
   | mit _ _ _ _=>simp [AV.freshB] at hf
   | agg _=>simp [AV.freshB] at hf
   | _=>cases i <;> simp [AV.cells] at hc
end Go.Fx
/- Maps with plain keys, as lists; boxes that others are left alone by. -/
namespace Go.Fx
open Go
section
variable {β:Type}
def f7 (t:Int):List (Int×β)→Nat→Option (Nat×β)
 | [],_=>none
 | (k,b)::r,i=>if t = k then some (i,b) else f7 t r (i + 1)
def aR (t:Int):List (Int×β)→Option β
 | []=>none
 | (k,b)::r=>if t = k then some b else aR t r
def updP (t:Int) (b:β):List (Int×β)→List (Int×β)
 | []=>[(t,b)]
 | (k,c)::r=>if t = k then (t,b)::r else (k,c)::updP t b r
def delP (t:Int):List (Int×β)→List (Int×β)
 | []=>[]
 | (k,c)::r=>if t = k then r else (k,c)::delP t r
def bO (m:List (Int×β)):List Int:=m.map Prod.fst
theorem fJ (t:Int):∀ (m:List (Int×β)) (i:Nat),(f7 t m i).map Prod.snd = aR t m
 | [],_=>rfl
 | (k, b) :: r, i => by
   simp only [f7,aR]; split; · rfl
   ·exact fJ t r (i + 1)
theorem lq {γ:Type} (e:Int×β→γ) (t:Int) (b:β):∀ (m:List (Int×β)) (i:Nat),match f7 t m i with
  | some (j,_)=>i≤j∧(m.map e).set (j - i) (e (t,b)) = (updP t b m).map e∧(m.map e).eraseIdx (j - i) = (delP t m).map e∧j - i < m.length
  | none=>m.map e++[e (t,b)] = (updP t b m).map e∧delP t m = m
 | [],_=>by simp [f7,updP,delP]
 | (k, c) :: r, i => by
   simp only [f7]
   by_cases h:t = k
   ·subst h
    simp [updP,delP]
   ·rw [if_neg h]
    have ih:=lq e t b r (i + 1)
    cases hf:f7 t r (i + 1) with
    | none=>rw [hf] at ih; simp only at ih; simp [updP,delP,h,ih.1,ih.2]
    | some p =>
      obtain ⟨j,c'⟩:=p
      rw [hf] at ih
      simp only at ih ⊢
      obtain ⟨h1,h2,h3,h4⟩:=ih
      obtain ⟨q,rfl⟩:∃ q,j = i + 1 + q:=⟨j - (i + 1),by omega⟩
      rw [show i + 1 + q - (i + 1) = q by omega] at h2 h3 h4
      rw [show i + 1 + q - i = q + 1 by omega]
      refine ⟨by omega,?_,?_,by simp; omega⟩
      ·simp [updP,h,h2]
      ·simp [delP,h,h3]
theorem cZ (t t':Int) (b:β):∀ m:List (Int×β),aR t' (updP t b m) = if t' = t then some b else aR t' m
 | []=>by simp only [updP,aR]
 | (k, c) :: r => by
   simp only [updP]
   by_cases h:t = k
   ·subst h
    rw [if_pos rfl]
    simp only [aR]
    split <;> rfl
   ·rw [if_neg h]
    simp only [aR]
    rw [cZ t t' b r]
    by_cases h1:t' = k
    ·subst h1
     have:¬ t' = t:=fun e=>h e.symm
     simp [this]
    ·simp [h1]
theorem pv {t:Int}:∀ {m:List (Int×β)},t ∉ bO m→aR t m = none
 | [],_=>rfl
 | (k, c) :: r, h => by
   simp only [bO,List.map_cons,List.mem_cons,not_or] at h
   simp only [aR]
   rw [if_neg h.1]
   exact pv h.2
theorem nW (t t':Int):∀ {m:List (Int×β)},(bO m).Nodup→aR t' (delP t m) = if t' = t then none else aR t' m
 | [],_=>by simp [delP,aR]
 | (k, c) :: r, hn => by
   simp only [bO,List.map_cons,List.nodup_cons] at hn
   simp only [delP]
   by_cases h:t = k
   ·subst h
    rw [if_pos rfl]
    simp only [aR]
    by_cases h1:t' = t
    ·subst h1; rw [if_pos rfl]; exact pv hn.1
    ·rw [if_neg h1,if_neg h1]
   ·rw [if_neg h]
    simp only [aR]
    by_cases h1:t' = k
    ·subst h1
     have:¬ t' = t:=fun e=>h e.symm
     simp [this]
    ·rw [if_neg h1,if_neg h1]; exact nW t t' hn.2
theorem fg (t:Int) (b:β):∀ m:List (Int×β),(updP t b m).length = if (aR t m).isSome then m.length else m.length + 1
 | []=>by simp [updP,aR]
 | (k, c) :: r => by
   simp only [updP,aR]
   by_cases h:t = k
   ·simp [h]
   ·simp only [if_neg h,List.length_cons,fg t b r]
    split <;> rfl
theorem qu (t:Int):∀ m:List (Int×β),(delP t m).length = if (aR t m).isSome then m.length - 1 else m.length
 | []=>by simp [delP,aR]
 | (k, c) :: r => by
   simp only [delP,aR]
   by_cases h:t = k
   ·simp [h]
   ·simp only [if_neg h,List.length_cons,qu t r]
    split
    ·rename_i q
     have:r≠[]:=by rintro rfl; simp [aR] at q
     have:=List.length_pos_iff.2 this
     omega
    ·rfl
theorem keys_upd (t:Int) (b:β):∀ m:List (Int×β),bO (updP t b m) = if (aR t m).isSome then bO m else bO m++[t]
 | []=>by simp [updP,aR,bO]
 | (k, c) :: r => by
   simp only [updP,aR]
   by_cases h:t = k
   ·simp [h,bO]
   ·have:=keys_upd t b r
    simp only [bO] at this
    simp only [if_neg h,bO,List.map_cons,this]
    split <;> rfl
theorem kK (t x:Int):∀ {m:List (Int×β)},x ∈ bO (delP t m)→x ∈ bO m
 | [],h=>h
 | (k, c) :: r, h => by
   simp only [delP] at h
   simp only [bO,List.map_cons,List.mem_cons]
   split at h
   ·exact .inr h
   ·simp only [bO,List.map_cons,List.mem_cons] at h
    rcases h with h | h
    ·exact .inl h
    ·exact .inr (kK t x h)
theorem lu {t:Int} {b:β} {m:List (Int×β)} (h:(bO m).Nodup):(bO (updP t b m)).Nodup:=by
 rw [keys_upd]
 split
 ·exact h
 ·rename_i hs
  refine List.nodup_append.2 ⟨h,by simp,?_⟩
  intro x hx y hy
  simp only [List.mem_singleton] at hy
  subst hy
  rintro rfl
  have:∀ m:List (Int×β),x ∈ bO m→(aR x m).isSome = true:=by
   intro m
   induction m with
   | nil=>intro h; simp [bO] at h
   | cons p r ih =>
     obtain ⟨k,c⟩:=p
     intro h
     simp only [bO,List.map_cons,List.mem_cons] at h
     simp only [aR]
     split
     ·rfl
     ·rename_i hne
      rcases h with h | h
      ·exact absurd h hne
      ·exact ih h
  exact hs (this m hx)
theorem lw {t:Int}:∀ {m:List (Int×β)},(bO m).Nodup→(bO (delP t m)).Nodup
 | [],h=>h
 | (k, c) :: r, h => by
   simp only [bO,List.map_cons,List.nodup_cons] at h
   simp only [delP]
   split
   ·exact h.2
   ·simp only [bO,List.map_cons,List.nodup_cons]
    exact ⟨fun e=>h.1 (kK t k e),lw h.2⟩
def encE (k:IntKind) (ev:β→AV) (p:Int×β):AV×AV:=(.lit (.int k p.1),ev p.2)
def encM (k:IntKind) (ev:β→AV) (m:List (Int×β)):List (AV×AV):=m.map (encE k ev)
theorem jb (k:IntKind) (ev:β→AV) (t:Int):∀ (m:List (Int×β)) (i:Nat),cS (.lit (.int k t)) (encM k ev m) i = .ok ((f7 t m i).map fun p=>(p.1,ev p.2))
 | [],_=>rfl
 | (q, b) :: r, i => by
   have ih:=jb k ev t r (i + 1)
   simp only [encM,List.map_cons,encE,cS,cR,if_true,f7] at ih ⊢
   by_cases h:t = q
   ·subst h; simp
   ·have:(t == q) = false:=by simpa using h
    simp only [this,if_neg h,Bool.false_eq_true,if_false]
    exact ih
end
section
variable {st st':St} {id q:Nat}
theorem getM_lt {es:List (AV×AV)} (h:st.getM id = some es):id < st.boxes.length:=by
 unfold St.getM at h
 split at h
 ·rename_i hb
  exact (List.getElem?_eq_some_iff.1 hb).1
 ·cases h
theorem ck (h:st'.boxes[id]? = st.boxes[id]?):st'.get id = st.get id:=by unfold St.get; rw [h]
theorem getM_at (h:st'.boxes[id]? = st.boxes[id]?):st'.getM id = st.getM id:=by unfold St.getM; rw [h]
theorem mz (h:st'.boxes[id]? = st.boxes[id]?):st'.getB id = st.getB id:=by unfold St.getB; rw [h]
theorem bP {cs:List AV} (h:id≠q):(st.set q cs).boxes[id]? = st.boxes[id]?:=by simp [St.set,List.getElem?_set_ne (fun e=>h e.symm)]
theorem qv {es:List (AV×AV)} {bs:List Nat} {c:Nat} (h:id≠q):(st.setM q es bs c).boxes[id]? = st.boxes[id]?:=by simp [St.setM,List.getElem?_set_ne (fun e=>h e.symm)]
theorem bG {b:Box} (h:id < st.boxes.length):(st.push b).boxes[id]? = st.boxes[id]?:=by simp [St.push,List.getElem?_append_left h]
theorem lx {es:List (AV×AV)} {bs:List Nat} {c:Nat} (h:id < st.boxes.length):(st.setM id es bs c).getM id = some es:=by simp [St.setM,St.getM,h]
theorem dK {es:List (AV×AV)} {bs:List Nat} {c:Nat} (h:id < st.boxes.length):(st.setM id es bs c).getB id = (bs,c):=by simp [St.setM,St.getB,h]
theorem get_mt {es:List (AV×AV)} (h:st.getM id = some es):st.get id = none:=by
 unfold St.getM at h; unfold St.get
 split at h
 ·rename_i hb; simp [hb]
 ·cases h
end
theorem St.sub_push (st:St) (b:Box):St.sub st (st.push b):=fun id x h=>by
 rw [bG (List.getElem?_eq_some_iff.1 h).1]; exact h
def Oth (st st':St) (S:List Nat):Prop:=st'.boxes.length = st.boxes.length∧∀ id,id ∉ S→st'.boxes[id]? = st.boxes[id]?
theorem Oth.refl (st:St) (S:List Nat):Oth st st S:=⟨rfl,fun _ _=>rfl⟩
theorem Oth.trans {a b c:St} {S:List Nat} (h:Oth a b S) (k:Oth b c S):Oth a c S:=⟨k.1.trans h.1,fun id hid=>(k.2 id hid).trans (h.2 id hid)⟩
theorem Oth.mono {a b:St} {S S':List Nat} (h:Oth a b S) (hs:∀ x ∈ S,x ∈ S'):Oth a b S':=⟨h.1,fun id hid=>h.2 id fun e=>hid (hs id e)⟩
theorem Oth.set (st:St) (q:Nat) (cs:List AV) {S:List Nat} (h:q ∈ S):Oth st (st.set q cs) S:=⟨du ..,fun id hid=>bP fun e=>hid (e ▸ h)⟩
theorem Oth.get {a b:St} {S:List Nat} (h:Oth a b S) {id:Nat} (hid:id ∉ S):b.get id = a.get id:=ck (h.2 id hid)
section
variable {β:Type}
structure MapIs (st:St) (id:Nat) (k:IntKind) (ev:β→AV) (m:List (Int×β)):Prop where
 get:st.getM id = some (encM k ev m)
 nd:(bO m).Nodup
 bl:(st.getB id).1.length = m.length
 bn:(st.getB id).1.Nodup
 bc:∀ b ∈ (st.getB id).1,b < (st.getB id).2
variable {st st':St} {id:Nat} {k:IntKind} {ev:β→AV} {m:List (Int×β)}
theorem MapIs.lt (h:MapIs st id k ev m):id < st.boxes.length:=getM_lt h.get
theorem MapIs.at (h:MapIs st id k ev m) (hb:st'.boxes[id]? = st.boxes[id]?):MapIs st' id k ev m:=by
 refine ⟨(getM_at hb).trans h.get,h.nd,?_,?_,?_⟩ <;> rw [mz hb]
 ·exact h.bl
 ·exact h.bn
 ·exact h.bc
theorem MapIs.set (h:MapIs st id k ev m) {q:Nat} {cs:List AV} (hq:id≠q):MapIs (st.set q cs) id k ev m:=h.at (bP hq)
theorem MapIs.push (h:MapIs st id k ev m) (b:Box):MapIs (st.push b) id k ev m:=h.at (bG h.lt)
theorem MapIs.ne (h:MapIs st id k ev m) {q:Nat} {cs:List AV} (hq:st.get q = some cs):id≠q:=by
 rintro rfl
 rw [get_mt h.get] at hq; cases hq
theorem cF (h:MapIs st id k ev m) {z:AV} {ok:Bool} {t:Int}:cg (.int k) z ok st (.map id) (.lit (.int k t)) = .ok (match aR t m with
  | some b=>if ok then .tup [(ev b).dis,.lit (.bool true)] else (ev b).dis
  | none=>if ok then .tup [z,.lit (.bool false)] else z):=by
 have hk:keyI (.int k) (.lit (.int k t)) = true:=by simp [keyI]
 unfold cg
 rw [if_pos hk]
 simp only [h.get,Res.ofOpt,Res.bind,jb]
 rw [← fJ t m 0]
 cases f7 t m 0 <;> rfl
theorem e6 (h:MapIs st id k ev m) {t:Int} {b:β} {x:AV} (hx:x.solid = true) (hd:x.dis = ev b) {K:Sf→St→Prop} {sf:Sf}
  (hK:∀ st',MapIs st' id k ev (updP t b m)→Oth st st' [id]→K sf st'):updX false (.int k) (.map id) (.lit (.int k t)) x K sf st:=by
 refine ⟨by simp [keyI],rfl,hx,?_⟩
 have hlt:=h.lt
 simp only [h.get,Res.ofOpt,Res.wp,jb,hd]
 have hu:=lq (encE k ev) t b m 0
 cases hf:f7 t m 0 with
 | none =>
   rw [hf] at hu
   simp only [Option.map_none,St.updM,updA]
   have hno:aR t m = none:=by rw [← fJ t m 0,hf]; rfl
   refine hK _ ⟨?_,lu h.nd,?_,?_,?_⟩ ⟨by simp [St.setM],fun q hq=>qv (by simpa using hq)⟩
   ·rw [lx hlt]; exact congrArg some hu.1
   ·rw [dK hlt,fg,hno]; simp [h.bl]
   ·rw [dK hlt]
    refine List.nodup_append.2 ⟨h.bn,by simp,fun x hx y hy e=>?_⟩
    simp only [List.mem_singleton] at hy
    subst hy; subst e
    exact Nat.lt_irrefl _ (h.bc _ hx)
   ·rw [dK hlt]
    intro b hb
    simp only [List.mem_append,List.mem_singleton] at hb
    rcases hb with hb | rfl
    ·have:=h.bc b hb; simp only; omega
    ·simp
 | some p =>
   obtain ⟨j,c⟩:=p
   rw [hf] at hu
   simp only [Nat.sub_zero] at hu
   simp only [Option.map_some,St.updM,updA]
   have hyes:(aR t m).isSome = true:=by rw [← fJ t m 0,hf]; rfl
   refine hK _ ⟨?_,lu h.nd,?_,?_,?_⟩ ⟨by simp [St.setM],fun q hq=>qv (by simpa using hq)⟩
   ·rw [lx hlt]; exact congrArg some hu.2.1
   ·rw [dK hlt,fg,if_pos hyes]; exact h.bl
   ·rw [dK hlt]; exact h.bn
   ·rw [dK hlt]; exact h.bc
theorem nX (h:MapIs st id k ev m) {t:Int} {K:Sf→St→Prop} {sf:Sf}
  (hK:∀ st',MapIs st' id k ev (delP t m)→Oth st st' [id]→K sf st'):delX false (.int k) (.map id) (.lit (.int k t)) K sf st:=by
 refine ⟨by simp [keyI],rfl,?_⟩
 have hlt:=h.lt
 simp only [h.get,Res.ofOpt,Res.wp,jb]
 cases hf:f7 t m 0 with
 | none =>
   have hu:delP t m = m:=by
    have:∀ (m:List (Int×β)) (i:Nat),f7 t m i = none→delP t m = m:=by
     intro m
     induction m with
     | nil=>intro i _; rfl
     | cons p r ih =>
       obtain ⟨k,c⟩:=p
       intro i h
       simp only [f7] at h
       simp only [delP]
       split at h
       ·cases h
       ·rename_i hne; rw [if_neg hne,ih (i + 1) h]
    exact this m 0 hf
   simp only [Option.map_none]
   exact hK _ (by rw [hu]; exact h) (Oth.refl _ _)
 | some p =>
   obtain ⟨j,c⟩:=p
   have hu:=lq (encE k ev) t c m 0
   rw [hf] at hu
   simp only [Nat.sub_zero] at hu
   simp only [Option.map_some,St.delM]
   have hyes:(aR t m).isSome = true:=by rw [← fJ t m 0,hf]; rfl
   refine hK _ ⟨?_,lw h.nd,?_,?_,?_⟩ ⟨by simp [St.setM],fun q hq=>qv (by simpa using hq)⟩
   ·rw [lx hlt]; exact congrArg some hu.2.2.1
   ·rw [dK hlt,qu,if_pos hyes]
    simp only [List.length_eraseIdx,h.bl,if_pos hu.2.2.2]
   ·rw [dK hlt]; exact h.bn.sublist (List.eraseIdx_sublist ..)
   ·rw [dK hlt]; exact fun b hb=>h.bc b (List.mem_of_mem_eraseIdx hb)
theorem nY (h:MapIs st id k ev m):lenI .mp st (.map id) = .ok (.lit (.int .i64 m.length)):=by
 simp only [lenI,h.get,Res.ofOpt,Res.bind,encM,List.length_map]
theorem MapIs.clone (h:MapIs st id k ev m):MapIs (st.push (.mp (encM k ev m) (st.getB id).1 (st.getB id).2)) st.boxes.length k ev m:=by
 refine ⟨pt ..,h.nd,?_,?_,?_⟩ <;> rw [pu]
 ·exact h.bl
 ·exact h.bn
 ·exact h.bc
theorem MapIs.new (st:St) (k:IntKind) (ev:β→AV):MapIs (st.push (.mp [] [] 0)) st.boxes.length k ev []:=by
 refine ⟨pt ..,by simp [bO],?_,?_,?_⟩ <;> rw [pu] <;> simp
end
theorem aF {P:Program} {X:Cx} {f:FuncId} {fn:AFun} {vs:List AV} {st:St} (hmix:P.follows .mixedOrders = true) (hf:ir P X f = some fn) (hX:X.F = id) (hlen:Nat.ble vs.length fn.n = true) {v0:AV} (h:∀ Q:AV→St→Prop,(∀ st',Q v0 st')→aFun P id true fn vs st Q):aB P f vs st v0:=by
 refine pcalls_of hmix hf (Nat.le_of_ble_eq_true hlen) ?_
 rw [hX]; exact h _ fun _=>rfl
end Go.Fx
/- Linked nodes in a map: a queue (plain lists; no program in sight). -/
namespace Go.Fx
open Go
abbrev Nd:=Int×Nat×Nat
abbrev Qu:=List (Nat×Int)
def aT:Qu→Nat→Nat
 | [],h=>h
 | (x,_)::_,_=>x
def aP:Nat→Qu→Nat
 | p,[]=>p
 | _,(t,_)::r=>aP t r
def bj:Nat→Qu→Nat→Nat→Option Nd
 | _,[],_,_=>none
 | p,(u,v)::r,h,t=>if t = u then some (v,p,aT r h) else bj u r h t
def aX (L:Qu):List Nat:=L.map Prod.fst
theorem gB (B:Qu) (h t:Nat):∀ (A:Qu) (p:Nat),bj p (A++B) h t = match bj p A (aT B h) t with | some x=>some x | none=>bj (aP p A) B h t
 | [],p=>rfl
 | (u, v) :: A, p => by
   simp only [List.cons_append,bj,aP]
   split
   ·cases A <;> rfl
   ·exact gB B h t A u
theorem cW {h t:Nat}:∀ {L:Qu} {p:Nat},t ∉ aX L→bj p L h t = none
 | [],_,_=>rfl
 | (u, v) :: r, p, hn => by
   simp only [aX,List.map_cons,List.mem_cons,not_or] at hn
   simp only [bj]
   rw [if_neg hn.1]
   exact cW hn.2
theorem e7:∀ {L:Qu} {p:Nat},L≠[]→aP p L ∈ aX L
 | [(t,v)],p,_=>by simp [aP,aX]
 | (t, v) :: y :: r, p, _ => by
   have:=e7 (L:=y::r) (p:=t) (by simp)
   simp only [aP,aX,List.map_cons,List.mem_cons] at this ⊢
   exact .inr this
theorem gC (B:Qu):∀ (A:Qu) (p:Nat),aP p (A++B) = aP (aP p A) B
 | [],_=>rfl
 | (t,v)::A,p=>gC B A t
theorem last_ne {L:Qu} {p p':Nat} (h:L≠[]):aP p L = aP p' L:=by
 cases L with
 | nil=>exact absurd rfl h
 | cons x r=>rfl
theorem qw {h h' t:Nat}:∀ {L:Qu} {p:Nat},(aX L).Nodup→L≠[]→bj p L h' t = if t = aP p L then (bj p L h t).map (fun x=>(x.1,x.2.1,h')) else bj p L h t
 | [(u, v)], p, _, _ => by
   simp only [bj,aP,aT]
   by_cases e:t = u
   ·simp [e]
   ·simp [e]
 | (u, v) :: (u2, v2) :: r, p, hn, _ => by
   have ih:=qw (h:=h) (h':=h') (t:=t) (L:=(u2,v2)::r) (p:=u) (List.nodup_cons.1 hn).2 (by simp)
   have hl:=e7 (L:=(u2,v2)::r) (p:=u) (by simp)
   have hne:u≠aP u ((u2,v2)::r):=fun e=>(List.nodup_cons.1 hn).1 (by rw [e]; exact hl)
   have e0:∀ q,bj p ((u,v)::(u2,v2)::r) q t = if t = u then some (v,p,u2) else bj u ((u2,v2)::r) q t:=fun q=>rfl
   rw [e0,e0,show aP p ((u,v)::(u2,v2)::r) = aP u ((u2,v2)::r) from rfl]
   by_cases e:t = u
   ·subst e; rw [if_pos rfl,if_pos rfl,if_neg hne]
   ·rw [if_neg e,if_neg e]; exact ih
theorem nodeA_p {h t p p':Nat} {u:Nat} {v:Int} {r:Qu} (hn:(aX ((u,v)::r)).Nodup):bj p' ((u,v)::r) h t = if t = u then (bj p ((u,v)::r) h t).map (fun x=>(x.1,p',x.2.2)) else bj p ((u,v)::r) h t:=by
 simp only [bj]
 by_cases e:t = u
 ·simp [e]
 ·simp [e]
theorem nodeA_push {L:Qu} {u:Nat} {v:Int} {t:Nat} (hn:(aX L).Nodup) (hu:u ∉ aX L) (hL:L≠[]) :
  bj 0 (L++[(u,v)]) 0 t = if t = aP 0 L then (bj 0 L 0 t).map (fun x=>(x.1,x.2.1,u)) else if t = u then some (v,aP 0 L,0) else bj 0 L 0 t:=by
 rw [gB]
 simp only [aT,bj]
 have hl:=e7 (p:=0) hL
 rw [qw (h:=0) hn hL]
 by_cases e:t = aP 0 L
 ·rw [if_pos e,if_pos e]
  cases hx:bj 0 L 0 t with
  | some x=>rfl
  | none =>
    exfalso
    have:∀ (L:Qu) (p:Nat),t ∈ aX L→bj p L 0 t≠none:=by
     intro L
     induction L with
     | nil=>intro p h; simp [aX] at h
     | cons y r ih =>
       obtain ⟨a,b⟩:=y
       intro p h
       simp only [bj]
       split
       ·simp
       ·rename_i hne
        simp only [aX,List.map_cons,List.mem_cons] at h
        exact ih a (h.resolve_left hne)
    exact this L 0 (e ▸ hl) hx
 ·rw [if_neg e,if_neg e]
  by_cases e2:t = u
  ·subst e2; rw [cW hu]
   try simp
  ·simp only [if_neg e2]
   cases bj 0 L 0 t <;> rfl
theorem nodeA_del {A B:Qu} {u:Nat} {v:Int} {t:Nat} (hn:(aX (A++(u,v)::B)).Nodup) :
  bj 0 (A++B) 0 t = if t = u then none else
   if A≠[]∧t = aP 0 A then (bj 0 (A++(u,v)::B) 0 t).map (fun x=>(x.1,x.2.1,aT B 0)) else
   if B≠[]∧t = aT B 0 then (bj 0 (A++(u,v)::B) 0 t).map (fun x=>(x.1,aP 0 A,x.2.2)) else bj 0 (A++(u,v)::B) 0 t:=by
 have h1:(aX A).Nodup∧(aX ((u,v)::B)).Nodup∧∀ x ∈ aX A,∀ y ∈ aX ((u,v)::B),x≠y:=by
  simp only [aX,List.map_append] at hn
  exact List.nodup_append.1 hn
 obtain ⟨hA,hB0,hAB⟩:=h1
 have hB:=List.nodup_cons.1 hB0
 have hu:u ∉ aX A:=fun e=>hAB u e u (by simp [aX]) rfl
 rw [gB,gB,show aT ((u,v)::B) 0 = u from rfl]
 by_cases e:t = u
 ·subst e
  rw [if_pos rfl,cW hu]
  exact cW hB.1
 ·rw [if_neg e]
  have e1:bj (aP 0 A) ((u,v)::B) 0 t = bj u B 0 t:=by simp only [bj]; rw [if_neg e]
  rw [e1]
  by_cases hAe:A = []
  ·subst hAe
   simp only [bj,aP,ne_eq,not_true_eq_false,false_and,if_false]
   cases B with
   | nil=>simp [bj]
   | cons y r =>
     obtain ⟨w,z⟩:=y
     rw [nodeA_p (p:=u) (p':=0) hB.2]
     simp [show aT ((w,z)::r) 0 = w from rfl]
  ·rw [qw (h:=u) (h':=aT B 0) hA hAe]
   by_cases e2:t = aP 0 A
   ·have hin:t ∈ aX A:=e2 ▸ e7 hAe
    rw [if_pos e2,if_pos ⟨hAe,e2⟩]
    cases hx:bj 0 A u t with
    | some x=>rfl
    | none =>
      have hnb:t ∉ aX B:=fun hb=>hAB t hin t (by simp only [aX,List.map_cons,List.mem_cons]; exact .inr hb) rfl
      simp only [Option.map_none,cW hnb]
   ·rw [if_neg e2,if_neg (fun q=>e2 q.2)]
    cases B with
    | nil=>simp [bj]
    | cons y r =>
      obtain ⟨w,z⟩:=y
      rw [nodeA_p (p:=u) (p':=aP 0 A) hB.2]
      simp only [show aT ((w,z)::r) 0 = w from rfl,ne_eq,reduceCtorEq,not_false_eq_true,true_and]
      by_cases e3:t = w
      ·have hna:t ∉ aX A:=fun ha=>hAB t ha t (by simp [aX,e3]) rfl
       rw [if_pos e3,if_pos e3,cW hna]
      ·rw [if_neg e3,if_neg e3]
theorem nodeA_at {A B:Qu} {u:Nat} {v:Int} (hu:u ∉ aX A):bj 0 (A++(u,v)::B) 0 u = some (v,aP 0 A,aT B 0):=by
 rw [gB,cW hu]
 simp [bj]
def ndAV (x:Nd):AV:=.agg [.lit (.int .i64 x.1),.lit (.int .u64 (x.2.1:Nat)),.lit (.int .u64 (x.2.2:Nat))]
theorem ndAV_dis (x:Nd):(ndAV x).dis = ndAV x:=rfl
structure QIs (st:St) (q mid:Nat) (L:Qu) (g:Nat):Prop where
 get:st.get q = some [.lit (.int .u64 (aT L 0:Nat)),.lit (.int .u64 (aP 0 L:Nat)),.lit (.int .u64 (g:Nat)),.map mid]
 mp:∃ m,MapIs st mid .u64 ndAV m∧(∀ t:Nat,aR t m = bj 0 L 0 t)∧m.length = L.length
 srt:(aX L).Pairwise (· < ·)
 pos:∀ t ∈ aX L,0 < t∧t≤g
theorem QIs.nd {st:St} {q mid g:Nat} {L:Qu} (h:QIs st q mid L g):(aX L).Nodup:=h.srt.imp fun h=>Nat.ne_of_lt h
theorem QIs.ne {st:St} {q mid g:Nat} {L:Qu} (h:QIs st q mid L g):mid≠q:=by
 obtain ⟨m,hm,_⟩:=h.mp
 exact hm.ne h.get
theorem QIs.ltq {st:St} {q mid g:Nat} {L:Qu} (h:QIs st q mid L g):q < st.boxes.length:=bw h.get
theorem QIs.ltm {st:St} {q mid g:Nat} {L:Qu} (h:QIs st q mid L g):mid < st.boxes.length:=by
 obtain ⟨m,hm,_⟩:=h.mp
 exact hm.lt
theorem QIs.at {st st':St} {q mid g:Nat} {L:Qu} (h:QIs st q mid L g) (h1:st'.boxes[q]? = st.boxes[q]?) (h2:st'.boxes[mid]? = st.boxes[mid]?):QIs st' q mid L g:=by
 obtain ⟨m,hm,h3,h4⟩:=h.mp
 exact ⟨(ck h1).trans h.get,⟨m,hm.at h2,h3,h4⟩,h.srt,h.pos⟩
theorem QIs.nil_iff {st:St} {q mid g:Nat} {L:Qu} (h:QIs st q mid L g):(aT L 0 = 0↔L = [])∧(aP 0 L = 0↔L = []):=by
 cases L with
 | nil=>simp [aT,aP]
 | cons x r =>
   obtain ⟨t,v⟩:=x
   have h1:=h.pos t (by simp [aX])
   have h2:=h.pos _ (e7 (L:=(t,v)::r) (p:=0) (by simp))
   simp only [aT,reduceCtorEq,iff_false]
   omega
theorem fK {t:Nat}:∀ {L:Qu} {p:Nat},t ∈ aX L→∃ x,bj p L 0 t = some x
 | (u, v) :: r, p, h => by
   simp only [bj]
   split
   ·exact ⟨_,rfl⟩
   ·rename_i hne
    simp only [aX,List.map_cons,List.mem_cons] at h
    exact fK (h.resolve_left hne)
theorem dk (A B:Qu):aX (A++B) = aX A++aX B:=by simp [aX]
theorem QIs.clone {st st':St} {q mid q' mid' g:Nat} {L:Qu} (h:QIs st q mid L g) (hg:st'.get q' = some [.lit (.int .u64 (aT L 0:Nat)),.lit (.int .u64 (aP 0 L:Nat)),.lit (.int .u64 (g:Nat)),.map mid'])
  (hm:∀ m,MapIs st mid .u64 ndAV m→MapIs st' mid' .u64 ndAV m):QIs st' q' mid' L g:=by
 obtain ⟨m,h1,h2,h3⟩:=h.mp
 exact ⟨hg,⟨m,hm m h1,h2,h3⟩,h.srt,h.pos⟩
theorem QIs.push {st st':St} {q mid g:Nat} {L:Qu} {v:Int} (h:QIs st q mid L g) {m':List (Int×Nd)} (hg:st'.get q = some [.lit (.int .u64 (aT (L++[(g + 1,v)]) 0:Nat)),.lit (.int .u64 ((g + 1:Nat))),.lit (.int .u64 ((g + 1:Nat))),.map mid])
  (hm:MapIs st' mid .u64 ndAV m') (hl:∀ t:Nat,aR t m' = bj 0 (L++[(g + 1,v)]) 0 t) (hn:m'.length = L.length + 1):QIs st' q mid (L++[(g + 1,v)]) (g + 1):=by
 refine ⟨by rw [gC]; exact hg,⟨m',hm,hl,by simp [hn]⟩,?_,fun t ht=>?_⟩
 ·rw [dk]
  refine List.pairwise_append.2 ⟨h.srt,by simp [aX],fun x hx y hy=>?_⟩
  simp only [aX,List.map_cons,List.map_nil,List.mem_singleton] at hy
  have:=(h.pos x hx).2
  omega
 ·rw [dk] at ht
  rcases List.mem_append.1 ht with ht | ht
  ·have:=h.pos t ht; omega
  ·simp only [aX,List.map_cons,List.map_nil,List.mem_singleton] at ht
   omega
theorem QIs.fresh {st:St} {q mid g:Nat} {L:Qu} (h:QIs st q mid L g):g + 1 ∉ aX L:=fun e=>by have:=(h.pos _ e).2; omega
theorem QIs.del {st st':St} {q mid g:Nat} {A B:Qu} {t:Nat} {v:Int} (h:QIs st q mid (A++(t,v)::B) g) {m':List (Int×Nd)} (hg:st'.get q = some [.lit (.int .u64 (aT (A++B) 0:Nat)),.lit (.int .u64 (aP 0 (A++B):Nat)),.lit (.int .u64 (g:Nat)),.map mid])
  (hm:MapIs st' mid .u64 ndAV m') (hl:∀ t:Nat,aR t m' = bj 0 (A++B) 0 t) (hn:m'.length = (A++B).length):QIs st' q mid (A++B) g:=by
 have hsub:(aX (A++B)).Sublist (aX (A++(t,v)::B)):=by
  simp only [dk]
  exact List.Sublist.append (List.Sublist.refl _) (List.sublist_cons_self _ _)
 exact ⟨hg,⟨m',hm,hl,hn⟩,h.srt.sublist hsub,fun x hx=>h.pos x (hsub.subset hx)⟩
end Go.Fx
/- A channel's state: plain lists, and where they lie. -/
namespace Go.Fx
open Go
abbrev W3:=Nat×Int×Int
structure ChP where
 closed:Bool
 cap:Nat
 buf:List Int
 S:List W3
 V:List W3
 g0:Nat
 g1:Nat
def qOf (l:List W3):Qu:=l.map fun x=>(x.1,x.2.1)
def wEnt (d:Int) (l:List W3):List (Int×(Int×Int×Nat)):=l.map fun x=>(x.2.1,(d,x.2.2,x.1))
def entC (S V:List W3):List (Int×(Int×Int×Nat)):=wEnt 0 S++wEnt 1 V
def wtAV (x:Int×Int×Nat):AV:=.agg [.lit (.int .i64 x.1),.lit (.int .i64 x.2.1),.lit (.int .u64 (x.2.2:Nat))]
def ints (l:List Int):List AV:=l.map fun v=>.lit (.int .i64 v)
def au:AV→List Nat
 | .bs id _ _ _ _=>[id]
 | _=>[]
structure ChIs (st:St) (c:Nat) (P:ChP) (q0 m0 q1 m1 wid:Nat) (bv:AV):Prop where
 get:st.get c = some [.lit (.bool true),.lit (.bool P.closed),.lit (.int .i64 (P.cap:Nat)),bv,.ptr q0 0,.ptr q1 0,.map wid]
 buf:MB bv st (ints P.buf)
 s:QIs st q0 m0 (qOf P.S) P.g0
 r:QIs st q1 m1 (qOf P.V) P.g1
 w:∃ W,MapIs st wid .i64 wtAV W∧∀ t,aR t W = aR t (entC P.S P.V)
 ids:[c,q0,q1,m0,m1,wid].Nodup
 bid:∀ x ∈ au bv,x ∉ [c,q0,q1,m0,m1,wid]
 nd:(bO (entC P.S P.V)).Nodup
 rng:∀ t ∈ bO (entC P.S P.V),0≤t∧t < 64
 zv:∀ x ∈ P.V,x.2.2 = 0
def Kp (st st':St) (F:List Nat):Prop:=st.boxes.length≤st'.boxes.length∧∀ id,id < st.boxes.length→id ∉ F→st'.boxes[id]? = st.boxes[id]?
theorem Kp.refl (st:St) (F:List Nat):Kp st st F:=⟨Nat.le_refl _,fun _ _ _=>rfl⟩
theorem Kp.trans {a b c:St} {F F':List Nat} (h:Kp a b F) (k:Kp b c F') (hf:∀ x ∈ F',x ∈ F∨a.boxes.length≤x):Kp a c F :=
 ⟨Nat.le_trans h.1 k.1,fun id hid hn=>(k.2 id (Nat.lt_of_lt_of_le hid h.1) fun e=>(hf id e).elim hn (fun q=>by omega)).trans (h.2 id hid hn)⟩
theorem Oth.kp {st st':St} {S F:List Nat} (h:Oth st st' S) (hs:∀ x ∈ S,x ∈ F):Kp st st' F:=⟨Nat.le_of_eq h.1.symm,fun id _ hn=>h.2 id fun e=>hn (hs id e)⟩
theorem MB.at {v:AV} {st st':St} {l:List AV} (h:MB v st l) (hb:∀ x ∈ au v,st'.boxes[x]? = st.boxes[x]?):MB v st' l:=by
 rcases h with ⟨rfl,rfl⟩ | ⟨id,cap,r,rfl,hg,h1,h2⟩
 ·exact .inl ⟨rfl,rfl⟩
 ·exact .inr ⟨id,cap,r,rfl,(ck (hb id (by simp [au]))).trans hg,h1,h2⟩
theorem MB.lt {v:AV} {st:St} {l:List AV} (h:MB v st l):∀ x ∈ au v,x < st.boxes.length:=by
 rcases h with ⟨rfl,rfl⟩ | ⟨id,cap,r,rfl,hg,h1,h2⟩
 ·simp [au]
 ·intro x hx
  simp only [au,List.mem_singleton] at hx
  subst hx
  exact bw hg
section
variable {st st':St} {c q0 m0 q1 m1 wid:Nat} {bv:AV} {P:ChP}
theorem ChIs.lts (h:ChIs st c P q0 m0 q1 m1 wid bv):∀ x ∈ [c,q0,q1,m0,m1,wid]++au bv,x < st.boxes.length:=by
 obtain ⟨W,hW,_⟩:=h.w
 intro x hx
 simp only [List.mem_append,List.mem_cons,List.not_mem_nil,or_false] at hx
 rcases hx with (rfl | rfl | rfl | rfl | rfl | rfl) | hx
 ·exact bw h.get
 ·exact h.s.ltq
 ·exact h.r.ltq
 ·exact h.s.ltm
 ·exact h.r.ltm
 ·exact hW.lt
 ·exact h.buf.lt x hx
end
theorem MB.grow {v:AV} {st:St} {l new:List AV} {bytes:Nat} {C:AV→St→Prop} (h:MB v st l) (hl:Lits l) (hn:Lits new) (hr:gX (l.length + new.length) bytes = true)
  (hC:∀ v' st',MB v' st' (l++new)→Kp st st' (au v)→(∀ x ∈ au v',x ∈ au v∨st.boxes.length≤x)→C v' st'):appX false 1 bytes v C st new:=by
 rcases h with ⟨rfl,rfl⟩ | ⟨id,cap,r,rfl,hg,h1,h2⟩
 ·refine ⟨rfl,by simpa using hr,?_⟩
  split
  ·rename_i h
   have:new = []:=by simpa using h
   subst this
   exact hC _ _ (.inl ⟨rfl,rfl⟩) (Kp.refl _ _) (by simp [au])
  ·intro c hc
   refine hC _ _ (.inr ⟨st.boxes.length,c,List.replicate (c - new.length) .any,by simp,?_,by simpa using hc,by simp; omega⟩) ⟨by simp [St.push],fun id hid _=>bG hid⟩ (by simp [au])
   rw [hn.cellsD]
   simp only [List.nil_append,Nat.mul_one]
   exact bq st _
 ·refine ⟨rfl,rfl,hr,?_⟩
  rw [hg]
  show (Res.ok _).wp _
  rw [wp_ok,hn.cellsD]
  have hid:=bw hg
  split
  ·rename_i hc
   refine ⟨by omega,hC _ _ (.inr ⟨id,cap,r.drop new.length,by simp,?_,by simpa using hc,?_⟩) ⟨by simp [St.set],fun id' _ hne=>bP (by simpa [au] using hne)⟩ (by simp [au])⟩
   ·rw [aG hid,Nat.zero_add,Nat.mul_one,gv rfl (by simp at h2; omega)]
    simp
   ·simp at h2 ⊢; omega
  ·rename_i hc
   have e:List.map AV.own1 (List.take (l.length * 1) (List.drop 0 (l++r))) = l:=by simp [hl.own]
   refine ⟨by simp,fun c hc=>hC _ _ (.inr ⟨st.boxes.length,c,List.replicate (c - (l.length + new.length)) .any,by simp,?_,by simpa using hc,by simp; omega⟩) ⟨by simp [St.push],fun id' hid' _=>bG hid'⟩ (by simp [au])⟩
   rw [e]
   simp only [Nat.mul_one]
   exact bq st _
abbrev It := Int × Int × Int  -- task, value, error
def itAV (x:It):AV:=.agg [.lit (.int .i64 x.1),.lit (.int .i64 0),.lit (.int .i64 x.2.1),.lit (.int .i64 x.2.2)]
def dO (l:List It):AV:=if l = [] then .lit (.slice none 0 0) else .sl false 4 (l.map itAV)
def foot (c q0 m0 q1 m1 wid:Nat) (bv:AV):List Nat:=[c,q0,q1,m0,m1,wid]++au bv
def ChPost (st:St) (c:Nat) (P:ChP) (q0 m0 q1 m1 wid:Nat) (bv:AV) (st':St):Prop :=
 ∃ bv',ChIs st' c P q0 m0 q1 m1 wid bv'∧Kp st st' (foot c q0 m0 q1 m1 wid bv)∧∀ x ∈ au bv',x ∈ au bv∨st.boxes.length≤x
theorem ChIs.post {st st':St} {c q0 m0 q1 m1 wid:Nat} {bv:AV} {P:ChP} (h:ChIs st' c P q0 m0 q1 m1 wid bv) (hk:Kp st st' (foot c q0 m0 q1 m1 wid bv)):ChPost st c P q0 m0 q1 m1 wid bv st':=⟨bv,h,hk,fun _ h=>.inl h⟩
theorem ChIs.rebufC {st st1:St} {c q0 m0 q1 m1 wid:Nat} {bv bv1:AV} {P:ChP} {cl:Bool} {b':List Int} (h:ChIs st c P q0 m0 q1 m1 wid bv) (hm:MB bv1 st1 (ints b')) (hk:Kp st st1 (au bv)) (hb:∀ x ∈ au bv1,x ∈ au bv∨st.boxes.length≤x) :
  ChIs (st1.set c [.lit (.bool true),.lit (.bool cl),.lit (.int .i64 (P.cap:Nat)),bv1,.ptr q0 0,.ptr q1 0,.map wid]) c { P with buf:=b',closed:=cl } q0 m0 q1 m1 wid bv1 ∧
  Kp st (st1.set c [.lit (.bool true),.lit (.bool cl),.lit (.int .i64 (P.cap:Nat)),bv1,.ptr q0 0,.ptr q1 0,.map wid]) (foot c q0 m0 q1 m1 wid bv):=by
 have hlt:=h.lts
 have hids:=h.ids
 have hbid:=h.bid
 have hcl:c < st1.boxes.length:=Nat.lt_of_lt_of_le (hlt c (by simp)) hk.1
 simp only [List.nodup_cons,List.mem_cons,List.not_mem_nil,or_false,not_or] at hids
 have hat:∀ x ∈ [q0,q1,m0,m1,wid],(st1.set c [.lit (.bool true),.lit (.bool cl),.lit (.int .i64 (P.cap:Nat)),bv1,.ptr q0 0,.ptr q1 0,.map wid]).boxes[x]? = st.boxes[x]?:=by
  intro x hx
  rw [bP (by simp at hx; omega)]
  refine hk.2 x (hlt x (by simp at hx ⊢; omega)) fun e=>?_
  exact hbid x e (by simp at hx ⊢; omega)
 have hbc:∀ x ∈ au bv1,x ∉ [c,q0,q1,m0,m1,wid]:=by
  intro x hx hin
  rcases hb x hx with e | e
  ·exact hbid x e hin
  ·have:=hlt x (List.mem_append_left _ hin); omega
 obtain ⟨W,hW,hl⟩:=h.w
 refine ⟨⟨aG hcl,hm.at fun x hx=>bP fun e=>hbc x hx (by simp [e]),h.s.at (hat _ (by simp)) (hat _ (by simp)),h.r.at (hat _ (by simp)) (hat _ (by simp)),⟨W,hW.at (hat _ (by simp)),hl⟩,h.ids,hbc,h.nd,h.rng,h.zv⟩,⟨by rw [du]; exact hk.1,fun x hx hn=>?_⟩⟩
 simp only [foot,List.mem_append,List.mem_cons,List.not_mem_nil,or_false,not_or] at hn
 rw [bP hn.1.1]
 exact hk.2 x hx hn.2
end Go.Fx
