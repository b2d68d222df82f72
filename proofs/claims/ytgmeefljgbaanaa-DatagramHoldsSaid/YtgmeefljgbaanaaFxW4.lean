/- What the functions that the statement reaches compute: part 4. -/
import Derived.Test.YtgmeefljgbaanaaFxW3
namespace Go.Fx.YtgmeefljgbaanaaFx
open Go Go.Fx
attribute [local irreducible] aC runI aF a9

set_option maxRecDepth 100000
set_option maxHeartbeats 4000000

/-- Only some boxes. -/
def St.only (st:St) (G:List Nat):St:=⟨st.boxes.mapIdx fun i b=>if i ∈ G then b else none⟩
theorem only_at (st:St) {G:List Nat} {x:Nat} (h:x ∈ G):(St.only st G).boxes[x]? = st.boxes[x]?:=by
  unfold St.only
  rw [List.getElem?_mapIdx]
  simp only [h,if_true]
  cases st.boxes[x]? <;> rfl
theorem only_sub {st st':St} {G:List Nat} (h:∀ x ∈ G,x < st.boxes.length→st'.boxes[x]? = st.boxes[x]?):St.sub (St.only st G) st':=fun id b hb=>by
  unfold St.only at hb
  rw [List.getElem?_mapIdx] at hb
  obtain ⟨c,hc,hd⟩:=Option.map_eq_some_iff.1 hb
  by_cases hg:id ∈ G
  · rw [if_pos hg] at hd
    subst hd
    rw [h id hg (List.getElem?_eq_some_iff.1 hc).1]
    exact hc
  · rw [if_neg hg] at hd
    cases hd

theorem Kp.wide {st st':St} {F F':List Nat} (h:Kp st st' F) (hf:∀ x ∈ F,x ∈ F'):Kp st st' F':=⟨h.1,fun i hi hn=>h.2 i hi fun e=>hn (hf i e)⟩
theorem cutS_sl (n:Nat) (o:Bool) (k:Nat) (es:List AV):cutS n (.sl o k es) = if es.length≤n then .sl o k es else .sl false k (es.take n):=rfl
theorem cutS_bs (n id k off len cap:Nat):cutS n (.bs id k off len cap) = if len≤n then .bs id k off len cap else .bs id k off n cap:=rfl

/-- Bytes as an argument: frozen, or in a buffer. -/
def DV (v:AV) (st:St) (p:List UInt8):Prop:=(v = .lit (.slice none 0 0)∧p = [])∨v = .sl false 1 (BB p)∨∃ bi cap r,v = .bs bi 1 0 p.length cap∧st.get bi = some (BB p++r)∧p.length≤cap∧cap≤(BB p++r).length
section
variable {v:AV} {st st':St} {p:List UInt8}
theorem DV.facts (h:DV v st p):v.dis = v∧v.own1 = v∧v.own2 = v∧v.solid1 = true∧v.noL = true∧v.cells = [v]∧(∀ s,kill s v = v)∧∀ st',lenI .sl st' v = .ok (.lit (.int .i64 (p.length:Nat))):=by
  rcases h with ⟨rfl,rfl⟩ | rfl | ⟨id,cap,r,rfl,_⟩
  · exact ⟨rfl,rfl,rfl,rfl,rfl,rfl,fun _=>rfl,fun _=>rfl⟩
  · exact ⟨rfl,rfl,rfl,rfl,rfl,rfl,fun _=>rfl,fun _=>by rw [lj,bD]⟩
  · exact ⟨rfl,rfl,rfl,rfl,rfl,rfl,fun _=>rfl,fun _=>rfl⟩
theorem DV.at (h:DV v st p) (hb:∀ x ∈ ae v,st'.boxes[x]? = st.boxes[x]?):DV v st' p:=by
  rcases h with h | h | ⟨id,cap,r,rfl,hg,h1,h2⟩
  · exact .inl h
  · exact .inr (.inl h)
  · exact .inr (.inr ⟨id,cap,r,rfl,(bQ (hb id (by simp [ae]))).trans hg,h1,h2⟩)
theorem DV.lt (h:DV v st p):∀ x ∈ ae v,x < st.boxes.length:=by
  rcases h with ⟨rfl,_⟩ | rfl | ⟨id,cap,r,rfl,hg,_⟩
  · simp [ae]
  · simp [ae]
  · intro x hx; simp only [ae,List.mem_singleton] at hx; subst hx; exact bM hg
theorem DV.sl (st:St) (p:List UInt8):DV (.sl false 1 (BB p)) st p:=.inr (.inl rfl)
theorem DV.of_mb (h:MB v st (BB p)):DV v st p:=by
  rcases h with ⟨rfl,e⟩ | ⟨id,cap,r,rfl,hg,h1,h2⟩
  · refine .inl ⟨rfl,?_⟩
    have:=congrArg List.length e
    rw [bD] at this
    exact List.eq_nil_of_length_eq_zero this
  · rw [bD] at *
    exact .inr (.inr ⟨id,cap,r,rfl,hg,h1,h2⟩)
theorem DV.src (h:DV v st p) {K:List AV→Prop} (hK:K (BB p)):(srcA st 1 v).wp K:=by
  rcases h with ⟨rfl,rfl⟩ | rfl | ⟨id,cap,r,rfl,hg,h1,h2⟩
  · exact hK
  · exact hK
  · show (de st id 1 0 p.length).wp K
    unfold de
    rw [hg]
    refine ⟨by simp [bD],?_⟩
    rw [List.drop_zero,qe (by simp [bD]),← bD p,List.take_left]
    exact hK
/-- The bytes from a place on, of which a copy takes some. -/
theorem DV.cut (h:DV v st p) {lo:Nat} (hlo:lo≤p.length):∃ sv,(∀ K:AV→Prop,K sv→(iq v (some (.lit (.int .i64 (lo:Nat)))) (some (.lit (.int .i64 (p.length:Nat)))) 1).wp K) ∧
    ∀ st',(∀ x ∈ ae v,st'.boxes[x]? = st.boxes[x]?)→∀ n (K:List AV→Prop),K (BB ((p.drop lo).take n))→(srcA st' 1 (cutS n sv)).wp K:=by
  rcases h with ⟨rfl,rfl⟩ | rfl | ⟨bi,cap,r,rfl,hg,h1,h2⟩
  · have:lo = 0:=by simpa using hlo
    subst this
    refine ⟨.lit (.slice none 0 0),fun K hK=>(by simp (config:=KF) (disch:=omega) only [bZ,iq,ixTo,Int.reduceLE]; exact hK),fun st' _ n K hK=>?_⟩
    simp only [List.drop_nil,List.take_nil] at hK
    exact hK
  · refine ⟨.sl false 1 (BB (p.drop lo)),fun K hK=>?_,fun st' _ n K hK=>?_⟩
    · simp (config:=KF) (disch:=omega) only [bZ,iq,ixTo,↓reduceIte,List.take_length,bD,iO,ma,bV,bW]
      exact hK
    · rw [cutS_sl]
      split
      · rename_i hc
        rw [bD] at hc
        rw [List.take_of_length_le hc] at hK
        exact hK
      · rw [iO]
        exact hK
  · by_cases hc:cap = lo
    · have hl:lo = p.length:=by omega
      refine ⟨.sl true 1 [],fun K hK=>?_,fun st' _ n K hK=>?_⟩
      · subst hl
        subst hc
        simp (config:=KF) (disch:=omega) only [bZ,iq,sliB,sl3,ixTo,↓reduceIte,bV,bW,Nat.mul_one]
        exact hK
      · subst hl
        rw [List.drop_length] at hK
        rw [cutS_sl,if_pos (show ([]:List AV).length≤n from Nat.zero_le _)]
        have hK':K []:=by simpa [BB] using hK
        exact hK'
    · refine ⟨.bs bi 1 lo (p.length - lo) (cap - lo),fun K hK=>?_,fun st' hb n K hK=>?_⟩
      · simp (config:=KF) (disch:=omega) only [bZ,iq,sliB,sl3,ixTo,↓reduceIte,bV,if_pos,if_neg,bW,Nat.mul_one]
        exact hK
      · have hg':st'.get bi = some (BB p++r):=(bQ (hb bi (by simp [ae]))).trans hg
        have key:∀ q,q≤p.length - lo→K (BB ((p.drop lo).take q))→(de st' bi 1 lo q).wp K:=fun q hq hK=>by
          unfold de
          rw [hg']
          refine ⟨by simp [bD]; omega,?_⟩
          have e:List.take q (List.drop lo (BB p++r)) = BB ((p.drop lo).take q):=by
            rw [List.drop_append_of_le_length (by rw [bD]; exact hlo),List.take_append_of_le_length (by rw [List.length_drop,bD]; exact hq),ma,iO]
          rw [qe (by simp only [List.length_drop,List.length_append,bD]; omega),e]
          exact hK
        rw [cutS_bs]
        split
        · rename_i hc
          rw [List.take_of_length_le (by rw [List.length_drop]; exact hc)] at hK
          refine key _ (Nat.le_refl _) ?_
          rw [List.take_of_length_le (by rw [List.length_drop]; exact Nat.le_refl _)]
          exact hK
        · exact key n (by omega) hK
end

/-! Ranges over maps. -/
section
variable {β:Type} {st:St} {id:Nat} {k:IntKind} {ev:β→AV} {m:List (Int×β)}

theorem nxt_step (h:MapIs st id k ev m) {seen:List Nat} {stp s:Nat} {d:Option Nat} {sf:Sf} {K:Sf→St→Prop}
    (hm:∀ (i:Nat) (hi:i < m.length) (b:Nat),(st.getB id).1[i]? = some b→b ∉ seen→K ((sf.set s (.mit (some id) (st.getB id).2 (seen++[b]) (st.getB id).2)).put d (.tup [.lit (.bool true),.lit (.int k m[i].1),(ev m[i].2).dis])) st)
    (hd:(∀ b ∈ (st.getB id).1,b ∈ seen)→K (sf.put d (.tup [.lit (.bool false)])) st):nxtX s d (.mit (some id) (st.getB id).2 seen stp) K sf st:=by
  unfold nxtX
  simp only [h.get,Res.ofOpt,Res.wp]
  refine ⟨h.bc,Nat.le_refl _,fun i kk x b hi hb hn=>?_,hd⟩
  simp only [encM,List.getElem?_map,Option.map_eq_some_iff] at hi
  obtain ⟨p,hp,he⟩:=hi
  obtain ⟨hi,hpe⟩:=List.getElem?_eq_some_iff.1 hp
  have:=hm i hi b hb hn
  rw [hpe] at this
  cases he
  exact this

theorem ent_step (h:MapIs st id k ev m) {seen:List Nat} {C:AV→St→Prop} {i b:Nat} (hi:i < m.length) (hb:(st.getB id).1[i]? = some b) (hC:C (.tup [.lit (.int k m[i].1),(ev m[i].2).dis]) st) :
    entX (.mit (some id) (st.getB id).2 (seen++[b]) (st.getB id).2) C st:=by
  unfold entX
  simp only [h.get,Res.ofOpt,Res.wp]
  refine ⟨trivial,i,.lit (.int k m[i].1),ev m[i].2,b,by simp,?_,hb,hC⟩
  simp [encM,encE,hi]

/-- What has not been visited. -/
def left (bs seen:List Nat):Nat:=(bs.filter fun b=>!seen.contains b).length
theorem left_lt {bs seen:List Nat} {b:Nat} (hb:b ∈ bs) (hn:b ∉ seen):left bs (seen++[b]) < left bs seen:=by
  unfold left
  induction bs with
  | nil=>cases hb
  | cons a bs ih =>
    have key:∀ l:List Nat,(l.filter fun x=>!(seen++[b]).contains x).length≤(l.filter fun x=>!seen.contains x).length:=by
      intro l
      induction l with
      | nil=>simp
      | cons x l ih =>
        simp only [List.filter_cons]
        by_cases h1:x ∈ seen
        · simp [h1]; simpa using ih
        · by_cases h2:x = b
          · subst h2; simp [h1]; simp at ih; omega
          · simp [h1,h2]; simpa using ih
    simp only [List.filter_cons]
    rcases List.mem_cons.1 hb with rfl | hb
    · have:=key bs
      simp [hn]; simp at this; omega
    · have ih:=ih hb
      by_cases h1:a ∈ seen
      · simp [h1]; simpa using ih
      · by_cases h2:a = b
        · have:=key bs
          subst h2
          simp [h1]; simp at this; omega
        · simp [h1,h2]; simpa using ih
end

theorem d6 {β:Type} {t:Int} {b:β}:∀ {m:List (Int×β)},(aT m).Nodup→(t,b) ∈ m→ai t m = some b
  | (k, c) :: r, hn, hm => by
    simp only [aT,List.map_cons,List.nodup_cons] at hn
    simp only [ai]
    rcases List.mem_cons.1 hm with e | hm
    · cases e; simp
    · have:t≠k:=fun e=>hn.1 (e ▸ List.mem_map.2 ⟨(t,b),hm,rfl⟩)
      rw [if_neg this]; exact d6 hn.2 hm
theorem iW {β:Type} {t:Int} {b:β}:∀ {m:List (Int×β)},ai t m = some b→(t,b) ∈ m
  | (k, c) :: r, h => by
    simp only [ai] at h
    split at h
    · rename_i e; subst e; cases h; simp
    · exact List.mem_cons_of_mem _ (iW h)

/-! Copies. -/
structure Cpd {B:Type} (m M:List (Int×B)) (bs seen:List Nat):Prop where
  le:∀ c v,ai c M = some v→ai c m = some v
  has:∀ (i:Nat) (hi:i < m.length) (b:Nat),bs[i]? = some b→b ∈ seen→ai m[i].1 M = some m[i].2
theorem Cpd.nil {B:Type} (m:List (Int×B)) (bs:List Nat):Cpd m [] bs []:=⟨fun c v h=>by simp [ai] at h,fun i hi b _ h=>by simp at h⟩
theorem Cpd.all {B:Type} {m M:List (Int×B)} {bs seen:List Nat} (h:Cpd m M bs seen) (hn:(aT m).Nodup) (hl:bs.length = m.length) (ha:∀ b ∈ bs,b ∈ seen) (c:Int):ai c M = ai c m:=by
  cases hm:ai c m with
  | none =>
    cases hM:ai c M with
    | none=>rfl
    | some v=>have:=h.le c v hM; rw [hm] at this; cases this
  | some v =>
    obtain ⟨i,hi,e⟩:=List.getElem_of_mem (iW hm)
    have hb:bs[i]? = some bs[i]:=List.getElem?_eq_getElem (by omega)
    have:=h.has i hi _ hb (ha _ (List.getElem_mem (by omega)))
    rw [e] at this
    exact this

end Go.Fx.YtgmeefljgbaanaaFx

