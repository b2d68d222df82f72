/- What the functions that the statement reaches compute: part 12. -/
import Derived.Test.YtbomoaajkinfpaaFxW11
namespace Go.Fx.YtbomoaajkinfpaaFx
open Go Go.Fx
attribute [local irreducible] aC runI aw aB

set_option maxRecDepth 100000
set_option maxHeartbeats 8000000

/-- A clone of a buffer: new boxes only. -/
theorem fW {bv:AV} {st:St} {l:List Int} (h:MB bv st (ints l)) (hl:l.length≤100000):aA Go.Proofs.Try.prog n_f52 [bv] st
    (fun r st'=>MB r st' (ints l)∧st.boxes.length≤st'.boxes.length∧(∀ i,i < st.boxes.length→st'.boxes[i]? = st.boxes[i]?)∧∀ x ∈ ae r,st.boxes.length≤x):=by
  have ll:=al l
  refine ap hmix k_f52 rfl rfl fun Q hQ=>?_
  unfold aFun c_f52
  have hh:=h
  rcases hh with ⟨rfl,e⟩ | ⟨bi,cap,r,rfl,hg,h1,h2⟩
  · simp (config:=KF) (disch:=omega) only [bZ,retI,bB,iB,o_x,bb,l0,cT,cb,bz,↓reduceIte,Nat.reduceEqDiff,reduceCtorEq]
    exact hQ _ _ ⟨.inl ⟨rfl,e⟩,Nat.le_refl _,fun _ _=>rfl,by simp [ae]⟩
  · have hp:MB (.bs bi 1 0 (ints l).length cap) (st.push (.cells [])) (ints l):=h.at fun x hx=>bu (by
      simp only [ae,List.mem_singleton] at hx
      subst hx; exact bq hg)
    have hb:MB (.bs st.boxes.length 1 0 0 0) (st.push (.cells [])) []:=.inr ⟨st.boxes.length,0,[],rfl,bI st [],Nat.le_refl _,by omega⟩
    obtain ⟨r0,hr0,hr1⟩:=hp.src
    have hroom:dW (([]:List AV).length + (ints l).length) 8 = true:=by
      unfold dW; simp [ll]; omega
    have hfin:∀ v' st',MB v' st' ([]++ints l)→Kp (st.push (.cells [])) st' (ae (.bs st.boxes.length 1 0 0 0))→(∀ x ∈ ae v',x ∈ ae (.bs st.boxes.length 1 0 0 0)∨(st.push (.cells [])).boxes.length≤x)→Q v' st':=fun v' st' m1 m2 m3=>by
      refine hQ v' st' ⟨m1,by have:=m2.1; rw [aK] at this; omega,fun i hi=>?_,fun x hx=>?_⟩
      · rw [m2.2 i (by rw [aK]; omega) (by simp [ae]; omega)]
        exact bu hi
      · rcases m3 x hx with m | m
        · simp only [ae,List.mem_singleton] at m
          omega
        · rw [aK] at m; omega
    rw [ll] at hr0
    have hsrc:∀ K:List AV→Prop,K (ints l)→(cQ (st.push (.cells [])) bi 1 0 l.length).wp K:=fun K hK=>by
      have:=hr1 K hK
      rw [← hr0] at this
      exact this
    simp (config:=KF) (disch:=omega) only [bZ,bB,iB,o_x,bb,oG,cT,cb,bz,List.replicate_zero,srcA,bY,↓reduceIte,Nat.reduceEqDiff,Int.reduceLE,Int.reduceMul,reduceCtorEq,ll,mksBX,List.flatMap_nil]
    refine hsrc _ ?_
    refine MB.grow hb (fun x hx=>by simp at hx) (dz l) hroom fun v' st' m1 m2 m3=>?_
    have hf:=hfin v' st' m1 m2 m3
    obtain ⟨w1,w2,w3,w4,w5,w6,w7,w8⟩:=m1.facts
    simp (config:=KF) (disch:=omega) only [bZ,retI,bB,↓reduceIte,Nat.reduceEqDiff,reduceCtorEq,w1,w5]
    exact hf
/-! Ranges over maps. -/
section
variable {β:Type} {st:St} {id:Nat} {k:IntKind} {ev:β→AV} {m:List (Int×β)}

theorem nxt_step (h:MapIs st id k ev m) {seen:List Nat} {stp s:Nat} {d:Option Nat} {sf:Sf} {K:Sf→St→Prop}
    (hm:∀ (i:Nat) (hi:i < m.length) (b:Nat),(st.getB id).1[i]? = some b→b ∉ seen→K ((sf.set s (.mit (some id) (st.getB id).2 (seen++[b]) (st.getB id).2)).put d (.tup [.lit (.bool true),.lit (.int k m[i].1),(ev m[i].2).dis])) st)
    (hd:(∀ b ∈ (st.getB id).1,b ∈ seen)→K (sf.put d (.tup [.lit (.bool false)])) st):nxtX s d (.mit (some id) (st.getB id).2 seen stp) K sf st:=by
  unfold nxtX
  simp only [h.get,Res.ofOpt,Res.wp]
  refine ⟨h.bc,Nat.le_refl _,fun i kk x b hi hb hn=>?_,hd⟩
  simp only [encM,List.getElem?_map,Option.map_eq_some_iff] at hi
  obtain ⟨p,hp,he⟩:=hi
  obtain ⟨hi,hpe⟩:=List.getElem?_eq_some_iff.1 hp
  have:=hm i hi b hb hn
  rw [hpe] at this
  cases he
  exact this

theorem ent_step (h:MapIs st id k ev m) {seen:List Nat} {C:AV→St→Prop} {i b:Nat} (hi:i < m.length) (hb:(st.getB id).1[i]? = some b) (hC:C (.tup [.lit (.int k m[i].1),(ev m[i].2).dis]) st) :
    entX (.mit (some id) (st.getB id).2 (seen++[b]) (st.getB id).2) C st:=by
  unfold entX
  simp only [h.get,Res.ofOpt,Res.wp]
  refine ⟨trivial,i,.lit (.int k m[i].1),ev m[i].2,b,by simp,?_,hb,hC⟩
  simp [encM,encE,hi]

/-- What has not been visited. -/
def left (bs seen:List Nat):Nat:=(bs.filter fun b=>!seen.contains b).length
theorem left_lt {bs seen:List Nat} {b:Nat} (hb:b ∈ bs) (hn:b ∉ seen):left bs (seen++[b]) < left bs seen:=by
  unfold left
  induction bs with
  | nil=>cases hb
  | cons a bs ih =>
    have key:∀ l:List Nat,(l.filter fun x=>!(seen++[b]).contains x).length≤(l.filter fun x=>!seen.contains x).length:=by
      intro l
      induction l with
      | nil=>simp
      | cons x l ih =>
        simp only [List.filter_cons]
        by_cases h1:x ∈ seen
        · simp [h1]; simpa using ih
        · by_cases h2:x = b
          · subst h2; simp [h1]; simp at ih; omega
          · simp [h1,h2]; simpa using ih
    simp only [List.filter_cons]
    rcases List.mem_cons.1 hb with rfl | hb
    · have:=key bs
      simp [hn]; simp at this; omega
    · have ih:=ih hb
      by_cases h1:a ∈ seen
      · simp [h1]; simpa using ih
      · by_cases h2:a = b
        · have:=key bs
          subst h2
          simp [h1]; simp at this; omega
        · simp [h1,h2]; simpa using ih
end

theorem ew {β:Type} {t:Int} {b:β}:∀ {m:List (Int×β)},(az m).Nodup→(t,b) ∈ m→ag t m = some b
  | (k, c) :: r, hn, hm => by
    simp only [az,List.map_cons,List.nodup_cons] at hn
    simp only [ag]
    rcases List.mem_cons.1 hm with e | hm
    · cases e; simp
    · have:t≠k:=fun e=>hn.1 (e ▸ List.mem_map.2 ⟨(t,b),hm,rfl⟩)
      rw [if_neg this]; exact ew hn.2 hm
theorem fE {β:Type} {t:Int} {b:β}:∀ {m:List (Int×β)},ag t m = some b→(t,b) ∈ m
  | (k, c) :: r, h => by
    simp only [ag] at h
    split at h
    · rename_i e; subst e; cases h; simp
    · exact List.mem_cons_of_mem _ (fE h)

/-! Copies. -/
structure Cpd {B:Type} (m M:List (Int×B)) (bs seen:List Nat):Prop where
  le:∀ c v,ag c M = some v→ag c m = some v
  has:∀ (i:Nat) (hi:i < m.length) (b:Nat),bs[i]? = some b→b ∈ seen→ag m[i].1 M = some m[i].2
theorem Cpd.nil {B:Type} (m:List (Int×B)) (bs:List Nat):Cpd m [] bs []:=⟨fun c v h=>by simp [ag] at h,fun i hi b _ h=>by simp at h⟩
theorem Cpd.snoc {B:Type} {m M:List (Int×B)} {bs seen:List Nat} (h:Cpd m M bs seen) (hn:(az m).Nodup) (hb:bs.Nodup) {i b:Nat} (hi:i < m.length) (hbi:bs[i]? = some b):Cpd m (updP m[i].1 m[i].2 M) bs (seen++[b]):=by
  have hx:ag m[i].1 m = some m[i].2:=ew hn (List.getElem_mem hi)
  refine ⟨fun c v hc=>?_,fun j hj b' hbj hs=>?_⟩
  · rw [bX] at hc
    split at hc
    · rename_i e; subst e; rw [hx]; exact hc
    · exact h.le c v hc
  · rw [bX]
    split
    · rename_i e
      have hy:ag m[j].1 m = some m[j].2:=ew hn (List.getElem_mem hj)
      rw [e,hx] at hy
      rw [hy]
    · rename_i e
      rcases List.mem_append.1 hs with hs | hs
      · exact h.has j hj b' hbj hs
      · simp only [List.mem_singleton] at hs
        subst hs
        obtain ⟨p1,p2⟩:=List.getElem?_eq_some_iff.1 hbi
        obtain ⟨r1,r2⟩:=List.getElem?_eq_some_iff.1 hbj
        have:i = j:=(List.getElem_inj hb).1 (p2.trans r2.symm)
        subst this
        exact absurd rfl e
theorem Cpd.all {B:Type} {m M:List (Int×B)} {bs seen:List Nat} (h:Cpd m M bs seen) (hn:(az m).Nodup) (hl:bs.length = m.length) (ha:∀ b ∈ bs,b ∈ seen) (c:Int):ag c M = ag c m:=by
  cases hm:ag c m with
  | none =>
    cases hM:ag c M with
    | none=>rfl
    | some v=>have:=h.le c v hM; rw [hm] at this; cases this
  | some v =>
    obtain ⟨i,hi,e⟩:=List.getElem_of_mem (fE hm)
    have hb:bs[i]? = some bs[i]:=List.getElem?_eq_getElem (by omega)
    have:=h.has i hi _ hb (ha _ (List.getElem_mem (by omega)))
    rw [e] at this
    exact this

section
variable {st:St} {c q0 m0 q1 m1 wid:Nat} {bv:AV} {P:ChP}
/-- A copy of a channel: new boxes only. -/
theorem ccopy_calls (h:ChIs st c P q0 m0 q1 m1 wid bv) (hbl:P.buf.length≤100000):aA Go.Proofs.Try.prog n_f55 [.ptr c 0] st
    (fun r st'=>∃ c' q0' m0' q1' m1' wid' bv',r = .ptr c' 0∧ChIs st' c' P q0' m0' q1' m1' wid' bv'∧Kp st st' []∧∀ x ∈ [c',q0',q1',m0',m1',wid']++ae bv',st.boxes.length≤x):=by
  have hg:=h.get
  have hlt:=h.lts
  obtain ⟨W,hW,hWl⟩:=h.w
  obtain ⟨v1,v2,v3,v4,v5,v6,v7,v8⟩:=h.buf.facts
  refine ap hmix k_f55 rfl rfl fun Q hQ=>?_
  unfold aFun c_f55
  simp (config:=KF) (disch:=omega) only [bZ,id,↓reduceIte,reduceCtorEq]
  refine ao rfl e_f44 (cC h) rfl ?_
  simp (config:=KF) (disch:=omega) only [bZ,o_newB,ai,am,addA,aa,lT,fv,dt,cZ,↓reduceIte,Nat.reduceEqDiff,Nat.reduceAdd,Nat.reduceLeDiff,reduceCtorEq,bI,set_push,hg,v2,v4]
  have lc:c < st.boxes.length:=hlt c (by simp)
  have lq0:q0 < st.boxes.length:=hlt q0 (by simp)
  have lm0:m0 < st.boxes.length:=hlt m0 (by simp)
  have lq1:q1 < st.boxes.length:=hlt q1 (by simp)
  have lm1:m1 < st.boxes.length:=hlt m1 (by simp)
  have lw:wid < st.boxes.length:=hlt wid (by simp)
  obtain ⟨st1,hs1⟩:∃ s,s = st.push (.cells [.lit (.bool true),.lit (.bool P.closed),.lit (.int .i64 (P.cap:Nat)),bv,.ptr q0 0,.ptr q1 0,.map wid]):=⟨_,rfl⟩
  rw [← hs1]
  obtain ⟨n,hn⟩:∃ n,n = st.boxes.length:=⟨_,rfl⟩
  have hl1:st1.boxes.length = n + 1:=by rw [hs1,aK,hn]
  have hk1:∀ i,i < n→st1.boxes[i]? = st.boxes[i]?:=fun i hi=>by rw [hs1]; exact bu (by omega)
  have hc1:st1.get n = some [.lit (.bool true),.lit (.bool P.closed),.lit (.int .i64 (P.cap:Nat)),bv,.ptr q0 0,.ptr q1 0,.map wid]:=by rw [hs1,hn]; exact bI _ _
  clear hs1
  rw [← hn] at lc lq0 lm0 lq1 lm1 lw ⊢
  have lbi:∀ x ∈ ae bv,x < n:=fun x hx=>by rw [hn]; exact h.buf.lt x hx
  have hg1:st1.get c = _:=(bt (hk1 c lc)).trans hg
  have hb1:MB bv st1 (ints P.buf):=h.buf.at fun x hx=>hk1 x (lbi x hx)
  simp (config:=KF) (disch:=omega) only [bZ,id,↓reduceIte,Nat.reduceEqDiff,reduceCtorEq,hg1,v1]
  refine au (vs:=[bv]) (by simp [v1]) e_f52 (fW hb1 hbl) (by simp [v5]) fun bv' st2 hr=>?_
  obtain ⟨hb2,hl2,hk2,hi2⟩:=hr
  rw [hl1] at hl2 hk2 hi2
  obtain ⟨w1,w2,w3,w4,w5,w6,w7,w8⟩:=hb2.facts
  have hc2:st2.get n = _:=(bt (hk2 n (by omega))).trans hc1
  have ln2:n < st2.boxes.length:=by omega
  have hni:n ∉ ae bv':=fun e=>by have:=hi2 n e; omega
  simp (config:=KF) (disch:=omega) only [bZ,am,addA,↓reduceIte,Nat.reduceEqDiff,Nat.reduceAdd,Nat.reduceLeDiff,reduceCtorEq,hc2,w1,w4,w6]
  obtain ⟨st3,hs3⟩:∃ s,s = st2.set n [.lit (.bool true),.lit (.bool P.closed),.lit (.int .i64 (P.cap:Nat)),bv',.ptr q0 0,.ptr q1 0,.map wid]:=⟨_,rfl⟩
  rw [← hs3]
  have hl3:st3.boxes.length = st2.boxes.length:=by rw [hs3,cz]
  have hk3:∀ i,i≠n→st3.boxes[i]? = st2.boxes[i]?:=fun i hi=>by rw [hs3]; exact ce hi
  have hc3:st3.get n = some [.lit (.bool true),.lit (.bool P.closed),.lit (.int .i64 (P.cap:Nat)),bv',.ptr q0 0,.ptr q1 0,.map wid]:=by rw [hs3]; exact aS ln2
  clear hs3
  have hk03:∀ i,i < n→st3.boxes[i]? = st.boxes[i]?:=fun i hi=>(hk3 i (by omega)).trans ((hk2 i (by omega)).trans (hk1 i hi))
  have hg3:st3.get c = _:=(bt (hk03 c lc)).trans hg
  have hq03:QIs st3 q0 m0 (qOf P.S) P.g0:=h.s.at (hk03 _ lq0) (hk03 _ lm0)
  refine draw_s ?_
  simp (config:=KF) (disch:=omega) only [bZ,im,gx,kj,l8,gS,mm_ixA,e9,gy,ma,f9,lF,lG,iy,ai,addA,aa,id,List.nil_append,List.cons_append,↓reduceIte,Nat.reduceEqDiff,Int.reduceLT,Int.reduceLE,reduceCtorEq,hg3]
  refine mc rfl e_f70 (km hq03) rfl ?_
  simp (config:=KF) (disch:=omega) only [bZ,ksB,aR,bA,bQ,aT,nstB,bR,l8,gS,mm_ixA,e9,gy,l9,hm_none,hm_val,gA,ai,addA,aa,List.nil_append,List.cons_append,↓reduceIte,Nat.reduceEqDiff,Nat.reduceAdd,Int.reduceLT,Int.reduceLE,reduceCtorEq,hg3]
  rintro r st4 ⟨rfl,hq4,hl4,hk4⟩
  refine ⟨St.sub_of fun i hi=>hk4 i hi,?_⟩
  have hk04:∀ i,i < n→st4.boxes[i]? = st.boxes[i]?:=fun i hi=>(hk4 i (by omega)).trans (hk03 i hi)
  have hg4:st4.get c = _:=(bt (hk04 c lc)).trans hg
  have hq14:QIs st4 q1 m1 (qOf P.V) P.g1:=h.r.at (hk04 _ lq1) (hk04 _ lm1)
  have hc4:st4.get n = _:=(bt (hk4 n (by omega))).trans hc3
  simp (config:=KF) (disch:=omega) only [bZ,ksB,aR,bA,bQ,aT,cX,b9,nstB,bR,im,gx,kj,l8,gS,mm_ixA,e9,gy,gz,fB,compM_f,gB,ji,ai,addA,aa,id,List.nil_append,List.cons_append,↓reduceIte,Nat.reduceEqDiff,Nat.reduceAdd,Int.reduceLT,Int.reduceLE,reduceCtorEq,hg3]
  refine au rfl e_f70 (km hq14) rfl fun r st5 hr=>?_
  obtain ⟨rfl,hq5,hl5,hk5⟩:=hr
  have hc5:st5.get n = _:=(bt (hk5 n (by omega))).trans hc4
  have ln5:n < st5.boxes.length:=by omega
  obtain ⟨a0,ha0⟩:∃ a,a = st3.boxes.length:=⟨_,rfl⟩
  rw [← ha0] at hq4 hl4 hk4 ⊢
  rw [hl4] at hq5 hl5 hk5 ⊢
  have la0:n < a0:=by omega
  simp (config:=KF) (disch:=omega) only [bZ,o_bar,gO,ai,barV,am,addA,aa,lT,gP,ep,dt,cZ,↓reduceIte,Nat.reduceEqDiff,Nat.reduceAdd,Nat.reduceLeDiff,reduceCtorEq,cz,hc5]
  obtain ⟨st6,hs6⟩:∃ s,s = (st5.set n [.lit (.bool true),.lit (.bool P.closed),.lit (.int .i64 (P.cap:Nat)),bv',.ptr (a0 + 1) 0,.ptr (a0 + 2 + 1) 0,.map (wid)]).push (.mp [] [] 0):=⟨_,rfl⟩
  rw [← hs6]
  obtain ⟨wn,hwn⟩:∃ w,w = st5.boxes.length:=⟨_,rfl⟩
  rw [← hwn] at hl5 ln5 ⊢
  have hl6:st6.boxes.length = wn + 1:=by rw [hs6,aK,cz,hwn]
  have hc6:st6.get n = some [.lit (.bool true),.lit (.bool P.closed),.lit (.int .i64 (P.cap:Nat)),bv',.ptr (a0 + 1) 0,.ptr (a0 + 2 + 1) 0,.map (wid)]:=by rw [hs6,eh (by rw [cz]; omega)]; exact aS (by omega)
  have hk6:∀ i,i < wn→i≠n→st6.boxes[i]? = st5.boxes[i]?:=fun i hi hne=>by
    rw [hs6,bu (by rw [cz]; omega)]; exact ce hne
  have hm6:MapIs st6 wn .i64 wtAV []:=by
    have:=MapIs.new (st5.set n [.lit (.bool true),.lit (.bool P.closed),.lit (.int .i64 (P.cap:Nat)),bv',.ptr (a0 + 1) 0,.ptr (a0 + 2 + 1) 0,.map (wid)]) .i64 wtAV
    rw [cz,← hwn] at this
    rw [hs6]; exact this
  clear hs6
  simp (config:=KF) (disch:=omega) only [bZ,Nat.reduceAdd,Nat.reduceLeDiff,hc6]
  obtain ⟨st7,hs7⟩:∃ s,s = st6.set n [.lit (.bool true),.lit (.bool P.closed),.lit (.int .i64 (P.cap:Nat)),bv',.ptr (a0 + 1) 0,.ptr (a0 + 2 + 1) 0,.map (wn)]:=⟨_,rfl⟩
  rw [← hs7]
  have hk7:∀ i,i≠n→st7.boxes[i]? = st6.boxes[i]?:=fun i hi=>by rw [hs7]; exact ce hi
  have hc7:st7.get n = some [.lit (.bool true),.lit (.bool P.closed),.lit (.int .i64 (P.cap:Nat)),bv',.ptr (a0 + 1) 0,.ptr (a0 + 2 + 1) 0,.map (wn)]:=by rw [hs7]; exact aS (by omega)
  have hl7:st7.boxes.length = wn + 1:=by rw [hs7,cz]; exact hl6
  clear hs7
  have hk07:∀ i,i < n→st7.boxes[i]? = st.boxes[i]?:=fun i hi=>((hk7 i (by omega)).trans (hk6 i (by omega) (by omega))).trans ((hk5 i (by omega)).trans (hk04 i hi))
  have hm7:MapIs st7 wn .i64 wtAV []:=hm6.at (hk7 _ (by omega))
  have hq07:QIs st7 (a0 + 1) a0 (qOf P.S) P.g0:=((hq4.at (hk5 _ (by omega)) (hk5 _ (by omega))).at (hk6 _ (by omega) (by omega)) (hk6 _ (by omega) (by omega))).at (hk7 _ (by omega)) (hk7 _ (by omega))
  have hq17:QIs st7 (a0 + 2 + 1) (a0 + 2) (qOf P.V) P.g1:=(hq5.at (hk6 _ (by omega) (by omega)) (hk6 _ (by omega) (by omega))).at (hk7 _ (by omega)) (hk7 _ (by omega))
  have hb7:MB bv' st7 (ints P.buf):=hb2.at fun x hx=>by
    have q1:=hi2 x hx
    have q2:=hb2.lt x hx
    exact ((hk7 x (by omega)).trans (hk6 x (by omega) (by omega))).trans ((hk5 x (by omega)).trans ((hk4 x (by omega)).trans (hk3 x (by omega))))
  have hbx:∀ x ∈ ae bv',n < x∧x < a0:=fun x hx=>by
    have q1:=hi2 x hx
    have q2:=hb2.lt x hx
    omega
  have hg7:st7.get c = _:=(bt (hk07 c lc)).trans hg
  have hms:MapIs st7 wid .i64 wtAV W:=hW.at (hk07 wid lw)
  have hgm:=hms.get
  simp (config:=KF) (disch:=omega) only [bZ,o_x,bb,↓reduceIte,Nat.reduceEqDiff,reduceCtorEq,hg7]
  show rngX _ _ _
  unfold rngX
  simp only [hgm,Res.ofOpt,Res.wp,bB]
  simp (config:=KF) (disch:=omega) only [bZ,↓reduceIte,Nat.reduceEqDiff,reduceCtorEq]
  rw [f55_21w]
  refine bj (A:=List Nat×Nat×List (Int×Int×Int×Nat)×St) (fun a=>left (st7.getB wid).1 a.1) (fun a=>⟨[(3,.ptr n 0),(37,.mit (some wid) (st7.getB wid).2 a.1 a.2.1)],[]⟩) (fun a=>a.2.2.2)
    (fun a=>Cpd W a.2.2.1 (st7.getB wid).1 a.1∧MapIs a.2.2.2 wn .i64 wtAV a.2.2.1∧Oth st7 a.2.2.2 [wn]) ([],(st7.getB wid).2,[],st7) ⟨.nil _ _,hm7,.refl _ _⟩ (Sf.le_refl _) rfl ?_
  rintro ⟨seen,stp,M,s⟩ ⟨h1,h2,h3⟩ K hK hKe hKr
  simp only at h1 h2 h3
  dsimp only
  have hB:s.getB wid = st7.getB wid:=oM (h3.2 wid (by simp; omega))
  have hms':MapIs s wid .i64 wtAV W:=hms.at (h3.2 wid (by simp; omega))
  have hcs:s.get n = _:=(bt (h3.2 n (by simp; omega))).trans hc7
  rw [← hB]
  simp (config:=KF) (disch:=omega) only [bZ,o_x,bb,↓reduceIte,Nat.reduceEqDiff]
  refine nxt_step hms' (fun i hi k hk hn=>?_) fun hd=>?_
  · simp (config:=KF) (disch:=omega) only [bZ,o_x,bb,↓reduceIte,Nat.reduceEqDiff]
    refine ent_step hms' hi hk ?_
    rw [bB]
    simp (config:=KF) (disch:=omega) only [bZ,gb,am,addA,aa,dI,↓reduceIte,Nat.reduceEqDiff,Nat.reduceAdd,Nat.reduceLeDiff,wtAV,hcs]
    refine cE h2 (b:=W[i].2) rfl rfl fun s' hm' ho'=>?_
    simp (config:=KF) (disch:=omega) only [bZ,↓reduceIte,Nat.reduceEqDiff]
    rw [hB] at hk ⊢
    exact hK (seen++[k],_,updP W[i].1 W[i].2 M,s') _ ⟨h1.snoc hms.nd hms.bn hi hk,hm',h3.trans ho'⟩ (left_lt (List.mem_of_getElem? hk) hn) (Sf.le_refl _)
  · simp (config:=KF) (disch:=omega) only [bZ,aH,bf,↓reduceIte,Nat.reduceEqDiff]
    refine hKe _ _ _ ?_
    simp (config:=KF) (disch:=omega) only [bZ,retI,fU,↓reduceIte,Nat.reduceEqDiff]
    rw [hB] at hd
    have hall:=h1.all hms.nd hms.bl hd
    have hat:∀ x,x≠wn→s.boxes[x]? = st7.boxes[x]?:=fun x hx=>h3.2 x (by simpa using hx)
    refine hQ _ _ ⟨n,a0 + 1,a0,a0 + 2 + 1,a0 + 2,wn,bv',rfl,⟨hcs,hb7.at fun x hx=>hat x (by have:=hbx x hx; omega),hq07.at (hat _ (by omega)) (hat _ (by omega)),hq17.at (hat _ (by omega)) (hat _ (by omega)),⟨M,h2,fun t=>(hall t).trans (hWl t)⟩,?_,fun x hx=>?_,h.nd,h.rng,h.zv⟩,⟨by have:=h3.1; omega,fun i hi _=>(hat i (by omega)).trans (hk07 i (by omega))⟩,fun x hx=>?_⟩
    · simp; omega
    · have:=hbx x hx
      simp; omega
    · rcases List.mem_append.1 hx with hx | hx
      · simp only [List.mem_cons,List.not_mem_nil,or_false] at hx
        omega
      · have:=hbx x hx
        omega
end
end Go.Fx.YtbomoaajkinfpaaFx

