/- What the functions that the statement reaches compute: part 7. -/
import Derived.Test.YtbdjfccgkdgbfaaFxW6
namespace Go.Fx.YtbdjfccgkdgbfaaFx
open Go Go.Fx
attribute [local irreducible] aC runI az ar

set_option maxRecDepth 100000
set_option maxHeartbeats 4000000

/-! A call at each subscriber of a topic. -/
section
variable {st:St} {h wid:Nat} {L:List (Option SL)} {Qs:List QL} {M:List (Int×WE)}
theorem oh (hh:HubIs st h wid L Qs M) (topic:Int) (g:Nat) (hent:dl Go.Proofs.Try.prog g = true) (cs:List AV) (hcs:(AV.fn (.func g) [] cs).dis = .fn (.func g) [] cs∧(AV.fn (.func g) [] cs).noL = true) (J:Nat→St→Prop) (h0:J 0 st)
  (hget:∀ (i:Nat) (s1:St) (j:Nat) (x:SL),J i s1→L[j]? = some (some x)→∃ r,s1.get x.s = some (.lit (.int .i64 x.S.topic)::r))
  (hstep:∀ (i:Nat) (s1:St) (x:SL),L[i]? = some (some x)→x.S.topic = topic→J i s1→am Go.Proofs.Try.prog g ([]++[.ptr x.s 0]++cs) s1 (fun _ s2=>J (i + 1) s2))
  (hskip:∀ (i:Nat) (s1:St),i < 64→(∀ x:SL,L[i]? = some (some x)→x.S.topic≠topic)→J i s1→J (i + 1) s1) :
  am Go.Proofs.Try.prog n_f61 [.ptr h 0,.lit (.int .i64 topic),.fn (.func g) [] cs] st (fun _ st'=>J 64 st'):=by
 have hg:=hh.get
 have hl:=hh.l64
 obtain ⟨c1,c2⟩:=hcs
 have ht:=hub_t (Qs:=Qs) wid hl
 have hlen:=jf wid hl hh.q16
 refine ap hmix k_f61 rfl rfl fun Q hQ=>?_
 unfold aFun c_f61
 have hown:(L.map ptrO).map AV.own1 = L.map ptrO:=by
  rw [List.map_map]
  exact List.map_congr_left fun x _=>(eQ x).2.1
 simp (config:=KF) (disch:=omega) only [bZ,al,addA,ae,↓reduceIte,Nat.reduceEqDiff,Nat.reduceAdd,Nat.reduceLeDiff,reduceCtorEq,hg,c1,ht,hlen,hown]
 rw [f61_4w]
 refine a8 (A:=Nat×St) (fun a=>64 - a.1) (fun a=>⟨[(1,.lit (.int .i64 topic)),(2,.fn (.func g) [] cs),(11,.agg (L.map ptrO)),(12,.lit (.int .i64 (a.1:Nat)))],[]⟩) (fun a=>a.2)
  (fun a=>a.1≤64∧J a.1 a.2) (0,st) ⟨Nat.zero_le _,h0⟩ (Sf.le_refl _) rfl ?_
 rintro ⟨i,s1⟩ ⟨h1,h2⟩ K hK hKe hKr
 simp only at h1 h2
 dsimp only
 by_cases hi:i < 64
 ·have hx:L[i]? = some L[i]:=List.getElem?_eq_getElem (by omega)
  have hd:∃ r,(L.map ptrO).drop i = ptrO L[i]::r:=by
   rw [List.drop_eq_getElem_cons (by rw [List.length_map]; omega),List.getElem_map]
   exact ⟨_,rfl⟩
  obtain ⟨r,hd⟩:=hd
  obtain ⟨p1,p2,p3,p4,p5,p6,p7⟩:=eQ L[i]
  cases he:L[i] with
  | none =>
    rw [he] at hx hd
    have hd':(L.map ptrO).drop i = .lit (.pointer none)::r:=hd
    simp (config:=KF) (disch:=omega) only [bZ,AI.dst,cP,dy,eU,bp,aY,↓reduceIte,Nat.reduceEqDiff,hd']
    exact hK (i + 1,s1) _ ⟨by simp only; omega,hskip i s1 hi (fun x hx'=>by rw [hx] at hx'; cases hx') h2⟩ (by simp only; omega) (Sf.le_refl _)
  | some x =>
    rw [he] at hx hd
    have hd':(L.map ptrO).drop i = .ptr x.s 0::r:=hd
    obtain ⟨rr,hgx⟩:=hget i s1 i x h2 hx
    simp (config:=KF) (disch:=omega) only [bZ,AI.dst,cP,dy,al,eU,bp,aY,addA,ae,↓reduceIte,Nat.reduceEqDiff,hd',hgx]
    refine aS (fun h3=>?_) (fun h3=>?_)
    ·simp (config:=KF) (disch:=omega) only [bZ,↓reduceIte,Nat.reduceEqDiff,c1]
     refine aq rfl hent (hstep i s1 x hx h3 h2) (by simp [bT]) fun w s2 hr=>?_
     simp (config:=KF) (disch:=omega) only [bZ,↓reduceIte,Nat.reduceEqDiff]
     exact hK (i + 1,s2) _ ⟨by simp only; omega,hr⟩ (by simp only; omega) (Sf.le_refl _)
    ·simp (config:=KF) (disch:=omega) only [bZ,↓reduceIte,Nat.reduceEqDiff]
     exact hK (i + 1,s1) _ ⟨by simp only; omega,hskip i s1 hi (fun y hy=>by rw [hx] at hy; cases hy; exact h3) h2⟩ (by simp only; omega) (Sf.le_refl _)
 ·obtain rfl:i = 64:=by omega
  simp (config:=KF) (disch:=omega) only [bZ,↓reduceIte,Nat.reduceEqDiff,Int.reduceLT]
  refine hKe _ _ _ ?_
  simp (config:=KF) (disch:=omega) only [bZ,bX,retI,↓reduceIte]
  exact hQ _ _ h2

/-! Can a message be published. -/
def canL (topic:Int) (n:Nat) (L:List (Option SL)):Bool:=L.all fun o=>match o with
 | none=>true
 | some x=>!(decide (x.S.topic = topic) && (decide (x.S.pol = 3) && (decide (n + 2≤x.S.room) && !decide (used x.S.msgs + (n + 2)≤x.S.room))))
theorem can1_calls {x:SL} (hx:x.is st) {v:AV} {p:List UInt8} (hv:DV v st p) (hp:p.length≤100000) {b1 b2:Nat} {is:Bool} (hb1:st.get b1 = some [v]) (hb2:st.get b2 = some [.lit (.bool is)]) (hne:b2 ∉ x.ids) :
  am Go.Proofs.Try.prog n_f62 [.ptr x.s 0,.ptr b1 0,.ptr b2 0] st (fun _ st'=>st' = st.set b2 [.lit (.bool (is && !(decide (x.S.pol = 3) && (decide (p.length + 2≤x.S.room) && !decide (used x.S.msgs + (p.length + 2)≤x.S.room)))))]):=by
 have hg:=SbIs.get hx
 obtain ⟨v1,v2,v3,v4,v5,v6,v7,v8⟩:=hv.facts
 have hl2:=bw hb2
 refine ap hmix k_f62 rfl rfl fun Q hQ=>?_
 unfold aFun c_f62
 have hfp:=lF hx hv hp
 generalize decide (used x.S.msgs + (p.length + 2)≤x.S.room) = now at hQ hfp
 generalize decide (p.length + 2≤x.S.room) = ever at hQ hfp
 simp (config:=KF) (disch:=omega) only [bZ,ae,id,↓reduceIte,Nat.reduceEqDiff,Nat.reduceAdd,reduceCtorEq,hb1,v1]
 refine ak (vs:=[.ptr x.s 0,v]) (by simp [v1]; rfl) e_f63 hfp (by simp [v5]; rfl) ?_
 have hset:st.set b2 [.lit (.bool is)] = st:=iL hb2
 simp (config:=KF) (disch:=omega) only [bZ,AI.dst,al,addA,ae,↓reduceIte,Nat.reduceEqDiff,reduceCtorEq,hg]
 refine b8 (fun h1=>?_) (fun h1=>?_)
 ·rw [decide_eq_true h1] at hQ
  cases ever <;> cases now <;> simp only [Bool.true_and,Bool.and_true,Bool.not_true,Bool.not_false,Bool.and_false,Bool.false_and] at hQ
  all_goals
   simp (config:=KF) (disch:=omega) only [bZ,bX,retI,AI.dst,ah,unA,qg,qh,↓reduceIte,Nat.reduceEqDiff,Nat.reduceLeDiff,reduceCtorEq,af,aa,hb2]
   first | exact hQ _ _ rfl | exact hQ _ _ hset.symm
 ·rw [decide_eq_false h1] at hQ
  simp only [Bool.false_and,Bool.not_false,Bool.and_true] at hQ
  simp (config:=KF) (disch:=omega) only [bZ,bX,retI,AI.dst,↓reduceIte,Nat.reduceEqDiff,reduceCtorEq]
  exact hQ _ _ hset.symm

theorem pH (hh:HubIs st h wid L Qs M) (topic:Int) {v:AV} {p:List UInt8} (hv:DV v st p) (hp:p.length≤100000) :
  am Go.Proofs.Try.prog n_f45 [.ptr h 0,.lit (.int .i64 topic),v] st (fun w st'=>w = .lit (.bool (canL topic p.length L))∧Kp st st' []):=by
 obtain ⟨v1,v2,v3,v4,v5,v6,v7,v8⟩:=hv.facts
 refine ap hmix k_f45 rfl rfl fun Q hQ=>?_
 unfold aFun c_f45
 have vs2:AV.solid v = true:=by
  rw [nI,v6]; simp [v4]
 have hge:((st.push (.cells [v])).push (.cells [.lit (.bool false)])).get (st.boxes.length + 1) = some [.lit (.bool false)]:=by
  have:=bq (st.push (.cells [v])) [.lit (.bool false)]
  rw [aE] at this; exact this
 have hse:((st.push (.cells [v])).push (.cells [.lit (.bool false)])).set (st.boxes.length + 1) [.lit (.bool true)] = (st.push (.cells [v])).push (.cells [.lit (.bool true)]):=by
  have:=kG (st.push (.cells [v])) (.cells [.lit (.bool false)]) [.lit (.bool true)]
  rw [aE] at this; exact this
 simp (config:=KF) (disch:=omega) only [bZ,o_mkfn,o_newB,jM,mkfnV,ah,qg,qh,id,List.nil_append,↓reduceIte,Nat.reduceEqDiff,Nat.reduceAdd,Nat.reduceLeDiff,reduceCtorEq,aE,af,aa,f45_1e,v1,v4,v6,hge,hse]
 obtain ⟨n,hn⟩:∃ n,n = st.boxes.length:=⟨_,rfl⟩
 obtain ⟨base,hbase⟩:∃ s,s = (st.push (.cells [v])).push (.cells [.lit (.bool true)]):=⟨_,rfl⟩
 rw [← hn,← hbase]
 have hlt:=hh.lts
 have hb1:base.get n = some [v]:=by rw [hbase,bU (by rw [aE]; omega),hn]; exact bq _ _
 have hb2:base.get (n + 1) = some [.lit (.bool true)]:=by
  have:=bq (st.push (.cells [v])) [.lit (.bool true)]
  rw [aE] at this; rw [hbase,hn]; exact this
 have hbl:base.boxes.length = n + 2:=by rw [hbase,aE,aE,hn]
 have hbo:∀ i,i < n→base.boxes[i]? = st.boxes[i]?:=fun i hi=>by rw [hbase,bG (by rw [aE]; omega),bG (by omega)]
 have hat:∀ (c:List AV) i,i < n→(base.set (n + 1) c).boxes[i]? = st.boxes[i]?:=fun c i hi=>(bP (by omega)).trans (hbo i hi)
 have hlim:∀ b ∈ ba h wid L Qs,b < n:=fun b hb=>by rw [hn]; exact hlt b hb
 have h64:=hh.l64
 have hstep1:∀ i,i < 64→∀ o,L[i]? = some o→canL topic p.length (L.take (i + 1)) = (canL topic p.length (L.take i) && canL topic p.length [o]):=fun i hi o ho=>by
  obtain ⟨a1,a2⟩:=List.getElem?_eq_some_iff.1 ho
  rw [List.take_succ_eq_append_getElem a1,a2]
  unfold canL
  rw [List.all_append]
 refine aq rfl e_f61 (oh (HubIs.kp hh (F:=[]) ⟨by omega,fun i hi _=>hbo i (by omega)⟩ fun _ _ e=>by cases e) topic 62 e_f62 [.ptr n 0,.ptr (n + 1) 0] ⟨rfl,rfl⟩
  (fun i s1=>s1 = base.set (n + 1) [.lit (.bool (canL topic p.length (L.take i)))]) ?_ ?_ ?_ ?_) rfl fun w s1 hr=>?_
 ·rw [List.take_zero]
  exact (iL hb2).symm
 ·rintro i s1 j x rfl hj
  have hx:=hh.sub j x hj
  have:=hlim x.s (ai.2 (.inr (.inr (.inl ⟨j,x,hj,by simp [SL.ids]⟩))))
  exact ⟨_,(ck (hat _ _ this)).trans (SbIs.get hx)⟩
 ·rintro i s1 x hx hxt rfl
  have hxi:=hh.sub i x hx
  have hxl:∀ b ∈ x.ids,b < n:=fun b hb=>hlim b (ai.2 (.inr (.inr (.inl ⟨i,x,hx,hb⟩))))
  have hil:i < 64:=by have:=(List.getElem?_eq_some_iff.1 hx).1; omega
  refine (can1_calls (st:=base.set (n + 1) [.lit (.bool (canL topic p.length (L.take i)))]) (SL.at hxi fun b hb=>hat _ b (hxl b hb)) (hv.at fun b hb=>hat _ b (by rw [hn]; exact hv.lt b hb)) hp (b1:=n) (b2:=n + 1) ((cu (by omega)).trans hb1) (aG (by omega)) (fun e=>by have:=hxl _ e; omega)).mono fun w s2 e=>?_
  rw [e,eV,hstep1 i hil _ hx]
  simp [canL,hxt]
 ·rintro i s1 hi hno rfl
  have hx:L[i]? = some L[i]:=List.getElem?_eq_getElem (by omega)
  rw [hstep1 i hi _ hx]
  cases he:L[i] with
  | none=>simp [canL]
  | some x =>
    have:=hno x (by rw [hx,he])
    simp [canL,this]
 ·have hg7:s1.get (n + 1) = some [.lit (.bool (canL topic p.length L))]:=by
   rw [hr,List.take_of_length_le (by omega)]
   exact aG (by omega)
  simp (config:=KF) (disch:=omega) only [bZ,retI,ae,↓reduceIte,Nat.reduceEqDiff,reduceCtorEq,hg7]
  refine hQ _ _ ⟨rfl,by rw [hr,du,hbl]; omega,fun i hi _=>?_⟩
  rw [hr]
  exact hat _ i (by omega)
end
end Go.Fx.YtbdjfccgkdgbfaaFx

