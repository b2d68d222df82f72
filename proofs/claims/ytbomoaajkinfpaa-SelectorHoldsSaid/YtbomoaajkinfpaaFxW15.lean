/- What the functions that the statement reaches compute: part 15. -/
import Derived.Test.YtbomoaajkinfpaaFxW14
namespace Go.Fx.YtbomoaajkinfpaaFx
open Go Go.Fx
attribute [local irreducible] aC runI aw aB

set_option maxRecDepth 100000
set_option maxHeartbeats 4000000

/-! Who waits where. -/
def onC (i:Int) (d:Bool) (x:Cs):Bool:=decide (x.1 = i) && x.2.1 == d
def qW (i:Int) (d:Bool) (w:Wt):Option (Int×Int):=(w.2.find? (onC i d)).map fun x=>(w.1,if d = true then x.2.2 else 0)
def qD (ws:List Wt) (i:Int) (d:Bool):List (Int×Int):=ws.filterMap (qW i d)
def Rel (L:List CL) (f:Nat→List Wt):Prop:=∀ (i:Nat) x,L[i]? = some x→x.P.S.map (·.2) = qD (f i) i true∧x.P.V.map (·.2) = qD (f i) i false
def wo (t:Int) (ws:List Wt):List Wt:=ws.filter fun w=>w.1 != t
def obs (L:List CL):List (Nat×List Int×Bool):=L.map fun x=>(x.P.cap,x.P.buf,x.P.closed)
def BdL (L:List CL) (n:Nat):Prop:=∀ x ∈ L,Bd x.P n

theorem fX {i:Int} {d:Bool} {w:Wt} {p:Int×Int} (h:qW i d w = some p):p.1 = w.1:=by
  unfold qW at h
  obtain ⟨x,_,rfl⟩:=Option.map_eq_some_iff.1 h
  rfl
theorem ko (t:Int) (i:Int) (d:Bool):∀ ws:List Wt,qD (wo t ws) i d = (qD ws i d).filter fun p=>p.1 != t
  | []=>rfl
  | w :: ws => by
    have ih:=ko t i d ws
    unfold qD wo at *
    by_cases h:w.1 = t
    · simp only [List.filter_cons,h,bne_self_eq_false,Bool.false_eq_true,if_false,List.filterMap_cons]
      cases hq:qW i d w with
      | none=>exact ih
      | some p =>
        have:=fX hq
        simp only [List.filter_cons,this,h,bne_self_eq_false,Bool.false_eq_true,if_false]
        exact ih
    · have hb:(w.1 != t) = true:=by simpa using h
      simp only [List.filter_cons,hb,if_true,List.filterMap_cons]
      cases hq:qW i d w with
      | none=>exact ih
      | some p =>
        have:=fX hq
        have hb2:(p.1 != t) = true:=by rw [this]; exact hb
        simp only [List.filter_cons,hb2,if_true]
        rw [ih]
theorem wo_wo (t:Int) (ws:List Wt):wo t (wo t ws) = wo t ws:=by simp [wo,List.filter_filter]
/-- One who has no case at a channel. -/
theorem qD_wo_no {t:Int} {i:Int} {d:Bool} {ws:List Wt} (h:∀ w ∈ ws,w.1 = t→∀ x ∈ w.2,x.1≠i):qD (wo t ws) i d = qD ws i d:=by
  rw [ko,List.filter_eq_self]
  intro p hp
  simp only [bne_iff_ne,ne_eq]
  intro he
  unfold qD at hp
  obtain ⟨w,hw,hq⟩:=List.mem_filterMap.1 hp
  have h1:=fX hq
  unfold qW at hq
  obtain ⟨x,hx,_⟩:=Option.map_eq_some_iff.1 hq
  have h2:=List.find?_some hx
  simp only [onC,Bool.and_eq_true,decide_eq_true_eq] at h2
  exact h w hw (by rw [← h1]; exact he) x (List.mem_of_find?_eq_some hx) h2.1

theorem pCancel_eq {st:St} {c q0 m0 q1 m1 wid:Nat} {bv:AV} {P:ChP} (h:ChIs st c P q0 m0 q1 m1 wid bv) (t:Int):(fV P t).1 = { P with S:=P.S.filter (fun x=>x.2.1 != t),V:=P.V.filter (fun x=>x.2.1 != t) }:=by
  have hno:t ∉ az (entC P.S P.V)→P.S.filter (fun x=>x.2.1 != t) = P.S∧P.V.filter (fun x=>x.2.1 != t) = P.V:=fun hn=>by
    simp only [entC,d9,List.mem_append,not_or] at hn
    exact ⟨ec hn.1,ec hn.2⟩
  unfold fV
  by_cases h1:chk P t = 11
  · rw [if_pos h1]
  · rw [if_neg h1]
    have hn:t ∉ az (entC P.S P.V):=fun hin=>by
      have:=h.rng t hin
      apply h1
      unfold chk
      rw [if_neg (by omega),if_pos hin]
    obtain ⟨e1,e2⟩:=hno hn
    rw [e1,e2]
    split <;> rfl

theorem oQ {L:List CL} {i:Nat} {x:CL} (hi:L[i]? = some x) {y:CL} (hc:y.P.cap = x.P.cap) (hb:y.P.buf = x.P.buf) (hl:y.P.closed = x.P.closed):obs (L.set i y) = obs L:=by
  apply List.ext_getElem?
  intro j
  simp only [obs,List.getElem?_map,List.getElem?_set]
  by_cases e:i = j
  · subst e
    have hil:=(List.getElem?_eq_some_iff.1 hi).1
    simp only [if_true,hil,hi,Option.map_some,hc,hb,hl]
  · simp [e]
theorem BdL.set {L:List CL} {n:Nat} (h:BdL L n) {i:Nat} {y:CL} (hy:Bd y.P n):BdL (L.set i y) n:=fun z hz=>by
  rcases List.mem_or_eq_of_mem_set hz with hz | rfl
  · exact h z hz
  · exact hy
theorem Rel.set {L:List CL} {f:Nat→List Wt} (h:Rel L f) {i:Nat} {y:CL} {ws':List Wt} (h1:y.P.S.map (·.2) = qD ws' i true) (h2:y.P.V.map (·.2) = qD ws' i false):Rel (L.set i y) fun j=>if j = i then ws' else f j:=by
  intro j z hz
  rw [List.getElem?_set] at hz
  by_cases e:i = j
  · subst e
    simp only [if_true] at hz ⊢
    split at hz
    · cases hz; exact ⟨h1,h2⟩
    · cases hz
  · rw [if_neg e] at hz
    have e2:¬ j = i:=fun q=>e q.symm
    simp only [e2,if_false]
    exact h j z hz
/-- A case of a channel is among them. -/
def hasC (l:List Cs) (i:Nat):Bool:=l.any fun x=>decide (x.1 = (i:Int))

theorem ez {L:List CL} {i:Nat} {x:CL} (h:L[i]? = some x) (r:List AV):(ptrs L++r).drop i = .ptr x.c 0::(ptrs L++r).drop (i + 1):=by
  obtain ⟨hi,hx⟩:=List.getElem?_eq_some_iff.1 h
  have hk:i < (ptrs L++r).length:=by simp [ptrs]; omega
  rw [List.drop_eq_getElem_cons hk,List.getElem_append_left (by simpa [ptrs] using hi)]
  simp [ptrs,hx]

theorem eR (t u:Int):∀ ws:List Wt,ag u (wo t ws) = if u = t then none else ag u ws
  | []=>by simp [wo,ag]
  | (k, c) :: ws => by
    have ih:=eR t u ws
    unfold wo at *
    simp only [List.filter_cons]
    by_cases h:k = t
    · simp only [h,bne_self_eq_false,Bool.false_eq_true,if_false,ih,ag]
      by_cases e:u = t <;> simp [e]
    · have hb:(k != t) = true:=by simpa using h
      simp only [hb,if_true,ag,ih]
      by_cases e:u = k
      · subst e; simp [h]
      · simp [e]

theorem kq {st:St} {s mid n:Nat} {cv ov:AV} {L:List CL} {ws:List Wt} (h:SelIs st s mid cv ov L ws) (hb:BdL L n) (hn:n < 100000) (hwl:ws.length < 100000) {t but:Int} {l:List Cs} (hl:ag t ws = some l) (hll:l.length < 100000) (hlr:∀ x ∈ l,0≤x.1∧x.1 < (L.length:Int))
    {f:Nat→List Wt} (hr:Rel L f) (hf:∀ i:Nat,(i:Int)≠but→f i = ws) (hnd:(ws.map (·.1)).Nodup) :
    aA Go.Proofs.Try.prog n_f58 [.ptr s 0,.lit (.int .i64 t),.lit (.int .i64 but)] st (fun r st'=>r = .tup []∧∃ L',dK st s mid cv ov L st' L' (wo t ws)∧Rel L' (fun i=>if (i:Int) = but then f i else wo t ws)∧obs L' = obs L∧BdL L' n):=by
  refine ap hmix k_f58 rfl rfl fun Q hQ=>?_
  unfold aFun c_f58
  have hg:=h.get
  obtain ⟨M,hM,hMl⟩:=h.mp
  have hlt:=h.lts
  obtain ⟨v1,v2,v3,v4,v5,v6,v7⟩:=cg l
  have v8:∀ st',lenI .sl st' (csSl l) = .ok (.lit (.int .i64 (l.length:Nat))):=fun st'=>by
    unfold csSl
    split
    · rename_i e; subst e; rfl
    · simp [lenI]
  simp (config:=KF) (disch:=omega) only [bZ,aU,iD,ai,addA,aa,↓reduceIte,Nat.reduceEqDiff,Nat.reduceAdd,reduceCtorEq,f58_1e]
  obtain ⟨st1,hs1⟩:∃ s1,s1 = st.push (.cells [.lit (.int .i64 t)]):=⟨_,rfl⟩
  rw [← hs1]
  obtain ⟨tb,htb⟩:∃ b,b = st.boxes.length:=⟨_,rfl⟩
  rw [← htb]
  have hl1:st1.boxes.length = tb + 1:=by rw [hs1,aK,htb]
  have hk1:Kp st st1 []:=⟨by omega,fun i hi _=>by rw [hs1]; exact bu hi⟩
  have ht1:st1.get tb = some [.lit (.int .i64 t)]:=by rw [hs1,htb]; exact bI _ _
  clear hs1
  have h1:SelIs st1 s mid cv ov L ws:=h.kp hk1 fun _ _ e=>by cases e
  have hg1:=h1.get
  obtain ⟨M1,hM1,hMl1⟩:=h1.mp
  have hk:∀ z,aZ (.int .i64) z false st1 (.map mid) (.lit (.int .i64 t)) = .ok (csSl l):=fun z=>by
    rw [aW hM1,hMl1,hl]; simp [v1]
  simp (config:=KF) (disch:=omega) only [bZ,dT,oJ,aa,↓reduceIte,Nat.reduceEqDiff,reduceCtorEq,hg1,ht1,hk,v8]
  rw [f58_7w]
  have hids1:∀ x ∈ ah s mid cv ov L,x ∈ ah s mid cv ov L∨st1.boxes.length≤x:=fun x hx=>.inl hx
  have htn:∀ x ∈ ah s mid cv ov L,x≠tb:=fun x hx e=>by have:=hlt x hx; omega
  refine bj (A:=Nat×List CL×AV×AV×St) (fun a=>l.length - a.1) (fun a=>⟨[(0,.ptr s 0),(2,.lit (.int .i64 but)),(4,.ptr tb 0),(13,csSl l),(14,.lit (.int .i64 (l.length:Nat))),(15,.lit (.int .i64 (a.1:Nat)))],[]⟩) (fun a=>a.2.2.2.2)
    (fun a=>a.1≤l.length∧a.2.1.length = L.length∧SelIs a.2.2.2.2 s mid a.2.2.1 a.2.2.2.1 a.2.1 ws∧Kp st1 a.2.2.2.2 (ah s mid cv ov L)∧(∀ x ∈ ah s mid a.2.2.1 a.2.2.2.1 a.2.1,x ∈ ah s mid cv ov L∨st1.boxes.length≤x) ∧
      Rel a.2.1 (fun i=>if (i:Int)≠but∧hasC (l.take a.1) i = true then wo t ws else f i)∧obs a.2.1 = obs L∧BdL a.2.1 n)
    (0,L,cv,ov,st1) ⟨Nat.zero_le _,rfl,h1,Kp.refl _ _,hids1,by simpa [hasC] using hr,rfl,hb⟩ (Sf.le_refl _) rfl ?_
  · rintro ⟨k,L1,cv1,ov1,s1⟩ ⟨a1,a2,a3,a4,a5,a6,a7,a8⟩ K hK hKe hKr
    simp only at a1 a2 a3 a4 a5 a6 a7 a8
    try dsimp only
    have hgs:=a3.get
    have hts:s1.get tb = some [.lit (.int .i64 t)]:=(bt (a4.2 tb (by omega) fun e=>htn _ e rfl)).trans ht1
    simp (config:=KF) (disch:=omega) only [bZ,↓reduceIte,Nat.reduceEqDiff,reduceCtorEq]
    by_cases hk:k < l.length
    · rw [decide_eq_true (show (k:Int) < (l.length:Int) by omega)]
      have hne:l≠[]:=fun e=>by subst e; simp at hk
      have hv:csSl l = .sl false 3 (l.map csAV):=if_neg hne
      have hgd:(l.map csAV).getD k .any = csAV l[k]:=by simp [hk]
      obtain ⟨r1,r2⟩:=hlr l[k] (List.getElem_mem hk)
      obtain ⟨i,hi⟩:∃ i:Nat,l[k].1 = (i:Int):=⟨l[k].1.toNat,by omega⟩
      have hil:i < L1.length:=by omega
      have hx:L1[i]? = some L1[i]:=List.getElem?_eq_getElem hil
      have hck:∀ z:Nat,l[k].1 = (z:Int)↔z = i:=fun z=>by omega
      have htk:∀ j:Nat,hasC (l.take (k + 1)) j = (hasC (l.take k) j || decide (j = i)):=fun j=>by
        unfold hasC
        rw [List.take_succ_eq_append_getElem hk,List.any_append]
        simp only [List.any_cons,List.any_nil,Bool.or_false]
        congr 1
        exact decide_eq_decide.2 (hck j)
      have hnext:∀ (L2:List CL) (cv2 ov2:AV) (s2:St),L2.length = L.length→SelIs s2 s mid cv2 ov2 L2 ws→Kp st1 s2 (ah s mid cv ov L)→(∀ x ∈ ah s mid cv2 ov2 L2,x ∈ ah s mid cv ov L∨st1.boxes.length≤x) →
          Rel L2 (fun i=>if (i:Int)≠but∧hasC (l.take (k + 1)) i = true then wo t ws else f i)→obs L2 = obs L→BdL L2 n →
          K .normal ⟨[(0,.ptr s 0),(2,.lit (.int .i64 but)),(4,.ptr tb 0),(13,csSl l),(14,.lit (.int .i64 (l.length:Nat))),(15,.lit (.int .i64 ((k + 1:Nat):Int)))],[]⟩ s2:=fun L2 cv2 ov2 s2 b1 b2 b3 b4 b5 b6 b7 =>
        hK (k + 1,L2,cv2,ov2,s2) _ ⟨by simp only; omega,b1,b2,b3,b4,b5,b6,b7⟩ (by simp only; omega) (Sf.le_refl _)
      rw [hv] at hnext ⊢
      simp (config:=KF) (disch:=omega) only [bZ,ixSV,am,addA,aa,b8,bN,↓reduceIte,Nat.reduceEqDiff,Nat.reduceAdd,Nat.reduceLeDiff,reduceCtorEq,hgd,csAV,hi]
      by_cases hbt:(i:Int) = but
      · have e1:decide ((i:Int)≠but) = false:=by simp [hbt]
        simp (config:=KF) (disch:=omega) only [bZ,↓reduceIte,Nat.reduceEqDiff,reduceCtorEq,e1]
        refine hnext L1 cv1 ov1 s1 a2 a3 a4 a5 ?_ a7 a8
        intro j x hj
        have:=a6 j x hj
        have e:((j:Int)≠but∧hasC (l.take (k + 1)) j = true)↔((j:Int)≠but∧hasC (l.take k) j = true):=by
          rw [htk,Bool.or_eq_true,decide_eq_true_eq]
          constructor
          · rintro ⟨h1,h2 | rfl⟩
            · exact ⟨h1,h2⟩
            · exact absurd hbt h1
          · rintro ⟨h1,h2⟩; exact ⟨h1,.inl h2⟩
        simp only [e]
        exact this
      · have e1:decide ((i:Int)≠but) = true:=by simp [hbt]
        have hbuf:=a3.chs
        rcases hbuf with ⟨rfl,e,e2⟩ | ⟨bi,cap,r,rfl,hgb,h3,h4,h5⟩
        · rw [e2] at hil; omega
        have hpd:=ez hx r
        simp (config:=KF) (disch:=omega) only [bZ,dk,aU,ixSV,ai,addA,aa,id,bY,↓reduceIte,Nat.reduceEqDiff,reduceCtorEq,e1,hgs,hgb,hpd,hts]
        have hxm:L1[i] ∈ L1:=List.getElem_mem hil
        have hbd:=a8 _ hxm
        have hbd':=hbd
        unfold Bd at hbd
        have his:=a3.each _ hxm
        refine au rfl e_f16 (mP his t (by omega)) rfl fun r s2 hr=>?_
        obtain ⟨rfl,hp⟩:=hr
        rw [pCancel_eq his t] at hp
        obtain ⟨bv',b1,b2,b3⟩:=a3.chan hx hp
        simp (config:=KF) (disch:=omega) only [bZ,↓reduceIte,Nat.reduceEqDiff,reduceCtorEq]
        refine hnext _ _ _ s2 (by rw [List.length_set]; exact a2) b1 (a4.trans b2 a5) (fun x hx=>(b3 x hx).elim (a5 x) fun e=>.inr (Nat.le_trans a4.1 e)) ?_ ((oQ (y:={ L1[i] with P:={ L1[i].P with S:=L1[i].P.S.filter (fun x=>x.2.1 != t),V:=L1[i].P.V.filter (fun x=>x.2.1 != t) },bv:=bv' }) hx rfl rfl rfl).trans a7) (a8.set ?_)
        · have hfi:(if (i:Int)≠but∧hasC (l.take k) i = true then wo t ws else f i) = ws∨(if (i:Int)≠but∧hasC (l.take k) i = true then wo t ws else f i) = wo t ws:=by
            split
            · exact .inr rfl
            · exact .inl (hf i hbt)
          obtain ⟨q1,q2⟩:=a6 i _ hx
          have hq:∀ d,(qD (if (i:Int)≠but∧hasC (l.take k) i = true then wo t ws else f i) i d).filter (fun p=>p.1 != t) = qD (wo t ws) i d:=fun d=>by
            rw [← ko]
            rcases hfi with e | e <;> rw [e]
            rw [wo_wo]
          have hmf:∀ S:List W3,(S.filter fun x=>x.2.1 != t).map (·.2) = (S.map (·.2)).filter fun p=>p.1 != t:=fun S=>by
            rw [List.filter_map]; rfl
          have:=Rel.set (i:=i) (y:={ L1[i] with P:={ L1[i].P with S:=L1[i].P.S.filter (fun x=>x.2.1 != t),V:=L1[i].P.V.filter (fun x=>x.2.1 != t) },bv:=bv' }) (ws':=wo t ws) a6 (by simp only; rw [hmf,q1]; exact hq true) (by simp only; rw [hmf,q2]; exact hq false)
          intro j z hz
          have h2:=this j z hz
          simp only [htk,Bool.or_eq_true,decide_eq_true_eq]
          by_cases e:j = i
          · subst e
            simp only [if_true] at h2
            rw [if_pos ⟨hbt,.inr rfl⟩]
            exact h2
          · simp only [e,if_false,or_false] at h2 ⊢
            exact h2
        · unfold Bd
          have l1:=List.length_filter_le (fun x:W3=>x.2.1 != t) L1[i].P.S
          have l2:=List.length_filter_le (fun x:W3=>x.2.1 != t) L1[i].P.V
          simp only
          omega
    · rw [decide_eq_false (show ¬ (k:Int) < (l.length:Int) by omega)]
      simp (config:=KF) (disch:=omega) only [bZ,aH,bf,↓reduceIte,Nat.reduceEqDiff,reduceCtorEq]
      refine hKe _ _ _ ?_
      have hkl:k = l.length:=by omega
      subst hkl
      obtain ⟨M2,hM2,hMl2⟩:=a3.mp
      simp (config:=KF) (disch:=omega) only [bZ,aU,kg,ai,addA,aa,↓reduceIte,Nat.reduceEqDiff,reduceCtorEq,hgs,hts]
      refine d7 hM2 fun s2 hm2 ho2=>?_
      have hown:=a3.own
      simp only [List.nodup_cons,List.mem_cons,List.mem_append,List.nodup_append,not_or] at hown
      obtain ⟨⟨n1,n2,n3⟩,⟨n4,n5⟩,n6,n7,n8⟩:=hown
      have htm:tb≠mid:=fun e=>htn mid (by simp [ah]) e.symm
      have hsl:=a3.lts
      have hg2:s2.get s = _:=(ho2.get (by simp; omega)).trans hgs
      have ht2:s2.get tb = _:=(ho2.get (by simp; omega)).trans hts
      have hmo:MB ov1 s2 (ints (ws.map (·.1))):=a3.ord.at fun x hx=>ho2.2 x (by simp; intro e; subst e; exact n5 hx)
      obtain ⟨u1,u2,u3,u4,u5,u6,u7,u8⟩:=hmo.facts
      simp (config:=KF) (disch:=omega) only [bZ,o_mkfn,ai,mkfnV,addA,aa,id,dt,List.nil_append,↓reduceIte,Nat.reduceEqDiff,reduceCtorEq,hg2,u1]
      have htbn:tb ∉ ae ov1:=fun e=>(a5 tb (by simp [ah,e])).elim (fun q=>htn tb q rfl) fun q=>by omega
      refine au (vs:=[ov1,.fn (.func n_f74) [] [.ptr tb 0]]) (by simp [u1]; rfl) e_f73 (delF_calls (l:=ws.map (·.1)) hmo ht2 htbn (by simpa using hwl)) (by simp [u5]; rfl) fun r s3 hr=>?_
      obtain ⟨hm3,hb3,ho3⟩:=hr
      have hsb:s ∉ ae ov1:=n3
      have hg3:s3.get s = _:=(ho3.get hsb).trans hg2
      have hl3:s < s3.boxes.length:=bq hg3
      obtain ⟨w1,w2,w3,w4,w5,w6,w7,w8⟩:=hm3.facts
      simp (config:=KF) (disch:=omega) only [bZ,retQ_normal,retI,ai,am,addA,↓reduceIte,Nat.reduceEqDiff,Nat.reduceAdd,Nat.reduceLeDiff,reduceCtorEq,hg3,w1,w4,w6]
      have hwm:(wo t ws).map (·.1) = (ws.map (·.1)).filter fun x=>x != t:=by
        unfold wo
        rw [List.filter_map]; rfl
      have hfin:dK s1 s mid cv1 ov1 L1 (s3.set s [cv1,r,.map mid]) L1 (wo t ws):=by
        refine a3.mine ⟨by rw [cz,ho3.1,ho2.1]; exact Nat.le_refl _,fun id hid hn=>?_⟩ (aS hl3) ?_ ⟨_,(hm2.at ?_),fun u=>?_⟩ (fun x hx=>.inl (hb3 ▸ hx)) (by rw [hb3]; exact MB.nodup a3.ord)
        · simp only [List.mem_cons,not_or] at hn
          rw [ce hn.1,ho3.2 id hn.2.2,ho2.2 id (by simpa using hn.2.1)]
        · rw [hwm]
          exact hm3.at fun x hx=>ce fun e=>hsb (by rw [← hb3,← e]; exact hx)
        · rw [ce (fun e=>n1 e.symm),ho3.2 mid n5]
        · rw [dJ _ _ hM2.nd,hMl2,eR]
      have hk01:Kp st s1 (ah s mid cv ov L):=Kp.trans (F:=ah s mid cv ov L) ⟨hk1.1,fun id hid hn=>hk1.2 id hid (by simp)⟩ a4 fun x hx=>.inl hx
      refine hQ _ _ ⟨rfl,L1,dK.step hk01 (fun x hx=>(a5 x hx).imp id fun e=>by omega) hfin,fun i x hx=>?_,a7,a8⟩
      have:=a6 i x hx
      rw [List.take_length] at this
      by_cases hbt:(i:Int) = but
      · have e:¬ ((i:Int)≠but∧hasC l i = true):=fun q=>q.1 hbt
        simp only [e,if_false] at this
        simp only [if_pos hbt]
        exact this
      · simp only [hbt,if_false]
        by_cases hc:hasC l i = true
        · have e:(i:Int)≠but∧hasC l i = true:=⟨hbt,hc⟩
          simp only [if_pos e] at this
          exact this
        · have e:¬ ((i:Int)≠but∧hasC l i = true):=fun q=>hc q.2
          simp only [if_neg e,hf i hbt] at this
          have hno:∀ w ∈ ws,w.1 = t→∀ x ∈ w.2,x.1≠(i:Int):=fun w hw hwt x hx he=>by
            have h2:ag t ws = some w.2:=ew hnd (by rw [← hwt]; exact hw)
            rw [hl] at h2
            cases h2
            apply hc
            exact List.any_eq_true.2 ⟨x,hx,by simpa using he⟩
          rw [qD_wo_no hno,qD_wo_no hno]
          exact this
end Go.Fx.YtbomoaajkinfpaaFx

