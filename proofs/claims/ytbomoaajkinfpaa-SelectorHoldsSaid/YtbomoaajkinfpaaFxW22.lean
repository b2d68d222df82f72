/- What the functions that the statement reaches compute: part 22. -/
import Derived.Test.YtbomoaajkinfpaaFxW21
namespace Go.Fx.YtbomoaajkinfpaaFx
open Go Go.Fx
attribute [local irreducible] aC runI aw aB

set_option maxRecDepth 100000
set_option maxHeartbeats 4000000

theorem chk_zero {P:ChP} {t:Int} (h1:0≤t∧t < 64) (h2:t ∉ P.S.map (·.2.1)) (h3:t ∉ P.V.map (·.2.1)):chk P t = 0:=by
  unfold chk
  rw [if_neg (by omega),if_neg]
  rw [show az (entC P.S P.V) = P.S.map (·.2.1)++P.V.map (·.2.1) by simp [entC,d9,cN]]
  simp only [List.mem_append,not_or]
  exact ⟨h2,h3⟩
theorem rdyC_send {c:CL} {x:Cs} (hx:x.2.1 = true) (h:rdyC c x = false) (v:Int):aG c.P v = (c.P,[],16):=by
  unfold rdyC at h
  rw [if_pos hx] at h
  simp only [Bool.or_eq_false_iff,decide_eq_false_iff_not] at h
  obtain ⟨h1,h2,h3⟩:=h
  have hV:c.P.V = []:=List.eq_nil_of_length_eq_zero (by omega)
  unfold aG
  rw [if_neg (by simp [h1]),hV]
  simp only
  rw [if_neg h3]
theorem rdyC_recv {c:CL} {x:Cs} (hx:x.2.1 = false) (h:rdyC c x = false):ak c.P = (c.P,0,[],16):=by
  unfold rdyC at h
  rw [if_neg (by simp [hx])] at h
  simp only [Bool.or_eq_false_iff,decide_eq_false_iff_not] at h
  obtain ⟨h1,h2,h3⟩:=h
  have hS:c.P.S = []:=List.eq_nil_of_length_eq_zero (by omega)
  have hB:c.P.buf = []:=List.eq_nil_of_length_eq_zero (by omega)
  unfold ak
  rw [hS,hB]
  simp [h1]

/-- The one case of a channel. -/
theorem find_case {l:List Cs} (hnd:(l.map (·.1)).Nodup) {x:Cs} (hx:x ∈ l) (d:Bool):l.find? (onC x.1 d) = if x.2.1 = d then some x else none:=by
  induction l with
  | nil=>cases hx
  | cons y l ih =>
    simp only [List.map_cons,List.nodup_cons] at hnd
    rcases List.mem_cons.1 hx with rfl | hm
    · by_cases e:x.2.1 = d
      · rw [if_pos e,List.find?_cons_of_pos]
        simp [onC,e]
      · rw [if_neg e,List.find?_cons_of_neg (by simp [onC,e]),List.find?_eq_none]
        intro z hz hc
        simp only [onC,Bool.and_eq_true,decide_eq_true_eq] at hc
        exact hnd.1 (by rw [← hc.1]; exact List.mem_map_of_mem hz)
    · have hne:y.1≠x.1:=fun e=>hnd.1 (by rw [e]; exact List.mem_map_of_mem hm)
      rw [List.find?_cons_of_neg (by simp [onC,hne])]
      exact ih hnd.2 hm
theorem qW_case {l:List Cs} (hnd:(l.map (·.1)).Nodup) {x:Cs} (hx:x ∈ l) (t:Int) (d:Bool):qW x.1 d (t,l) = if x.2.1 = d then some (t,if d = true then x.2.2 else 0) else none:=by
  unfold qW
  simp only
  rw [find_case hnd hx]
  by_cases e:x.2.1 = d
  · rw [if_pos e,if_pos e]; rfl
  · rw [if_neg e,if_neg e]; rfl
theorem qW_none {l:List Cs} {i:Int} (h:∀ x ∈ l,x.1≠i) (t:Int) (d:Bool):qW i d (t,l) = none:=by
  unfold qW
  simp only
  rw [List.find?_eq_none.2]
  · rfl
  · intro x hx hc
    simp only [onC,Bool.and_eq_true,decide_eq_true_eq] at hc
    exact h x hx hc.1
theorem oV (ws:List Wt) (w:Wt) (i:Int) (d:Bool):qD (ws++[w]) i d = qD ws i d++(qW i d w).toList:=by
  unfold qD
  rw [List.filterMap_append]
  cases h:qW i d w <;> simp [h]

theorem mn {ws:List Wt} {t:Int} (h:ag t ws = none):∀ w ∈ ws,w.1≠t:=by
  induction ws with
  | nil=>intro w hw; cases hw
  | cons p r ih =>
    obtain ⟨a,b⟩:=p
    simp only [ag] at h
    split at h
    · cases h
    · rename_i hne
      intro w hw
      rcases List.mem_cons.1 hw with rfl | hw
      · exact fun e=>hne e.symm
      · exact ih h w hw
theorem rel_tasks {L:List CL} {f:Nat→List Wt} (h:Rel L f) {i:Nat} {x:CL} (hi:L[i]? = some x) {t:Int} (ht:∀ w ∈ f i,w.1≠t):t ∉ x.P.S.map (·.2.1)∧t ∉ x.P.V.map (·.2.1):=by
  obtain ⟨h1,h2⟩:=h i x hi
  have key:∀ (S:List W3) d,S.map (·.2) = qD (f i) i d→t ∉ S.map (·.2.1):=fun S d e hin=>by
    obtain ⟨y,hy,hyt⟩:=List.mem_map.1 hin
    have:y.2 ∈ qD (f i) i d:=by rw [← e]; exact List.mem_map_of_mem hy
    unfold qD at this
    obtain ⟨w,hw,hq⟩:=List.mem_filterMap.1 this
    exact ht w hw (by rw [← fX hq]; exact hyt)
  exact ⟨key _ _ h1,key _ _ h2⟩

section
variable {st:St} {s mid n:Nat} {cv ov:AV} {L:List CL} {R:RS}
theorem swait_loop (h:SelR st s mid cv ov L R n) (hn:n < 2000) {v:AV} {l:List Cs} {t:Int} (hv:CV v st l) (hvb:∀ x ∈ ae v,x ∉ ah s mid cv ov L) (hvl:∀ x ∈ ae v,x < st.boxes.length) (hval:a9 L.length l = true) (hrd:∀ x ∈ l,rdyR R x = false) (ht:0≤t∧t < 64) (hnone:ag t R.ws = none)
    {zs:List AV} {K:Exit→Sf→St→Prop} (hK:∀ L' st',SelIs st' s mid cv ov L' R.ws→Kp st st' (ah s mid cv ov L)→(∀ x ∈ ah s mid cv ov L',x ∈ ah s mid cv ov L∨st.boxes.length≤x)→Rel L' (fun _=>R.ws++[(t,l)])→obs L' = R.ch→BdL L' (n + 1) →
      K (.exit 0) ⟨[(0,.ptr s 0),(1,.lit (.int .i64 t)),(2,v),(10,.lptr 10 0)],[(10,zs)]⟩ st') :
    aC Go.Proofs.Try.prog id false f30_39 ⟨[(0,.ptr s 0),(1,.lit (.int .i64 t)),(2,v),(10,.lptr 10 0),(60,v),(61,.lit (.int .i64 (l.length:Nat))),(62,.lit (.int .i64 0))],[(10,zs)]⟩ st K:=by
  obtain ⟨q1,q2,q3,q4⟩:=cq hval
  have hlen:=h.len
  rw [f30_39w]
  refine bj (A:=Nat×List CL×St) (fun a=>l.length - a.1) (fun a=>⟨[(0,.ptr s 0),(1,.lit (.int .i64 t)),(2,v),(10,.lptr 10 0),(60,v),(61,.lit (.int .i64 (l.length:Nat))),(62,.lit (.int .i64 (a.1:Nat)))],[(10,zs)]⟩) (fun a=>a.2.2)
    (fun a=>a.1≤l.length∧a.2.1.length = L.length∧SelIs a.2.2 s mid cv ov a.2.1 R.ws∧Kp st a.2.2 (ah s mid cv ov L)∧(∀ x ∈ ah s mid cv ov a.2.1,x ∈ ah s mid cv ov L∨st.boxes.length≤x) ∧
      Rel a.2.1 (fun i=>if hasC (l.take a.1) i = true then R.ws++[(t,l)] else R.ws)∧obs a.2.1 = R.ch∧∀ (i:Nat) x,a.2.1[i]? = some x→Bd x.P (if hasC (l.take a.1) i = true then n + 1 else n))
    (0,L,st) ⟨Nat.zero_le _,rfl,h.is,Kp.refl _ _,fun x hx=>.inl hx,by simpa [hasC] using h.rel,h.ob,fun i x hi=>by simp only [List.take_zero,hasC,List.any_nil,Bool.false_eq_true,if_false]; exact h.bd x (List.mem_of_getElem? hi)⟩ (Sf.le_refl _) rfl ?_
  rintro ⟨k,L1,s1⟩ ⟨a1,a2,a3,a4,a5,a6,a7,a8⟩ K2 hK2 hKe hKr
  simp only at a1 a2 a3 a4 a5 a6 a7 a8
  try dsimp only
  have hv1:CV v s1 l:=hv.at fun x hx=>a4.2 x (hvl x hx) (hvb x hx)
  obtain ⟨v1,v2,v3,v4,v5,v6,v7,v8⟩:=hv1.facts
  have hgs:=a3.get
  by_cases hk:k < l.length
  · obtain ⟨r1,r2⟩:=q2 l[k] (List.getElem_mem hk)
    obtain ⟨i,hi⟩:∃ i:Nat,l[k].1 = (i:Int):=⟨l[k].1.toNat,by omega⟩
    have hil:i < L1.length:=by omega
    have hx:L1[i]? = some L1[i]:=List.getElem?_eq_getElem hil
    have hxm:L1[i] ∈ L1:=List.getElem_mem hil
    have his:=a3.each _ hxm
    have hck:∀ z:Nat,l[k].1 = (z:Int)↔z = i:=fun z=>by omega
    have htk:∀ j:Nat,hasC (l.take (k + 1)) j = (hasC (l.take k) j || decide (j = i)):=fun j=>by
      unfold hasC
      rw [List.take_succ_eq_append_getElem hk,List.any_append]
      simp only [List.any_cons,List.any_nil,Bool.or_false]
      congr 1
      exact decide_eq_decide.2 (hck j)
    have hnot:hasC (l.take k) i = false:=by
      unfold hasC
      rw [List.any_eq_false]
      intro y hy he
      have he:y.1 = (i:Int):=by simpa using he
      have h2:=q3
      rw [← List.take_append_drop k l,List.drop_eq_getElem_cons hk,List.map_append,List.map_cons] at h2
      exact (List.nodup_append.1 h2).2.2 _ (List.mem_map_of_mem hy) _ List.mem_cons_self (by rw [he,hi])
    have hfi:(fun i:Nat=>if hasC (l.take k) i = true then R.ws++[(t,l)] else R.ws) i = R.ws:=by simp only [hnot,Bool.false_eq_true,if_false]
    have hrdy:rdyC L1[i] l[k] = false:=by
      have:=rdy_eq (x:=l[k]) a6 a7 hfi hi hil
      rw [hrd _ (List.getElem_mem hk)] at this
      unfold rdyL at this
      rw [hi,Int.toNat_natCast,hx] at this
      exact this
    obtain ⟨tk1,tk2⟩:=rel_tasks a6 hx (t:=t) (by simp only [hnot,Bool.false_eq_true,if_false]; exact mn hnone)
    have hchk:=chk_zero (P:=L1[i].P) ht tk1 tk2
    have hbd:=a8 i _ hx
    rw [hnot] at hbd
    simp only [Bool.false_eq_true,if_false] at hbd
    obtain ⟨g1,g2⟩:=a6 i _ hx
    simp only [hnot,Bool.false_eq_true,if_false] at g1 g2
    have hqc:∀ d,qD (R.ws++[(t,l)]) (i:Int) d = qD R.ws i d++(if l[k].2.1 = d then [(t,if d = true then l[k].2.2 else 0)] else []):=fun d=>by
      rw [oV,← hi,qW_case q3 (List.getElem_mem hk)]
      split <;> rfl
    -- behind the call
    have hnext:∀ (P':ChP) (s2:St),cf s1 L1[i].c P' L1[i].q0 L1[i].m0 L1[i].q1 L1[i].m1 L1[i].wid L1[i].bv s2→P'.cap = L1[i].P.cap→P'.buf = L1[i].P.buf→P'.closed = L1[i].P.closed→P'.S.map (·.2) = qD (R.ws++[(t,l)]) i true→P'.V.map (·.2) = qD (R.ws++[(t,l)]) i false→Bd P' (n + 1) →
        K2 .normal ⟨[(0,.ptr s 0),(1,.lit (.int .i64 t)),(2,v),(10,.lptr 10 0),(60,v),(61,.lit (.int .i64 (l.length:Nat))),(62,.lit (.int .i64 ((k + 1:Nat):Int)))],[(10,zs)]⟩ s2:=fun P' s2 hp e1 e2 e3 e4 e5 e6=>by
      obtain ⟨bv',b1,b2,b3⟩:=a3.chan hx hp
      refine hK2 (k + 1,L1.set i { L1[i] with P:=P',bv:=bv' },s2) _ ⟨by simp only; omega,by simp [a2],b1,a4.trans b2 a5,fun x hx=>(b3 x hx).elim (a5 x) fun e=>.inr (Nat.le_trans a4.1 e),?_,?_,fun j x hj=>?_⟩ (by simp only; omega) (Sf.le_refl _)
      · have:=a6.set (i:=i) (y:={ L1[i] with P:=P',bv:=bv' }) (ws':=R.ws++[(t,l)]) e4 e5
        intro j z hz
        have h2:=this j z hz
        simp only [htk,Bool.or_eq_true,decide_eq_true_eq]
        by_cases e:j = i
        · subst e
          simp only [if_true,or_true] at h2 ⊢
          exact h2
        · simp only [e,if_false,or_false] at h2 ⊢
          exact h2
      · exact (oQ (y:={ L1[i] with P:=P',bv:=bv' }) hx e1 e2 e3).trans a7
      · simp only at hj
        rw [List.getElem?_set] at hj
        simp only [htk,Bool.or_eq_true,decide_eq_true_eq]
        by_cases e:i = j
        · subst e
          simp only [if_true,hil,or_true] at hj ⊢
          cases hj
          exact e6
        · have e':¬ j = i:=fun q=>e q.symm
          rw [if_neg e] at hj
          simp only [e',or_false]
          exact a8 j x hj
    rcases a3.chs with ⟨hcv,e,e2⟩ | ⟨bi,cap,r,hcv,hgb,h3,h4,h5⟩
    · omega
    have hpd:=ez hx r
    rw [hcv] at hgs
    have hmid:∀ {w:AV} {a b:AV} {K3:Exit→Sf→St→Prop},w.dis = w→a.dis = a→b.dis = b→(∀ s2,K2 .normal ⟨[(0,.ptr s 0),(1,.lit (.int .i64 t)),(2,v),(10,.lptr 10 0),(60,v),(61,.lit (.int .i64 (l.length:Nat))),(62,.lit (.int .i64 ((k + 1:Nat):Int)))],[(10,zs)]⟩ s2→K3 .normal ⟨[(0,.ptr s 0),(1,.lit (.int .i64 t)),(2,w),(10,.lptr 10 0),(60,w),(61,a),(62,b)],[(10,zs)]⟩ s2) →
        aC Go.Proofs.Try.prog id false f30_50 ⟨[(0,.ptr s 0),(1,.lit (.int .i64 t)),(2,w),(10,.lptr 10 0),(18,.lptr 18 0),(60,w),(61,a),(62,b),(67,.lit (.bool l[k].2.1))],[(10,zs),(18,[.lit (.int .i64 l[k].1),.lit (.bool l[k].2.1),.lit (.int .i64 l[k].2.2)])]⟩ s1 K3:=fun {w a b K3} w1 w2 w3 hK3=>by
      rw [hi]
      cases hsd:l[k].2.1 with
      | true =>
        have hp:jl L1[i].P t l[k].2.2 = ({ L1[i].P with S:=L1[i].P.S++[(L1[i].P.g0 + 1,t,l[k].2.2)],g0:=L1[i].P.g0 + 1 },false,[],0):=by
          unfold jl
          rw [rdyC_send hsd hrdy,hchk]
          rfl
        have hfin:∀ s2,cf s1 L1[i].c (jl L1[i].P t l[k].2.2).1 L1[i].q0 L1[i].m0 L1[i].q1 L1[i].m1 L1[i].wid L1[i].bv s2→K2 .normal ⟨[(0,.ptr s 0),(1,.lit (.int .i64 t)),(2,v),(10,.lptr 10 0),(60,v),(61,.lit (.int .i64 (l.length:Nat))),(62,.lit (.int .i64 ((k + 1:Nat):Int)))],[(10,zs)]⟩ s2:=fun s2 hcp=>by
          rw [hp] at hcp
          refine hnext _ s2 hcp rfl rfl rfl ?_ ?_ ?_
          · rw [hqc,hsd,List.map_append,g1]; rfl
          · rw [hqc,hsd]
            simp only [Bool.true_eq_false,if_false,List.append_nil]
            exact g2
          · unfold Bd at hbd ⊢
            simp only [List.length_append,List.length_singleton]
            omega
        simp (config:=KF) (disch:=omega) only [bZ,dk,aU,ixSV,ai,addA,aa,id,bY,↓reduceIte,Nat.reduceEqDiff,reduceCtorEq,f30_50e,hgs,hgb,hpd]
        refine au rfl e_f14 (csend_calls his t l[k].2.2 ⟨hbd,by omega⟩) rfl fun r s2 hr=>?_
        obtain ⟨rfl,hcp⟩:=hr
        simp (config:=KF) (disch:=omega) only [bZ,↓reduceIte,Nat.reduceEqDiff,reduceCtorEq]
        exact hK3 _ (hfin _ hcp)
      | false =>
        have hp:dp L1[i].P t = ({ L1[i].P with V:=L1[i].P.V++[(L1[i].P.g1 + 1,t,0)],g1:=L1[i].P.g1 + 1 },0,false,[],0):=by
          unfold dp
          rw [rdyC_recv hsd hrdy,hchk]
          rfl
        have hfin:∀ s2,cf s1 L1[i].c (dp L1[i].P t).1 L1[i].q0 L1[i].m0 L1[i].q1 L1[i].m1 L1[i].wid L1[i].bv s2→K2 .normal ⟨[(0,.ptr s 0),(1,.lit (.int .i64 t)),(2,v),(10,.lptr 10 0),(60,v),(61,.lit (.int .i64 (l.length:Nat))),(62,.lit (.int .i64 ((k + 1:Nat):Int)))],[(10,zs)]⟩ s2:=fun s2 hcp=>by
          rw [hp] at hcp
          refine hnext _ s2 hcp rfl rfl rfl ?_ ?_ ?_
          · rw [hqc,hsd]
            simp only [Bool.false_eq_true,if_false,List.append_nil]
            exact g1
          · rw [hqc,hsd,List.map_append,g2]; rfl
          · unfold Bd at hbd ⊢
            simp only [List.length_append,List.length_singleton]
            omega
        simp (config:=KF) (disch:=omega) only [bZ,dk,aU,ixSV,ai,addA,aa,id,bY,↓reduceIte,Nat.reduceEqDiff,reduceCtorEq,f30_50e,hgs,hgb,hpd]
        refine au rfl e_f15 (mC his t ⟨hbd,by omega⟩) rfl fun r s2 hr=>?_
        obtain ⟨rfl,hcp⟩:=hr
        simp (config:=KF) (disch:=omega) only [bZ,↓reduceIte,Nat.reduceEqDiff,reduceCtorEq]
        exact hK3 _ (hfin _ hcp)
    rcases hv1.ne q4 with rfl | ⟨_,_,e⟩ | ⟨vi,vcap,vr,rfl,hgv,y3,y4,y5⟩
    · have hvv:csSl l = .sl false 3 (l.map csAV):=if_neg q4
      have hgd:(l.map csAV).getD k .any = csAV l[k]:=by simp [hk]
      rw [hvv] at v1 hmid ⊢
      simp (config:=KF) (disch:=omega) only [bZ,ixSV,am,addA,aa,bg,b8,bN,↓reduceIte,Nat.reduceEqDiff,Nat.reduceAdd,Nat.reduceLeDiff,reduceCtorEq,aM,hgd,csAV]
      refine hmid v1 rfl rfl fun s2 hk2=>?_
      simp (config:=KF) (disch:=omega) only [bZ,↓reduceIte,Nat.reduceEqDiff,reduceCtorEq]
      exact hk2
    · omega
    · have hd:=jn hk vr
      simp (config:=KF) (disch:=omega) only [bZ,ixSV,am,addA,aa,bg,kL,↓reduceIte,Nat.reduceEqDiff,Nat.reduceAdd,Nat.reduceLeDiff,reduceCtorEq,aM,hgv,hd]
      refine hmid v1 rfl rfl fun s2 hk2=>?_
      simp (config:=KF) (disch:=omega) only [bZ,↓reduceIte,Nat.reduceEqDiff,reduceCtorEq]
      exact hk2
  · have hkl:k = l.length:=by omega
    subst hkl
    simp (config:=KF) (disch:=omega) only [bZ,aH,bf,↓reduceIte,Nat.reduceEqDiff,reduceCtorEq,aY]
    refine hKe _ _ _ ?_
    rw [List.take_length] at a6 a8
    refine hK L1 s1 a3 a4 a5 (fun i x hi=>?_) a7 fun x hx=>?_
    · have:=a6 i x hi
      by_cases hc:hasC l i = true
      · simp only [if_pos hc] at this
        exact this
      · simp only [if_neg hc] at this
        have hno:∀ x ∈ l,x.1≠(i:Int):=fun x hx he=>hc (List.any_eq_true.2 ⟨x,hx,by simpa using he⟩)
        rw [oV,oV,qW_none hno,qW_none hno]
        simpa using this
    · obtain ⟨j,hj⟩:=List.mem_iff_getElem?.1 hx
      have:=a8 j x hj
      split at this
      · exact this
      · exact gV this (Nat.le_succ _)
end
end Go.Fx.YtbomoaajkinfpaaFx

