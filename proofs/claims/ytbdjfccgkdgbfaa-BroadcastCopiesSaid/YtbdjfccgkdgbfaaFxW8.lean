/- What the functions that the statement reaches compute: part 8. -/
import Derived.Test.YtbdjfccgkdgbfaaFxW7
namespace Go.Fx.YtbdjfccgkdgbfaaFx
open Go Go.Fx
attribute [local irreducible] aC runI az ar

set_option maxRecDepth 100000
set_option maxHeartbeats 4000000

/-! A message is published. -/
def sbO:Option SL→Option Sb
 | none=>none
 | some x=>some x.S
def pubO (topic:Int) (p:List UInt8):Option Sb→Option Sb
 | none=>none
 | some S=>some (if S.topic = topic then cf p S else S)
def mg (l:List AV):AV:=if l = [] then .lit (.slice none 0 0) else .sl true 1 l
section
variable {st:St} {h wid:Nat} {L:List (Option SL)} {Qs:List QL} {M:List (Int×WE)}

theorem pub1_calls {s n:Nat} {l:List AV} (hl:l.length < 1000) (hld:l.map AV.dis = l) (hb:st.get n = some [mg l]) :
  am Go.Proofs.Try.prog n_f64 [.ptr s 0,.ptr n 0] st (fun _ st'=>st' = st.set n [mg (l++[.ptr s 0])]):=by
 have hn:=bw hb
 refine ap hmix k_f64 rfl rfl fun Q hQ=>?_
 unfold aFun c_f64
 unfold mg at hb hQ
 have hne:¬ (l++[AV.ptr s 0] = []):=by simp
 rw [if_neg hne] at hQ
 by_cases h0:l = []
 ·subst h0
  rw [if_pos rfl] at hb
  simp (config:=KF) (disch:=omega) only [bZ,bX,retI,iX,gp,bF,ah,List.reduceReplicate,ae,aQ,br,srcA,mkSl_ptr,eJ,↓reduceIte,Nat.reduceEqDiff,Nat.reduceLT,Nat.reduceLeDiff,reduceCtorEq,aG,af,aa,eV,hb]
  exact hQ _ _ rfl
 ·rw [if_neg h0] at hb
  simp (config:=KF) (disch:=omega) only [bZ,bX,retI,iX,gp,bF,ah,List.reduceReplicate,ae,aQ,br,srcA,wp_fail,mkSl_ptr,eJ,↓reduceIte,Nat.reduceEqDiff,Nat.reduceLT,Nat.reduceLeDiff,reduceCtorEq,aG,af,aa,eV,hb]
  exact hQ _ _ rfl

def tix (topic:Int):List (Option SL)→Nat→List (Nat×SL)
 | [],_=>[]
 | none::r,i=>tix topic r (i + 1)
 | some x::r,i=>if x.S.topic = topic then (i,x)::tix topic r (i + 1) else tix topic r (i + 1)
theorem qQ (topic:Int) (B:List (Option SL)):∀ (A:List (Option SL)) (i:Nat),tix topic (A++B) i = tix topic A i++tix topic B (i + A.length)
 | [],i=>by simp [tix]
 | none :: r, i => by
   simp only [List.cons_append,tix,qQ topic B r (i + 1),List.length_cons]
   rw [show i + 1 + r.length = i + (r.length + 1) by omega]
 | some x :: r, i => by
   simp only [List.cons_append,tix,qQ topic B r (i + 1),List.length_cons]
   rw [show i + 1 + r.length = i + (r.length + 1) by omega]
   split <;> rfl
theorem mK (topic:Int):∀ (A:List (Option SL)) (i j:Nat) (x:SL),(j,x) ∈ tix topic A i↔i≤j∧A[j - i]? = some (some x)∧x.S.topic = topic
 | [],i,j,x=>by simp [tix]
 | none :: r, i, j, x => by
   rw [show tix topic (none::r) i = tix topic r (i + 1) from rfl,mK topic r (i + 1) j x]
   constructor
   ·rintro ⟨h1,h2,h3⟩
    refine ⟨by omega,?_,h3⟩
    rw [show j - i = j - (i + 1) + 1 by omega]; simpa using h2
   ·rintro ⟨h1,h2,h3⟩
    by_cases e:j = i
    ·subst e; simp at h2
    ·refine ⟨by omega,?_,h3⟩
     rw [show j - i = j - (i + 1) + 1 by omega] at h2; simpa using h2
 | some y :: r, i, j, x => by
   have ih:=mK topic r (i + 1) j x
   have key:(i + 1≤j∧r[j - (i + 1)]? = some (some x)∧x.S.topic = topic)↔j≠i∧i≤j∧(some y::r)[j - i]? = some (some x)∧x.S.topic = topic:=by
    constructor
    ·rintro ⟨h1,h2,h3⟩
     refine ⟨by omega,by omega,?_,h3⟩
     rw [show j - i = j - (i + 1) + 1 by omega]; simpa using h2
    ·rintro ⟨h0,h1,h2,h3⟩
     refine ⟨by omega,?_,h3⟩
     rw [show j - i = j - (i + 1) + 1 by omega] at h2; simpa using h2
   unfold tix
   split
   ·rename_i ht
    rw [List.mem_cons,ih,key]
    constructor
    ·rintro (e | ⟨_,h⟩)
     ·cases e; exact ⟨Nat.le_refl _,by simp,ht⟩
     ·exact h
    ·rintro ⟨h1,h2,h3⟩
     by_cases e:j = i
     ·subst e; simp at h2; subst h2; exact .inl rfl
     ·exact .inr ⟨e,h1,h2,h3⟩
   ·rename_i ht
    rw [ih,key]
    constructor
    ·rintro ⟨_,h⟩; exact h
    ·rintro ⟨h1,h2,h3⟩
     refine ⟨fun e=>?_,h1,h2,h3⟩
     subst e; simp at h2; subst h2; exact ht h3
theorem gW (topic:Int):∀ (A:List (Option SL)) (i:Nat),(tix topic A i).Pairwise fun a b=>a.1 < b.1
 | [],i=>by simp [tix]
 | none::r,i=>gW topic r (i + 1)
 | some x :: r, i => by
   unfold tix
   split
   ·refine List.pairwise_cons.2 ⟨fun q hq=>?_,gW topic r (i + 1)⟩
    obtain ⟨j,y⟩:=q
    have:=((mK topic r (i + 1) j y).1 hq).1
    simp only; omega
   ·exact gW topic r (i + 1)
theorem mL (topic:Int):∀ (A:List (Option SL)) (i:Nat),(tix topic A i).length≤A.length
 | [],i=>Nat.le_refl _
 | none::r,i=>Nat.le_succ_of_le (mL topic r (i + 1))
 | some x :: r, i => by
   have:=mL topic r (i + 1)
   unfold tix
   split <;> simp only [List.length_cons] <;> omega
def tptr (l:List (Nat×SL)):List AV:=l.map fun q=>.ptr q.2.s 0

theorem jB (hh:HubIs st h wid L Qs M) (topic:Int) {v:AV} {p:List UInt8} (hv:DV v st p) (hp:p.length≤1024) (hvn:∀ b ∈ au v,b ∉ ba h wid L Qs) (hbd:∀ (i:Nat) x,L[i]? = some (some x)→x.S.lost + x.S.msgs.length < 1000000000) :
  am Go.Proofs.Try.prog n_f46 [.ptr h 0,.lit (.int .i64 topic),v] st (fun _ st'=>∃ L',HubIs st' h wid L' Qs M∧L'.map sbO = (L.map sbO).map (pubO topic p)∧Kp st st' (ba h wid L Qs)∧ba h wid L' Qs ⊆ ba h wid L Qs):=by
 obtain ⟨v1,v2,v3,v4,v5,v6,v7,v8⟩:=hv.facts
 refine ap hmix k_f46 rfl rfl fun Q hQ=>?_
 unfold aFun c_f46
 simp (config:=KF) (disch:=omega) only [bZ,o_mkfn,o_newB,mkfnV,id,List.nil_append,↓reduceIte,Nat.reduceEqDiff,Nat.reduceAdd,reduceCtorEq,f46_1e]
 obtain ⟨n,hn⟩:∃ n,n = st.boxes.length:=⟨_,rfl⟩
 obtain ⟨base,hbase⟩:∃ s,s = st.push (.cells [.lit (.slice none 0 0)]):=⟨_,rfl⟩
 rw [← hn,← hbase]
 have hlt:=hh.lts
 have hb1:base.get n = some [.lit (.slice none 0 0)]:=by rw [hbase,hn]; exact bq _ _
 have hbl:base.boxes.length = n + 1:=by rw [hbase,aE,hn]
 have hbo:∀ i,i < n→base.boxes[i]? = st.boxes[i]?:=fun i hi=>by rw [hbase]; exact bG (by omega)
 have hat:∀ (c:List AV) i,i < n→(base.set n c).boxes[i]? = st.boxes[i]?:=fun c i hi=>(bP (by omega)).trans (hbo i hi)
 have hlim:∀ b ∈ ba h wid L Qs,b < n:=fun b hb=>by rw [hn]; exact hlt b hb
 have h64:=hh.l64
 have hdis:∀ l,(tptr l).map AV.dis = tptr l:=fun l=>by simp [tptr,AV.dis,AV.own1]
 have hstep1:∀ i,i < 64→∀ o,L[i]? = some o→tix topic (L.take (i + 1)) 0 = tix topic (L.take i) 0++tix topic [o] i:=fun i hi o ho=>by
  obtain ⟨a1,a2⟩:=List.getElem?_eq_some_iff.1 ho
  rw [List.take_succ_eq_append_getElem a1,a2,qQ,List.length_take,Nat.min_eq_left (by omega),Nat.zero_add]
 refine aq rfl e_f61 (oh (HubIs.kp hh (F:=[]) ⟨by omega,fun i hi _=>hbo i (by omega)⟩ fun _ _ e=>by cases e) topic 64 e_f64 [.ptr n 0] ⟨rfl,rfl⟩
  (fun i s1=>s1 = base.set n [mg (tptr (tix topic (L.take i) 0))]) ?_ ?_ ?_ ?_) rfl fun w s1 hr=>?_
 ·rw [List.take_zero]
  exact (iL hb1).symm
 ·rintro i s1 j x rfl hj
  have hx:=hh.sub j x hj
  have:=hlim x.s (ai.2 (.inr (.inr (.inl ⟨j,x,hj,by simp [SL.ids]⟩))))
  exact ⟨_,(ck (hat _ _ this)).trans (SbIs.get hx)⟩
 ·rintro i s1 x hx hxt rfl
  have hil:i < 64:=by have:=(List.getElem?_eq_some_iff.1 hx).1; omega
  have hlen:(tptr (tix topic (L.take i) 0)).length < 1000:=by
   have:=mL topic (L.take i) 0
   rw [List.length_take] at this
   simp only [tptr,List.length_map]; omega
  refine (pub1_calls (s:=x.s) (n:=n) hlen (hdis _) (aG (by omega))).mono fun w s2 e=>?_
  rw [e,eV,hstep1 i hil _ hx]
  simp [tix,hxt,tptr]
 ·rintro i s1 hi hno rfl
  have hx:L[i]? = some L[i]:=List.getElem?_eq_getElem (by omega)
  rw [hstep1 i hi _ hx]
  cases he:L[i] with
  | none=>simp [tix]
  | some x =>
    have:=hno x (by rw [hx,he])
    simp [tix,this]
 rw [List.take_of_length_le (by omega)] at hr
 obtain ⟨T,hT⟩:∃ T,T = tix topic L 0:=⟨_,rfl⟩
 rw [← hT] at hr
 have hg7:s1.get n = some [mg (tptr T)]:=by rw [hr]; exact aG (by omega)
 have hcol:(mg (tptr T)).dis = (if tptr T = [] then .lit (.slice none 0 0) else .sl false 1 (tptr T)):=by unfold mg; split <;> rfl
 have hk1:Kp st s1 []:=⟨by rw [hr,du]; omega,fun i hi _=>by rw [hr]; exact hat _ i (by omega)⟩
 have hTl:T.length≤64:=by rw [hT]; have:=mL topic L 0; omega
 have hTm:∀ j x,(j,x) ∈ T↔L[j]? = some (some x)∧x.S.topic = topic:=fun j x=>by rw [hT,mK]; simp
 have hTs:T.Pairwise fun a b=>a.1 < b.1:=by rw [hT]; exact gW topic L 0
 obtain ⟨cv,hcv⟩:∃ cv:AV,(mg (tptr T)).dis = cv:=⟨_,rfl⟩
 have hlen:∀ st',lenI .sl st' cv = .ok (.lit (.int .i64 (T.length:Nat))):=fun st'=>by
  rw [← hcv,hcol]
  split
  ·rename_i e
   have:T = []:=by simpa [tptr] using e
   rw [this]; rfl
  ·rw [iE]; simp [tptr]
 have cfacts:cv.dis = cv∧cv.noL = true∧cv.own1 = cv∧∀ s,kill s cv = cv:=by
  rw [← hcv,hcol]
  split <;> exact ⟨rfl,rfl,rfl,fun _=>rfl⟩
 obtain ⟨c1,c2,c3,c4⟩:=cfacts
 simp (config:=KF) (disch:=omega) only [bZ,ae,↓reduceIte,Nat.reduceEqDiff,reduceCtorEq,hg7,hcv,v1,hlen]
 rw [f46_8w]
 refine a8 (A:=Nat×List (Option SL)×St) (fun a=>T.length - a.1) (fun a=>⟨[(2,v),(14,cv),(15,.lit (.int .i64 (T.length:Nat))),(16,.lit (.int .i64 (a.1:Nat)))],[]⟩) (fun a=>a.2.2)
  (fun a=>a.1≤T.length∧HubIs a.2.2 h wid a.2.1 Qs M∧Kp st a.2.2 (ba h wid L Qs)∧ba h wid a.2.1 Qs ⊆ ba h wid L Qs∧(∀ j:Nat,L[j]? = some none→a.2.1[j]? = some none) ∧
   ∀ (j:Nat) (x:SL),L[j]? = some (some x)→∃ y:SL,a.2.1[j]? = some (some y)∧y.ids = x.ids∧((∃ z,(j,z) ∈ T.take a.1)→y.S = cf p x.S)∧((¬ ∃ z,(j,z) ∈ T.take a.1)→y.S = x.S))
  (0,L,s1) ⟨Nat.zero_le _,HubIs.kp hh hk1 fun _ _ e=>(by cases e),Kp.wide hk1 fun _ e=>(by cases e),fun _ hb=>hb,fun j hj=>hj,fun j x hx=>⟨x,hx,rfl,fun e=>by simp at e,fun _=>rfl⟩⟩ (Sf.le_refl _) rfl ?_
 rintro ⟨k,L1,s2⟩ ⟨i1,i2,i3,i4,i5,i6⟩ K hK hKe hKr
 simp only at i1 i2 i3 i4 i5 i6
 dsimp only
 by_cases hk:k < T.length
 ·obtain ⟨⟨j,x⟩,hq⟩:∃ q,T[k] = q:=⟨_,rfl⟩
  have hTk:T[k]? = some (j,x):=by rw [List.getElem?_eq_getElem hk,hq]
  have hmem:(j,x) ∈ T:=List.mem_of_getElem? hTk
  obtain ⟨hx,hxt⟩:=(hTm j x).1 hmem
  obtain ⟨y,hy,hyi,_,hyS⟩:=i6 j x hx
  have hnot:¬ ∃ z,(j,z) ∈ T.take k:=by
   rintro ⟨z,hz⟩
   obtain ⟨q,hq1,hq2⟩:=List.getElem_of_mem hz
   rw [List.length_take] at hq1
   rw [List.getElem_take] at hq2
   have:=List.pairwise_iff_getElem.1 hTs q k (by omega) hk (by omega)
   rw [hq2,hq] at this
   simp at this
  have hyS:=hyS hnot
  have hys:y.s = x.s:=by have:=congrArg (·[0]?) hyi; simpa [SL.ids] using this
  have hyis:=i2.sub j y hy
  have hv2:DV v s2 p:=DV.kp hv i3 hvn
  have hcvd:cv = .sl false 1 (tptr T):=by
   rw [← hcv,hcol,if_neg]
   intro e
   have:T = []:=by simpa [tptr] using e
   rw [this] at hk; simp at hk
  have hgd:(tptr T).getD k .any = .ptr x.s 0:=by
   rw [List.getD_eq_getElem?_getD]
   simp [tptr,hTk]
  have htl:(tptr T).length = T.length:=by simp [tptr]
  rw [hcvd]
  simp (config:=KF) (disch:=omega) only [bZ,o_mkfn,ixSV,mkfnV,ae,id,dis_fn,eJ,↓reduceIte,Nat.reduceEqDiff,v1,hgd,htl]
  have hym:∀ b ∈ y.ids,b ∈ ba h wid L Qs:=fun b hb=>i4 (ai.2 (.inr (.inr (.inl ⟨j,y,hy,hb⟩))))
  have hgive:=give_calls hyis hv2 (fun b hb e=>hvn b hb (hym b e)) hp (by rw [hyS]; exact hbd j x hx)
  rw [hys] at hgive
  refine aq (vs:=[.ptr x.s 0,v]) (by simp [v1]) e_f65 hgive (by simp [v5]) fun w s3 hr3=>?_
  obtain ⟨⟨fr',hz⟩,hk3⟩:=hr3
  rw [← hys] at hz hk3
  obtain ⟨y',hy'⟩:∃ y':SL,y' = ⟨y.s,y.r,y.b,fr',cf p y.S⟩:=⟨_,rfl⟩
  have hy'i:y'.ids = y.ids:=by rw [hy']; rfl
  obtain ⟨d1,d2⟩:=i2.setSub (y:=y') hy (st':=s3) (show Kp s2 s3 y.ids from hk3) (by rw [hy']; exact hz) hy'i (by rw [hy'])
  simp (config:=KF) (disch:=omega) only [bZ,↓reduceIte,Nat.reduceEqDiff]
  have hjl:j < L1.length:=(List.getElem?_eq_some_iff.1 hy).1
  rw [hcvd] at hK
  refine hK (k + 1,L1.set j (some y'),s3) _ ⟨by simp only; omega,d1,i3.trans hk3 fun b hb=>.inl (hym b hb),fun b hb=>i4 (d2 hb),fun q hq0=>?_,fun q z hz=>?_⟩ (by simp only; omega) (Sf.le_refl _)
  ·simp only
   have:=i5 q hq0
   rw [List.getElem?_set,if_neg]
   ·exact this
   ·intro e; subst e; rw [hx] at hq0; cases hq0
  ·simp only
   have htk:T.take (k + 1) = T.take k++[(j,x)]:=by rw [List.take_succ_eq_append_getElem hk,hq]
   by_cases e:j = q
   ·subst e
    rw [hx] at hz; cases hz
    refine ⟨y',by rw [List.getElem?_set,if_pos rfl,if_pos hjl],hy'i.trans hyi,fun _=>by rw [hy',← hyS],fun hno=>absurd ⟨x,by rw [htk]; simp⟩ hno⟩
   ·obtain ⟨y2,b1,b2,b3,b4⟩:=i6 q z hz
    refine ⟨y2,by rw [List.getElem?_set,if_neg e]; exact b1,b2,fun ⟨u,hu⟩=>b3 ⟨u,?_⟩,fun hno=>b4 fun ⟨u,hu⟩=>hno ⟨u,by rw [htk]; exact List.mem_append_left _ hu⟩⟩
    rw [htk] at hu
    rcases List.mem_append.1 hu with hu | hu
    ·exact hu
    ·simp only [List.mem_singleton,Prod.mk.injEq] at hu
     exact absurd hu.1.symm e
 ·have hkl:k = T.length:=by omega
  subst hkl
  simp (config:=KF) (disch:=omega) only [bZ,↓reduceIte,Nat.reduceEqDiff]
  refine hKe _ _ _ ?_
  simp (config:=KF) (disch:=omega) only [bZ,bX,retI,↓reduceIte]
  refine hQ _ _ ⟨L1,i2,?_,i3,i4⟩
  apply List.ext_getElem?
  intro j
  rw [List.getElem?_map,List.getElem?_map,List.getElem?_map]
  rw [List.take_length] at i6
  cases hj:L[j]? with
  | none =>
    have:L1[j]? = none:=by
     rw [List.getElem?_eq_none_iff] at hj ⊢
     rw [i2.l64]; omega
    rw [this]; rfl
  | some o =>
    cases o with
    | none=>rw [i5 j hj]; rfl
    | some x =>
      obtain ⟨y,b1,b2,b3,b4⟩:=i6 j x hj
      rw [b1]
      simp only [Option.map_some,sbO,pubO]
      by_cases ht:x.S.topic = topic
      ·rw [if_pos ht,b3 ⟨x,(hTm j x).2 ⟨hj,ht⟩⟩]
      ·rw [if_neg ht,b4]
       rintro ⟨z,hz⟩
       obtain ⟨q1,q2⟩:=(hTm j z).1 hz
       rw [hj] at q1; cases q1
       exact ht q2
end
end Go.Fx.YtbdjfccgkdgbfaaFx

