/- What the functions that the statement reaches compute: part 23. -/
import Derived.Test.YtbomoaajkinfpaaFxW22
namespace Go.Fx.YtbomoaajkinfpaaFx
open Go Go.Fx
attribute [local irreducible] aC runI aw aB

set_option maxRecDepth 100000
set_option maxHeartbeats 4000000

section
variable {st:St} {s mid n:Nat} {cv ov:AV} {L:List CL} {R:RS}

/-- What told does behind a call at a channel. -/
theorem mo (h:SelR st s mid cv ov L R n) (hn:n < 3000) {i:Nat} {x:CL} (hx:L[i]? = some x) {P':ChP} {s1:St} (hp:cf st x.c P' x.q0 x.m0 x.q1 x.m1 x.wid x.bv s1) {its:List It}
    (q1:P'.S.map (·.2) = qD (wos (its.map (·.1)) R.ws) i true) (q2:P'.V.map (·.2) = qD (wos (its.map (·.1)) R.ws) i false) (hb:Bd P' (n + 1)) (hnd:(its.map (·.1)).Nodup) (hil:its.length < 100000) (hin:∀ x ∈ its,∃ l,ag x.1 R.ws = some l) :
    aA Go.Proofs.Try.prog n_f57 [.ptr s 0,.lit (.int .i64 (i:Nat)),bJ its] s1 (fun r st'=>r = it4s (its.map (cF R.ws i))∧ed st s mid cv ov L st' ⟨R.ch.set i (P'.cap,P'.buf,P'.closed),wos (its.map (·.1)) R.ws⟩ (n + 1)):=by
  obtain ⟨bv',b1,b2,b3⟩:=h.is.chan hx hp
  have hk:=(List.getElem?_eq_some_iff.1 hx).1
  have hbl:BdL L (n + 1):=fun x hx=>gV (h.bd x hx) (Nat.le_succ _)
  refine (iF (at':=(i:Int)) b1 (hbl.set hb) (by omega) (by rw [List.length_set]; exact h.wok) hnd hil hin ?_).mono fun r st' hr=>?_
  · have:=h.rel.set (i:=i) (y:={ x with P:=P',bv:=bv' }) (ws':=wos (its.map (·.1)) R.ws) q1 q2
    intro j z hz
    have:=this j z hz
    by_cases e:j = i
    · subst e; simpa using this
    · have e2:¬ (j:Int) = (i:Int):=by omega
      simp only [e,e2,if_false] at this ⊢
      exact this
  · obtain ⟨rfl,L',⟨cv',ov',d1,d2,d3⟩,d4,d5,d6⟩:=hr
    have hll:L'.length = L.length:=by have:=congrArg List.length d5; simpa [obs] using this
    refine ⟨rfl,cv',ov',L',⟨d1,d4,?_,d6,by rw [hll]; exact h.wok.sub (ej _ _),fun w hw=>h.tk w ((ej _ _).subset hw),by rw [hll]; exact h.len⟩,b2.trans d2 b3,fun x hx=>(d3 x hx).elim (b3 x) fun e=>.inr (Nat.le_trans b2.1 e)⟩
    rw [d5,← h.ob]
    apply List.ext_getElem?
    intro j
    simp only [obs,List.getElem?_map,List.getElem?_set,List.length_map]
    by_cases e:i = j
    · subst e; simp [hk]
    · simp [e]

theorem hd_wo {S:List W3} {k:Nat} {t v:Int} {l:List W3} (hS:S = (k,t,v)::l) (hnd:(S.map (·.2.1)).Nodup):(S.map (·.2)).filter (fun p=>p.1 != t) = l.map (·.2):=by
  subst hS
  simp only [List.map_cons,List.nodup_cons] at hnd
  simp only [List.map_cons,List.filter_cons,bne_self_eq_false,Bool.false_eq_true,if_false]
  rw [List.filter_eq_self]
  intro p hp
  obtain ⟨y,hy,rfl⟩:=List.mem_map.1 hp
  simp only [bne_iff_ne,ne_eq]
  exact fun e=>hnd.1 (List.mem_map.2 ⟨y,hy,e⟩)
theorem no_wo {S:List W3} {t:Int} (h:t ∉ S.map (·.2.1)):(S.map (·.2)).filter (fun p=>p.1 != t) = S.map (·.2):=by
  rw [List.filter_eq_self]
  intro p hp
  obtain ⟨y,hy,rfl⟩:=List.mem_map.1 hp
  simp only [bne_iff_ne,ne_eq]
  exact fun e=>h (List.mem_map.2 ⟨y,hy,e⟩)
theorem gh {A:Type} {l:List A} {i:Nat} {a:A} (h:l[i]? = some a):l.set i a = l:=by
  apply List.ext_getElem?
  intro j
  rw [List.getElem?_set]
  by_cases e:i = j
  · subst e
    obtain ⟨h1,h2⟩:=List.getElem?_eq_some_iff.1 h
    simp [h1,h2]
  · simp [e]

theorem nI {s1:St} {its:List It} {i:Nat} {a b z1 z2:AV} {R':RS} (ha:a.dis = a∧a.own1 = a∧a.cells = [a]∧a.solid1 = true∧a.noL = true) (hb:b.dis = b∧b.own1 = b∧b.cells = [b]∧b.solid1 = true∧b.noL = true) {val err:Int} {K:Exit→Sf→St→Prop}
    (ht:aA Go.Proofs.Try.prog n_f57 [.ptr s 0,.lit (.int .i64 (i:Nat)),bJ its] s1 (fun r st'=>r = it4s (its.map (cF R.ws i))∧ed st s mid cv ov L st' R' (n + 1)))
    (hK:∀ st',ed st s mid cv ov L st' R' (n + 1)→K .ret ⟨[(10,.lptr 10 0),(11,.lit (.bool true)),(12,it4s (its.map (cF R.ws i))),(13,.lit (.int .i64 0))],[(10,[a,b,.lit (.int .i64 val),.lit (.int .i64 err)])]⟩ st') :
    aC Go.Proofs.Try.prog id false f30_70 ⟨[(0,.ptr s 0),(10,.lptr 10 0),(12,bJ its),(19,.lptr 19 0)],[(10,[a,b,.lit (.int .i64 val),.lit (.int .i64 err)]),(19,[.lit (.int .i64 (i:Nat)),z1,z2])]⟩ s1 K:=by
  obtain ⟨v1,v2,v3,v4,v5,v6,v7⟩:=ca its
  obtain ⟨a1,a2,a3,a4,a5⟩:=ha
  obtain ⟨b1,b2,b3,b4,b5⟩:=hb
  obtain ⟨w1,w2,w3,w4,w5,w6,w7⟩:=bE (its.map (cF R.ws i))
  simp (config:=KF) (disch:=omega) only [bZ,f30_70e]
  refine draw_m ⟨[]⟩ (St.sub_nil _) ?_
  simp (config:=KF) (disch:=omega) only [bZ,im,gx,kj,l8,gS,e9,ma,f9,lF,lG,iy,addA,aa,id,List.nil_append,List.cons_append,↓reduceIte,Nat.reduceEqDiff,Nat.reduceAdd,Nat.reduceLeDiff,reduceCtorEq,v1,a2,b2]
  refine mc (vs:=[.ptr s 0,.lit (.int .i64 (i:Nat)),bJ its]) (by simp [v1]; exact ⟨rfl,rfl⟩) e_f57 ht (by simp [v5]; exact ⟨rfl,rfl⟩) ?_
  simp (config:=KF) (disch:=omega) only [bZ,ksB,aR,bA,bQ,aT,nstB,bR,l9,gA,↓reduceIte,Nat.reduceEqDiff,reduceCtorEq]
  rintro r st4 ⟨rfl,hq⟩
  refine ⟨St.sub_nil _,?_⟩
  simp (config:=KF) (disch:=omega) only [bZ,ksB,aR,bA,bQ,aT,cX,b9,nstB,bR,im,gz,fB,gB,ji,am,↓reduceIte,Nat.reduceEqDiff,Nat.reduceAdd,Nat.reduceLeDiff,reduceCtorEq,a2,a4,b2,b4,w1]
  exact hK _ hq

theorem scarry_mid (h:SelR st s mid cv ov L R n) (hn:n < 2000) {x:Cs} (hx0:0≤x.1∧x.1 < (L.length:Int)) (hrd:rdyR R x = true) {a b:AV} (ha:a.dis = a∧a.own1 = a∧a.cells = [a]∧a.solid1 = true∧a.noL = true) (hb:b.dis = b∧b.own1 = b∧b.cells = [b]∧b.solid1 = true∧b.noL = true) {K:Exit→Sf→St→Prop}
    (hK:∀ st',ed st s mid cv ov L st' (ba R x).1 (n + 1)→K .ret ⟨[(10,.lptr 10 0),(11,.lit (.bool true)),(12,it4s (ba R x).2.2.2),(13,.lit (.int .i64 0))],[(10,[a,b,.lit (.int .i64 (ba R x).2.1),.lit (.int .i64 (ba R x).2.2.1)])]⟩ st') :
    aC Go.Proofs.Try.prog id false f30_64 ⟨[(0,.ptr s 0),(10,.lptr 10 0),(19,.lptr 19 0)],[(10,[a,b,.lit (.int .i64 0),.lit (.int .i64 0)]),(19,[.lit (.int .i64 x.1),.lit (.bool x.2.1),.lit (.int .i64 x.2.2)])]⟩ st K:=by
  obtain ⟨i,hi⟩:∃ i:Nat,x.1 = (i:Int):=⟨x.1.toNat,by omega⟩
  have hil:i < L.length:=by omega
  have hx:L[i]? = some L[i]:=List.getElem?_eq_getElem hil
  have hxm:L[i] ∈ L:=List.getElem_mem hil
  have his:=h.is.each _ hxm
  have hbd:=h.bd _ hxm
  have hbd':=hbd
  unfold Bd at hbd'
  obtain ⟨q1,q2⟩:=h.rel i _ hx
  have hch:R.ch[i]? = some (L[i].P.cap,L[i].P.buf,L[i].P.closed):=h.ob ▸ obs_at hx
  have hat:atR R (i:Int) = (L[i].P.cap,L[i].P.buf,L[i].P.closed):=by
    unfold atR
    rw [if_neg (by omega),Int.toNat_natCast,List.getD_eq_getElem?_getD,hch]; rfl
  have htk:=ch_tasks his
  obtain ⟨nd1,nd2,nd3⟩:=List.nodup_append.1 htk
  have hgs:=h.is.get
  obtain ⟨a1,a2,a3,a4,a5⟩:=ha
  obtain ⟨b1,b2,b3,b4,b5⟩:=hb
  rcases h.is.chs with ⟨hcv,e,e2⟩ | ⟨bi,cap,r,hcv,hgb,h3,h4,h5⟩
  · omega
  have hpd:=ez hx r
  rw [hcv] at hgs
  obtain ⟨xi,xs,xv⟩:=x
  simp only at hi
  subst hi
  cases xs with
  | true =>
    simp (config:=KF) (disch:=omega) only [bZ,dk,aU,ixSV,ai,addA,aa,id,bY,↓reduceIte,Nat.reduceEqDiff,reduceCtorEq,f30_64e,hgs,hgb,hpd]
    refine au rfl e_f40 (gF his xv (by omega)) rfl fun r1 s1 hr=>?_
    obtain ⟨rfl,hp⟩:=hr
    obtain ⟨v1,v2,v3,v4,v5,v6,v7⟩:=ca (aG L[i].P xv).2.1
    simp (config:=KF) (disch:=omega) only [bZ,am,addA,↓reduceIte,Nat.reduceEqDiff,Nat.reduceAdd,Nat.reduceLeDiff,reduceCtorEq,v1,v3]
    have fin:∀ (R':RS) (e:Int) (l4:List It4),ba R ((i:Int),true,xv) = (R',0,e,l4)→(aG L[i].P xv).2.2 = e →
        ∀ (P':ChP) (its:List It),(aG L[i].P xv).1 = P'→(aG L[i].P xv).2.1 = its→R' = ⟨R.ch.set i (P'.cap,P'.buf,P'.closed),wos (its.map (·.1)) R.ws⟩→l4 = its.map (cF R.ws (i:Int)) →
        P'.S.map (·.2) = qD (wos (its.map (·.1)) R.ws) i true→P'.V.map (·.2) = qD (wos (its.map (·.1)) R.ws) i false→(its.map (·.1)).Nodup→its.length < 100000→(∀ x ∈ its,∃ l,ag x.1 R.ws = some l) →
        aC Go.Proofs.Try.prog id false f30_70 ⟨[(0,.ptr s 0),(10,.lptr 10 0),(12,bJ (aG L[i].P xv).2.1),(19,.lptr 19 0)],[(10,[a,b,.lit (.int .i64 0),.lit (.int .i64 (aG L[i].P xv).2.2)]),(19,[.lit (.int .i64 (i:Nat)),.lit (.bool true),.lit (.int .i64 xv)])]⟩ s1 K:=fun R' e l4 h1 h2 P' its h3 h4 h5 h6 h7 h8 h9 h10 h11=>by
      have hbt:=bd_try hbd xv
      rw [h3] at hbt hp
      rw [h4,h2]
      refine nI ⟨a1,a2,a3,a4,a5⟩ ⟨b1,b2,b3,b4,b5⟩ (mo h (by omega) hx hp h7 h8 hbt h9 h10 h11) fun st' hq=>?_
      have:=hK st'
      rw [h1] at this
      simp only at this
      rw [h6,h5] at this
      exact this hq
    unfold rdyR at hrd
    simp only [hat,if_true] at hrd
    cases hcl:L[i].P.closed with
    | true =>
      have h1:ba R ((i:Int),true,xv) = (R,0,14,[]):=by unfold ba; simp only [hat,hcl,if_true]
      have h2:aG L[i].P xv = (L[i].P,[],14):=by unfold aG; rw [if_pos hcl]
      exact fin R 14 [] h1 (by rw [h2]) L[i].P [] (by rw [h2]) (by rw [h2]) (by rw [gh hch]; rfl) rfl q1 q2 (by simp) (by simp) (fun x hx=>by cases hx)
    | false =>
      cases hV:L[i].P.V with
      | cons y l =>
        obtain ⟨k,t1,v1⟩:=y
        rw [hV] at nd2
        have hq:qD R.ws (i:Int) false = (t1,v1)::l.map (·.2):=by rw [← q2,hV]; rfl
        have h1:ba R ((i:Int),true,xv) = (⟨R.ch,wo t1 R.ws⟩,0,0,[cF R.ws i (t1,xv,0)]):=by
          unfold ba
          simp only [hat,hcl,if_true,Bool.false_eq_true,if_false]
          rw [hq]
        have h2:aG L[i].P xv = ({ L[i].P with V:=l },[(t1,xv,0)],0):=by unfold aG; rw [if_neg (by simp [hcl]),hV]
        have hnS:t1 ∉ L[i].P.S.map (·.2.1):=fun e=>nd3 _ e t1 (by rw [hV]; simp) rfl
        refine fin _ 0 _ h1 (by rw [h2]) { L[i].P with V:=l } [(t1,xv,0)] (by rw [h2]) (by rw [h2]) (by rw [gh hch]; rfl) rfl ?_ ?_ (by simp) (by simp) (fun x hx=>?_)
        · show L[i].P.S.map (·.2) = qD (wo t1 R.ws) i true
          rw [ko,← q1,no_wo hnS]
        · show l.map (·.2) = qD (wo t1 R.ws) i false
          rw [ko,← q2,hd_wo hV (by rw [hV]; exact nd2)]
        · simp only [List.mem_singleton] at hx
          subst hx
          obtain ⟨l,hl,_⟩:=oS (p:=(t1,v1)) (by rw [hq]; exact List.mem_cons_self) h.wok.nd
          exact ⟨l,hl⟩
      | nil =>
        have hq:qD R.ws (i:Int) false = []:=by rw [← q2,hV]; rfl
        rw [hcl,hq] at hrd
        have hlt:L[i].P.buf.length < L[i].P.cap:=by simpa using hrd
        have h1:ba R ((i:Int),true,xv) = (⟨R.ch.modify i fun c=>(c.1,c.2.1++[xv],c.2.2),R.ws⟩,0,0,[]):=by
          unfold ba
          simp only [hat,hcl,if_true,Bool.false_eq_true,if_false,Int.toNat_natCast]
          rw [hq]
        have h2:aG L[i].P xv = ({ L[i].P with buf:=L[i].P.buf++[xv] },[],0):=by unfold aG; rw [if_neg (by simp [hcl])]; simp only [hV,if_pos hlt]
        exact fin _ 0 [] h1 (by rw [h2]) { L[i].P with buf:=L[i].P.buf++[xv] } [] (by rw [h2]) (by rw [h2]) (by rw [fZ hch]; rfl) rfl q1 q2 (by simp) (by simp) (fun x hx=>by cases hx)
  | false =>
    simp (config:=KF) (disch:=omega) only [bZ,aU,ixSV,ai,addA,aa,id,bY,↓reduceIte,Nat.reduceEqDiff,reduceCtorEq,f30_64e,hgs,hgb,hpd]
    refine au rfl e_f42 (fc his ⟨hbd,by omega⟩) rfl fun r1 s1 hr=>?_
    obtain ⟨rfl,hp⟩:=hr
    obtain ⟨v1,v2,v3,v4,v5,v6,v7⟩:=ca (ak L[i].P).2.2.1
    simp (config:=KF) (disch:=omega) only [bZ,am,addA,↓reduceIte,Nat.reduceEqDiff,Nat.reduceAdd,Nat.reduceLeDiff,reduceCtorEq,v1,v3]
    have fin:∀ (R':RS) (val e:Int) (l4:List It4),ba R ((i:Int),false,xv) = (R',val,e,l4)→(ak L[i].P).2.2.2 = e→(ak L[i].P).2.1 = val →
        ∀ (P':ChP) (its:List It),(ak L[i].P).1 = P'→(ak L[i].P).2.2.1 = its→R' = ⟨R.ch.set i (P'.cap,P'.buf,P'.closed),wos (its.map (·.1)) R.ws⟩→l4 = its.map (cF R.ws (i:Int)) →
        P'.S.map (·.2) = qD (wos (its.map (·.1)) R.ws) i true→P'.V.map (·.2) = qD (wos (its.map (·.1)) R.ws) i false→(its.map (·.1)).Nodup→its.length < 100000→(∀ x ∈ its,∃ l,ag x.1 R.ws = some l) →
        aC Go.Proofs.Try.prog id false f30_70 ⟨[(0,.ptr s 0),(10,.lptr 10 0),(12,bJ (ak L[i].P).2.2.1),(19,.lptr 19 0)],[(10,[a,b,.lit (.int .i64 (ak L[i].P).2.1),.lit (.int .i64 (ak L[i].P).2.2.2)]),(19,[.lit (.int .i64 (i:Nat)),.lit (.bool false),.lit (.int .i64 xv)])]⟩ s1 K:=fun R' val e l4 h1 h2 h2' P' its h3 h4 h5 h6 h7 h8 h9 h10 h11=>by
      have hbt:=bd_tryr hbd
      rw [h3] at hbt hp
      rw [h4,h2,h2']
      refine nI ⟨a1,a2,a3,a4,a5⟩ ⟨b1,b2,b3,b4,b5⟩ (mo h (by omega) hx hp h7 h8 hbt h9 h10 h11) fun st' hq=>?_
      have:=hK st'
      rw [h1] at this
      simp only at this
      rw [h6,h5] at this
      exact this hq
    unfold rdyR at hrd
    simp only [hat,Bool.false_eq_true,if_false] at hrd
    cases hS:L[i].P.S with
    | cons y l =>
      obtain ⟨k,t1,v1⟩:=y
      rw [hS] at nd1
      have hq:qD R.ws (i:Int) true = (t1,v1)::l.map (·.2):=by rw [← q1,hS]; rfl
      have h1:ba R ((i:Int),false,xv) = (⟨R.ch.modify i fun c=>(c.1,(c.2.1++[v1]).tail,c.2.2),wo t1 R.ws⟩,(L[i].P.buf++[v1]).headD 0,0,[cF R.ws i (t1,0,0)]):=by
        unfold ba
        simp only [hat,Bool.false_eq_true,if_false,Int.toNat_natCast]
        rw [hq]
      have h2:ak L[i].P = ({ L[i].P with S:=l,buf:=(L[i].P.buf++[v1]).tail },(L[i].P.buf++[v1]).headD 0,[(t1,0,0)],0):=by unfold ak; rw [hS]
      have hnV:t1 ∉ L[i].P.V.map (·.2.1):=fun e=>nd3 t1 (by rw [hS]; simp) _ e rfl
      refine fin _ _ 0 _ h1 (by rw [h2]) (by rw [h2]) { L[i].P with S:=l,buf:=(L[i].P.buf++[v1]).tail } [(t1,0,0)] (by rw [h2]) (by rw [h2]) (by rw [fZ hch]; rfl) rfl ?_ ?_ (by simp) (by simp) (fun x hx=>?_)
      · show l.map (·.2) = qD (wo t1 R.ws) i true
        rw [ko,← q1,hd_wo hS (by rw [hS]; exact nd1)]
      · show L[i].P.V.map (·.2) = qD (wo t1 R.ws) i false
        rw [ko,← q2,no_wo hnV]
      · simp only [List.mem_singleton] at hx
        subst hx
        obtain ⟨l,hl,_⟩:=oS (p:=(t1,v1)) (by rw [hq]; exact List.mem_cons_self) h.wok.nd
        exact ⟨l,hl⟩
    | nil =>
      have hq:qD R.ws (i:Int) true = []:=by rw [← q1,hS]; rfl
      cases hB:L[i].P.buf with
      | nil =>
        rw [hq,hB] at hrd
        have hcl:L[i].P.closed = true:=by simpa using hrd
        have h1:ba R ((i:Int),false,xv) = (R,0,13,[]):=by
          unfold ba
          simp only [hat,Bool.false_eq_true,if_false,Int.toNat_natCast]
          rw [hq]
          simp only [hB,hcl,if_true]
        have h2:ak L[i].P = (L[i].P,0,[],13):=by unfold ak; rw [hS,hB]; simp only [hcl,if_true]
        exact fin R 0 13 [] h1 (by rw [h2]) (by rw [h2]) L[i].P [] (by rw [h2]) (by rw [h2]) (by rw [gh hch]; rfl) rfl q1 q2 (by simp) (by simp) (fun x hx=>by cases hx)
      | cons v b' =>
        have h1:ba R ((i:Int),false,xv) = (⟨R.ch.modify i fun c=>(c.1,b',c.2.2),R.ws⟩,v,0,[]):=by
          unfold ba
          simp only [hat,Bool.false_eq_true,if_false,Int.toNat_natCast]
          rw [hq]
          simp only [hB]
        have h2:ak L[i].P = ({ L[i].P with buf:=b' },v,[],0):=by unfold ak; simp only [hS,hB]
        exact fin _ v 0 [] h1 (by rw [h2]) (by rw [h2]) { L[i].P with buf:=b' } [] (by rw [h2]) (by rw [h2]) (by rw [fZ hch]; rfl) rfl q1 q2 (by simp) (by simp) (fun x hx=>by cases hx)
end
end Go.Fx.YtbomoaajkinfpaaFx

