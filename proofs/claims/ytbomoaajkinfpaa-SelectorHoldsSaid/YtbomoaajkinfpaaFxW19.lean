/- What the functions that the statement reaches compute: part 19. -/
import Derived.Test.YtbomoaajkinfpaaFxW18
namespace Go.Fx.YtbomoaajkinfpaaFx
open Go Go.Fx
attribute [local irreducible] aC runI aw aB

set_option maxRecDepth 100000
set_option maxHeartbeats 4000000

/-- A selector as it is seen: its channels (capacity, buffer, closed), and who waits. -/
structure RS where
  ch:List (Nat×List Int×Bool)
  ws:List Wt
structure SelR (st:St) (s mid:Nat) (cv ov:AV) (L:List CL) (R:RS) (n:Nat):Prop where
  is:SelIs st s mid cv ov L R.ws
  rel:Rel L fun _=>R.ws
  ob:obs L = R.ch
  bd:BdL L n
  wok:WOk R.ws L.length
  tk:∀ w ∈ R.ws,0≤w.1∧w.1 < 64
  len:L.length≤16
def ed (st:St) (s mid:Nat) (cv ov:AV) (L:List CL) (st':St) (R':RS) (n':Nat):Prop :=
  ∃ cv' ov' L',SelR st' s mid cv' ov' L' R' n'∧Kp st st' (ah s mid cv ov L)∧∀ x ∈ ah s mid cv' ov' L',x ∈ ah s mid cv ov L∨st.boxes.length≤x

theorem gU (L:List CL):(obs L).length = L.length:=by simp [obs]
theorem obs_at {L:List CL} {i:Nat} {x:CL} (h:L[i]? = some x):(obs L)[i]? = some (x.P.cap,x.P.buf,x.P.closed):=by simp [obs,h]

theorem qD_wos (i:Int) (d:Bool):∀ (ts:List Int) (ws:List Wt),qD (wos ts ws) i d = (qD ws i d).filter fun p=>!ts.contains p.1
  | [], ws => by
    show qD ws i d = _
    rw [List.filter_eq_self.2]; intro p _; rfl
  | t :: ts, ws => by
    rw [jm,qD_wos i d ts,ko,List.filter_filter]
    congr 1
    funext p
    simp only [List.contains_cons,Bool.not_or]
    rw [Bool.and_comm]
    rfl
theorem oS {ws:List Wt} {i:Int} {d:Bool} {p:Int×Int} (h:p ∈ qD ws i d) (hnd:(ws.map (·.1)).Nodup):∃ l,ag p.1 ws = some l∧(p.1,l) ∈ ws:=by
  unfold qD at h
  obtain ⟨w,hw,hq⟩:=List.mem_filterMap.1 h
  have:=fX hq
  rw [this]
  exact ⟨w.2,ew hnd hw,hw⟩

section
variable {st:St} {s mid n:Nat} {cv ov:AV} {L:List CL} {R:RS}

/-- At one channel no task waits twice. -/
theorem ch_tasks {st:St} {c q0 m0 q1 m1 wid:Nat} {bv:AV} {P:ChP} (h:ChIs st c P q0 m0 q1 m1 wid bv):(P.S.map (·.2.1)++P.V.map (·.2.1)).Nodup:=by
  have:=h.nd
  rwa [show az (entC P.S P.V) = P.S.map (·.2.1)++P.V.map (·.2.1) by simp [entC,d9,cN]] at this

def atL (L:List CL) (i:Int):Option CL:=if i < 0 then none else L[i.toNat]?
def atR (R:RS) (i:Int):Nat×List Int×Bool:=if i < 0 then (0,[],false) else R.ch.getD i.toNat (0,[],false)
theorem atR_eq (h:SelR st s mid cv ov L R n) (i:Int):atR R i = match atL L i with | some c=>(c.P.cap,c.P.buf,c.P.closed) | none=>(0,[],false):=by
  unfold atR atL
  split
  · rfl
  · rw [← h.ob,List.getD_eq_getElem?_getD]
    cases hx:L[i.toNat]? with
    | none=>simp [obs,hx]
    | some c=>simp [obs,hx]
/-! What calls do. -/
def dL (R:RS) (t:Int):RS×Int:=if t < 0∨64≤t then (R,2) else match ag t R.ws with | none=>(R,9) | some _=>(⟨R.ch,wo t R.ws⟩,0)
def clsI (ws:List Wt) (i:Int):List It:=(qD ws i false).map (fun p=>(p.1,0,13))++(qD ws i true).map (fun p=>(p.1,0,14))
def cB (R:RS) (i:Int):RS×List It4×Int :=
  if i < 0∨(R.ch.length:Int)≤i then (R,[],2) else
  if (atR R i).2.2 = true then (R,[],14) else
  (⟨R.ch.modify i.toNat fun c=>(c.1,c.2.1,true),wos ((clsI R.ws i).map (·.1)) R.ws⟩,(clsI R.ws i).map (cF R.ws i),0)

theorem mN (h:SelR st s mid cv ov L R n) (hn:n < 100000) (t:Int) :
    aA Go.Proofs.Try.prog n_f37 [.ptr s 0,.lit (.int .i64 t)] st (fun r st'=>r = .lit (.int .i64 (dL R t).2)∧ed st s mid cv ov L st' (dL R t).1 n):=by
  have hg:=h.is.get
  obtain ⟨M,hM,hMl⟩:=h.is.mp
  refine ap hmix k_f37 rfl rfl fun Q hQ=>?_
  unfold aFun c_f37
  generalize hR:dL R t = X at hQ
  unfold dL at hR
  have hself:ed st s mid cv ov L st R n:=⟨cv,ov,L,h,Kp.refl _ _,fun x hx=>.inl hx⟩
  simp (config:=KF) (disch:=omega) only [bZ,id,↓reduceIte,Nat.reduceEqDiff,reduceCtorEq]
  refine ao rfl e_f51 (dv h.is) rfl ?_
  simp (config:=KF) (disch:=omega) only [bZ,AI.dst,↓reduceIte,Nat.reduceEqDiff,reduceCtorEq]
  refine bw (fun h1=>?_) (fun h1=>?_)
  · simp (config:=KF) (disch:=omega) only [bZ,retI,AI.dst,↓reduceIte,Nat.reduceEqDiff,reduceCtorEq]
    rw [if_pos (.inl h1)] at hR
    subst hR
    exact hQ _ _ ⟨rfl,hself⟩
  · simp (config:=KF) (disch:=omega) only [bZ,AI.dst,e8,↓reduceIte,Nat.reduceEqDiff,reduceCtorEq]
    refine aP (fun h2=>?_) (fun h2=>?_)
    · simp (config:=KF) (disch:=omega) only [bZ,retI,↓reduceIte,Nat.reduceEqDiff,reduceCtorEq]
      rw [if_pos (by omega)] at hR
      subst hR
      exact hQ _ _ ⟨rfl,hself⟩
    · rw [if_neg (by omega)] at hR
      have hlk:∀ z,aZ (.int .i64) z true st (.map mid) (.lit (.int .i64 t)) = .ok (match ag t R.ws with | some b=>.tup [(csSl b).dis,.lit (.bool true)] | none=>.tup [z,.lit (.bool false)]):=fun z=>by
        rw [aW hM,hMl]; cases ag t R.ws <;> rfl
      cases hl:ag t R.ws with
      | none =>
        rw [hl] at hR hlk
        subst hR
        simp (config:=KF) (disch:=omega) only [bZ,retI,bU,ai,addA,aa,unA,↓reduceIte,Nat.reduceEqDiff,reduceCtorEq,hg,hlk]
        exact hQ _ _ ⟨rfl,hself⟩
      | some l =>
        rw [hl] at hR hlk
        subst hR
        obtain ⟨c1,c2,c3,c4,c5,c6,c7⟩:=cg l
        simp (config:=KF) (disch:=omega) only [bZ,bU,ai,addA,aa,unA,id,↓reduceIte,Nat.reduceEqDiff,Int.reduceNeg,reduceCtorEq,hg,hlk,c1,c3]
        have hlm:=fE hl
        refine au rfl e_f58 (kq h.is h.bd hn h.wok.wl hl (h.wok.len _ hlm) (fun x hx=>h.wok.rng _ hlm x hx) h.rel (fun _ _=>rfl) h.wok.nd) rfl fun r st' hr=>?_
        obtain ⟨rfl,L',⟨cv',ov',b1,b2,b3⟩,b4,b5,b6⟩:=hr
        simp (config:=KF) (disch:=omega) only [bZ,retI,↓reduceIte,Nat.reduceEqDiff,reduceCtorEq]
        have hll:L'.length = L.length:=by have:=congrArg List.length b5; simpa [obs] using this
        refine hQ _ _ ⟨rfl,cv',ov',L',⟨b1,fun i x hi=>?_,b5.trans h.ob,b6,by rw [hll]; exact h.wok.sub List.filter_sublist,fun w hw=>h.tk w (List.mem_filter.1 hw).1,by rw [hll]; exact h.len⟩,b2,b3⟩
        have:=b4 i x hi
        have e:¬ (i:Int) = -1:=by omega
        simp only [e,if_false] at this
        exact this

theorem fZ {A:Type} {l:List A} {i:Nat} {a:A} (h:l[i]? = some a) (f:A→A):l.modify i f = l.set i (f a):=by
  apply List.ext_getElem?
  intro j
  rw [List.getElem?_modify,List.getElem?_set]
  by_cases e:i = j
  · subst e
    obtain ⟨h1,h2⟩:=List.getElem?_eq_some_iff.1 h
    simp [h1,h2]
  · simp [e]

theorem oT (h:SelR st s mid cv ov L R n) (hn:n < 3000) (i:Int) :
    aA Go.Proofs.Try.prog n_f38 [.ptr s 0,.lit (.int .i64 i)] st (fun r st'=>r = .tup [it4s (cB R i).2.1,.lit (.int .i64 (cB R i).2.2)]∧ed st s mid cv ov L st' (cB R i).1 n):=by
  have hg:=h.is.get
  obtain ⟨u1,u2,u3,u4,u5,u6,u7,u8⟩:=h.is.chs.facts
  have hlen:=h.len
  refine ap hmix k_f38 rfl rfl fun Q hQ=>?_
  unfold aFun c_f38
  generalize hR:cB R i = X at hQ
  unfold cB at hR
  have hcl:R.ch.length = L.length:=by rw [← h.ob,gU]
  rw [hcl] at hR
  have hself:ed st s mid cv ov L st R n:=⟨cv,ov,L,h,Kp.refl _ _,fun x hx=>.inl hx⟩
  simp (config:=KF) (disch:=omega) only [bZ,id,↓reduceIte,Nat.reduceEqDiff,reduceCtorEq]
  refine ao rfl e_f51 (dv h.is) rfl ?_
  simp (config:=KF) (disch:=omega) only [bZ,AI.dst,↓reduceIte,Nat.reduceEqDiff,reduceCtorEq]
  refine bw (fun h1=>?_) (fun h1=>?_)
  · simp (config:=KF) (disch:=omega) only [bZ,retI,AI.dst,↓reduceIte,Nat.reduceEqDiff,reduceCtorEq]
    rw [if_pos (.inl h1)] at hR
    subst hR
    exact hQ _ _ ⟨rfl,hself⟩
  simp (config:=KF) (disch:=omega) only [bZ,AI.dst,ai,addA,aa,e8,↓reduceIte,Nat.reduceEqDiff,reduceCtorEq,hg,u1,u8]
  refine aP (fun h2=>?_) (fun h2=>?_)
  · simp (config:=KF) (disch:=omega) only [bZ,retI,↓reduceIte,Nat.reduceEqDiff,reduceCtorEq]
    rw [if_pos (by omega)] at hR
    subst hR
    exact hQ _ _ ⟨rfl,hself⟩
  rw [if_neg (by omega)] at hR
  obtain ⟨k,rfl⟩:∃ k:Nat,i = (k:Int):=⟨i.toNat,by omega⟩
  have hk:k < L.length:=by omega
  have hx:L[k]? = some L[k]:=List.getElem?_eq_getElem hk
  have hat:atR R (k:Int) = (L[k].P.cap,L[k].P.buf,L[k].P.closed):=by
    have h0:¬ (k:Int) < 0:=by omega
    rw [atR_eq h]
    unfold atL
    rw [if_neg h0,Int.toNat_natCast,hx]
  rw [hat,Int.toNat_natCast] at hR
  simp only at hR
  rcases h.is.chs with ⟨rfl,e,e2⟩ | ⟨bi,cap,r,rfl,hgb,h3,h4,h5⟩
  · omega
  have hpd:=ez hx r
  simp (config:=KF) (disch:=omega) only [bZ,ixSV,ai,addA,aa,id,bY,↓reduceIte,Nat.reduceEqDiff,reduceCtorEq,hg,hgb,hpd]
  have hxm:L[k] ∈ L:=List.getElem_mem hk
  have his:=h.is.each _ hxm
  have hbd:=h.bd _ hxm
  refine au rfl e_f17 (o3 his ⟨hbd,hn⟩) rfl fun r1 s1 hr=>?_
  obtain ⟨rfl,hp⟩:=hr
  obtain ⟨bv',b1,b2,b3⟩:=h.is.chan hx hp
  obtain ⟨v1,v2,v3,v4,v5,v6,v7⟩:=ca (fg L[k].P).2.1
  simp (config:=KF) (disch:=omega) only [bZ,id,↓reduceIte,Nat.reduceEqDiff,reduceCtorEq,v1,v3]
  obtain ⟨q1,q2⟩:=h.rel k _ hx
  have hbd':=hbd
  unfold Bd at hbd'
  cases hc:L[k].P.closed with
  | true =>
    rw [hc,if_pos rfl] at hR
    subst hR
    have hP:fg L[k].P = (L[k].P,[],14):=by unfold fg; rw [if_pos hc]
    rw [hP] at b1 b3 ⊢
    refine au rfl e_f57 (iF (at':=(k:Int)) (its:=[]) b1 (h.bd.set hbd) (by omega) (by rw [List.length_set]; exact h.wok) (by simp) (by simp) (fun x hx=>by simp at hx) ?_) rfl fun r2 s2 hr=>?_
    · have:=h.rel.set (i:=k) (y:={ L[k] with P:=L[k].P,bv:=bv' }) (ws':=R.ws) q1 q2
      intro j z hz
      have:=this j z hz
      simp only [List.map_nil,wos,List.foldl_nil,ite_self] at this ⊢
      exact this
    · obtain ⟨rfl,L',⟨cv',ov',d1,d2,d3⟩,d4,d5,d6⟩:=hr
      obtain ⟨w1,w2,w3,w4,w5,w6,w7⟩:=bE []
      simp (config:=KF) (disch:=omega) only [bZ,retI,↓reduceIte,Nat.reduceEqDiff,reduceCtorEq,w1,w5]
      have hll:L'.length = L.length:=by have:=congrArg List.length d5; simpa [obs] using this
      refine hQ _ _ ⟨rfl,cv',ov',L',⟨d1,d4,?_,d6,by rw [hll]; exact h.wok,h.tk,by rw [hll]; exact hlen⟩,b2.trans d2 b3,fun x hx=>(d3 x hx).elim (b3 x) fun e=>.inr (Nat.le_trans b2.1 e)⟩
      rw [d5,← h.ob]
      exact oQ (y:={ L[k] with P:=L[k].P,bv:=bv' }) hx rfl rfl rfl
  | false =>
    rw [hc] at hR
    simp only [Bool.false_eq_true,if_false] at hR
    subst hR
    have hits:L[k].P.V.map (fun x=>(x.2.1,(0:Int),(13:Int)))++L[k].P.S.map (fun x=>(x.2.1,0,14)) = clsI R.ws (k:Int):=by
      unfold clsI
      rw [← q1,← q2,List.map_map,List.map_map]; rfl
    have hP:fg L[k].P = ({ L[k].P with closed:=true,S:=[],V:=[] },clsI R.ws (k:Int),0):=by unfold fg; rw [if_neg (by simp [hc]),hits]
    rw [hP] at b1 b3 v1 v2 v3 v4 v5 v6 v7 ⊢
    simp only at b1 b3 ⊢
    have htn:((clsI R.ws (k:Int)).map (·.1)) = L[k].P.V.map (·.2.1)++L[k].P.S.map (·.2.1):=by
      rw [← hits,List.map_append,List.map_map,List.map_map]; rfl
    have hcl:(clsI R.ws (k:Int)).length < 100000:=by rw [← hits]; simp only [List.length_append,List.length_map]; omega
    have hgone:∀ d,qD (wos ((clsI R.ws (k:Int)).map (·.1)) R.ws) (k:Int) d = []:=fun d=>by
      rw [qD_wos,List.filter_eq_nil_iff]
      intro p hp
      have:p.1 ∈ (clsI R.ws (k:Int)).map (·.1):=by
        unfold clsI
        simp only [List.map_append,List.map_map,List.mem_append,List.mem_map]
        cases d
        · exact .inl ⟨p,hp,rfl⟩
        · exact .inr ⟨p,hp,rfl⟩
      simpa using this
    refine au (vs:=[.ptr s 0,.lit (.int .i64 (k:Nat)),bJ (clsI R.ws (k:Int))]) (by simp [v1]; exact ⟨rfl,rfl⟩) e_f57 (iF (at':=(k:Int)) (its:=clsI R.ws (k:Int)) b1 (h.bd.set (by unfold Bd; simp only [List.length_nil]; omega)) (by omega) (by rw [List.length_set]; exact h.wok) ?_ hcl (fun x hx=>?_) ?_) (by simp [v5]; exact ⟨rfl,rfl⟩) fun r2 s2 hr=>?_
    · rw [htn]
      have:=ch_tasks his
      exact (List.perm_append_comm.nodup_iff).1 this
    · unfold clsI at hx
      simp only [List.mem_append,List.mem_map] at hx
      rcases hx with ⟨p,hp,rfl⟩ | ⟨p,hp,rfl⟩
      all_goals
        obtain ⟨l,hl,_⟩:=oS hp h.wok.nd
        exact ⟨l,hl⟩
    · have:=h.rel.set (i:=k) (y:={ L[k] with P:={ L[k].P with closed:=true,S:=[],V:=[] },bv:=bv' }) (ws':=wos ((clsI R.ws (k:Int)).map (·.1)) R.ws) (by rw [hgone]; rfl) (by rw [hgone]; rfl)
      intro j z hz
      have:=this j z hz
      by_cases e:j = k
      · subst e; simpa using this
      · have e2:¬ (j:Int) = (k:Int):=by omega
        simp only [e,e2,if_false] at this ⊢
        exact this
    · obtain ⟨rfl,L',⟨cv',ov',d1,d2,d3⟩,d4,d5,d6⟩:=hr
      obtain ⟨w1,w2,w3,w4,w5,w6,w7⟩:=bE ((clsI R.ws (k:Int)).map (cF R.ws (k:Int)))
      simp (config:=KF) (disch:=omega) only [bZ,retI,↓reduceIte,Nat.reduceEqDiff,reduceCtorEq,w1,w5]
      have hll:L'.length = L.length:=by have:=congrArg List.length d5; simpa [obs] using this
      refine hQ _ _ ⟨rfl,cv',ov',L',⟨d1,d4,?_,d6,by rw [hll]; exact h.wok.sub (ej _ _),fun w hw=>h.tk w ((ej _ _).subset hw),by rw [hll]; exact hlen⟩,b2.trans d2 b3,fun x hx=>(d3 x hx).elim (b3 x) fun e=>.inr (Nat.le_trans b2.1 e)⟩
      rw [d5,fZ (h.ob ▸ obs_at hx),← h.ob]
      apply List.ext_getElem?
      intro j
      simp only [obs,List.getElem?_map,List.getElem?_set,List.length_map]
      by_cases e:k = j
      · subst e; simp [hk]
      · simp [e]
end
end Go.Fx.YtbomoaajkinfpaaFx

