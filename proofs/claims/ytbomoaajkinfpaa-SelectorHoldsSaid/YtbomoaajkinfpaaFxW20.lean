/- What the functions that the statement reaches compute: part 20. -/
import Derived.Test.YtbomoaajkinfpaaFxW19
namespace Go.Fx.YtbomoaajkinfpaaFx
open Go Go.Fx
attribute [local irreducible] aC runI aw aB

set_option maxRecDepth 100000
set_option maxHeartbeats 4000000

def rdyR (R:RS) (x:Cs):Bool:=if x.2.1 = true then (atR R x.1).2.2 || (decide (qD R.ws x.1 false≠[]) || decide ((atR R x.1).2.1.length < (atR R x.1).1)) else (atR R x.1).2.2 || (decide (qD R.ws x.1 true≠[]) || decide (0 < (atR R x.1).2.1.length))
def aE (R:RS):Nat→List Cs→List Int
  | _,[]=>[]
  | k,x::l=>(if rdyR R x = true then [(k:Int)] else [])++aE R (k + 1) l
/-- A case that is ready is carried out: what its end adds, and what ends with it. -/
def ba (R:RS) (x:Cs):RS×Int×Int×List It4 :=
  if x.2.1 = true then
    if (atR R x.1).2.2 = true then (R,0,14,[]) else
    match qD R.ws x.1 false with
    | p::_=>(⟨R.ch,wo p.1 R.ws⟩,0,0,[cF R.ws x.1 (p.1,x.2.2,0)])
    | []=>(⟨R.ch.modify x.1.toNat fun c=>(c.1,c.2.1++[x.2.2],c.2.2),R.ws⟩,0,0,[])
  else
    match qD R.ws x.1 true with
    | p::_=>(⟨R.ch.modify x.1.toNat fun c=>(c.1,(c.2.1++[p.2]).tail,c.2.2),wo p.1 R.ws⟩,((atR R x.1).2.1++[p.2]).headD 0,0,[cF R.ws x.1 (p.1,0,0)])
    | [] => match (atR R x.1).2.1 with
      | []=>(R,0,if (atR R x.1).2.2 = true then 13 else 16,[])
      | v::b=>(⟨R.ch.modify x.1.toNat fun c=>(c.1,b,c.2.2),R.ws⟩,v,0,[])
/-- End, done, ended, error. -/
abbrev RR:=It4×Bool×List It4×Int
def bG (R:RS) (t:Int) (l:List Cs) (pick:Int) (wait:Bool):RS×RR :=
  if t < 0∨64≤t∨a9 R.ch.length l = false∨pick < 0 then (R,(0,0,0,0),false,[],2) else
  match ag t R.ws with
  | some _=>(R,(0,0,0,0),false,[],11)
  | none =>
    if aE R 0 l = [] then (if wait = false then (R,(0,0,0,0),false,[],16) else (⟨R.ch,R.ws++[(t,l)]⟩,(0,0,0,0),false,[],0)) else
    ((ba R (l.getD ((aE R 0 l).getD (pick.toNat % (aE R 0 l).length) 0).toNat (0, false, 0))).1,
      (t,(aE R 0 l).getD (pick.toNat % (aE R 0 l).length) 0,(ba R (l.getD ((aE R 0 l).getD (pick.toNat % (aE R 0 l).length) 0).toNat (0,false,0))).2.1,(ba R (l.getD ((aE R 0 l).getD (pick.toNat % (aE R 0 l).length) 0).toNat (0,false,0))).2.2.1),true,
      (ba R (l.getD ((aE R 0 l).getD (pick.toNat % (aE R 0 l).length) 0).toNat (0,false,0))).2.2.2,0)

theorem gV {P:ChP} {n m:Nat} (h:Bd P n) (hm:n≤m):Bd P m:=by unfold Bd at *; omega
theorem bd_try {P:ChP} {n:Nat} (h:Bd P n) (v:Int):Bd (aG P v).1 (n + 1):=by
  unfold aG
  split
  · exact gV h (Nat.le_succ _)
  · split
    · rename_i x l hV
      unfold Bd at *
      rw [hV] at h
      simp only [List.length_cons] at h ⊢
      omega
    · split
      · unfold Bd at *
        simp only [List.length_append,List.length_singleton]
        omega
      · exact gV h (Nat.le_succ _)
theorem bd_tryr {P:ChP} {n:Nat} (h:Bd P n):Bd (ak P).1 (n + 1):=by
  unfold ak
  split
  · rename_i x l hS
    unfold Bd at *
    rw [hS] at h
    simp only [List.length_cons,List.length_tail,List.length_append,List.length_nil] at h ⊢
    omega
  · split
    · exact gV h (Nat.le_succ _)
    · rename_i x b hB
      unfold Bd at *
      rw [hB] at h
      simp only [List.length_cons] at h ⊢
      omega

section
variable {st:St} {s mid n:Nat} {cv ov:AV} {L:List CL} {R:RS}
theorem rel_nil {L:List CL} {f:Nat→List Wt} (h:Rel L f) {i:Nat} {x:CL} (hi:L[i]? = some x):(0 < x.P.S.length↔qD (f i) i true≠[])∧(0 < x.P.V.length↔qD (f i) i false≠[]):=by
  obtain ⟨h1,h2⟩:=h i x hi
  constructor
  · rw [← h1,List.length_pos_iff,ne_eq,ne_eq,List.map_eq_nil_iff]
  · rw [← h2,List.length_pos_iff,ne_eq,ne_eq,List.map_eq_nil_iff]
theorem rdy_eq {L:List CL} {R:RS} {f:Nat→List Wt} (hr:Rel L f) (ho:obs L = R.ch) {i:Nat} (hf:f i = R.ws) {x:Cs} (hx:x.1 = (i:Int)) (hi:i < L.length):rdyL L x = rdyR R x:=by
  have hc:L[i]? = some L[i]:=List.getElem?_eq_getElem hi
  have hat:atR R (i:Int) = (L[i].P.cap,L[i].P.buf,L[i].P.closed):=by
    unfold atR
    rw [if_neg (by omega),← ho,Int.toNat_natCast,List.getD_eq_getElem?_getD,obs_at hc]; rfl
  obtain ⟨h1,h2⟩:=rel_nil hr hc
  rw [hf] at h1 h2
  unfold rdyL rdyR
  rw [hx,Int.toNat_natCast,hc,hat]
  simp only [rdyC]
  rw [decide_eq_decide.2 h1,decide_eq_decide.2 h2]
theorem oU (h:SelR st s mid cv ov L R n):∀ (l:List Cs) (k:Nat),(∀ x ∈ l,0≤x.1∧x.1 < (L.length:Int))→rdyX L k l = aE R k l
  | [],_,_=>rfl
  | x :: l, k, hl => by
    obtain ⟨h1,h2⟩:=hl x List.mem_cons_self
    have:=rdy_eq (x:=x) (i:=x.1.toNat) h.rel h.ob rfl (by omega) (by omega)
    simp only [rdyX,aE,this,oU h l (k + 1) fun y hy=>hl y (List.mem_cons_of_mem _ hy)]

theorem vR_rng {n:Nat}:∀ {l:List Cs} {seen:List Int},vR n seen l = true→(∀ x ∈ l,0≤x.1∧x.1 < (n:Int)∧x.1 ∉ seen)∧(l.map (·.1)).Nodup
  | [],_,_=>⟨fun x hx=>by simp at hx,by simp⟩
  | x :: l, seen, h => by
    rw [oR] at h
    split at h
    · cases h
    · rename_i hn
      obtain ⟨h1,h2⟩:=vR_rng h
      refine ⟨fun y hy=>?_,?_⟩
      · rcases List.mem_cons.1 hy with rfl | hy
        · refine ⟨by omega,by omega,fun e=>hn (.inr (.inr e))⟩
        · obtain ⟨a,b,c⟩:=h1 y hy
          exact ⟨a,b,fun e=>c (List.mem_cons_of_mem _ e)⟩
      · simp only [List.map_cons,List.nodup_cons,List.mem_map,not_exists,not_and]
        exact ⟨fun y hy e=>(h1 y hy).2.2 (by rw [e]; exact List.mem_cons_self),h2⟩
/-- Distinct numbers below a bound are few. -/
theorem jT:∀ {n:Nat} {l:List Int},l.Nodup→(∀ x ∈ l,0≤x∧x < (n:Int))→l.length≤n
  | 0,[],_,_=>Nat.le_refl _
  | 0,x::l,_,h=>by have:=h x List.mem_cons_self; omega
  | n + 1, l, hn, h => by
    have h1:(l.filter fun x=>x != (n:Int)).length≤n:=jT (hn.sublist List.filter_sublist) fun x hx=>by
      obtain ⟨h1,h2⟩:=List.mem_filter.1 hx
      have:=h x h1
      have h3:x≠(n:Int):=by simpa using h2
      omega
    have h2:l.length≤(l.filter fun x=>x != (n:Int)).length + 1:=by
      clear h h1
      induction l with
      | nil=>simp
      | cons x l ih =>
        obtain ⟨h1,h2⟩:=List.nodup_cons.1 hn
        by_cases e:x = (n:Int)
        · subst e
          have:l.filter (fun x=>x != (n:Int)) = l:=by
            rw [List.filter_eq_self]
            intro y hy
            have:y≠(n:Int):=fun e=>h1 (e ▸ hy)
            simpa using this
          simp [this]
        · have:=ih h2
          have hb:(x != (n:Int)) = true:=by simpa using e
          simp only [List.filter_cons,hb,if_true,List.length_cons]
          omega
    omega
theorem cq {n:Nat} {l:List Cs} (h:a9 n l = true):l.length≤n∧(∀ x ∈ l,0≤x.1∧x.1 < (n:Int))∧(l.map (·.1)).Nodup∧l≠[]:=by
  unfold a9 at h
  simp only [Bool.and_eq_true,decide_eq_true_eq] at h
  obtain ⟨h1,h2⟩:=vR_rng h.1
  have h3:=jT h2 fun x hx=>by
    obtain ⟨y,hy,rfl⟩:=List.mem_map.1 hx
    exact ⟨(h1 y hy).1,(h1 y hy).2.1⟩
  rw [List.length_map] at h3
  exact ⟨h3,fun x hx=>⟨(h1 x hx).1,(h1 x hx).2.1⟩,h2,h.2⟩

theorem gD (h:SelR st s mid cv ov L R n) {v:AV} {l:List Cs} (hv:CV v st l) (hll:l.length < 100000):aL Go.Proofs.Try.prog n_f27 [.ptr s 0,v] st (.tup [intS (if a9 R.ch.length l = true then aE R 0 l else []),.lit (.int .i64 (if a9 R.ch.length l = true then 0 else 2))]):=by
  obtain ⟨v1,v2,v3,v4,v5,v6,v7,v8⟩:=hv.facts
  have hcl:R.ch.length = L.length:=by rw [← h.ob,gU]
  rw [hcl]
  refine aD hmix k_f27 rfl rfl fun Q hQ=>?_
  unfold aFun c_f27
  simp (config:=KF) (disch:=omega) only [bZ,id,↓reduceIte,Nat.reduceEqDiff,reduceCtorEq]
  refine ao rfl e_f51 (dv h.is) rfl ?_
  simp (config:=KF) (disch:=omega) only [bZ,id,↓reduceIte,Nat.reduceEqDiff,reduceCtorEq,v1]
  refine ao (vs:=[.ptr s 0,v]) (by simp [v1]; rfl) e_f53 (kr h.is h.len hv hll) (by simp [v5]; rfl) ?_
  cases hb:a9 L.length l with
  | false =>
    rw [hb] at hQ
    simp (config:=KF) (disch:=omega) only [bZ,retI,unA,↓reduceIte,Nat.reduceEqDiff,reduceCtorEq]
    exact hQ _
  | true =>
    rw [hb] at hQ
    obtain ⟨q1,q2,q3,q4⟩:=cq hb
    rw [if_pos rfl,if_pos rfl,← oU h l 0 q2] at hQ
    obtain ⟨w1,w2,w3,w4,w5,w6,w7,w8⟩:=c9 (rdyX L 0 l)
    simp (config:=KF) (disch:=omega) only [bZ,unA,id,↓reduceIte,Nat.reduceEqDiff,reduceCtorEq,v1]
    refine ao (vs:=[.ptr s 0,v]) (by simp [v1]; rfl) e_f54 (ku h.is hv hll q2) (by simp [v5]; rfl) ?_
    simp (config:=KF) (disch:=omega) only [bZ,retI,↓reduceIte,Nat.reduceEqDiff,reduceCtorEq,w1,w5]
    exact hQ _
end
end Go.Fx.YtbomoaajkinfpaaFx

