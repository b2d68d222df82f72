/- What the functions that the statement reaches compute: part 24. -/
import Derived.Test.YtbomoaajkinfpaaFxW23
namespace Go.Fx.YtbomoaajkinfpaaFx
open Go Go.Fx
attribute [local irreducible] aC runI aw aB

set_option maxRecDepth 100000
set_option maxHeartbeats 4000000

section
variable {st:St} {s mid n:Nat} {cv ov:AV} {L:List CL} {R:RS}

theorem SelR.mono {m:Nat} (h:SelR st s mid cv ov L R n) (hm:n≤m):SelR st s mid cv ov L R m:=⟨h.is,h.rel,h.ob,fun x hx=>gV (h.bd x hx) hm,h.wok,h.tk,h.len⟩
theorem SelR.few (h:SelR st s mid cv ov L R n):R.ws.length≤64:=by
  have:=jT (n:=64) h.wok.nd fun x hx=>by
    obtain ⟨w,hw,rfl⟩:=List.mem_map.1 hx
    exact h.tk w hw
  rwa [List.length_map] at this
theorem mq {ws:List Wt} {t u:Int} {l:List Cs} (h:ag t ws = none):ag u (ws++[(t,l)]) = if u = t then some l else ag u ws:=by
  induction ws with
  | nil=>simp [ag]
  | cons p r ih =>
    obtain ⟨a,b⟩:=p
    simp only [ag] at h
    split at h
    · cases h
    · rename_i hne
      simp only [List.cons_append,ag,ih h]
      by_cases e:u = a
      · subst e
        have:¬ u = t:=fun q=>hne q.symm
        simp [this]
      · simp [e]

theorem jU {R:RS}:∀ {l:List Cs} {k:Nat},aE R k l = []→∀ x ∈ l,rdyR R x = false
  | [],_,_,x,hx=>by cases hx
  | y :: l, k, h, x, hx => by
    simp only [aE,List.append_eq_nil_iff] at h
    rcases List.mem_cons.1 hx with rfl | hx
    · by_cases e:rdyR R x = true
      · rw [if_pos e] at h; simp at h
      · simpa using e
    · exact jU h.2 x hx
theorem gW {R:RS}:∀ {l:List Cs} {k:Nat} {j:Int},j ∈ aE R k l→(k:Int)≤j∧j < ((k + l.length:Nat):Int)∧rdyR R (l.getD (j - k).toNat (0,false,0)) = true
  | [],_,_,h=>by cases h
  | y :: l, k, j, h => by
    simp only [aE,List.mem_append] at h
    rcases h with h | h
    · by_cases e:rdyR R y = true
      · rw [if_pos e] at h
        simp only [List.mem_singleton] at h
        subst h
        refine ⟨Int.le_refl _,by simp only [List.length_cons]; omega,?_⟩
        simp [e]
      · rw [if_neg e] at h; cases h
    · obtain ⟨h1,h2,h3⟩:=gW h
      refine ⟨by omega,by simp only [List.length_cons]; omega,?_⟩
      have e:(j - (k:Int)).toNat = (j - ((k + 1:Nat):Int)).toNat + 1:=by omega
      rw [e,List.getD_cons_succ]
      exact h3

theorem io (h:SelR st s mid cv ov L R n) (hn:n < 2000) {v:AV} {l:List Cs} {t pick:Int} {wait:Bool} (hv:CV v st l) (hvb:∀ x ∈ ae v,x ∉ ah s mid cv ov L) (hvl:∀ x ∈ ae v,x < st.boxes.length) (hll:l.length < 100000) (hpk:0≤pick∨pick < 0) :
    aA Go.Proofs.Try.prog n_f30 [.ptr s 0,.lit (.int .i64 t),v,.lit (.int .i64 pick),.lit (.bool wait)] st
      (fun r st'=>r = .tup [cu (bG R t l pick wait).2.1,.lit (.bool (bG R t l pick wait).2.2.1),it4s (bG R t l pick wait).2.2.2.1,.lit (.int .i64 (bG R t l pick wait).2.2.2.2)]∧ed st s mid cv ov L st' (bG R t l pick wait).1 (n + 1)):=by
  have hg:=h.is.get
  obtain ⟨v1,v2,v3,v4,v5,v6,v7,v8⟩:=hv.facts
  obtain ⟨M,hM,hMl⟩:=h.is.mp
  have hcl:R.ch.length = L.length:=by rw [← h.ob,gU]
  refine ap hmix k_f30 rfl rfl fun Q hQ=>?_
  unfold aFun c_f30
  generalize hR:bG R t l pick wait = X at hQ
  unfold bG at hR
  rw [hcl] at hR
  have hself:ed st s mid cv ov L st R (n + 1):=⟨cv,ov,L,h.mono (Nat.le_succ _),Kp.refl _ _,fun x hx=>.inl hx⟩
  simp (config:=KF) (disch:=omega) only [bZ,id,↓reduceIte,Nat.reduceEqDiff,Nat.reduceAdd,reduceCtorEq]
  refine ao rfl e_f51 (dv h.is) rfl ?_
  simp (config:=KF) (disch:=omega) only [bZ,AI.dst,↓reduceIte,Nat.reduceEqDiff,reduceCtorEq,v1,v7]
  refine bw (fun h1=>?_) (fun h1=>?_)
  · simp (config:=KF) (disch:=omega) only [bZ,retI,AI.dst,am,aa,bM,↓reduceIte,Nat.reduceEqDiff,Nat.reduceAdd,Nat.reduceLeDiff,reduceCtorEq]
    rw [if_pos (.inl h1)] at hR
    subst hR
    exact hQ _ _ ⟨rfl,hself⟩
  simp (config:=KF) (disch:=omega) only [bZ,AI.dst,e8,↓reduceIte,Nat.reduceEqDiff,reduceCtorEq]
  refine bw (fun h2=>?_) (fun h2=>?_)
  · simp (config:=KF) (disch:=omega) only [bZ,retI,AI.dst,am,aa,bM,↓reduceIte,Nat.reduceEqDiff,Nat.reduceAdd,Nat.reduceLeDiff,reduceCtorEq]
    rw [if_pos (.inr (.inl (by omega)))] at hR
    subst hR
    exact hQ _ _ ⟨rfl,hself⟩
  simp (config:=KF) (disch:=omega) only [bZ,AI.dst,id,↓reduceIte,Nat.reduceEqDiff,reduceCtorEq,v1]
  refine ao (vs:=[.ptr s 0,v]) (by simp [v1]; rfl) e_f53 (kr h.is h.len hv hll) (by simp [v5]; rfl) ?_
  cases hval:a9 L.length l with
  | false =>
    simp (config:=KF) (disch:=omega) only [bZ,retI,AI.dst,am,aa,unA,bM,↓reduceIte,Nat.reduceEqDiff,Nat.reduceAdd,Nat.reduceLeDiff,reduceCtorEq]
    rw [if_pos (.inr (.inr (.inl hval)))] at hR
    subst hR
    exact hQ _ _ ⟨rfl,hself⟩
  | true =>
  simp (config:=KF) (disch:=omega) only [bZ,AI.dst,unA,↓reduceIte,Nat.reduceEqDiff,reduceCtorEq]
  refine aP (fun h3=>?_) (fun h3=>?_)
  · simp (config:=KF) (disch:=omega) only [bZ,retI,am,aa,bM,↓reduceIte,Nat.reduceEqDiff,Nat.reduceAdd,Nat.reduceLeDiff,reduceCtorEq]
    rw [if_pos (.inr (.inr (.inr h3)))] at hR
    subst hR
    exact hQ _ _ ⟨rfl,hself⟩
  rw [if_neg (by rintro (q | q | q | q); omega; omega; rw [hval] at q; cases q; omega)] at hR
  obtain ⟨q1,q2,q3,q4⟩:=cq hval
  have hlk:∀ z,aZ (.int .i64) z true st (.map mid) (.lit (.int .i64 t)) = .ok (match ag t R.ws with | some b=>.tup [(csSl b).dis,.lit (.bool true)] | none=>.tup [z,.lit (.bool false)]):=fun z=>by
    rw [aW hM,hMl]; cases ag t R.ws <;> rfl
  cases hl:ag t R.ws with
  | some b =>
    rw [hl] at hR hlk
    subst hR
    obtain ⟨c1,c2,c3,c4,c5,c6,c7⟩:=cg b
    simp (config:=KF) (disch:=omega) only [bZ,retI,bU,ai,am,addA,aa,bM,↓reduceIte,Nat.reduceEqDiff,Nat.reduceAdd,Nat.reduceLeDiff,reduceCtorEq,hg,hlk,c1,c3]
    exact hQ _ _ ⟨rfl,hself⟩
  | none =>
  rw [hl] at hR hlk
  simp only at hR
  simp (config:=KF) (disch:=omega) only [bZ,bU,ai,addA,aa,id,↓reduceIte,Nat.reduceEqDiff,reduceCtorEq,hg,hlk,v1]
  refine ao (vs:=[.ptr s 0,v]) (by simp [v1]; rfl) e_f54 (ku h.is hv hll q2) (by simp [v5]; rfl) ?_
  rw [oU h l 0 q2]
  obtain ⟨w1,w2,w3,w4,w5,w6,w7,w8⟩:=c9 (aE R 0 l)
  by_cases hrx:aE R 0 l = []
  · rw [if_pos hrx] at hR
    have hzero:(aE R 0 l).length = 0:=by rw [hrx]; rfl
    simp (config:=KF) (disch:=omega) only [bZ,unA,↓reduceIte,Nat.reduceEqDiff,reduceCtorEq,w1,w8,hzero]
    cases wait with
    | false =>
      rw [if_pos rfl] at hR
      subst hR
      simp (config:=KF) (disch:=omega) only [bZ,retI,am,aa,bM,↓reduceIte,Nat.reduceEqDiff,Nat.reduceAdd,Nat.reduceLeDiff,reduceCtorEq]
      exact hQ _ _ ⟨rfl,hself⟩
    | true =>
      rw [if_neg (by simp)] at hR
      subst hR
      simp (config:=KF) (disch:=omega) only [bZ,↓reduceIte,Nat.reduceEqDiff,reduceCtorEq,v1,v8]
      refine swait_loop h hn hv hvb hvl hval (jU hrx) (by omega) hl fun L' st1 b1 b2 b3 b4 b5 b6=>?_
      have hg1:=b1.get
      have hv1:CV v st1 l:=hv.at fun x hx=>b2.2 x (hvl x hx) (hvb x hx)
      obtain ⟨M1,hM1,hMl1⟩:=b1.mp
      simp (config:=KF) (disch:=omega) only [bZ,aU,oK,ai,addA,aa,id,↓reduceIte,Nat.reduceEqDiff,reduceCtorEq,hg1,v1]
      refine call_h (vs:=[v]) (by simp [v1]) e_f56 (kx hv1 q4 hll) (by simp [v5]) ?_
      simp (config:=KF) (disch:=omega) only [bZ,jg,gb,↓reduceIte,Nat.reduceEqDiff,reduceCtorEq]
      have hcs:csSl l = .sl false 3 (l.map csAV):=if_neg q4
      refine cE (b:=l) hM1 rfl (by rw [hcs]; rfl) fun st2 hm2 ho2=>?_
      have hown:=b1.own
      simp only [List.nodup_cons,List.mem_cons,List.mem_append,List.nodup_append,not_or] at hown
      obtain ⟨⟨n1,n2,n3⟩,⟨n4,n5⟩,n6,n7,n8⟩:=hown
      have hg2:st2.get s = _:=(ho2.get (by simp; omega)).trans hg1
      have hmo:MB ov st2 (ints (R.ws.map (·.1))):=b1.ord.at fun x hx=>ho2.2 x (by simp; intro e; subst e; exact n5 hx)
      obtain ⟨u1,u2,u3,u4,u5,u6,u7,u8⟩:=hmo.facts
      have hfew:=h.few
      have hroom:dW ((ints (R.ws.map (·.1))).length + (ints [t]).length) 8 = true:=cy (by simp [al]; omega)
      have hll':L'.length = L.length:=by have:=congrArg List.length b5; rw [gU,hcl] at this; exact this
      have hfin:∀ v' st3,MB v' st3 (ints (R.ws.map (·.1))++ints [t])→Kp st2 st3 (ae ov)→(∀ x ∈ ae v',x ∈ ae ov∨st2.boxes.length≤x) →
          st3.get s = some [cv,ov,.map mid]∧ed st s mid cv ov L (st3.set s [cv,v',.map mid]) ⟨R.ch,R.ws++[(t,l)]⟩ (n + 1):=fun v' st3 m1 m2 m3=>by
        have hg3:st3.get s = _:=(bt (m2.2 s (bq hg2) n3)).trans hg2
        refine ⟨hg3,?_⟩
        have hmine:dK st1 s mid cv ov L' (st3.set s [cv,v',.map mid]) L' (R.ws++[(t,l)]):=by
          refine b1.mine ⟨by rw [cz]; have:=m2.1; rw [ho2.1] at this; exact this,fun id hid hn=>?_⟩ (aS (bq hg3)) ?_ ⟨_,hm2.at ?_,fun u=>?_⟩ (fun x hx=>(m3 x hx).imp _root_.id fun e=>by rw [ho2.1] at e; exact e) (MB.nodup m1)
          · simp only [List.mem_cons,not_or] at hn
            rw [ce hn.1,m2.2 id (by rw [ho2.1]; exact hid) hn.2.2,ho2.2 id (by simpa using hn.2.1)]
          · rw [List.map_append,gC]
            refine m1.at fun x hx=>ce fun e=>?_
            subst e
            exact (m3 _ hx).elim n3 fun q=>by have:=bq hg2; omega
          · rw [ce (fun e=>n1 e.symm),m2.2 mid (by rw [ho2.1]; exact hM1.lt) n5]
          · rw [bX,hMl1,mq hl]
        obtain ⟨cv',ov',d1,d2,d3⟩:=hmine
        have hwk:WOk (R.ws++[(t,l)]) L.length:=by
          refine ⟨?_,fun w hw=>?_,fun w hw=>?_,by simp; omega⟩
          · rw [List.map_append]
            refine List.nodup_append.2 ⟨h.wok.nd,by simp,fun a ha b hb e=>?_⟩
            simp only [List.map_cons,List.map_nil,List.mem_singleton] at hb
            subst hb; subst e
            obtain ⟨w,hw,hwt⟩:=List.mem_map.1 ha
            exact mn hl w hw hwt
          · rcases List.mem_append.1 hw with hw | hw
            · exact h.wok.rng w hw
            · simp only [List.mem_singleton] at hw; subst hw; exact q2
          · rcases List.mem_append.1 hw with hw | hw
            · exact h.wok.len w hw
            · simp only [List.mem_singleton] at hw; subst hw; exact hll
        refine ⟨cv',ov',L',⟨d1,b4,b5,b6,by rw [hll']; exact hwk,fun w hw=>?_,by rw [hll']; exact h.len⟩,b2.trans d2 b3,fun x hx=>(d3 x hx).elim (b3 x) fun e=>.inr (Nat.le_trans b2.1 e)⟩
        rcases List.mem_append.1 hw with hw | hw
        · exact h.tk w hw
        · simp only [List.mem_singleton] at hw; subst hw; exact ⟨by omega,by omega⟩
      rcases b1.ord with ⟨hov,_⟩ | ⟨oi,ocap,obr,hov,_⟩
      all_goals
        subst hov
        simp (config:=KF) (disch:=omega) only [bZ,cY,gM,o_x,ai,bslV,ft,bb,List.reduceReplicate,addA,aa,srcA,bL,eM,↓reduceIte,Nat.reduceEqDiff,Nat.reduceLT,reduceCtorEq,hg2,u1]
        refine MB.grow hmo (dz _) (dz [t]) hroom fun v' st3 m1 m2 m3=>?_
        obtain ⟨hg3,hq⟩:=hfin v' st3 m1 m2 m3
        obtain ⟨z1,z2,z3,z4,z5,z6,z7,z8⟩:=m1.facts
        simp (config:=KF) (disch:=omega) only [bZ,retI,bB,ai,am,addA,aa,bM,↓reduceIte,Nat.reduceEqDiff,Nat.reduceAdd,Nat.reduceLeDiff,reduceCtorEq,hg3,z6,z4]
        exact hQ _ _ ⟨rfl,hq⟩
  · rw [if_neg hrx] at hR
    obtain ⟨p,rfl⟩:∃ p:Nat,pick = (p:Int):=⟨pick.toNat,by omega⟩
    have hlp:0 < (aE R 0 l).length:=List.length_pos_iff.2 hrx
    have his:intS (aE R 0 l) = .sl false 1 (ints (aE R 0 l)):=if_neg hrx
    have hml:p % (aE R 0 l).length < (aE R 0 l).length:=Nat.mod_lt _ hlp
    obtain ⟨j,hj⟩:∃ j,j = (aE R 0 l).getD (p % (aE R 0 l).length) 0:=⟨_,rfl⟩
    have hjm:j ∈ aE R 0 l:=by
      rw [hj,List.getD_eq_getElem?_getD,List.getElem?_eq_getElem hml]
      exact List.getElem_mem hml
    obtain ⟨j1,j2,j3⟩:=gW hjm
    rw [Int.toNat_natCast,← hj] at hR
    obtain ⟨k,rfl⟩:∃ k:Nat,j = (k:Int):=⟨j.toNat,by omega⟩
    have hk:k < l.length:=by omega
    have hgd:(ints (aE R 0 l)).getD ((p:Int) % ((aE R 0 l).length:Int)).toNat .any = .lit (.int .i64 (k:Nat)):=by
      have e:((p:Int) % ((aE R 0 l).length:Int)).toNat = p % (aE R 0 l).length:=by
        rw [← Int.natCast_emod,Int.toNat_natCast]
      rw [e,hj]
      simp [ints,List.getD_eq_getElem?_getD,hml]
    have hxk:l.getD k (0,false,0) = l[k]:=by simp [hk]
    have j4:rdyR R l[k] = true:=by
      have:((k:Int) - ((0:Nat):Int)).toNat = k:=by omega
      rw [this,hxk] at j3
      exact j3
    rw [Int.toNat_natCast,hxk] at hR
    subst hR
    rw [his] at *
    have hmid:aC Go.Proofs.Try.prog id false f30_64 ⟨[(0,.ptr s 0),(10,.lptr 10 0),(19,.lptr 19 0)],[(10,[.lit (.int .i64 t),.lit (.int .i64 (k:Nat)),.lit (.int .i64 0),.lit (.int .i64 0)]),(19,[.lit (.int .i64 l[k].1),.lit (.bool l[k].2.1),.lit (.int .i64 l[k].2.2)])]⟩ st (retQ [RI.cell 10 (some 4),RI.tmp 11,RI.tmp 12,RI.tmp 13] Q):=by
      refine scarry_mid h hn (q2 l[k] (List.getElem_mem hk)) j4 ⟨rfl,rfl,rfl,rfl,rfl⟩ ⟨rfl,rfl,rfl,rfl,rfl⟩ fun st' hq=>?_
      obtain ⟨w1,w2,w3,w4,w5,w6,w7⟩:=bE (ba R l[k]).2.2.2
      simp (config:=KF) (disch:=omega) only [bZ,retI,aa,bM,↓reduceIte,Nat.reduceEqDiff,Nat.reduceAdd,Nat.reduceLeDiff,w1,w5]
      exact hQ _ _ ⟨rfl,hq⟩
    rcases hv.ne q4 with rfl | ⟨_,_,e⟩ | ⟨vi,vcap,vr,rfl,hgv,y3,y4,y5⟩
    · have hvv:csSl l = .sl false 3 (l.map csAV):=if_neg q4
      have hgd2:(l.map csAV).getD k .any = csAV l[k]:=by simp [hk]
      rw [hvv] at v1 ⊢
      simp (config:=KF) (disch:=omega) only [bZ,ixSV,am,lenI,addA,aa,bg,b8,bN,↓reduceIte,Nat.reduceEqDiff,Nat.reduceAdd,Nat.reduceLeDiff,reduceCtorEq,aY,n_rem,IntWalk.rem_in,v1,al,hgd,hgd2,csAV]
      exact hmid
    · omega
    · have hd:=jn hk vr
      simp (config:=KF) (disch:=omega) only [bZ,ixSV,am,lenI,addA,aa,bg,kL,↓reduceIte,Nat.reduceEqDiff,Nat.reduceAdd,Nat.reduceLeDiff,reduceCtorEq,aY,n_rem,IntWalk.rem_in,v1,al,hgd,hgv,hd]
      exact hmid
end
end Go.Fx.YtbomoaajkinfpaaFx

