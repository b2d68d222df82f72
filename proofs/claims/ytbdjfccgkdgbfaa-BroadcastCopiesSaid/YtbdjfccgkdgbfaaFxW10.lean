/- What the functions that the statement reaches compute: part 10. -/
import Derived.Test.YtbdjfccgkdgbfaaFxW9
namespace Go.Fx.YtbdjfccgkdgbfaaFx
open Go Go.Fx
attribute [local irreducible] aC runI az ar

set_option maxRecDepth 100000
set_option maxHeartbeats 4000000

/-! It goes on at a topic. -/
def itA (t:Nat):AV:=.agg [.lit (.int .i64 (t:Nat)),.lit (.int .i64 0),.lit (.int .i64 0),.lit (.int .i64 0)]
def dO (l:List Nat):AV:=if l = [] then .lit (.slice none 0 0) else .sl true 4 (l.map itA)

def itsV (l:List Nat):AV:=if l = [] then .lit (.slice none 0 0) else .sl false 4 (l.map itA)
theorem mA (l:List Nat):(dO l).dis = itsV l:=by unfold dO itsV; split <;> rfl

structure HubR (st:St) (h wid:Nat) (n:Nat) (R:HR) (F:List Nat):Prop where
 ex:∃ L Qs M W,HubIs st h wid L Qs M∧SubR (L.map sbO) R.subs n∧WaitR Qs M W n∧W.map cz = R.ws∧ba h wid L Qs ⊆ F
theorem HubR.mono {st:St} {h wid n m:Nat} {R:HR} {F G:List Nat} (hh:HubR st h wid n R F) (hm:n≤m) (hf:F ⊆ G):HubR st h wid m R G:=by
 obtain ⟨L,Qs,M,W,h1,h2,h3,h4,h5⟩:=hh.ex
 exact ⟨⟨L,Qs,M,W,h1,h2.mono hm,h3.mono hm,h4,fun x hx=>hf (h5 hx)⟩⟩
theorem HubR.kp {st st':St} {h wid n:Nat} {R:HR} {F G:List Nat} (hh:HubR st h wid n R F) (hk:Kp st st' G) (hf:∀ x ∈ F,x ∉ G):HubR st' h wid n R F:=by
 obtain ⟨L,Qs,M,W,h1,h2,h3,h4,h5⟩:=hh.ex
 exact ⟨⟨L,Qs,M,W,h1.kp hk fun x hx=>hf x (h5 hx),h2,h3,h4,h5⟩⟩
theorem canL_pub {L L':List (Option SL)} {topic:Int} {p:List UInt8} (h:L'.map sbO = (L.map sbO).map (pubO topic p)) {subs:List Sb} {n:Nat} (hs:SubR (L.map sbO) subs n):SubR (L'.map sbO) (pubR topic p subs) (n + 1):=by
 rw [h]; exact hs.pub topic p
theorem popR_len {topic:Int}:∀ {l:List WW} {w:WW} {r:List WW},popR topic l = some (w,r)→l.length = r.length + 1
 | [],_,_,h=>by cases h
 | x :: s, w, r, h => by
   simp only [popR] at h
   split at h
   ·simp only [Option.some.injEq,Prod.mk.injEq] at h
    rw [← h.2]; rfl
   ·cases hp:popR topic s with
    | none=>rw [hp] at h; cases h
    | some q =>
      obtain ⟨y,t⟩:=q
      rw [hp] at h
      simp only [Option.some.injEq,Prod.mk.injEq] at h
      rw [← h.2]
      simp only [List.length_cons,popR_len hp]
theorem onR_none {topic:Int} {k:Nat} {R:HR} (h:popR topic R.ws = none):onR topic k R = (R,[]):=by
 cases k with
 | zero=>rfl
 | succ k=>unfold onR; rw [h]
theorem onR_stop {topic:Int} {k:Nat} {R:HR} {w:WW} {r:List WW} (h:popR topic R.ws = some (w,r)) (hc:canR topic w.2.2.length R.subs = false):onR topic k R = (R,[]):=by
 cases k with
 | zero=>rfl
 | succ k=>unfold onR; rw [h]; simp only [hc]; rfl
theorem onR_go {topic:Int} {R:HR} {w:WW} {r:List WW} (h:popR topic R.ws = some (w,r)) (hc:canR topic w.2.2.length R.subs = true):onR topic R.ws.length R = ((onR topic r.length ⟨pubR topic w.2.2 R.subs,r⟩).1,w.1::(onR topic r.length ⟨pubR topic w.2.2 R.subs,r⟩).2):=by
 rw [popR_len h]; conv=>lhs; unfold onR
 rw [h]; simp only [hc,if_true]

theorem itA_dis (l:List Nat):(l.map itA).map AV.dis = l.map itA:=by
 rw [List.map_map]; exact List.map_congr_left fun _ _=>rfl
theorem its_snoc (l:List Nat) (t:Nat):dO (l++[t]) = .sl true 4 (l.map itA++[itA t]):=by
 unfold dO
 rw [if_neg (by simp),List.map_append]; rfl

theorem nZ {st:St} {h wid n:Nat} {R:HR} {F:List Nat} (hh:HubR st h wid n R F) {i:Nat} (hi:i < 16) (hn:n < 900000) :
  am Go.Proofs.Try.prog n_f32 [.ptr h 0,.lit (.int .i64 (i:Nat))] st (fun v st'=>v = itsV (onR i R.ws.length R).2∧HubR st' h wid (n + 64) (onR i R.ws.length R).1 F∧Kp st st' F):=by
 have hlen0:R.ws.length≤64:=by
  obtain ⟨L,Qs,M,W,h1,h2,h3,h4,h5⟩:=hh.ex
  rw [← h4,List.length_map]; exact h3.len
 refine ap hmix k_f32 rfl rfl fun Q hQ=>?_
 unfold aFun c_f32
 simp (config:=KF) (disch:=omega) only [bZ,↓reduceIte,Nat.reduceEqDiff,reduceCtorEq]
 rw [f32_6w]
 refine a8 (A:=HR×List Nat×Nat×St) (fun a=>a.1.ws.length) (fun a=>⟨[(0,.ptr h 0),(1,.lit (.int .i64 (i:Nat))),(5,dO a.2.1)],[]⟩) (fun a=>a.2.2.2)
  (fun a=>HubR a.2.2.2 h wid a.2.2.1 a.1 F∧Kp st a.2.2.2 F∧a.2.2.1 + a.1.ws.length≤n + R.ws.length∧a.2.1.length + a.1.ws.length≤64∧onR i R.ws.length R = ((onR i a.1.ws.length a.1).1,a.2.1++(onR i a.1.ws.length a.1).2))
  (R,[],n,st) ⟨hh,Kp.refl _ _,Nat.le_refl _,by simpa using hlen0,by simp⟩ (Sf.le_refl _) rfl ?_
 rintro ⟨R1,out,n1,s1⟩ ⟨i1,i2,i3,i4,i5⟩ K hK hKe hKr
 simp only at i1 i2 i3 i4 i5
 dsimp only
 obtain ⟨L,Qs,M,W,j1,j2,j3,j4,j5⟩:=i1.ex
 have hg:=j1.get
 have h64:=j1.l64
 have h16:=j1.q16
 obtain ⟨x,hx⟩:∃ x,Qs[i]? = some x:=⟨_,List.getElem?_eq_getElem (by omega)⟩
 have hxq:=j1.que i x hx
 obtain ⟨hxL,hxg⟩:=j3.que i x hx
 obtain ⟨rq,hrq⟩:=hub_q (L:=L) wid h64 hx
 have hrw:=jA wid h64 h16
 have hxqL:∀ l,x.L = l→QIs s1 x.q x.m l x.g:=fun l e=>e ▸ hxq
 have hpop:=jV i W
 rw [j4] at hpop
 have hend:∀ l,((dO l).dis.noL = true∧(dO l).noL = true):=fun l=>by
  unfold dO; split <;> exact ⟨rfl,rfl⟩
 simp (config:=KF) (disch:=omega) only [bZ,iv,al,addA,ae,id,↓reduceIte,Nat.reduceEqDiff,reduceCtorEq,hg,hrq]
 cases hp:popW i W with
 | none =>
   rw [hp] at hpop
   have hq0:=lG i hp
   refine ak rfl e_f48 (iF (hxqL [] (hxL.trans hq0))) rfl ?_
   simp (config:=KF) (disch:=omega) only [bZ,AI.dst,↓reduceIte,Nat.reduceEqDiff,Int.reduceEq,reduceCtorEq,not_false_eq_true]
   rw [onR_none hpop] at i5
   obtain ⟨e1,e2⟩:=hend out
   refine hKr _ _ ?_
   simp (config:=KF) (disch:=omega) only [bZ,retI,↓reduceIte]
   rw [mA]
   exact hQ (itsV out) s1 ⟨by rw [i5]; simp,by rw [i5]; exact i1.mono (by omega) (fun _ h=>h),i2⟩
 | some q =>
   obtain ⟨e,r⟩:=q
   rw [hp] at hpop
   obtain ⟨A,B,hW,hr,het,hqA⟩:=lH i hp
   subst hr
   have hxL':x.L = (e.2.tick,(e.1:Int))::qOf i B:=by rw [hxL,hW,f8,hqA,c9,if_pos het]; rfl
   refine ak rfl e_f48 (iF (hxqL _ hxL')) rfl ?_
   have hmem:e ∈ W:=by rw [hW]; simp
   obtain ⟨w1,w2,w3,w4,w5⟩:=j3.ok e hmem
   have hlk:aR (e.1:Int) M = some e.2:=by
    rw [j3.mp]
    have hnd:=j3.nd
    rw [hW] at hnd ⊢
    rw [List.map_append,List.map_cons,List.nodup_append] at hnd
    rw [gF,jU]
    ·simp [cJ]
    ·intro a ha q
     exact hnd.2.2 a.1 (List.mem_map_of_mem ha) e.1 (by simp) (by omega)
   obtain ⟨d,hd⟩:∃ d,d = dtAV e.2.data e.2.nl:=⟨_,rfl⟩
   have hdv:∀ st,DV d st e.2.data:=fun st=>by rw [hd]; exact dt_dv st w5
   obtain ⟨v1,v2,v3,v4,v5,v6,v7,v8⟩:=(hdv st).facts
   have hwe:(weAV e.2).dis = .agg [.lit (.int .i64 e.2.topic),.lit (.int .u64 (e.2.tick:Nat)),d]:=by rw [kN,weAV,hd]
   have hkk:∀ z,cg (.int .i64) z false s1 (.map wid) (.lit (.int .i64 ((e.1:Nat):Int))) = .ok (.agg [.lit (.int .i64 e.2.topic),.lit (.int .u64 (e.2.tick:Nat)),d]):=fun z=>by
    rw [cF j1.mp,hlk]; simp only [hwe]; rfl
   simp (config:=KF) (disch:=omega) only [bZ,AI.dst,o_field,fE,nD,al,addA,ae,id,bu,↓reduceIte,Nat.reduceEqDiff,reduceCtorEq,not_true_eq_false,hg,hrw,hkk,v1]
   have hcan:=pH j1 i (hdv s1) (by omega)
   refine aq (vs:=[.ptr h 0,.lit (.int .i64 (i:Nat)),d]) (by simp [v1,cQ,aL]) e_f45 hcan (by simp [v5,bT,aD]) fun w s2 hr=>?_
   obtain ⟨rfl,hk2⟩:=hr
   simp only at hpop
   have hsz:R1.ws.length = (A++B).length + 1:=by rw [← j4,hW]; simp; omega
   have hs2w:(cz e).2.2 = e.2.data:=rfl
   obtain ⟨e1,e2⟩:=hend out
   have k1:HubIs s2 h wid L Qs M:=j1.kp hk2 fun _ _ q=>by cases q
   have hg2:=k1.get
   rw [qR,j2.eq]
   cases hc:canR (i:Int) e.2.data.length R1.subs with
   | false =>
     simp (config:=KF) (disch:=omega) only [bZ,AI.dst,unA,↓reduceIte,Nat.reduceEqDiff,reduceCtorEq]
     rw [onR_stop hpop hc] at i5
     refine hKr _ _ ?_
     simp (config:=KF) (disch:=omega) only [bZ,retI,↓reduceIte]
     rw [mA]
     exact hQ (itsV out) s2 ⟨by rw [i5]; simp,by rw [i5]; exact (i1.kp hk2 fun _ _ q=>by cases q).mono (by omega) (fun _ h=>h),i2.trans hk2 fun _ q=>by cases q⟩
   | true =>
     simp (config:=KF) (disch:=omega) only [bZ,AI.dst,iv,al,addA,ae,unA,id,↓reduceIte,Nat.reduceEqDiff,reduceCtorEq,hg2,hrq]
     have hxq2:QIs s2 x.q x.m ((e.2.tick,(e.1:Int))::qOf i B) x.g:=by
      have:=k1.que i x hx
      unfold QL.is at this
      rwa [hxL'] at this
     refine aq rfl e_f49 (qpop_calls hxq2 (by omega)) rfl fun w s3 hr=>?_
     obtain ⟨rfl,hq3,ho3⟩:=hr
     obtain ⟨y,hy⟩:∃ y:QL,y = ⟨x.q,x.m,x.g,qOf i B⟩:=⟨_,rfl⟩
     obtain ⟨l1,l2⟩:=k1.setQue (y:=y) hx (ho3.kp (F:=x.ids) fun b hb=>hb) (by rw [hy]; exact hq3) (by rw [hy]) (by rw [hy])
     have hg3:=l1.get
     have hrw3:=jA (L:=L) wid h64 l1.q16
     have hkk3:∀ z,cg (.int .i64) z false s3 (.map wid) (.lit (.int .i64 ((e.1:Nat):Int))) = .ok (.agg [.lit (.int .i64 e.2.topic),.lit (.int .u64 (e.2.tick:Nat)),d]):=fun z=>by
      rw [cF l1.mp,hlk]; simp only [hwe]; rfl
     simp (config:=KF) (disch:=omega) only [bZ,o_field,fE,nD,al,addA,ae,id,bu,↓reduceIte,Nat.reduceEqDiff,reduceCtorEq,hg3,hrw3,hkk3,v1]
     have hpub:=jB l1 i (hdv s3) w4 (by rw [hd,dt_bufs]; intro _ q; cases q) (fun j z hz=>by
      have:=(j2.ok j z.S (by rw [List.getElem?_map,hz]; rfl)).2.1
      omega)
     refine aq (vs:=[.ptr h 0,.lit (.int .i64 (i:Nat)),d]) (by simp [v1,cQ,aL]) e_f46 hpub (by simp [v5,bT,aD]) fun w s4 hr=>?_
     obtain ⟨L4,m1,m2,m3,m4⟩:=hr
     have hg4:=m1.get
     have hrw4:=jA (L:=L4) wid m1.l64 m1.q16
     simp (config:=KF) (disch:=omega) only [bZ,o_del,al,addA,ae,bu,↓reduceIte,Nat.reduceEqDiff,reduceCtorEq,hg4,hrw4]
     refine nX m1.mp fun s5 hm5 ho5=>?_
     have p1:=m1.setMap ho5 hm5
     have hpt:∀ o,(dO (o++[e.1])) = .sl true 4 (o.map itA++[itA e.1]):=fun o=>its_snoc o e.1
     have hgo:=onR_go hpop (by rw [hs2w]; exact hc)
     rw [List.length_map] at hgo
     have hs5:HubR s5 h wid (n1 + 1) ⟨pubR i e.2.data R1.subs,(A++B).map cz⟩ F :=
      ⟨⟨L4,Qs.set i y,delP (e.1:Int) M,A++B,p1,canL_pub m2 j2,(WaitR.del (hW ▸ j3) het hx (by rw [hy,hqA]; rfl) (by rw [hy])).mono (by omega),rfl,fun b hb=>j5 (l2 (m4 hb))⟩⟩
     have hk5:Kp st s5 F:=by
      have a1:=i2.trans hk2 (fun _ q=>by cases q)
      have a2:=a1.trans (ho3.kp (F:=x.ids) fun b hb=>hb) (fun b hb=>.inl (j5 (ai.2 (.inr (.inr (.inr ⟨i,x,hx,hb⟩))))))
      have a3:=a2.trans m3 (fun b hb=>.inl (j5 (l2 hb)))
      exact a3.trans (ho5.kp (F:=[wid]) fun b hb=>hb) (fun b hb=>.inl (j5 (ai.2 (.inr (.inl (by simpa using hb))))))
     have hfin:∀ sf',Sf.le (sf'.mask [0,1,5] []) ⟨[(0,.ptr h 0),(1,.lit (.int .i64 (i:Nat))),(5,dO (out++[e.1]))],[]⟩→K .normal sf' s5:=fun sf' hsf=>by
      refine hK (⟨pubR i e.2.data R1.subs,(A++B).map cz⟩,out++[e.1],n1 + 1,s5) sf' ⟨hs5,hk5,?_,?_,?_⟩ ?_ hsf
      ·simp only [List.length_map]; omega
      ·simp only [List.length_map,List.length_append,List.length_cons,List.length_nil]
       simp only [List.length_append] at hsz
       omega
      ·rw [i5,hgo]; simp [cz]
      ·simp only [List.length_map]; omega
     have hol:out.length < 65:=by omega
     rw [hpt out] at hfin
     have hid:=itA_dis out
     by_cases ho:out = []
     ·have hia:dO out = .lit (.slice none 0 0):=by unfold dO; rw [if_pos ho]
      rw [hia]
      rw [ho] at hfin
      simp (config:=KF) (disch:=omega) only [bZ,ei,bstV,bF,List.reduceReplicate,aQ,srcA,aV,cb,↓reduceIte,Nat.reduceEqDiff,Nat.reduceAdd,Nat.reduceLT,Nat.reduceLeDiff,reduceCtorEq,af,aa]
      exact hfin _ (Sf.le_refl _)
     ·have hia:dO out = .sl true 4 (out.map itA):=by unfold dO; rw [if_neg ho]
      rw [hia]
      simp (config:=KF) (disch:=omega) only [bZ,ei,bstV,bF,List.reduceReplicate,br,srcA,aV,cb,↓reduceIte,Nat.reduceEqDiff,Nat.reduceAdd,Nat.reduceLT,Nat.reduceLeDiff,reduceCtorEq,af,aa]
      exact hfin _ (Sf.le_refl _)
end Go.Fx.YtbdjfccgkdgbfaaFx

namespace Go.Fx.YtbdjfccgkdgbfaaFx
open Go Go.Fx
attribute [local irreducible] aC runI az ar

set_option maxRecDepth 100000
set_option maxHeartbeats 4000000

/-! What the calls do. -/
def hasN (k:Nat) (subs:List Sb):Bool:=subs.any fun S=>decide (S.num = k)
def fM:Nat→Nat→List Sb→Nat
 | 0,k,_=>k
 | f + 1,k,subs=>if hasN k subs = true then fM f (k + 1) subs else k
def insR (S:Sb) (subs:List Sb):List Sb:=subs.filter (fun T=>decide (T.num < S.num))++S::subs.filter (fun T=>decide (S.num < T.num))
def rSub (topic room pol:Int) (R:HR):HR×Int×Int :=
 if topic < 0∨16≤topic∨room < 3∨4096 < room∨pol < 1∨3 < pol then (R,0,2)
 else if 64≤R.subs.length then (R,0,7)
 else (⟨insR ⟨fM 64 0 R.subs,topic,room.toNat,pol,[],0⟩ R.subs,R.ws⟩,(fM 64 0 R.subs:Nat),0)
def rPub (topic:Int) (p:List UInt8) (R:HR):HR×Int :=
 if topic < 0∨16≤topic then (R,2)
 else if 1024 < p.length then (R,5)
 else if (popR topic R.ws).isSome = true∨canR topic p.length R.subs = false then (R,16)
 else (⟨pubR topic p R.subs,R.ws⟩,0)
def delT (t:Int):List WW→Option (WW×List WW)
 | []=>none
 | w :: r => if (w.1 : Int) = t then some (w, r) else match delT t r with
   | none=>none
   | some (x,s)=>some (x,w::s)
def b9 (task topic:Int) (p:List UInt8) (R:HR):HR×Bool×Int :=
 if topic < 0∨16≤topic∨task < 0∨64≤task then (R,false,2)
 else if 1024 < p.length then (R,false,5)
 else if (delT task R.ws).isSome = true then (R,false,11)
 else if (rPub topic p R).2 = 0 then ((rPub topic p R).1,true,0)
 else (⟨R.subs,R.ws++[(task.toNat,topic,p)]⟩,false,0)
def atR (n:Int):List Sb→Option Sb
 | []=>none
 | S::r=>if (S.num:Int) = n then some S else atR n r
def modR (n:Int) (f:Sb→Sb):List Sb→List Sb
 | []=>[]
 | S::r=>if (S.num:Int) = n then f S::r else S::modR n f r
def fO (n:Int):List Sb→List Sb
 | []=>[]
 | S::r=>if (S.num:Int) = n then r else S::fO n r
def fP (S:Sb):Sb:={ S with msgs:=S.msgs.tail }
def bk (n:Int) (R:HR):HR×List UInt8×List Nat×Int :=
 match atR n R.subs with
 | none=>(R,[],[],9)
 | some S => match S.msgs with
   | []=>(R,[],[],16)
   | m::_=>((onR S.topic R.ws.length ⟨modR n fP R.subs,R.ws⟩).1,m,(onR S.topic R.ws.length ⟨modR n fP R.subs,R.ws⟩).2,0)
def cC (n:Int) (R:HR):HR×List Nat×Int :=
 match atR n R.subs with
 | none=>(R,[],9)
 | some S=>((onR S.topic R.ws.length ⟨fO n R.subs,R.ws⟩).1,(onR S.topic R.ws.length ⟨fO n R.subs,R.ws⟩).2,0)
def bI (task:Int) (R:HR):HR×List Nat×Int :=
 if task < 0∨64≤task then (R,[],2)
 else match delT task R.ws with
  | none=>(R,[],9)
  | some (w,r)=>((onR w.2.1 r.length ⟨R.subs,r⟩).1,(onR w.2.1 r.length ⟨R.subs,r⟩).2,0)

/-! Subscribers by their numbers. -/
theorem eA (A B:List (Option Sb)):bz (A++B) = bz A++bz B:=by simp [bz]
theorem ft (S:Sb) (B:List (Option Sb)):bz (some S::B) = S::bz B:=rfl
theorem jc (B:List (Option Sb)):bz (none::B) = bz B:=rfl
theorem fQ {S:Sb} {LS:List (Option Sb)}:S ∈ bz LS↔∃ i:Nat,LS[i]? = some (some S):=by
 unfold bz
 rw [List.mem_flatMap]
 constructor
 ·rintro ⟨o,ho,hs⟩
  cases o with
  | none=>cases hs
  | some T =>
    simp only [oneS,List.mem_singleton] at hs
    subst hs
    exact List.mem_iff_getElem?.1 ho
 ·rintro ⟨i,hi⟩
  exact ⟨some S,List.mem_of_getElem? hi,by simp [oneS]⟩
theorem qx {n:Int} (B:List Sb):∀ {A:List Sb},(∀ S ∈ A,(S.num:Int)≠n)→atR n (A++B) = atR n B
 | [],_=>rfl
 | S :: r, h => by
   rw [List.cons_append,atR,if_neg (h S (by simp))]
   exact qx B fun T hT=>h T (by simp [hT])
theorem modR_app {n:Int} (f:Sb→Sb) (B:List Sb):∀ {A:List Sb},(∀ S ∈ A,(S.num:Int)≠n)→modR n f (A++B) = A++modR n f B
 | [],_=>rfl
 | S :: r, h => by
   rw [List.cons_append,modR,if_neg (h S (by simp)),modR_app f B fun T hT=>h T (by simp [hT])]; rfl
theorem px {n:Int} (B:List Sb):∀ {A:List Sb},(∀ S ∈ A,(S.num:Int)≠n)→fO n (A++B) = A++fO n B
 | [],_=>rfl
 | S :: r, h => by
   rw [List.cons_append,fO,if_neg (h S (by simp)),px B fun T hT=>h T (by simp [hT])]; rfl
theorem atR_none {n:Int} {A:List Sb} (h:∀ S ∈ A,(S.num:Int)≠n):atR n A = none:=by
 have:=qx [] h
 simpa [atR] using this

section
variable {LS:List (Option Sb)} {subs:List Sb} {n:Nat}
theorem iG {o:Option Sb} {k:Nat} (h:LS[k]? = some o):LS = LS.take k++o::LS.drop (k + 1)∧(LS.take k).length = k:=by
 obtain ⟨h1,h2⟩:=List.getElem?_eq_some_iff.1 h
 refine ⟨?_,by rw [List.length_take]; omega⟩
 conv=>lhs; rw [← List.take_append_drop k LS,List.drop_eq_getElem_cons h1,h2]
theorem SubR.before (h:SubR LS subs n) (k:Nat):∀ S ∈ bz (LS.take k),S.num < k:=by
 intro S hS
 obtain ⟨i,hi⟩:=fQ.1 hS
 rw [List.getElem?_take] at hi
 split at hi
 ·rw [(h.ok i S hi).1]; assumption
 ·cases hi
theorem SubR.after (h:SubR LS subs n) (k:Nat):∀ S ∈ bz (LS.drop (k + 1)),k < S.num:=by
 intro S hS
 obtain ⟨i,hi⟩:=fQ.1 hS
 rw [List.getElem?_drop] at hi
 rw [(h.ok _ S hi).1]; omega
theorem SubR.at_none (h:SubR LS subs n) {k:Nat} (hk:LS[k]? = some none):atR (k:Nat) subs = none:=by
 obtain ⟨e,_⟩:=iG hk
 refine atR_none fun S hS=>?_
 rw [← h.eq,e,eA,jc] at hS
 rcases List.mem_append.1 hS with hS | hS
 ·have:=h.before k S hS; omega
 ·have:=h.after k S hS; omega
theorem SubR.at_out (h:SubR LS subs n) {k:Int} (hk:k < 0∨(LS.length:Int)≤k):atR k subs = none:=by
 refine atR_none fun S hS=>?_
 rw [← h.eq] at hS
 obtain ⟨i,hi⟩:=fQ.1 hS
 have:=(List.getElem?_eq_some_iff.1 hi).1
 rw [(h.ok i S hi).1]
 omega
theorem SubR.at_some (h:SubR LS subs n) {k:Nat} {S:Sb} (hk:LS[k]? = some (some S)):atR (k:Nat) subs = some S:=by
 obtain ⟨e,_⟩:=iG hk
 rw [← h.eq,e,eA,ft,qx,atR,if_pos (by rw [(h.ok k S hk).1])]
 intro T hT
 have:=h.before k T hT; omega
theorem SubR.set (h:SubR LS subs n) {k:Nat} {S T:Sb} (hk:LS[k]? = some (some S)) {f:Sb→Sb} (hf:f S = T) (hT:T.num = S.num∧T.lost + T.msgs.length≤n∧T.topic = S.topic∧T.pol = S.pol∧T.room = S.room):SubR (LS.set k (some T)) (modR (k:Nat) f subs) n:=by
 obtain ⟨e,hl⟩:=iG hk
 have hkl:=(List.getElem?_eq_some_iff.1 hk).1
 refine ⟨?_,fun i U hi=>?_⟩
 ·rw [← h.eq]
  conv=>rhs; rw [e]
  rw [eA,ft,modR_app,modR,if_pos (by rw [(h.ok k S hk).1]),hf,List.set_eq_take_append_cons_drop,if_pos hkl,eA,ft]
  intro T hT
  have:=h.before k T hT; omega
 ·rw [List.getElem?_set] at hi
  by_cases hik:k = i
  ·subst hik
   rw [if_pos rfl,if_pos hkl] at hi
   cases hi
   obtain ⟨a1,a2,a3,a4,a5⟩:=hT
   obtain ⟨b1,b2,b3⟩:=h.ok k S hk
   rw [a1,a3,a4,a5]
   exact ⟨b1,a2,b3⟩
  ·rw [if_neg hik] at hi
   exact h.ok i U hi
theorem SubR.drop (h:SubR LS subs n) {k:Nat} {S:Sb} (hk:LS[k]? = some (some S)):SubR (LS.set k none) (fO (k:Nat) subs) n:=by
 obtain ⟨e,hl⟩:=iG hk
 have hkl:=(List.getElem?_eq_some_iff.1 hk).1
 refine ⟨?_,fun i U hi=>?_⟩
 ·rw [← h.eq]
  conv=>rhs; rw [e]
  rw [eA,ft,px,fO,if_pos (by rw [(h.ok k S hk).1]),List.set_eq_take_append_cons_drop,if_pos hkl,eA,jc]
  intro T hT
  have:=h.before k T hT; omega
 ·rw [List.getElem?_set] at hi
  by_cases hik:k = i
  ·subst hik
   rw [if_pos rfl,if_pos hkl] at hi
   cases hi
  ·rw [if_neg hik] at hi
   exact h.ok i U hi
theorem SubR.ins (h:SubR LS subs n) {k:Nat} (hk:LS[k]? = some none) {S:Sb} (hn:S.num = k) (hS:S.lost + S.msgs.length≤n∧0≤S.topic∧S.topic < 16∧1≤S.pol∧S.pol≤3∧3≤S.room∧S.room≤4096):SubR (LS.set k (some S)) (insR S subs) n:=by
 obtain ⟨e,hl⟩:=iG hk
 have hkl:=(List.getElem?_eq_some_iff.1 hk).1
 refine ⟨?_,fun i U hi=>?_⟩
 ·rw [← h.eq]
  conv=>rhs; rw [e]
  rw [eA,jc,List.set_eq_take_append_cons_drop,if_pos hkl,eA,ft]
  unfold insR
  rw [List.filter_append,List.filter_append,hn]
  have b:=h.before k
  have a:=h.after k
  rw [List.filter_eq_self.2 (fun T hT=>decide_eq_true (b T hT)),List.filter_eq_nil_iff.2 (fun T hT=>by have:=a T hT; simp; omega),List.filter_eq_nil_iff.2 (fun T hT=>by have:=b T hT; simp; omega),List.filter_eq_self.2 (fun T hT=>decide_eq_true (a T hT)),List.append_nil,List.nil_append]
 ·rw [List.getElem?_set] at hi
  by_cases hik:k = i
  ·subst hik
   rw [if_pos rfl,if_pos hkl] at hi
   cases hi
   exact ⟨hn,hS⟩
  ·rw [if_neg hik] at hi
   exact h.ok i U hi

/-- The first free place. -/
def fstN:List (Option Sb)→Nat
 | []=>0
 | none::_=>0
 | some _::r=>fstN r + 1
theorem mB:∀ LS:List (Option Sb),fstN LS≤LS.length∧(∀ i,i < fstN LS→∃ S,LS[i]? = some (some S))∧(fstN LS < LS.length→LS[fstN LS]? = some none)
 | []=>⟨Nat.le_refl _,fun i (h:i < 0)=>absurd h (Nat.not_lt_zero _),fun h=>absurd h (Nat.not_lt_zero _)⟩
 | none::r=>⟨Nat.zero_le _,fun i (h:i < 0)=>absurd h (Nat.not_lt_zero _),fun _=>rfl⟩
 | some S :: r => by
   obtain ⟨h1,h2,h3⟩:=mB r
   refine ⟨Nat.succ_le_succ h1,fun i hi=>?_,fun h=>?_⟩
   ·cases i with
    | zero=>exact ⟨S,rfl⟩
    | succ i=>exact h2 i (Nat.lt_of_succ_lt_succ hi)
   ·exact h3 (Nat.lt_of_succ_lt_succ h)
theorem SubR.has (h:SubR LS subs n) (k:Nat):hasN k subs = true↔∃ S,LS[k]? = some (some S):=by
 unfold hasN
 rw [List.any_eq_true,← h.eq]
 constructor
 ·rintro ⟨S,hS,hk⟩
  obtain ⟨i,hi⟩:=fQ.1 hS
  have:=(h.ok i S hi).1
  have hk:=of_decide_eq_true hk
  exact ⟨S,by rw [← hk,this]; exact hi⟩
 ·rintro ⟨S,hS⟩
  exact ⟨S,fQ.2 ⟨k,hS⟩,decide_eq_true (h.ok k S hS).1⟩
theorem SubR.free (h:SubR LS subs n):∀ (f k:Nat),k≤fstN LS→fstN LS≤k + f→fstN LS < LS.length→fM f k subs = fstN LS
 | 0,k,h1,h2,_=>by unfold fM; omega
 | f + 1, k, h1, h2, h3 => by
   unfold fM
   obtain ⟨_,q1,q2⟩:=mB LS
   by_cases hk:k = fstN LS
   ·rw [if_neg]
    ·exact hk
    ·rw [h.has]
     rintro ⟨S,hS⟩
     rw [hk,q2 h3] at hS
     cases hS
   ·rw [if_pos ((h.has k).2 (q1 k (by omega)))]
    exact h.free f (k + 1) (by omega) (by omega) h3
theorem iH:∀ LS:List (Option Sb),(bz LS).length≤LS.length∧((bz LS).length = LS.length↔fstN LS = LS.length)
 | []=>⟨Nat.le_refl _,by simp [bz,fstN]⟩
 | none :: r => by
   obtain ⟨h1,h2⟩:=iH r
   rw [jc,List.length_cons]
   refine ⟨by omega,by simp only [fstN]; omega⟩
 | some S :: r => by
   obtain ⟨h1,h2⟩:=iH r
   rw [ft,List.length_cons,List.length_cons]
   refine ⟨by omega,by simp only [fstN]; omega⟩
end
end Go.Fx.YtbdjfccgkdgbfaaFx

