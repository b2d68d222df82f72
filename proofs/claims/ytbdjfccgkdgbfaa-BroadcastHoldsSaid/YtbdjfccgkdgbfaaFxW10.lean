/- What the functions that the statement reaches compute: part 10. -/
import Derived.Test.YtbdjfccgkdgbfaaFxW9
namespace Go.Fx.YtbdjfccgkdgbfaaFx
open Go Go.Fx
attribute [local irreducible] aC runI au aH

set_option maxRecDepth 100000
set_option maxHeartbeats 4000000

/-! It goes on at a topic. -/
def itA (t:Nat):AV:=.agg [.lit (.int .i64 (t:Nat)),.lit (.int .i64 0),.lit (.int .i64 0),.lit (.int .i64 0)]
def fh (l:List Nat):AV:=if l = [] then .lit (.slice none 0 0) else .sl true 4 (l.map itA)

def itsV (l:List Nat):AV:=if l = [] then .lit (.slice none 0 0) else .sl false 4 (l.map itA)
theorem its_dis (l:List Nat):(fh l).dis = itsV l:=by unfold fh itsV; split <;> rfl

structure HubR (st:St) (h wid:Nat) (n:Nat) (R:HR) (F:List Nat):Prop where
  ex:∃ L Qs M W,HubIs st h wid L Qs M∧SubR (L.map sbO) R.subs n∧WaitR Qs M W n∧W.map cZ = R.ws∧bS h wid L Qs ⊆ F
theorem HubR.mono {st:St} {h wid n m:Nat} {R:HR} {F G:List Nat} (hh:HubR st h wid n R F) (hm:n≤m) (hf:F ⊆ G):HubR st h wid m R G:=by
  obtain ⟨L,Qs,M,W,h1,h2,h3,h4,h5⟩:=hh.ex
  exact ⟨⟨L,Qs,M,W,h1,h2.mono hm,h3.mono hm,h4,fun x hx=>hf (h5 hx)⟩⟩
theorem HubR.kp {st st':St} {h wid n:Nat} {R:HR} {F G:List Nat} (hh:HubR st h wid n R F) (hk:Kp st st' G) (hf:∀ x ∈ F,x ∉ G):HubR st' h wid n R F:=by
  obtain ⟨L,Qs,M,W,h1,h2,h3,h4,h5⟩:=hh.ex
  exact ⟨⟨L,Qs,M,W,h1.kp hk fun x hx=>hf x (h5 hx),h2,h3,h4,h5⟩⟩
theorem canL_pub {L L':List (Option SL)} {topic:Int} {p:List UInt8} (h:L'.map sbO = (L.map sbO).map (pubO topic p)) {subs:List Sb} {n:Nat} (hs:SubR (L.map sbO) subs n):SubR (L'.map sbO) (pubR topic p subs) (n + 1):=by
  rw [h]; exact hs.pub topic p
theorem popR_len {topic:Int}:∀ {l:List WW} {w:WW} {r:List WW},popR topic l = some (w,r)→l.length = r.length + 1
  | [],_,_,h=>by cases h
  | x :: s, w, r, h => by
    simp only [popR] at h
    split at h
    · simp only [Option.some.injEq,Prod.mk.injEq] at h
      rw [← h.2]; rfl
    · cases hp:popR topic s with
      | none=>rw [hp] at h; cases h
      | some q =>
        obtain ⟨y,t⟩:=q
        rw [hp] at h
        simp only [Option.some.injEq,Prod.mk.injEq] at h
        rw [← h.2]
        simp only [List.length_cons,popR_len hp]
theorem onR_none {topic:Int} {k:Nat} {R:HR} (h:popR topic R.ws = none):onR topic k R = (R,[]):=by
  cases k with
  | zero=>rfl
  | succ k=>unfold onR; rw [h]
theorem onR_stop {topic:Int} {k:Nat} {R:HR} {w:WW} {r:List WW} (h:popR topic R.ws = some (w,r)) (hc:canR topic w.2.2.length R.subs = false):onR topic k R = (R,[]):=by
  cases k with
  | zero=>rfl
  | succ k=>unfold onR; rw [h]; simp only [hc]; rfl
theorem onR_go {topic:Int} {R:HR} {w:WW} {r:List WW} (h:popR topic R.ws = some (w,r)) (hc:canR topic w.2.2.length R.subs = true):onR topic R.ws.length R = ((onR topic r.length ⟨pubR topic w.2.2 R.subs,r⟩).1,w.1::(onR topic r.length ⟨pubR topic w.2.2 R.subs,r⟩).2):=by
  rw [popR_len h]; conv=>lhs; unfold onR
  rw [h]; simp only [hc,if_true]

theorem itA_dis (l:List Nat):(l.map itA).map AV.dis = l.map itA:=by
  rw [List.map_map]; exact List.map_congr_left fun _ _=>rfl
theorem its_snoc (l:List Nat) (t:Nat):fh (l++[t]) = .sl true 4 (l.map itA++[itA t]):=by
  unfold fh
  rw [if_neg (by simp),List.map_append]; rfl

theorem nr {st:St} {h wid n:Nat} {R:HR} {F:List Nat} (hh:HubR st h wid n R F) {i:Nat} (hi:i < 16) (hn:n < 900000) :
    al Go.Proofs.Try.prog n_f32 [.ptr h 0,.lit (.int .i64 (i:Nat))] st (fun v st'=>v = itsV (onR i R.ws.length R).2∧HubR st' h wid (n + 64) (onR i R.ws.length R).1 F∧Kp st st' F):=by
  have hlen0:R.ws.length≤64:=by
    obtain ⟨L,Qs,M,W,h1,h2,h3,h4,h5⟩:=hh.ex
    rw [← h4,List.length_map]; exact h3.len
  refine ao hmix k_f32 rfl rfl fun Q hQ=>?_
  unfold aFun c_f32
  simp (config:=KF) (disch:=omega) only [bZ,↓reduceIte,Nat.reduceEqDiff,reduceCtorEq]
  rw [f32_6w]
  refine cX (A:=HR×List Nat×Nat×St) (fun a=>a.1.ws.length) (fun a=>⟨[(0,.ptr h 0),(1,.lit (.int .i64 (i:Nat))),(5,fh a.2.1)],[]⟩) (fun a=>a.2.2.2)
    (fun a=>HubR a.2.2.2 h wid a.2.2.1 a.1 F∧Kp st a.2.2.2 F∧a.2.2.1 + a.1.ws.length≤n + R.ws.length∧a.2.1.length + a.1.ws.length≤64∧onR i R.ws.length R = ((onR i a.1.ws.length a.1).1,a.2.1++(onR i a.1.ws.length a.1).2))
    (R,[],n,st) ⟨hh,Kp.refl _ _,Nat.le_refl _,by simpa using hlen0,by simp⟩ (Sf.le_refl _) rfl ?_
  rintro ⟨R1,out,n1,s1⟩ ⟨i1,i2,i3,i4,i5⟩ K hK hKe hKr
  simp only at i1 i2 i3 i4 i5
  dsimp only
  obtain ⟨L,Qs,M,W,j1,j2,j3,j4,j5⟩:=i1.ex
  have hg:=j1.get
  have h64:=j1.l64
  have h16:=j1.q16
  obtain ⟨x,hx⟩:∃ x,Qs[i]? = some x:=⟨_,List.getElem?_eq_getElem (by omega)⟩
  have hxq:=j1.que i x hx
  obtain ⟨hxL,hxg⟩:=j3.que i x hx
  obtain ⟨rq,hrq⟩:=hub_q (L:=L) wid h64 hx
  have hrw:=ly wid h64 h16
  have hxqL:∀ l,x.L = l→QIs s1 x.q x.m l x.g:=fun l e=>e ▸ hxq
  have hpop:=jm i W
  rw [j4] at hpop
  have hend:∀ l,((fh l).dis.noL = true∧(fh l).noL = true):=fun l=>by
    unfold fh; split <;> exact ⟨rfl,rfl⟩
  simp (config:=KF) (disch:=omega) only [bZ,gv,aj,addA,aa,id,↓reduceIte,Nat.reduceEqDiff,reduceCtorEq,hg,hrq]
  cases hp:popW i W with
  | none =>
    rw [hp] at hpop
    have hq0:=kT i hp
    refine am rfl e_f48 (g6 (hxqL [] (hxL.trans hq0))) rfl ?_
    simp (config:=KF) (disch:=omega) only [bZ,aI,bf,AI.dst,ba,dN,↓reduceIte,Nat.reduceEqDiff,Int.reduceEq,reduceCtorEq,not_false_eq_true]
    rw [onR_none hpop] at i5
    obtain ⟨e1,e2⟩:=hend out
    refine hKr _ _ ?_
    simp (config:=KF) (disch:=omega) only [bZ,aI,retI,↓reduceIte]
    rw [its_dis]
    exact hQ (itsV out) s1 ⟨by rw [i5]; simp,by rw [i5]; exact i1.mono (by omega) (fun _ h=>h),i2⟩
  | some q =>
    obtain ⟨e,r⟩:=q
    rw [hp] at hpop
    obtain ⟨A,B,hW,hr,het,hqA⟩:=kU i hp
    subst hr
    have hxL':x.L = (e.2.tick,(e.1:Int))::qOf i B:=by rw [hxL,hW,fA,hqA,d8,if_pos het]; rfl
    refine am rfl e_f48 (g6 (hxqL _ hxL')) rfl ?_
    have hmem:e ∈ W:=by rw [hW]; simp
    obtain ⟨w1,w2,w3,w4,w5⟩:=j3.ok e hmem
    have hlk:bg (e.1:Int) M = some e.2:=by
      rw [j3.mp]
      have hnd:=j3.nd
      rw [hW] at hnd ⊢
      rw [List.map_append,List.map_cons,List.nodup_append] at hnd
      rw [f0,jl]
      · simp [de]
      · intro a ha q
        exact hnd.2.2 a.1 (List.mem_map_of_mem ha) e.1 (by simp) (by omega)
    obtain ⟨d,hd⟩:∃ d,d = dtAV e.2.data e.2.nl:=⟨_,rfl⟩
    have hdv:∀ st,DV d st e.2.data:=fun st=>by rw [hd]; exact dt_dv st w5
    obtain ⟨v1,v2,v3,v4,v5,v6,v7,v8⟩:=(hdv st).facts
    have hwe:(weAV e.2).dis = .agg [.lit (.int .i64 e.2.topic),.lit (.int .u64 (e.2.tick:Nat)),d]:=by rw [nB,weAV,hd]
    have hkk:∀ z,bP (.int .i64) z false s1 (.map wid) (.lit (.int .i64 ((e.1:Nat):Int))) = .ok (.agg [.lit (.int .i64 e.2.topic),.lit (.int .u64 (e.2.tick:Nat)),d]):=fun z=>by
      rw [cg j1.mp,hlk]; simp only [hwe]; rfl
    simp (config:=KF) (disch:=omega) only [bZ,AI.dst,o_field,e8,mN,aj,addA,aa,dN,id,bz,↓reduceIte,Nat.reduceEqDiff,reduceCtorEq,not_true_eq_false,hg,hrw,hkk,v1]
    have hcan:=oS j1 i (hdv s1) (by omega)
    refine ap (vs:=[.ptr h 0,.lit (.int .i64 (i:Nat)),d]) (by simp [v1,eF,eu]) e_f45 hcan (by simp [v5,d5,eG]) fun w s2 hr=>?_
    obtain ⟨rfl,hk2⟩:=hr
    simp only at hpop
    have hsz:R1.ws.length = (A++B).length + 1:=by rw [← j4,hW]; simp; omega
    have hs2w:(cZ e).2.2 = e.2.data:=rfl
    obtain ⟨e1,e2⟩:=hend out
    have k1:HubIs s2 h wid L Qs M:=j1.kp hk2 fun _ _ q=>by cases q
    have hg2:=k1.get
    rw [pR,j2.eq]
    cases hc:canR (i:Int) e.2.data.length R1.subs with
    | false =>
      simp (config:=KF) (disch:=omega) only [bZ,aI,AI.dst,unA,↓reduceIte,Nat.reduceEqDiff,reduceCtorEq]
      rw [onR_stop hpop hc] at i5
      refine hKr _ _ ?_
      simp (config:=KF) (disch:=omega) only [bZ,aI,retI,↓reduceIte]
      rw [its_dis]
      exact hQ (itsV out) s2 ⟨by rw [i5]; simp,by rw [i5]; exact (i1.kp hk2 fun _ _ q=>by cases q).mono (by omega) (fun _ h=>h),i2.trans hk2 fun _ q=>by cases q⟩
    | true =>
      simp (config:=KF) (disch:=omega) only [bZ,AI.dst,gv,aj,addA,aa,unA,id,↓reduceIte,Nat.reduceEqDiff,reduceCtorEq,hg2,hrq]
      have hxq2:QIs s2 x.q x.m ((e.2.tick,(e.1:Int))::qOf i B) x.g:=by
        have:=k1.que i x hx
        unfold QL.is at this
        rwa [hxL'] at this
      refine ap rfl e_f49 (qpop_calls hxq2 (by omega)) rfl fun w s3 hr=>?_
      obtain ⟨rfl,hq3,ho3⟩:=hr
      obtain ⟨y,hy⟩:∃ y:QL,y = ⟨x.q,x.m,x.g,qOf i B⟩:=⟨_,rfl⟩
      obtain ⟨l1,l2⟩:=k1.setQue (y:=y) hx (ho3.kp (F:=x.ids) fun b hb=>hb) (by rw [hy]; exact hq3) (by rw [hy]) (by rw [hy])
      have hg3:=l1.get
      have hrw3:=ly (L:=L) wid h64 l1.q16
      have hkk3:∀ z,bP (.int .i64) z false s3 (.map wid) (.lit (.int .i64 ((e.1:Nat):Int))) = .ok (.agg [.lit (.int .i64 e.2.topic),.lit (.int .u64 (e.2.tick:Nat)),d]):=fun z=>by
        rw [cg l1.mp,hlk]; simp only [hwe]; rfl
      simp (config:=KF) (disch:=omega) only [bZ,o_field,e8,mN,aj,addA,aa,id,bz,↓reduceIte,Nat.reduceEqDiff,reduceCtorEq,hg3,hrw3,hkk3,v1]
      have hpub:=iY l1 i (hdv s3) w4 (by rw [hd,dt_bufs]; intro _ q; cases q) (fun j z hz=>by
        have:=(j2.ok j z.S (by rw [List.getElem?_map,hz]; rfl)).2.1
        omega)
      refine ap (vs:=[.ptr h 0,.lit (.int .i64 (i:Nat)),d]) (by simp [v1,eF,eu]) e_f46 hpub (by simp [v5,d5,eG]) fun w s4 hr=>?_
      obtain ⟨L4,m1,m2,m3,m4⟩:=hr
      have hg4:=m1.get
      have hrw4:=ly (L:=L4) wid m1.l64 m1.q16
      simp (config:=KF) (disch:=omega) only [bZ,o_del,aj,addA,aa,bz,↓reduceIte,Nat.reduceEqDiff,reduceCtorEq,hg4,hrw4]
      refine np m1.mp fun s5 hm5 ho5=>?_
      have p1:=m1.setMap ho5 hm5
      have hpt:∀ o,(fh (o++[e.1])) = .sl true 4 (o.map itA++[itA e.1]):=fun o=>its_snoc o e.1
      have hgo:=onR_go hpop (by rw [hs2w]; exact hc)
      rw [List.length_map] at hgo
      have hs5:HubR s5 h wid (n1 + 1) ⟨pubR i e.2.data R1.subs,(A++B).map cZ⟩ F :=
        ⟨⟨L4,Qs.set i y,delP (e.1:Int) M,A++B,p1,canL_pub m2 j2,(WaitR.del (hW ▸ j3) het hx (by rw [hy,hqA]; rfl) (by rw [hy])).mono (by omega),rfl,fun b hb=>j5 (l2 (m4 hb))⟩⟩
      have hk5:Kp st s5 F:=by
        have a1:=i2.trans hk2 (fun _ q=>by cases q)
        have a2:=a1.trans (ho3.kp (F:=x.ids) fun b hb=>hb) (fun b hb=>.inl (j5 (ai.2 (.inr (.inr (.inr ⟨i,x,hx,hb⟩))))))
        have a3:=a2.trans m3 (fun b hb=>.inl (j5 (l2 hb)))
        exact a3.trans (ho5.kp (F:=[wid]) fun b hb=>hb) (fun b hb=>.inl (j5 (ai.2 (.inr (.inl (by simpa using hb))))))
      have hfin:∀ sf',Sf.le (sf'.mask [0,1,5] []) ⟨[(0,.ptr h 0),(1,.lit (.int .i64 (i:Nat))),(5,fh (out++[e.1]))],[]⟩→K .normal sf' s5:=fun sf' hsf=>by
        refine hK (⟨pubR i e.2.data R1.subs,(A++B).map cZ⟩,out++[e.1],n1 + 1,s5) sf' ⟨hs5,hk5,?_,?_,?_⟩ ?_ hsf
        · simp only [List.length_map]; omega
        · simp only [List.length_map,List.length_append,List.length_cons,List.length_nil]
          simp only [List.length_append] at hsz
          omega
        · rw [i5,hgo]; simp [cZ]
        · simp only [List.length_map]; omega
      have hol:out.length < 65:=by omega
      rw [hpt out] at hfin
      have hid:=itA_dis out
      by_cases ho:out = []
      · have hia:fh out = .lit (.slice none 0 0):=by unfold fh; rw [if_pos ho]
        rw [hia]
        rw [ho] at hfin
        simp (config:=KF) (disch:=omega) only [bZ,d4,mO,eg,bslV,bstV,e9,List.isEmpty_cons,List.reduceReplicate,dw,srcA,cb,bj,mS,↓reduceIte,Nat.reduceEqDiff,Nat.reduceAdd,Nat.reduceLT,Nat.reduceLeDiff,reduceCtorEq,cz]
        exact hfin _ (Sf.le_refl _)
      · have hia:fh out = .sl true 4 (out.map itA):=by unfold fh; rw [if_neg ho]
        rw [hia]
        simp (config:=KF) (disch:=omega) only [bZ,d4,mO,eg,bslV,bstV,e9,List.reduceReplicate,cU,srcA,cb,bj,mS,↓reduceIte,Nat.reduceEqDiff,Nat.reduceAdd,Nat.reduceLT,Nat.reduceLeDiff,reduceCtorEq,cz]
        exact hfin _ (Sf.le_refl _)
end Go.Fx.YtbdjfccgkdgbfaaFx

