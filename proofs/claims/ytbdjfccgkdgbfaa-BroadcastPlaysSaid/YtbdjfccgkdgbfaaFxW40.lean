/- What the functions that the statement reaches compute: part 40. -/
import Derived.Test.YtbdjfccgkdgbfaaFxW39
namespace Go.Fx.YtbdjfccgkdgbfaaFx
open Go Go.Fx
attribute [local irreducible] aC runI az aA

set_option maxRecDepth 100000
set_option maxHeartbeats 4000000

theorem sc_set4:∀ {es:List AV},(∀ e ∈ es,sc6 e)→∀ {i:Nat} {a b c d r l x:AV},es[i]? = some (.agg [a,b,c,d,r,l])→∀ (q:List AV),(es.flatMap AV.cells++q).set (i * 6 + 4) x = (es.set i (.agg [a,b,c,d,x,l])).flatMap AV.cells++q
  | [],_,_,_,_,_,_,_,_,_,hi,_=>by simp at hi
  | e :: r, h, 0, _, _, _, _, _, _, _, hi, q => by
    simp only [List.getElem?_cons_zero,Option.some.injEq] at hi
    subst hi; rfl
  | e :: r, h, i + 1, a, b, c, d, rv, l, x, hi, q => by
    have:=sc_set4 (es:=r) (fun e he=>h e (by simp [he])) (i:=i) (x:=x) (by simpa using hi) q
    obtain ⟨a',b',c',d',x',l',rfl,_⟩:=h e (by simp)
    rw [List.set_cons_succ,List.flatMap_cons,List.flatMap_cons,List.append_assoc,List.append_assoc,show (i + 1) * 6 + 4 = (i * 6 + 4) + 1 + 1 + 1 + 1 + 1 + 1 by omega,← this]
    rfl
theorem sc_at4:∀ {es:List AV},(∀ e ∈ es,sc6 e)→∀ {i:Nat} {a b c d r l:AV},es[i]? = some (.agg [a,b,c,d,r,l])→∀ (q:List AV),(es.flatMap AV.cells++q)[i * 6 + 4]? = some r
  | [],_,_,_,_,_,_,_,_,hi,_=>by simp at hi
  | e :: r, h, 0, _, _, _, _, _, _, hi, q => by
    simp only [List.getElem?_cons_zero,Option.some.injEq] at hi
    subst hi; rfl
  | e :: r, h, i + 1, a, b, c, d, rv, l, hi, q => by
    have:=sc_at4 (es:=r) (fun e he=>h e (by simp [he])) (i:=i) (by simpa using hi) q
    obtain ⟨a',b',c',d',x',l',rfl,_⟩:=h e (by simp)
    rw [List.flatMap_cons,List.append_assoc,show (i + 1) * 6 + 4 = (i * 6 + 4) + 1 + 1 + 1 + 1 + 1 + 1 by omega,← this]
    rfl

section
variable {st:St} {es:List AV} {n:Nat} {R:HR}
theorem rRead_calls (h:RH (.sl false 6 es) st n R) (he:Es es R.subs) (hn:n < 700000) (t:Int) :
    al Go.Proofs.Try.prog n_f55 [.agg [.sl false 6 es,wsV R.ws],.lit (.int .i64 t)] st (fun r st'=>∃ v',r = .tup [.agg [v',wsV (bd t R).1.ws],msgV (bd t R).2.1,itsV (bd t R).2.2.1,.lit (.int .i64 (bd t R).2.2.2)]∧(∃ es,SV v' st' es∧Es es (bd t R).1.subs)∧SOk (bd t R).1.subs (n + 64)∧Kp st st' []):=by
  obtain ⟨w1,w2,w3,w4,w5,w6,w7,w8⟩:=aw R.ws
  have hwl:=h.wl
  have hel:=he.1
  have hsl:=h.ok.len
  refine aq hmix k_f55 rfl rfl fun Q hQ=>?_
  unfold aFun c_f55
  have stay:∀ b,bd t R = (R,[],[],b)→Q (.tup [.agg [.sl false 6 es,wsV R.ws],.lit (.slice none 0 0),.lit (.slice none 0 0),.lit (.int .i64 b)]) st:=fun b hr=>by
    refine hQ _ _ ⟨.sl false 6 es,?_⟩
    rw [hr]
    exact ⟨rfl,h.ex,h.ok.mono (by omega),Kp.refl _ _⟩
  have hat:=lT (ws:=R.ws) he hsl t st
  simp (config:=KF) (disch:=omega) only [bZ,aa,id,↓reduceIte,Nat.reduceEqDiff,Nat.reduceAdd,Nat.reduceLeDiff,reduceCtorEq,w2,w4]
  refine ak (vs:=[.agg [.sl false 6 es,wsV R.ws],.lit (.int .i64 t)]) (by simp [w2,aL,cu,aH]) e_f35 hat (by simp [w5,aM,aD,cZ]) ?_
  rcases nN t R.subs 0 with ⟨p1,p2⟩ | ⟨i,hi,p1,_,p3,p2⟩
  · rw [show ((0:Nat):Int) = 0 from rfl] at p2
    rw [p2]
    have hs:=stay 9 (by unfold bd; rw [p1])
    simp (config:=KF) (disch:=omega) only [bZ,retI,ah,aa,↓reduceIte,Nat.reduceEqDiff,Nat.reduceAdd,Nat.reduceLeDiff,Int.reduceLT,Int.reduceNeg,af,ae,w2,w4]
    exact hs
  · rw [show ((0:Nat):Int) = 0 from rfl,Nat.zero_add] at p2
    rw [p2]
    obtain ⟨rv,hrv,hg⟩:=he.at hi
    have hsc:=he.sc
    have hgi:es[i]? = some (sbV R.subs[i] rv):=by
      have hi':i < es.length:=by omega
      rw [List.getD_eq_getElem?_getD,List.getElem?_eq_getElem hi'] at hg
      rw [List.getElem?_eq_getElem hi']
      exact congrArg some hg
    unfold sbV at hg
    cases hm:R.subs[i].msgs with
    | nil =>
      have hs:=stay 16 (by unfold bd; rw [p1]; simp only [hm])
      obtain ⟨r1,r2,r3,r4,r5,r6,r7,r8⟩:=hrv.facts
      rw [hm] at r8
      simp (config:=KF) (disch:=omega) only [bZ,retI,ixSV,ah,addA,aa,↓reduceIte,Nat.reduceEqDiff,Nat.reduceAdd,Nat.reduceLeDiff,af,ae,w2,w4,hg,r1,hel,r8]
      exact hs
    | cons m ms =>
      have hrv2:rv = .sl false 1 (msgV m::ms.map msgV):=by
        rcases hrv with h | ⟨_,h⟩
        · rw [hm] at h; exact h
        · rw [hm] at h; cases h
      subst hrv2
      simp (config:=KF) (disch:=omega) only [bZ,o_x,ixSV,aP,lenI,addA,aa,↓reduceIte,Nat.reduceEqDiff,hg,hel]
      refine SV.src (es:=es) (.inr (.inl rfl)) hsc (appB_new hsc (by omega) fun u s1 hu hub hk hb=>?_)
      obtain ⟨bi,cap,q,rfl,hgb,hcap,hcl,hnb⟩:∃ bi cap q,u = .bs bi 6 0 es.length cap∧s1.get bi = some (es.flatMap AV.cells++q)∧es.length≤cap∧cap * 6≤(es.flatMap AV.cells++q).length∧∀ c ∈ q,c.NB:=by
        rcases hu with ⟨_,e⟩ | e | e
        · rw [e] at hel; simp at hel; omega
        · subst e
          rcases hub with ⟨_,e⟩ | e
          · cases e
          · cases e
        · exact e
      have hdr:=lU hsc (show i < es.length by omega) q
      rw [List.getD_eq_getElem?_getD,hgi] at hdr
      have hSm:=List.getElem_mem hi
      generalize R.subs[i] = S at hg hdr hm p1 p3 hgi hSm
      have hdr4:(es.flatMap AV.cells++q).drop (i * 6 + 4) = .sl false 1 (msgV m::ms.map msgV)::.lit (.int .i64 (S.lost:Nat))::((es.drop (i + 1)).flatMap AV.cells++q):=by
        rw [← List.drop_drop,hdr]; rfl
      obtain ⟨m1,m2,m3,m4,m5,m6,m7,m8⟩:=(MV.msg m).facts
      have hgi':es[i]? = some (.agg [.lit (.int .i64 (S.num:Nat)),.lit (.int .i64 S.topic),.lit (.int .i64 (S.room:Nat)),.lit (.int .i64 S.pol),.sl false 1 (msgV m::ms.map msgV),.lit (.int .i64 (S.lost:Nat))]):=hgi
      have hq4:=sc_at4 hsc hgi' q
      have hset4:=sc_set4 (x:=.sl false 1 (ms.map msgV)) hsc hgi' q
      have hrow:RowV (.sl false 1 (ms.map msgV)) ms:=.inl rfl
      have hes2:Es (es.set i (.agg [.lit (.int .i64 (S.num:Nat)),.lit (.int .i64 S.topic),.lit (.int .i64 (S.room:Nat)),.lit (.int .i64 S.pol),.sl false 1 (ms.map msgV),.lit (.int .i64 (S.lost:Nat))])) (R.subs.set i (fI S)):=he.set ⟨_,by unfold fI; rw [hm]; exact hrow,rfl⟩
      have hnt:∀ e:AV,(es.set i e).length = R.subs.length:=fun e=>by rw [List.length_set,hel]
      generalize hX:es.set i (.agg [.lit (.int .i64 (S.num:Nat)),.lit (.int .i64 S.topic),.lit (.int .i64 (S.room:Nat)),.lit (.int .i64 S.pol),.sl false 1 (ms.map msgV),.lit (.int .i64 (S.lost:Nat))]) = es2 at hset4 hes2
      have hel2:es2.length = R.subs.length:=by rw [← hX]; exact hnt _
      have hgi2:es2[i]? = some (.agg [.lit (.int .i64 (S.num:Nat)),.lit (.int .i64 S.topic),.lit (.int .i64 (S.room:Nat)),.lit (.int .i64 S.pol),.sl false 1 (ms.map msgV),.lit (.int .i64 (S.lost:Nat))]):=by
        rw [← hX,List.getElem?_set,if_pos rfl,if_pos (by omega)]
      have hsc2:=hes2.sc
      have hdr2:=lU hsc2 (show i < es2.length by omega) q
      rw [List.getD_eq_getElem?_getD,hgi2] at hdr2
      have hdr21:(es2.flatMap AV.cells++q).drop (i * 6 + 1) = .lit (.int .i64 S.topic)::.lit (.int .i64 (S.room:Nat))::.lit (.int .i64 S.pol)::.sl false 1 (ms.map msgV)::.lit (.int .i64 (S.lost:Nat))::((es2.drop (i + 1)).flatMap AV.cells++q):=by
        rw [← List.drop_drop,hdr2]; rfl
      have hsok2:SOk (R.subs.set i (fI S)) n:=⟨by rw [List.length_set]; exact hsl,fun T hT=>by
        rcases List.mem_or_eq_of_mem_set hT with hT | rfl
        · exact h.ok.ok T hT
        · obtain ⟨o1,o2,o3⟩:=h.ok.ok S hSm
          rw [hm] at o1 o3
          refine ⟨?_,o2,?_⟩
          · unfold fI; rw [hm]
            simp only [used,List.tail_cons] at o1 ⊢
            omega
          · unfold fI; rw [hm]
            simp only [List.length_cons,List.tail_cons] at o3 ⊢
            omega⟩
      have hbl:bi < s1.boxes.length:=bh hgb
      have hlc2:(es2.flatMap AV.cells++q).length = (es.flatMap AV.cells++q).length:=by
        rw [List.length_append,List.length_append,dg hsc,dg hsc2,hel2,hel]
      have hv2:SV (.bs bi 6 0 R.subs.length cap) (s1.set bi (es2.flatMap AV.cells++q)) es2:=by
        refine .inr (.inr ⟨bi,cap,q,by rw [hel2],aF hbl,by omega,by rw [hlc2]; exact hcl,hnb⟩)
      have hon:=kQ hv2 hes2 hsok2 h.wl h.wd (by omega) S.topic
      have hrr:bd t R = ((onR S.topic R.ws.length ⟨R.subs.set i (fI S),R.ws⟩).1,m,(onR S.topic R.ws.length ⟨R.subs.set i (fI S),R.ws⟩).2,0):=by
        unfold bd; rw [p1]; simp only [hm]; rw [p3]
      rw [hrr] at hQ
      simp only at hQ
      have hidn:st.boxes.length≤bi:=hb bi (by simp [ap])
      have hfl:(es.flatMap AV.cells).length = R.subs.length * 6:=by rw [dg hsc,hel]
      generalize onR S.topic R.ws.length ⟨R.subs.set i (fI S),R.ws⟩ = O at hQ hon
      simp (config:=KF) (disch:=omega) only [bZ,jn,bz,iG,fv,ixSV,da,ge,eZ,ah,ixTo,addA,aa,jU,jV,iH,List.getD_cons_zero,↓reduceIte,Nat.reduceEqDiff,Nat.reduceAdd,Nat.reduceLeDiff,Int.reduceLE,dt,aF,List.length_append,af,ae,eO,w2,hgb,hdr4,hel,m1,m6,hq4,hset4,hfl]
      have hg2:(s1.set bi (es2.flatMap AV.cells++q)).get bi = _:=aF hbl
      simp (config:=KF) (disch:=omega) only [bZ,id,↓reduceIte,Nat.reduceEqDiff,hdr21]
      refine au (vs:=[.agg [.bs bi 6 0 R.subs.length cap,wsV R.ws],.lit (.int .i64 S.topic)]) (by simp [w2,aL,jU,aH]) e_f71 hon (by simp [w5,aM,aD,ni]) fun r s3 hr=>?_
      obtain ⟨v',es',rfl,j1,j2,j3,j4⟩:=hr
      obtain ⟨z1,z2,z3,z4,z5,z6,z7,z8⟩:=j1.facts
      obtain ⟨x1,x2,x3,x4,x5,x6,x7,x8⟩:=aw O.1.ws
      obtain ⟨t1,t2,t3,t4⟩:=aR O.2
      simp (config:=KF) (disch:=omega) only [bZ,retI,ah,aa,↓reduceIte,Nat.reduceEqDiff,Nat.reduceAdd,Nat.reduceLeDiff,af,ae,z2,z4,x2,x4,t1,t2,t4,m1,m5]
      refine hQ _ _ ⟨v',rfl,⟨es',j1,j2⟩,j3,?_⟩
      exact (hk.trans ((Oth.set s1 bi _ (S:=[bi]) (by simp)).kp (F:=[bi]) fun _ q=>q) fun x hx=>.inr (by simp only [List.mem_singleton] at hx; subst hx; exact hidn)).trans j4 fun _ q=>(by cases q)
end
end Go.Fx.YtbdjfccgkdgbfaaFx

