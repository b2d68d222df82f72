/- What the functions that the statement reaches compute: part 26. -/
import Derived.Test.YtbdjfccgkdgbfaaFxW25
namespace Go.Fx.YtbdjfccgkdgbfaaFx
open Go Go.Fx
attribute [local irreducible] aC runI az ar

set_option maxRecDepth 100000
set_option maxHeartbeats 4000000

theorem numR_app (t:Int) (a b:List Sb):numR t (a++b) = numR t a++numR t b:=by simp [numR]
theorem qK (t:Int):∀ a:List Sb,(numR t a).length≤a.length
 | []=>Nat.le_refl _
 | w :: r => by
   have:=qK t r
   unfold numR at this ⊢
   rw [List.flatMap_cons,List.length_append,List.length_cons]
   split <;> simp only [List.length_cons,List.length_nil] <;> omega
section
variable {es:List AV} {subs:List Sb} {ws:List WW}
theorem rSubs_pure (h:Es es subs) (hl:subs.length≤64) (n:Int) (st:St):aB Go.Proofs.Try.prog n_f38 [.agg [.sl false 6 es,wsV ws],.lit (.int .i64 n)] st (cy (numR n subs)):=by
 obtain ⟨w1,w2,w3,w4,w5,w6,w7,w8⟩:=aw ws
 refine aF hmix k_f38 rfl rfl fun Q hQ=>?_
 unfold aFun c_f38
 have hel:=h.1
 simp (config:=KF) (disch:=omega) only [bZ,↓reduceIte,Nat.reduceEqDiff,Nat.reduceAdd,reduceCtorEq,w2,w4]
 rw [f38_9w]
 refine a8 (A:=Nat) (fun i=>subs.length - i) (fun i=>⟨[(1,.lit (.int .i64 n)),(2,.lptr 2 0),(5,cD (numR n (subs.take i))),(6,.lit (.int .i64 (i:Nat)))],[(2,[.sl false 6 es,wsV ws])]⟩) (fun _=>st)
  (fun i=>i≤subs.length) 0 (Nat.zero_le _) (Sf.le_refl _) rfl ?_
 intro i i1 K hK hKe hKr
 by_cases h3:i < subs.length
 ·obtain ⟨rv,hrv,hg⟩:=h.at h3
  unfold sbV at hg
  have hst:numR n (subs.take (i + 1)) = numR n (subs.take i)++if subs[i].topic = n then [subs[i].num] else []:=by
   rw [List.take_succ_eq_append_getElem h3,numR_app]; simp [numR]
  have hle:=qK n (subs.take i)
  rw [List.length_take] at hle
  have hK2:=hK (i + 1)
  simp only [hst] at hK2
  generalize subs[i] = S at hg hK2
  generalize numR n (subs.take i) = out at hK2 hle
  have hol:out.length≤64:=by omega
  have hid:(out.map intA).map AV.dis = out.map intA:=by rw [List.map_map]; exact List.map_congr_left fun _ _=>rfl
  by_cases h4:S.topic = n
  ·rw [if_pos h4] at hK2
   have hsn:cD (out++[S.num]) = .sl true 1 (out.map intA++[intA S.num]):=by
    unfold cD
    rw [if_neg (by simp),List.map_append]; rfl
   rw [hsn] at hK2
   by_cases ho:out = []
   ·have hia:cD out = .lit (.slice none 0 0):=by unfold cD; rw [if_pos ho]
    rw [hia]
    rw [ho] at hK2
    simp (config:=KF) (disch:=omega) only [bZ,ixSV,bF,List.reduceReplicate,lenI,addA,ae,aQ,srcA,cr,↓reduceIte,Nat.reduceEqDiff,Nat.reduceLT,hg,hel]
    exact hK2 _ h3 (by omega) (Sf.le_refl _)
   ·have hia:cD out = .sl true 1 (out.map intA):=by unfold cD; rw [if_neg ho]
    rw [hia]
    simp (config:=KF) (disch:=omega) only [bZ,ixSV,bF,List.reduceReplicate,lenI,addA,ae,br,srcA,cr,↓reduceIte,Nat.reduceEqDiff,Nat.reduceLT,hg,hel]
    exact hK2 _ h3 (by omega) (Sf.le_refl _)
  ·rw [if_neg h4,List.append_nil] at hK2
   simp (config:=KF) (disch:=omega) only [bZ,ixSV,lenI,addA,ae,↓reduceIte,Nat.reduceEqDiff,hg,hel]
   exact hK2 _ h3 (by omega) (Sf.le_refl _)
 ·obtain rfl:i = subs.length:=by omega
  rw [List.take_length]
  simp (config:=KF) (disch:=omega) only [bZ,lenI,addA,ae,↓reduceIte,Nat.reduceEqDiff,hel]
  refine hKe _ _ _ ?_
  have hdd:=ints_dis (numR n subs)
  have hn:(cD (numR n subs)).noL = true:=by unfold cD; split <;> rfl
  have hn2:(cy (numR n subs)).noL = true:=by unfold cy; split <;> rfl
  have hd2:(cy (numR n subs)).dis = cy (numR n subs):=by unfold cy; split <;> rfl
  simp (config:=KF) (disch:=omega) only [bZ,retI,↓reduceIte,Nat.reduceEqDiff,hdd,hn2,hd2]
  exact hQ _
end
end Go.Fx.YtbdjfccgkdgbfaaFx

namespace Go.Fx.YtbdjfccgkdgbfaaFx
open Go Go.Fx
attribute [local irreducible] aC runI az ar

set_option maxRecDepth 100000
set_option maxHeartbeats 4000000

theorem jT (l:List Nat):(cy l).dis = cy l∧(cy l).own2 = cy l∧(cy l).own1 = cy l∧(cy l).noL = true:=by
 unfold cy; split <;> exact ⟨rfl,rfl,rfl,rfl⟩
theorem lC (l:List Nat) (st:St):lenI .sl st (cy l) = .ok (.lit (.int .i64 (l.length:Nat))):=by
 unfold cy
 split
 ·rename_i h; rw [h]; rfl
 ·rw [iE,List.length_map]
theorem oI (a b:List Nat) (ha:a.length≤1000) (st:St):aB Go.Proofs.Try.prog n_f37 [cy a,cy b] st (.lit (.bool (decide (a = b)))):=by
 obtain ⟨a1,a2,a3,a4⟩:=jT a
 obtain ⟨b1,b2,b3,b4⟩:=jT b
 refine aF hmix k_f37 rfl rfl fun Q hQ=>?_
 unfold aFun c_f37
 by_cases hl:a.length = b.length
 ·simp (config:=KF) (disch:=omega) only [bZ,↓reduceIte,Nat.reduceEqDiff,reduceCtorEq,lC,a1,b1]
  rw [f37_13w]
  refine a8 (A:=Nat) (fun i=>a.length - i) (fun i=>⟨[(0,cy a),(1,cy b),(5,.lit (.int .i64 (i:Nat)))],[]⟩) (fun _=>st)
   (fun i=>i≤a.length∧a.take i = b.take i) 0 ⟨Nat.zero_le _,rfl⟩ (Sf.le_refl _) rfl ?_
  intro i hi K hK hKe hKr
  obtain ⟨h1,h2⟩:=hi
  by_cases h3:i < a.length
  ·have hia:cy a = .sl false 1 (a.map intA):=by unfold cy; rw [if_neg (fun e=>by rw [e] at h3; simp at h3)]
   have hib:cy b = .sl false 1 (b.map intA):=by unfold cy; rw [if_neg (fun e=>by rw [hl,e] at h3; simp at h3)]
   have hga:(a.map intA).getD i .any = .lit (.int .i64 (a[i]:Nat)):=by
    rw [List.getD_eq_getElem?_getD,List.getElem?_map,List.getElem?_eq_getElem h3]; rfl
   have hgb:(b.map intA).getD i .any = .lit (.int .i64 (b[i]'(by omega):Nat)):=by
    rw [List.getD_eq_getElem?_getD,List.getElem?_map,List.getElem?_eq_getElem (by omega)]; rfl
   rw [hia,hib]
   have htk:a.take (i + 1) = a.take i++[a[i]]∧b.take (i + 1) = b.take i++[b[i]'(by omega)]:=⟨List.take_succ_eq_append_getElem h3,List.take_succ_eq_append_getElem (by omega)⟩
   have hcat:a[i] = b[i]'(by omega)→a.take (i + 1) = b.take (i + 1):=fun e=>by rw [htk.1,htk.2,h2,e]
   have hne:a[i]≠b[i]'(by omega)→a≠b:=fun e q=>e (by subst q; rfl)
   generalize a[i] = x at hga hcat hne
   generalize b[i]'(by omega) = y at hgb hcat hne
   by_cases hxy:x = y
   ·skip
    simp (config:=KF) (disch:=omega) only [bZ,jP,ixSV,lenI,ae,↓reduceIte,Nat.reduceEqDiff,reduceCtorEq,hga,hgb]
    rw [← hia,← hib]
    exact hK (i + 1) _ ⟨by omega,hcat hxy⟩ (by omega) (Sf.le_refl _)
   ·skip
    rw [decide_eq_false (hne hxy)] at hQ
    simp (config:=KF) (disch:=omega) only [bZ,jP,ixSV,lenI,ae,↓reduceIte,Nat.reduceEqDiff,reduceCtorEq,hga,hgb]
    refine hKr _ _ ?_
    simp (config:=KF) (disch:=omega) only [bZ,retI,↓reduceIte]
    exact hQ _
  ·obtain rfl:i = a.length:=by omega
   have he:a = b:=by rw [List.take_length,hl,List.take_length] at h2; exact h2
   rw [decide_eq_true he] at hQ
   simp (config:=KF) (disch:=omega) only [bZ,↓reduceIte,Nat.reduceEqDiff,reduceCtorEq,lC,a1]
   refine hKe _ _ _ ?_
   simp (config:=KF) (disch:=omega) only [bZ,retI,↓reduceIte]
   exact hQ _
 ·have he:a≠b:=fun e=>hl (by rw [e])
  rw [decide_eq_false he] at hQ
  simp (config:=KF) (disch:=omega) only [bZ,retI,↓reduceIte,Nat.reduceEqDiff,reduceCtorEq,lC,a1,b1]
  exact hQ _

end Go.Fx.YtbdjfccgkdgbfaaFx

namespace Go.Fx.YtbdjfccgkdgbfaaFx
open Go Go.Fx
attribute [local irreducible] aC runI az ar

set_option maxRecDepth 100000
set_option maxHeartbeats 4000000

theorem sc_set4:∀ {es:List AV},(∀ e ∈ es,sc6 e)→∀ {i:Nat} {a b c d r l x:AV},es[i]? = some (.agg [a,b,c,d,r,l])→∀ (q:List AV),(es.flatMap AV.cells++q).set (i * 6 + 4) x = (es.set i (.agg [a,b,c,d,x,l])).flatMap AV.cells++q
 | [],_,_,_,_,_,_,_,_,_,hi,_=>by simp at hi
 | e :: r, h, 0, _, _, _, _, _, _, _, hi, q => by
   simp only [List.getElem?_cons_zero,Option.some.injEq] at hi
   subst hi; rfl
 | e :: r, h, i + 1, a, b, c, d, rv, l, x, hi, q => by
   have:=sc_set4 (es:=r) (fun e he=>h e (by simp [he])) (i:=i) (x:=x) (by simpa using hi) q
   obtain ⟨a',b',c',d',x',l',rfl,_⟩:=h e (by simp)
   rw [List.set_cons_succ,List.flatMap_cons,List.flatMap_cons,List.append_assoc,List.append_assoc,show (i + 1) * 6 + 4 = (i * 6 + 4) + 1 + 1 + 1 + 1 + 1 + 1 by omega,← this]
   rfl
theorem sc_at4:∀ {es:List AV},(∀ e ∈ es,sc6 e)→∀ {i:Nat} {a b c d r l:AV},es[i]? = some (.agg [a,b,c,d,r,l])→∀ (q:List AV),(es.flatMap AV.cells++q)[i * 6 + 4]? = some r
 | [],_,_,_,_,_,_,_,_,hi,_=>by simp at hi
 | e :: r, h, 0, _, _, _, _, _, _, hi, q => by
   simp only [List.getElem?_cons_zero,Option.some.injEq] at hi
   subst hi; rfl
 | e :: r, h, i + 1, a, b, c, d, rv, l, hi, q => by
   have:=sc_at4 (es:=r) (fun e he=>h e (by simp [he])) (i:=i) (by simpa using hi) q
   obtain ⟨a',b',c',d',x',l',rfl,_⟩:=h e (by simp)
   rw [List.flatMap_cons,List.append_assoc,show (i + 1) * 6 + 4 = (i * 6 + 4) + 1 + 1 + 1 + 1 + 1 + 1 by omega,← this]
   rfl

section
variable {st:St} {es:List AV} {n:Nat} {R:HR}
theorem rRead_calls (h:RH (.sl false 6 es) st n R) (he:Es es R.subs) (hn:n < 700000) (t:Int) :
  am Go.Proofs.Try.prog n_f55 [.agg [.sl false 6 es,wsV R.ws],.lit (.int .i64 t)] st (fun r st'=>∃ v',r = .tup [.agg [v',wsV (bk t R).1.ws],msgV (bk t R).2.1,itsV (bk t R).2.2.1,.lit (.int .i64 (bk t R).2.2.2)]∧(∃ es,SV v' st' es∧Es es (bk t R).1.subs)∧SOk (bk t R).1.subs (n + 64)∧Kp st st' []):=by
 obtain ⟨w1,w2,w3,w4,w5,w6,w7,w8⟩:=aw R.ws
 have hwl:=h.wl
 have hel:=he.1
 have hsl:=h.ok.len
 refine ap hmix k_f55 rfl rfl fun Q hQ=>?_
 unfold aFun c_f55
 have stay:∀ b,bk t R = (R,[],[],b)→Q (.tup [.agg [.sl false 6 es,wsV R.ws],.lit (.slice none 0 0),.lit (.slice none 0 0),.lit (.int .i64 b)]) st:=fun b hr=>by
  refine hQ _ _ ⟨.sl false 6 es,?_⟩
  rw [hr]
  exact ⟨rfl,h.ex,h.ok.mono (by omega),Kp.refl _ _⟩
 have hat:=mF (ws:=R.ws) he hsl t st
 simp (config:=KF) (disch:=omega) only [bZ,ae,id,↓reduceIte,Nat.reduceEqDiff,Nat.reduceAdd,Nat.reduceLeDiff,reduceCtorEq,w2,w4]
 refine ak (vs:=[.agg [.sl false 6 es,wsV R.ws],.lit (.int .i64 t)]) (by simp [w2,aH,bN,aL]) e_f35 hat (by simp [w5,aI,aD,ci]) ?_
 rcases ob t R.subs 0 with ⟨p1,p2⟩ | ⟨i,hi,p1,_,p3,p2⟩
 ·rw [show ((0:Nat):Int) = 0 from rfl] at p2
  rw [p2]
  have hs:=stay 9 (by unfold bk; rw [p1])
  simp (config:=KF) (disch:=omega) only [bZ,retI,ah,ae,↓reduceIte,Nat.reduceEqDiff,Nat.reduceAdd,Nat.reduceLeDiff,Int.reduceLT,Int.reduceNeg,af,aa,w2,w4]
  exact hs
 ·rw [show ((0:Nat):Int) = 0 from rfl,Nat.zero_add] at p2
  rw [p2]
  obtain ⟨rv,hrv,hg⟩:=he.at hi
  have hsc:=he.sc
  have hgi:es[i]? = some (sbV R.subs[i] rv):=by
   have hi':i < es.length:=by omega
   rw [List.getD_eq_getElem?_getD,List.getElem?_eq_getElem hi'] at hg
   rw [List.getElem?_eq_getElem hi']
   exact congrArg some hg
  unfold sbV at hg
  cases hm:R.subs[i].msgs with
  | nil =>
    have hs:=stay 16 (by unfold bk; rw [p1]; simp only [hm])
    obtain ⟨r1,r2,r3,r4,r5,r6,r7,r8⟩:=hrv.facts
    rw [hm] at r8
    simp (config:=KF) (disch:=omega) only [bZ,retI,ixSV,ah,addA,ae,↓reduceIte,Nat.reduceEqDiff,Nat.reduceAdd,Nat.reduceLeDiff,af,aa,w2,w4,hg,r1,hel,r8]
    exact hs
  | cons m ms =>
    have hrv2:rv = .sl false 1 (msgV m::ms.map msgV):=by
     rcases hrv with h | ⟨_,h⟩
     ·rw [hm] at h; exact h
     ·rw [hm] at h; cases h
    subst hrv2
    simp (config:=KF) (disch:=omega) only [bZ,ixSV,aW,lenI,addA,ae,↓reduceIte,Nat.reduceEqDiff,hg,hel]
    refine SV.src (es:=es) (.inr (.inl rfl)) hsc (appB_new hsc (by omega) fun u s1 hu hub hk hb=>?_)
    obtain ⟨bi,cap,q,rfl,hgb,hcap,hcl,hnb⟩:∃ bi cap q,u = .bs bi 6 0 es.length cap∧s1.get bi = some (es.flatMap AV.cells++q)∧es.length≤cap∧cap * 6≤(es.flatMap AV.cells++q).length∧∀ c ∈ q,c.NB:=by
     rcases hu with ⟨_,e⟩ | e | e
     ·rw [e] at hel; simp at hel; omega
     ·subst e
      rcases hub with ⟨_,e⟩ | e
      ·cases e
      ·cases e
     ·exact e
    have hdr:=mG hsc (show i < es.length by omega) q
    rw [List.getD_eq_getElem?_getD,hgi] at hdr
    have hSm:=List.getElem_mem hi
    generalize R.subs[i] = S at hg hdr hm p1 p3 hgi hSm
    have hdr4:(es.flatMap AV.cells++q).drop (i * 6 + 4) = .sl false 1 (msgV m::ms.map msgV)::.lit (.int .i64 (S.lost:Nat))::((es.drop (i + 1)).flatMap AV.cells++q):=by
     rw [← List.drop_drop,hdr]; rfl
    obtain ⟨m1,m2,m3,m4,m5,m6,m7,m8⟩:=(MV.msg m).facts
    have hgi':es[i]? = some (.agg [.lit (.int .i64 (S.num:Nat)),.lit (.int .i64 S.topic),.lit (.int .i64 (S.room:Nat)),.lit (.int .i64 S.pol),.sl false 1 (msgV m::ms.map msgV),.lit (.int .i64 (S.lost:Nat))]):=hgi
    have hq4:=sc_at4 hsc hgi' q
    have hset4:=sc_set4 (x:=.sl false 1 (ms.map msgV)) hsc hgi' q
    have hrow:RowV (.sl false 1 (ms.map msgV)) ms:=.inl rfl
    have hes2:Es (es.set i (.agg [.lit (.int .i64 (S.num:Nat)),.lit (.int .i64 S.topic),.lit (.int .i64 (S.room:Nat)),.lit (.int .i64 S.pol),.sl false 1 (ms.map msgV),.lit (.int .i64 (S.lost:Nat))])) (R.subs.set i (fP S)):=he.set ⟨_,by unfold fP; rw [hm]; exact hrow,rfl⟩
    have hnt:∀ e:AV,(es.set i e).length = R.subs.length:=fun e=>by rw [List.length_set,hel]
    generalize hX:es.set i (.agg [.lit (.int .i64 (S.num:Nat)),.lit (.int .i64 S.topic),.lit (.int .i64 (S.room:Nat)),.lit (.int .i64 S.pol),.sl false 1 (ms.map msgV),.lit (.int .i64 (S.lost:Nat))]) = es2 at hset4 hes2
    have hel2:es2.length = R.subs.length:=by rw [← hX]; exact hnt _
    have hgi2:es2[i]? = some (.agg [.lit (.int .i64 (S.num:Nat)),.lit (.int .i64 S.topic),.lit (.int .i64 (S.room:Nat)),.lit (.int .i64 S.pol),.sl false 1 (ms.map msgV),.lit (.int .i64 (S.lost:Nat))]):=by
     rw [← hX,List.getElem?_set,if_pos rfl,if_pos (by omega)]
    have hsc2:=hes2.sc
    have hdr2:=mG hsc2 (show i < es2.length by omega) q
    rw [List.getD_eq_getElem?_getD,hgi2] at hdr2
    have hdr21:(es2.flatMap AV.cells++q).drop (i * 6 + 1) = .lit (.int .i64 S.topic)::.lit (.int .i64 (S.room:Nat))::.lit (.int .i64 S.pol)::.sl false 1 (ms.map msgV)::.lit (.int .i64 (S.lost:Nat))::((es2.drop (i + 1)).flatMap AV.cells++q):=by
     rw [← List.drop_drop,hdr2]; rfl
    have hsok2:SOk (R.subs.set i (fP S)) n:=⟨by rw [List.length_set]; exact hsl,fun T hT=>by
     rcases List.mem_or_eq_of_mem_set hT with hT | rfl
     ·exact h.ok.ok T hT
     ·obtain ⟨o1,o2,o3⟩:=h.ok.ok S hSm
      rw [hm] at o1 o3
      refine ⟨?_,o2,?_⟩
      ·unfold fP; rw [hm]
       simp only [used,List.tail_cons] at o1 ⊢
       omega
      ·unfold fP; rw [hm]
       simp only [List.length_cons,List.tail_cons] at o3 ⊢
       omega⟩
    have hbl:bi < s1.boxes.length:=bw hgb
    have hlc2:(es2.flatMap AV.cells++q).length = (es.flatMap AV.cells++q).length:=by
     rw [List.length_append,List.length_append,dB hsc,dB hsc2,hel2,hel]
    have hv2:SV (.bs bi 6 0 R.subs.length cap) (s1.set bi (es2.flatMap AV.cells++q)) es2:=by
     refine .inr (.inr ⟨bi,cap,q,by rw [hel2],aG hbl,by omega,by rw [hlc2]; exact hcl,hnb⟩)
    have hon:=lB hv2 hes2 hsok2 h.wl h.wd (by omega) S.topic
    have hrr:bk t R = ((onR S.topic R.ws.length ⟨R.subs.set i (fP S),R.ws⟩).1,m,(onR S.topic R.ws.length ⟨R.subs.set i (fP S),R.ws⟩).2,0):=by
     unfold bk; rw [p1]; simp only [hm]; rw [p3]
    rw [hrr] at hQ
    simp only at hQ
    have hidn:st.boxes.length≤bi:=hb bi (by simp [au])
    have hfl:(es.flatMap AV.cells).length = R.subs.length * 6:=by rw [dB hsc,hel]
    generalize onR S.topic R.ws.length ⟨R.subs.set i (fP S),R.ws⟩ = O at hQ hon
    simp (config:=KF) (disch:=omega) only [bZ,jP,bt,iX,fF,ixSV,dp,gp,fd,ah,ixTo,addA,ae,iY,iy,gt,List.getD_cons_zero,↓reduceIte,Nat.reduceEqDiff,Nat.reduceAdd,Nat.reduceLeDiff,Int.reduceLE,dG,aG,List.length_append,af,aa,eV,w2,hgb,hdr4,hel,m1,m6,hq4,hset4,hfl]
    have hg2:(s1.set bi (es2.flatMap AV.cells++q)).get bi = _:=aG hbl
    simp (config:=KF) (disch:=omega) only [bZ,id,↓reduceIte,Nat.reduceEqDiff,hdr21]
    refine aq (vs:=[.agg [.bs bi 6 0 R.subs.length cap,wsV R.ws],.lit (.int .i64 S.topic)]) (by simp [w2,aH,iY,aL]) e_f71 hon (by simp [w5,aI,aD,nJ]) fun r s3 hr=>?_
    obtain ⟨v',es',rfl,j1,j2,j3,j4⟩:=hr
    obtain ⟨z1,z2,z3,z4,z5,z6,z7,z8⟩:=j1.facts
    obtain ⟨x1,x2,x3,x4,x5,x6,x7,x8⟩:=aw O.1.ws
    obtain ⟨t1,t2,t3,t4⟩:=aU O.2
    simp (config:=KF) (disch:=omega) only [bZ,retI,ah,ae,↓reduceIte,Nat.reduceEqDiff,Nat.reduceAdd,Nat.reduceLeDiff,af,aa,z2,z4,x2,x4,t1,t2,t4,m1,m5]
    refine hQ _ _ ⟨v',rfl,⟨es',j1,j2⟩,j3,?_⟩
    exact (hk.trans ((Oth.set s1 bi _ (S:=[bi]) (by simp)).kp (F:=[bi]) fun _ q=>q) fun x hx=>.inr (by simp only [List.mem_singleton] at hx; subst hx; exact hidn)).trans j4 fun _ q=>(by cases q)
end
end Go.Fx.YtbdjfccgkdgbfaaFx

