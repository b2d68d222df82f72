/- What the functions that the statement reaches compute: part 21. -/
import Derived.Test.YtbdjfccgkdgbfaaFxW20
namespace Go.Fx.YtbdjfccgkdgbfaaFx
open Go Go.Fx
attribute [local irreducible] aC runI az ar

set_option maxRecDepth 100000
set_option maxHeartbeats 4000000

/-! The reference publishes. -/
section
variable {es:List AV} {subs:List Sb} {ws:List WW} {st:St} {v:AV}
theorem giveV_row {S:Sb} {rv:AV} {p:List UInt8} (hr:RowV rv S.msgs):RowV (n9 p S rv) (cf p S).msgs:=by
 have hg:=give_ref p S
 unfold n9
 split
 ·rename_i hc
  rw [hg,if_pos hc]; exact hr
 ·exact .inl rfl
theorem Es.set {i:Nat} (h:Es es subs) {e:AV} {S:Sb} (he:SubE e S):Es (es.set i e) (subs.set i S):=by
 refine ⟨by rw [List.length_set,List.length_set,h.1],fun j x T hx hT=>?_⟩
 rw [List.getElem?_set] at hx hT
 by_cases hj:i = j
 ·subst hj
  rw [if_pos rfl] at hx hT
  split at hx
  ·split at hT
   ·cases hx; cases hT; exact he
   ·cases hT
  ·cases hx
 ·rw [if_neg hj] at hx hT
  exact h.2 j x T hx hT
theorem oa {n:Nat} (hv:SV v st es) (h:Es es subs) (hs:SOk subs n) (hn:n < 900000) (topic:Int) {dv:AV} {p:List UInt8} (hd:MV dv p) (hp:p.length≤100000) :
  am Go.Proofs.Try.prog n_f69 [.agg [v,wsV ws],.lit (.int .i64 topic),dv] st (fun r st'=>∃ v' es',r = .agg [v',wsV ws]∧SV v' st' es'∧Es es' (pubR topic p subs)∧Kp st st' []):=by
 obtain ⟨v1,v2,v3,v4,v5,v6,v7,v8⟩:=hv.facts
 obtain ⟨w1,w2,w3,w4,w5,w6,w7,w8⟩:=aw ws
 obtain ⟨d1,d2,d3,d4,d5,d6,d7,d8⟩:=hd.facts
 have hsc:=h.sc
 have hel:=h.1
 have hsl:=hs.len
 refine ap hmix k_f69 rfl rfl fun Q hQ=>?_
 unfold aFun c_f69
 simp (config:=KF) (disch:=omega) only [bZ,aW,addA,ae,↓reduceIte,Nat.reduceEqDiff,Nat.reduceAdd,reduceCtorEq,v1,v2,v4,w2,w4,d1,d7]
 refine hv.src hsc (appB_new hsc (by omega) fun u s1 hu hub hk hb=>?_)
 obtain ⟨u1,u2,u3,u4,u5,u6,u7,u8⟩:=hu.facts
 simp (config:=KF) (disch:=omega) only [bZ,bt,↓reduceIte,Nat.reduceEqDiff,u1]
 rw [f69_9w]
 refine a8 (A:=Nat×List AV×St) (fun a=>subs.length - a.1) (fun a=>⟨[(1,.lit (.int .i64 topic)),(2,dv),(3,.lptr 3 0),(6,.lptr 6 0),(7,u),(8,.lit (.int .i64 (a.1:Nat)))],[(3,[v,wsV ws]),(6,[.lit (.slice none 0 0),.lit (.slice none 0 0)])]⟩) (fun a=>a.2.2)
  (fun a=>a.1≤subs.length∧SV u a.2.2 a.2.1∧Es a.2.1 (pubR topic p (subs.take a.1)++subs.drop a.1)∧Kp st a.2.2 []) (0,es,s1) ⟨Nat.zero_le _,hu,by simpa [pubR] using h,hk⟩ (Sf.le_refl _) rfl ?_
 rintro ⟨i,es1,s2⟩ ⟨i1,i2,i3,i4⟩ K hK hKe hKr
 simp only at i1 i2 i3 i4
 dsimp only
 obtain ⟨_,_,_,_,_,_,_,u9⟩:=i2.facts
 have hl1:es1.length = subs.length:=by
  have:=i3.1
  rw [this,List.length_append,pubR,List.length_map,List.length_take,List.length_drop]; omega
 by_cases h3:i < subs.length
 ·obtain ⟨bi,cap,r,rfl,hg,hcap,hcl,hnb⟩:∃ bi cap r,u = .bs bi 6 0 es1.length cap∧s2.get bi = some (es1.flatMap AV.cells++r)∧es1.length≤cap∧cap * 6≤(es1.flatMap AV.cells++r).length∧∀ c ∈ r,c.NB:=by
   rcases i2 with ⟨_,e⟩ | e | e
   ·rw [e] at hl1; simp at hl1; omega
   ·subst e
    rcases hub with ⟨_,e⟩ | e
    ·cases e
    ·cases e
   ·exact e
  have hsc1:=i3.sc
  have hi1:i < es1.length:=by omega
  have hdr:=mG hsc1 hi1 r
  have hSi:(pubR topic p (subs.take i)++subs.drop i)[i]? = some subs[i]:=by
   rw [List.getElem?_append_right (by rw [pubR,List.length_map,List.length_take]; omega),pubR,List.length_map,List.length_take,Nat.min_eq_left (by omega),Nat.sub_self,List.drop_eq_getElem_cons h3]
   rfl
  obtain ⟨rv,hrv,hge⟩:=i3.2 i es1[i] subs[i] (List.getElem?_eq_getElem hi1) hSi
  obtain ⟨o1,o2,o3⟩:=hs.ok subs[i] (List.getElem_mem h3)
  have hgd:es1.getD i .any = sbV subs[i] rv:=by rw [List.getD_eq_getElem?_getD,List.getElem?_eq_getElem hi1]; exact hge
  rw [hgd] at hdr
  generalize hS:subs[i] = S at hdr hrv o1 o2 o3 hgd
  have hdr':(es1.flatMap AV.cells++r).drop (i * 6) = .lit (.int .i64 (S.num:Nat))::.lit (.int .i64 S.topic)::.lit (.int .i64 (S.room:Nat))::.lit (.int .i64 S.pol)::rv::.lit (.int .i64 (S.lost:Nat))::((es1.drop (i + 1)).flatMap AV.cells++r):=hdr
  have hdr1:(es1.flatMap AV.cells++r).drop (i * 6 + 1) = .lit (.int .i64 S.topic)::.lit (.int .i64 (S.room:Nat))::.lit (.int .i64 S.pol)::rv::.lit (.int .i64 (S.lost:Nat))::((es1.drop (i + 1)).flatMap AV.cells++r):=by
   rw [← List.drop_drop,hdr']; rfl
  obtain ⟨r1,r2,r3,r4,r5,r6,r7,r8⟩:=hrv.facts
  simp (config:=KF) (disch:=omega) only [bZ,ixSV,lenI,addA,ae,↓reduceIte,Nat.reduceEqDiff,hg,hdr1]
  have hpi:(pubR topic p (subs.take i)).length = i:=by rw [pubR,List.length_map,List.length_take]; omega
  have hnext:pubR topic p (subs.take (i + 1))++subs.drop (i + 1) = (pubR topic p (subs.take i)++subs.drop i).set i (if S.topic = topic then cf p S else S):=by
   rw [List.set_append,if_neg (by omega),hpi,Nat.sub_self,List.drop_eq_getElem_cons h3,List.set_cons_zero,List.take_succ_eq_append_getElem h3,hS]
   unfold pubR
   rw [List.map_append,List.append_assoc]; rfl
  have hlc:(es1.flatMap AV.cells++r).length = es1.length * 6 + r.length:=by rw [List.length_append,dB hsc1]
  refine aS (fun c=>?_) (fun c=>?_)
  ·rw [if_pos c] at hnext
   have hgp:=give_pure (S:=S) hrv hd hp o1 o2 (by omega) s2
   have hrow:=giveV_row (p:=p) hrv
   have hset:=sc_set hsc1 hi1 (e:=sbV (cf p S) (n9 p S rv)) (SubE.sc ⟨_,hrow,rfl⟩) r
   have hes:=i3.set (i:=i) (e:=sbV (cf p S) (n9 p S rv)) ⟨_,hrow,rfl⟩
   rw [← hnext] at hes
   obtain ⟨q1,q2,q3,q4,q5,q6,q7,q8⟩:=hrow.facts
   generalize cf p S = S' at hgp hset hes
   generalize n9 p S rv = rv' at hgp hset hes q1 q2 q3 q4 q5 q6 q7
   unfold sbV at hgp
   have hset':a9 (es1.flatMap AV.cells++r) (i * 6) [.lit (.int .i64 (S'.num:Nat)),.lit (.int .i64 S'.topic),.lit (.int .i64 (S'.room:Nat)),.lit (.int .i64 S'.pol),rv',.lit (.int .i64 (S'.lost:Nat))] = (es1.set i (sbV S' rv')).flatMap AV.cells++r:=hset
   simp (config:=KF) (disch:=omega) only [bZ,ixSV,ae,id,↓reduceIte,Nat.reduceEqDiff,Nat.reduceLeDiff,List.length_append,d1,hg,hdr',r2]
   refine ak (by simp [r2,d1,aH,bY]) e_f80 hgp (by simp [r5,d5,aI,aD]) ?_
   simp (config:=KF) (disch:=omega) only [bZ,ixSV,ah,↓reduceIte,Nat.reduceEqDiff,Nat.reduceAdd,hg,q2,q4,hlc,hset']
   have hidl:=bw hg
   have hidn:st.boxes.length≤bi:=hb bi (by simp [au])
   refine hK (i + 1,es1.set i (sbV S' rv'),s2.set bi ((es1.set i (sbV S' rv')).flatMap AV.cells++r)) _ ⟨by simp only; omega,.inr (.inr ⟨bi,cap,r,by rw [List.length_set],aG hidl,by rw [List.length_set]; exact hcap,?_,hnb⟩),hes,i4.trans ((Oth.set s2 bi _ (S:=[bi]) (by simp)).kp (F:=[bi]) fun _ q=>q) fun x hx=>.inr ?_⟩ (by simp only; omega) (Sf.le_refl _)
   ·rw [← hset,bC]; exact hcl
   ·simp only [List.mem_singleton] at hx; subst hx; exact hidn
  ·rw [if_neg c] at hnext
   have hsame:(pubR topic p (subs.take i)++subs.drop i).set i S = pubR topic p (subs.take i)++subs.drop i:=by
    rw [List.set_append,if_neg (by omega),hpi,Nat.sub_self,List.drop_eq_getElem_cons h3,List.set_cons_zero,hS]
   simp (config:=KF) (disch:=omega) only [bZ,↓reduceIte,Nat.reduceEqDiff]
   refine hK (i + 1,es1,s2) _ ⟨by simp only; omega,.inr (.inr ⟨bi,cap,r,rfl,hg,hcap,hcl,hnb⟩),by simp only [hnext,hsame]; exact i3,i4⟩ (by simp only; omega) (Sf.le_refl _)
 ·obtain rfl:i = subs.length:=by omega
  rw [List.take_length,List.drop_length,List.append_nil] at i3
  simp (config:=KF) (disch:=omega) only [bZ,↓reduceIte,Nat.reduceEqDiff,u1,u9]
  refine hKe _ _ _ ?_
  simp (config:=KF) (disch:=omega) only [bZ,retI,ah,addA,ae,↓reduceIte,Nat.reduceEqDiff,Nat.reduceAdd,Nat.reduceLeDiff,af,aa,u1,u2,u4,u6,w2,w4]
  exact hQ _ _ ⟨u,es1,rfl,i2,i3,i4⟩
end
end Go.Fx.YtbdjfccgkdgbfaaFx

namespace Go.Fx.YtbdjfccgkdgbfaaFx
open Go Go.Fx
attribute [local irreducible] aC runI az ar

set_option maxRecDepth 100000
set_option maxHeartbeats 4000000

/-! What only reads, for subscribers in a buffer too. -/
theorem msg_nb (m:List UInt8):(msgV m).NB:=by
 unfold msgV
 split
 ·exact .lit _
 ·exact qn _ _
theorem ws_nb (ws:List WW):(wsV ws).NB:=by
 unfold wsV
 split
 ·exact .lit _
 ·refine .sl _ _ _ fun c hc=>?_
  obtain ⟨w,_,rfl⟩:=List.mem_map.1 hc
  refine .agg _ fun x hx=>?_
  simp only [List.mem_cons,List.not_mem_nil,or_false] at hx
  rcases hx with rfl | rfl | rfl
  ·exact .lit _
  ·exact .lit _
  ·exact msg_nb _
theorem row_nb {rv:AV} {ms:List (List UInt8)} (h:RowV rv ms):rv.NB:=by
 rcases h with rfl | ⟨rfl,_⟩
 ·refine .sl _ _ _ fun c hc=>?_
  obtain ⟨m,_,rfl⟩:=List.mem_map.1 hc
  exact msg_nb m
 ·exact .lit _
theorem Es.cnb {es:List AV} {subs:List Sb} (h:Es es subs):∀ c ∈ es.flatMap AV.cells,c.NB:=by
 intro c hc
 obtain ⟨e,he,hce⟩:=List.mem_flatMap.1 hc
 obtain ⟨i,hi⟩:=List.mem_iff_getElem?.1 he
 have hl:=(List.getElem?_eq_some_iff.1 hi).1
 obtain ⟨rv,hr,rfl⟩:=h.2 i e (subs[i]'(h.1 ▸ hl)) hi (List.getElem?_eq_getElem (h.1 ▸ hl))
 have hce':c ∈ [AV.lit _,AV.lit _,AV.lit _,AV.lit _,rv,AV.lit _]:=hce
 simp only [List.mem_cons,List.not_mem_nil,or_false] at hce'
 rcases hce' with rfl | rfl | rfl | rfl | rfl | rfl
 ·exact .lit _
 ·exact .lit _
 ·exact .lit _
 ·exact .lit _
 ·exact row_nb hr
 ·exact .lit _
theorem dU {st:St} {v:AV} (h:v.NB):Frz st v v:=.le _ _ (.refl _) h
theorem qF {v:AV} {st:St} {es:List AV} {subs:List Sb} {ws:List WW} (hv:SV v st es) (h:Es es subs) {f:FuncId} {rest:List AV} {v0:AV} (hp:∀ st,aB Go.Proofs.Try.prog f (.agg [.sl false 6 es,wsV ws]::rest) st v0) (hf:v0.freshB = true) (hr:frzL st rest rest):aB Go.Proofs.Try.prog f (.agg [v,wsV ws]::rest) st v0:=by
 have hno:∀ d ∈ [AV.sl false 6 es,wsV ws],d.noOwn:=by
  intro d hd
  simp only [List.mem_cons,List.not_mem_nil,or_false] at hd
  rcases hd with rfl | rfl
  ·trivial
  ·unfold wsV; split <;> trivial
 rcases hv with ⟨rfl,rfl⟩ | rfl | ⟨bi,cap,r,rfl,hg,h1,h2,h3⟩
 ·refine (hp ⟨[]⟩).view hf ⟨Frz.aggL (st:=st) (l:=[.lit (.slice none 0 0),wsV ws]) ⟨.le _ _ (.nil _ _) (.sl _ _ _ fun c hc=>by cases hc),dU (ws_nb ws),trivial⟩ hno,hr⟩
 ·exact hp st
 ·refine (hp ⟨[]⟩).view hf ⟨Frz.aggL (st:=st) (l:=[.bs bi 6 0 es.length cap,wsV ws]) ⟨?_,dU (ws_nb ws),trivial⟩ hno,hr⟩
  have:=Frz.bs (st:=st) bi 6 0 es.length cap _ hg (by simp [dB h.sc]) h1 (fun c hc=>by
   rw [List.drop_zero] at hc
   rcases List.mem_append.1 hc with hc | hc
   ·exact h.cnb c hc
   ·exact h3 c hc)
  rw [List.drop_zero,qE h.sc] at this
  exact this

section
variable {es:List AV} {subs:List Sb} {ws:List WW} {st:St} {v:AV}
theorem mv_frz {dv:AV} {p:List UInt8} (hd:MV dv p):Frz st dv dv:=by
 refine dU ?_
 rcases hd with rfl | ⟨rfl,_⟩
 ·exact qn _ _
 ·exact .lit _
theorem qG (hv:SV v st es) (h:Es es subs) (hl:subs.length≤64) (hw:ws.length≤1000) (n:Int):aB Go.Proofs.Try.prog n_f67 [.agg [v,wsV ws],.lit (.int .i64 n)] st (.lit (.int .i64 (fstI (fun w:WW=>decide (w.2.1 = n)) ws 0))) :=
 qF hv h (fun s=>first_pure (by have:=h.1; omega) hw n s) rfl ⟨dU (.lit _),trivial⟩
theorem waits_v (hv:SV v st es) (h:Es es subs) (hl:subs.length≤64) (hw:ws.length≤1000) (n:Int):aB Go.Proofs.Try.prog n_f70 [.agg [v,wsV ws],.lit (.int .i64 n)] st (.lit (.int .i64 (fstI (fun w:WW=>decide ((w.1:Int) = n)) ws 0))) :=
 qF hv h (fun s=>waits_pure (by have:=h.1; omega) hw n s) rfl ⟨dU (.lit _),trivial⟩
theorem can_v {n:Nat} (hv:SV v st es) (h:Es es subs) (hs:SOk subs n) (topic:Int) {dv:AV} {p:List UInt8} (hd:MV dv p) (hp:p.length≤100000):aB Go.Proofs.Try.prog n_f68 [.agg [v,wsV ws],.lit (.int .i64 topic),dv] st (.lit (.bool (canR topic p.length subs))) :=
 qF hv h (fun s=>can_pure h hs topic hd hp s) rfl ⟨dU (.lit _),mv_frz hd,trivial⟩
end
end Go.Fx.YtbdjfccgkdgbfaaFx

