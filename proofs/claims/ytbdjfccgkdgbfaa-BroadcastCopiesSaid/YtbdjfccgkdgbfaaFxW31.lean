/- What the functions that the statement reaches compute: part 31. -/
import Derived.Test.YtbdjfccgkdgbfaaFxW30
namespace Go.Fx.YtbdjfccgkdgbfaaFx
open Go Go.Fx
attribute [local irreducible] aC runI az ar

set_option maxRecDepth 100000
set_option maxHeartbeats 4000000

theorem pAll_take {R:HR} {l:List Act} {i:Nat} (hi:i < l.length):pAll R (l.take (i + 1)) = (rDo l[i].w l[i].t l[i].p l[i].n l[i].o l[i].d (pAll R (l.take i))).1:=by
 rw [List.take_succ_eq_append_getElem hi]
 unfold pAll
 rw [List.foldl_append]
 rfl
theorem rDo_data (w t p k o:Int) (d:List UInt8) {R:HR} {n:Nat} (h:SOk R.subs n):(rDo w t p k o d R).2.data.length≤4096:=by
 unfold rDo
 split
 ·exact Nat.zero_le _
 split
 ·exact Nat.zero_le _
 split
 ·exact Nat.zero_le _
 split
 ·unfold bk
  rcases ob k R.subs 0 with ⟨p1,_⟩ | ⟨i,hi,p1,_⟩
  ·rw [p1]; exact Nat.zero_le _
  ·rw [p1]
   obtain ⟨o1,o2,_⟩:=h.ok R.subs[i] (List.getElem_mem hi)
   simp only
   split
   ·exact Nat.zero_le _
   ·rename_i m r hm
    rw [hm] at o1
    simp only [used] at o1
    simp only
    omega
 split
 ·exact Nat.zero_le _
 ·exact Nat.zero_le _
theorem iK {st:St} {h wid n:Nat} {R:HR} {F:List Nat} {l:List Act} (hl:l.length≤100) (hfew:∀ a ∈ l,a.d.length≤100000) (hh:HubR st h wid n R F) (hF:∀ x ∈ F,x < st.boxes.length) (hn:n≤100000) :
  am Go.Proofs.Try.prog n_f18 [.ptr h 0,rV R,.sl false 6 (l.map actV)] st (fun r st'=>r = .tup [rV (pAll R l),.lit (.bool true)]∧∃ F',HubR st' h wid (n + 100 * l.length) (pAll R l) F'∧Kp st st' F∧∀ x ∈ F',(x ∈ F∨st.boxes.length≤x)∧x < st'.boxes.length):=by
 refine ap hmix k_f18 rfl rfl fun Q hQ=>?_
 unfold aFun c_f18
 obtain ⟨w1,w2,w3,w4,w5,w6,w7,w8⟩:=aw R.ws
 unfold rV
 simp (config:=KF) (disch:=omega) only [bZ,bA,dq,↓reduceIte,Nat.reduceEqDiff,Nat.reduceAdd,reduceCtorEq,w2,w4]
 rw [f18_7w]
 refine a8 (A:=Nat×List Nat×St) (fun a=>l.length - a.1) (fun a=>⟨[(0,.ptr h 0),(2,.sl false 6 (l.map actV)),(4,.lptr 4 0),(6,.lptr 6 0),(8,.lit (.int .i64 (a.1:Nat)))],[(4,[.sl false 6 ((pAll R (l.take a.1)).subs.map sbC),wsV (pAll R (l.take a.1)).ws]),(6,[.lit (.slice none 0 0),.lit (.slice none 0 0)])]⟩) (fun a=>a.2.2)
  (fun a=>a.1≤l.length∧HubR a.2.2 h wid (n + 100 * a.1) (pAll R (l.take a.1)) a.2.1∧Kp st a.2.2 F∧∀ x ∈ a.2.1,(x ∈ F∨st.boxes.length≤x)∧x < a.2.2.boxes.length) (0,F,st) ⟨Nat.zero_le _,hh,Kp.refl _ _,fun x hx=>⟨.inl hx,hF x hx⟩⟩ (Sf.le_refl _) rfl ?_
 rintro ⟨i,F1,s0⟩ ⟨h1,h2,h3,h4⟩ K hK hKe hKr
 simp only at h1 h2 h3 h4
 try dsimp only
 by_cases hi:i < l.length
 ·have htk:=pAll_take (R:=R) hi
  have hla:=hfew l[i] (List.getElem_mem hi)
  have hg:=act_getD hi
  have hnx:=fun (F':List Nat) (s':St) (sf:Sf) a1 a2 a3=>hK (i + 1,F',s') sf ⟨by simp only; omega,a1,a2,a3⟩ (by simp only; omega)
  simp only [htk] at hnx
  generalize pAll R (l.take i) = R1 at *
  generalize l[i] = a at *
  obtain ⟨w,t,p,k,o,d⟩:=a
  simp only at hla hg hnx
  obtain ⟨u1,u2,u3,u4,u5,u6,u7,u8⟩:=aw R1.ws
  have hbl:=aO d
  simp (config:=KF) (disch:=omega) only [bZ,ixSV,ah,aW,lenI,addA,ae,srcA,bA,ej,dq,↓reduceIte,Nat.reduceEqDiff,Nat.reduceAdd,Nat.reduceLeDiff,reduceCtorEq,af,aa,hg]
  refine MB.grow (.inl ⟨rfl,rfl⟩) Lits.nil (mr d) (mq (by rw [hbl]; simp only [List.length_nil]; omega)) fun v s1 g1 g2 g3=>?_
  rw [List.nil_append] at g1
  have hk01:Kp s0 s1 []:=g2
  obtain ⟨v1,v2,v3,v4,v5,v6,v7,v8⟩:=g1.facts
  have hdv:DV v s1 d:=DV.of_mb g1
  have hh1:HubR s1 h wid (n + 100 * i) R1 F1:=h2.kp hk01 fun _ _ q=>by cases q
  have hvn:∀ x ∈ au v,s0.boxes.length≤x:=fun x hx=>(g3 x hx).elim (fun q=>by simp [au] at q) _root_.id
  have hvl:=hdv.lt
  have hvF:∀ x ∈ au v,x ∉ F1:=fun x hx q=>by
   have:=hvn x hx
   have:=(h4 x q).2
   omega
  have hF1:∀ x ∈ F1,x < s1.boxes.length:=fun x hx=>Nat.lt_of_lt_of_le (h4 x hx).2 hk01.1
  have hmk:=(makes_pure hh1.rok (by omega) w t p k o (dv:=.sl false 1 (BB d)) (.inl rfl) hla s1).acalls
  have hdis:(rV R1).dis = rV R1:=by simp [rV,u2,aH,bN]
  have hnl:(rV R1).noL = true:=by simp [rV,u5,aI,ci]
  have hdo:=do_calls hh1 hF1 w t p k o hdv hla hvF (by omega)
  have hdl:=rDo_len w t p k o d R1
  have hwl:=hh1.ws
  have hdd:=rDo_data w t p k o d hh1.rok.ok
  unfold actA at hmk hdo
  generalize rDo w t p k o d R1 = X at hmk hdo hdl hnx hdd
  obtain ⟨x1,x2,x3,x4,x5,x6,x7,x8⟩:=aw X.1.ws
  obtain ⟨m1,m2,m3,m4,m5,m6,m7,m8⟩:=(MV.msg X.2.data).facts
  obtain ⟨a1,a2,a3,a4⟩:=aU X.2.items
  obtain ⟨a5,a6,a7⟩:=dL X.2.items
  unfold rV resA at hmk
  simp (config:=KF) (disch:=omega) only [bZ,bt,ah,addA,↓reduceIte,Nat.reduceEqDiff,Nat.reduceAdd,Nat.reduceLeDiff,reduceCtorEq,af,aa,v1,v4,v6]
  refine qs ⟨[]⟩ (St.sub_nil _) ?_
  simp (config:=KF) (disch:=omega) only [bZ,Nat.reduceBEq,g7,fI,iD,jy,mm_ixS,i9,nU,eD,lW,lX,io,ixSV,ae,id,List.nil_append,List.cons_append,↓reduceIte,Nat.reduceEqDiff,Nat.reduceAdd,Nat.reduceLeDiff,reduceCtorEq,or_false,u2,hg]
  refine nV (vs:=[.agg [.sl false 6 (R1.subs.map sbC),wsV R1.ws],.agg [.lit (.int .i64 w),.lit (.int .i64 t),.lit (.int .i64 p),.lit (.int .i64 k),.lit (.int .i64 o),.sl false 1 (BB d)]]) (by simp [u2,aH,bN,bY]) e_f39 hmk (by simp [u5,aI,ci,aD]) ?_
  simp (config:=KF) (disch:=omega) only [bZ,Nat.reduceBEq,Bool.or_true,ksB,aJ,bg,bD,aK,nstB,bE,ln,hm_hole,mw,gz,hm_new,mm_newL,AI.dst,putN,List.nil_append,List.cons_append,↓reduceIte,Nat.reduceEqDiff,reduceCtorEq,or_true,or_false]
  rintro r s1' ⟨rfl,rfl⟩
  refine ⟨St.sub_nil _,?_⟩
  simp (config:=KF) (disch:=omega) only [bZ,Nat.reduceBEq,Bool.or_true,ksB,aJ,bg,bD,aK,cB,bS,headNst_eq,nstB,bE,cG,Option.getD_some,Option.getD_none,nst_beq,g7,fI,iD,jy,mm_ext,gy,fq,compM_t,compM_tn,my,gA,ja,m_new,m_nst,mm_newL,mm_store,ah,ae,id,iz,bA,ej,dq,cY,List.nil_append,List.cons_append,↓reduceIte,Nat.reduceEqDiff,Nat.reduceAdd,Nat.reduceLeDiff,reduceCtorEq,or_true,or_false,af,aa,x2,x4,m2,m4,a3,a5,v2]
  refine aq (vs:=[.ptr h 0,.agg [.lit (.int .i64 w),.lit (.int .i64 t),.lit (.int .i64 p),.lit (.int .i64 k),.lit (.int .i64 o),v]]) (by simp [v2,aH,bY,cQ]) e_f13 hdo (by simp [v5,aI,bT,aD]) fun r s2 hr=>?_
  obtain ⟨dv,F2,rfl,hmb,hdn,hdF,hh2,hk2,hF2⟩:=hr
  obtain ⟨c1,c2,c3,c4,c5,c6,c7,c8⟩:=hmb.facts
  unfold resA
  simp (config:=KF) (disch:=omega) only [bZ,ah,bA,dq,↓reduceIte,Nat.reduceEqDiff,Nat.reduceAdd,Nat.reduceLeDiff,reduceCtorEq,af,aa,c2,c4,a3,a5]
  have hmv2:MB v s2 (BB d):=g1.at fun x hx=>hk2.2 x (hvl x hx) (hvF x hx)
  refine wipe1 hla hmv2 fun s3 hk3=>?_
  have hvF2:∀ x ∈ F2,x ∉ au v:=fun x hx q=>by
   rcases (hF2 x hx).1 with e | e
   ·exact hvF x q e
   ·have:=hvl x q; omega
  have hh3:HubR s3 h wid (n + 100 * i + 100) X.1 F2:=hh2.kp hk3 hvF2
  have hdl2:=(DV.of_mb hmb).lt
  have hdvv:∀ x ∈ au dv,x ∉ au v:=fun x hx q=>by
   have:=hdn x hx
   have:=hvl x q
   omega
  have hmb3:MB dv s3 (BB X.2.data):=hmb.at fun x hx=>hk3.2 x (hdl2 x hx) (hdvv x hx)
  have hsm:=same_pure (DV.of_mb hmb3) (w:=msgV X.2.data) (q:=X.2.data) (by
   rcases MV.msg X.2.data with e | e
   ·exact .inr (.inl e)
   ·exact .inl e) X.2.n X.2.n X.2.err X.2.err X.2.done X.2.done X.2.items X.2.items (by omega)
  rw [decide_eq_true ⟨rfl,rfl,rfl,rfl,rfl⟩] at hsm
  have heq:=gT hh3 (by omega)
  unfold resA at hsm
  unfold rV at heq
  simp (config:=KF) (disch:=omega) only [bZ,ae,id,↓reduceIte,Nat.reduceEqDiff,Nat.reduceAdd,Nat.reduceLeDiff,reduceCtorEq,c2,m2,a3]
  refine ak (vs:=[.agg [.lit (.int .i64 X.2.n),.lit (.bool X.2.done),dv,itsV X.2.items,.lit (.int .i64 X.2.err)],.agg [.lit (.int .i64 X.2.n),.lit (.bool X.2.done),msgV X.2.data,itsV X.2.items,.lit (.int .i64 X.2.err)]]) (by simp [c2,m2,a3,aH,bY]) e_f20 hsm (by simp [c5,m5,a4,aI,aD]) ?_
  simp (config:=KF) (disch:=omega) only [bZ,AI.dst,ae,unA,id,↓reduceIte,Nat.reduceEqDiff,Nat.reduceAdd,Nat.reduceLeDiff,reduceCtorEq,x2]
  refine ak (vs:=[.ptr h 0,.agg [.sl false 6 (X.1.subs.map sbC),wsV X.1.ws]]) (by simp [x2,aH,bN,cQ]) e_f17 heq (by simp [x5,aI,ci,bT]) ?_
  simp (config:=KF) (disch:=omega) only [bZ,AI.dst,unA,↓reduceIte,Nat.reduceEqDiff,reduceCtorEq]
  refine wipe2 (p:=X.2.data) (by omega) hmb3 fun s4 hk4=>?_
  have hh4:HubR s4 h wid (n + 100 * i + 100) X.1 F2:=hh3.kp hk4 fun x hx q=>hdF x q hx
  simp (config:=KF) (disch:=omega) only [bZ,ah,ae,↓reduceIte,Nat.reduceEqDiff,Nat.reduceAdd,Nat.reduceLeDiff,reduceCtorEq,af,aa,x2,x4]
  refine hnx F2 s4 _ (hh4.mono (by omega) fun _ q=>q) ?_ (fun x hx=>⟨?_,Nat.lt_of_lt_of_le (hF2 x hx).2 (Nat.le_trans hk3.1 hk4.1)⟩) (Sf.le_refl _)
  ·have e1:Kp s0 s2 F1:=(Kp.wide hk01 (F':=F1) fun b q=>by cases q).trans hk2 fun x hx=>.inl hx
   have e2:Kp s0 s3 F1:=e1.trans hk3 fun x hx=>.inr (hvn x hx)
   have e3:Kp s0 s4 F1:=e2.trans hk4 fun x hx=>.inr (Nat.le_trans hk01.1 (hdn x hx))
   exact h3.trans e3 fun x hx=>(h4 x hx).1
  ·rcases (hF2 x hx).1 with e | e
   ·exact (h4 x e).1
   ·exact .inr (Nat.le_trans h3.1 (Nat.le_trans hk01.1 e))
 ·obtain rfl:i = l.length:=by omega
  rw [List.take_length] at h2 ⊢
  obtain ⟨u1,u2,u3,u4,u5,u6,u7,u8⟩:=aw (pAll R l).ws
  simp (config:=KF) (disch:=omega) only [bZ,lenI,↓reduceIte,Nat.reduceEqDiff,reduceCtorEq]
  refine hKe _ _ _ ?_
  simp (config:=KF) (disch:=omega) only [bZ,retI,ah,ae,↓reduceIte,Nat.reduceEqDiff,Nat.reduceAdd,Nat.reduceLeDiff,af,aa,u2,u4]
  exact hQ _ _ ⟨rfl,F1,h2,h3,h4⟩
end Go.Fx.YtbdjfccgkdgbfaaFx

namespace Go.Fx.YtbdjfccgkdgbfaaFx
open Go Go.Fx
attribute [local irreducible] aC runI az ar

set_option maxRecDepth 100000
set_option maxHeartbeats 4000000

theorem weakV {P:Program} {f:FuncId} {vs vs':List AV} {st:St} {Q:AV→St→Prop} (h:am P f vs' st Q) (hv:leL vs vs'):am P f vs st Q:=fun D g w us L hg hb ha=>h D g w us L hg hb (ha.weak hv)
abbrev ActT:=Int×Int×Int×Int×Int×List Int×Unit
theorem ia:∀ {b:List Int},(∀ i ∈ b,0≤i∧i≤255)→∃ d:List UInt8,(b.map fun i=>AV.lit (.int .u8 i)) = BB d
 | [],_=>⟨[],rfl⟩
 | x :: r, h => by
   obtain ⟨d,hd⟩:=ia (b:=r) fun i hi=>h i (by simp [hi])
   obtain ⟨h0,h1⟩:=h x (by simp)
   refine ⟨UInt8.ofNat x.toNat::d,?_⟩
   have e:(((UInt8.ofNat x.toNat).toNat:Nat):Int) = x:=by simp; omega
   rw [List.map_cons,hd,qo,e]
theorem mI:∀ {l:List ActT},(∀ x ∈ l,∀ i ∈ x.2.2.2.2.2.1,0≤i∧i≤255)→∃ acts:List Act,(l.map fun x=>AV.agg [.lit (.int .i64 x.1),.lit (.int .i64 x.2.1),.lit (.int .i64 x.2.2.1),.lit (.int .i64 x.2.2.2.1),.lit (.int .i64 x.2.2.2.2.1),.sl false 1 (x.2.2.2.2.2.1.map fun i=>.lit (.int .u8 i))]) = acts.map actV
 | [],_=>⟨[],rfl⟩
 | x :: r, h => by
   obtain ⟨d,hd⟩:=mI (l:=r) fun i hi=>h i (by simp [hi])
   obtain ⟨p,hp⟩:=ia (h x (by simp))
   refine ⟨⟨x.1,x.2.1,x.2.2.1,x.2.2.2.1,x.2.2.2.2.1,p⟩::d,?_⟩
   rw [List.map_cons,hd,hp,List.map_cons]; rfl
end Go.Fx.YtbdjfccgkdgbfaaFx

namespace Go.Fx.YtbdjfccgkdgbfaaFx
open Go Go.Fx
attribute [local irreducible] aC runI az ar

set_option maxRecDepth 100000
set_option maxHeartbeats 4000000

/-! Ranges over maps. -/
section
variable {β:Type} {st:St} {id:Nat} {k:IntKind} {ev:β→AV} {m:List (Int×β)}

theorem nxt_step (h:MapIs st id k ev m) {seen:List Nat} {stp s:Nat} {d:Option Nat} {sf:Sf} {K:Sf→St→Prop}
  (hm:∀ (i:Nat) (hi:i < m.length) (b:Nat),(st.getB id).1[i]? = some b→b ∉ seen→K ((sf.set s (.mit (some id) (st.getB id).2 (seen++[b]) (st.getB id).2)).put d (.tup [.lit (.bool true),.lit (.int k m[i].1),(ev m[i].2).dis])) st)
  (hd:(∀ b ∈ (st.getB id).1,b ∈ seen)→K (sf.put d (.tup [.lit (.bool false)])) st):nxtX s d (.mit (some id) (st.getB id).2 seen stp) K sf st:=by
 unfold nxtX
 simp only [h.get,Res.ofOpt,Res.wp]
 refine ⟨h.bc,Nat.le_refl _,fun i kk x b hi hb hn=>?_,hd⟩
 simp only [encM,List.getElem?_map,Option.map_eq_some_iff] at hi
 obtain ⟨p,hp,he⟩:=hi
 obtain ⟨hi,hpe⟩:=List.getElem?_eq_some_iff.1 hp
 have:=hm i hi b hb hn
 rw [hpe] at this
 cases he
 exact this

theorem ent_step (h:MapIs st id k ev m) {seen:List Nat} {C:AV→St→Prop} {i b:Nat} (hi:i < m.length) (hb:(st.getB id).1[i]? = some b) (hC:C (.tup [.lit (.int k m[i].1),(ev m[i].2).dis]) st) :
  entX (.mit (some id) (st.getB id).2 (seen++[b]) (st.getB id).2) C st:=by
 unfold entX
 simp only [h.get,Res.ofOpt,Res.wp]
 refine ⟨trivial,i,.lit (.int k m[i].1),ev m[i].2,b,by simp,?_,hb,hC⟩
 simp [encM,encE,hi]

/-- What has not been visited. -/
def left (bs seen:List Nat):Nat:=(bs.filter fun b=>!seen.contains b).length
theorem left_lt {bs seen:List Nat} {b:Nat} (hb:b ∈ bs) (hn:b ∉ seen):left bs (seen++[b]) < left bs seen:=by
 unfold left
 induction bs with
 | nil=>cases hb
 | cons a bs ih =>
   have key:∀ l:List Nat,(l.filter fun x=>!(seen++[b]).contains x).length≤(l.filter fun x=>!seen.contains x).length:=by
    intro l
    induction l with
    | nil=>simp
    | cons x l ih =>
      simp only [List.filter_cons]
      by_cases h1:x ∈ seen
      ·simp [h1]; simpa using ih
      ·by_cases h2:x = b
       ·subst h2; simp [h1]; simp at ih; omega
       ·simp [h1,h2]; simpa using ih
   simp only [List.filter_cons]
   rcases List.mem_cons.1 hb with rfl | hb
   ·have:=key bs
    simp [hn]; simp at this; omega
   ·have ih:=ih hb
    by_cases h1:a ∈ seen
    ·simp [h1]; simpa using ih
    ·by_cases h2:a = b
     ·have:=key bs
      subst h2
      simp [h1]; simp at this; omega
     ·simp [h1,h2]; simpa using ih
end

theorem je {β:Type} {t:Int} {b:β}:∀ {m:List (Int×β)},(bO m).Nodup→(t,b) ∈ m→aR t m = some b
 | (k, c) :: r, hn, hm => by
   simp only [bO,List.map_cons,List.nodup_cons] at hn
   simp only [aR]
   rcases List.mem_cons.1 hm with e | hm
   ·cases e; simp
   ·have:t≠k:=fun e=>hn.1 (e ▸ List.mem_map.2 ⟨(t,b),hm,rfl⟩)
    rw [if_neg this]; exact je hn.2 hm
theorem pD {β:Type} {t:Int} {b:β}:∀ {m:List (Int×β)},aR t m = some b→(t,b) ∈ m
 | (k, c) :: r, h => by
   simp only [aR] at h
   split at h
   ·rename_i e; subst e; cases h; simp
   ·exact List.mem_cons_of_mem _ (pD h)

/-! Copies. -/
structure Cpd {B:Type} (m M:List (Int×B)) (bs seen:List Nat):Prop where
 le:∀ c v,aR c M = some v→aR c m = some v
 has:∀ (i:Nat) (hi:i < m.length) (b:Nat),bs[i]? = some b→b ∈ seen→aR m[i].1 M = some m[i].2
theorem Cpd.nil {B:Type} (m:List (Int×B)) (bs:List Nat):Cpd m [] bs []:=⟨fun c v h=>by simp [aR] at h,fun i hi b _ h=>by simp at h⟩
theorem Cpd.snoc {B:Type} {m M:List (Int×B)} {bs seen:List Nat} (h:Cpd m M bs seen) (hn:(bO m).Nodup) (hb:bs.Nodup) {i b:Nat} (hi:i < m.length) (hbi:bs[i]? = some b):Cpd m (updP m[i].1 m[i].2 M) bs (seen++[b]):=by
 have hx:aR m[i].1 m = some m[i].2:=je hn (List.getElem_mem hi)
 refine ⟨fun c v hc=>?_,fun j hj b' hbj hs=>?_⟩
 ·rw [cZ] at hc
  split at hc
  ·rename_i e; subst e; rw [hx]; exact hc
  ·exact h.le c v hc
 ·rw [cZ]
  split
  ·rename_i e
   have hy:aR m[j].1 m = some m[j].2:=je hn (List.getElem_mem hj)
   rw [e,hx] at hy
   rw [hy]
  ·rename_i e
   rcases List.mem_append.1 hs with hs | hs
   ·exact h.has j hj b' hbj hs
   ·simp only [List.mem_singleton] at hs
    subst hs
    obtain ⟨p1,p2⟩:=List.getElem?_eq_some_iff.1 hbi
    obtain ⟨r1,r2⟩:=List.getElem?_eq_some_iff.1 hbj
    have:i = j:=(List.getElem_inj hb).1 (p2.trans r2.symm)
    subst this
    exact absurd rfl e
theorem Cpd.all {B:Type} {m M:List (Int×B)} {bs seen:List Nat} (h:Cpd m M bs seen) (hn:(bO m).Nodup) (hl:bs.length = m.length) (ha:∀ b ∈ bs,b ∈ seen) (c:Int):aR c M = aR c m:=by
 cases hm:aR c m with
 | none =>
   cases hM:aR c M with
   | none=>rfl
   | some v=>have:=h.le c v hM; rw [hm] at this; cases this
 | some v =>
   obtain ⟨i,hi,e⟩:=List.getElem_of_mem (pD hm)
   have hb:bs[i]? = some bs[i]:=List.getElem?_eq_getElem (by omega)
   have:=h.has i hi _ hb (ha _ (List.getElem_mem (by omega)))
   rw [e] at this
   exact this

/-! A copy of a hub. -/
def cpW (w:WE):WE:={ w with nl:=false }
def cpM (m:List (Int×WE)):List (Int×WE):=m.map fun e=>(e.1,cpW e.2)
def cpWL (W:WL):WL:=W.map fun e=>(e.1,cpW e.2)
theorem cpM_keys (m:List (Int×WE)):bO (cpM m) = bO m:=by unfold cpM bO; rw [List.map_map]; rfl
theorem cpM_look (c:Int):∀ m:List (Int×WE),aR c (cpM m) = (aR c m).map cpW
 | []=>rfl
 | (k, w) :: r => by
   have ih:=cpM_look c r
   unfold cpM at ih ⊢
   rw [List.map_cons]
   simp only [aR]
   split
   ·rfl
   ·exact ih
theorem pE (c:Int):∀ W:WL,cJ c (cpWL W) = (cJ c W).map cpW
 | []=>rfl
 | (k, w) :: r => by
   have ih:=pE c r
   unfold cpWL at ih ⊢
   rw [List.map_cons]
   simp only [cJ]
   split
   ·rfl
   ·exact ih
theorem cpWL_q (i:Int):∀ W:WL,qOf i (cpWL W) = qOf i W
 | []=>rfl
 | e :: r => by
   have ih:=cpWL_q i r
   unfold cpWL at ih ⊢
   rw [List.map_cons,c9,c9,ih]
   rfl
theorem cpWL_strip (W:WL):(cpWL W).map cz = W.map cz:=by unfold cpWL; rw [List.map_map]; rfl
theorem cpWL_keys (W:WL):(cpWL W).map Prod.fst = W.map Prod.fst:=by unfold cpWL; rw [List.map_map]; rfl
theorem WaitR.cp {Qs Qs':List QL} {M M':List (Int×WE)} {W:WL} {n:Nat} (h:WaitR Qs M W n) (hq:Qs'.length = Qs.length) (hQ:∀ (i:Nat) x y,Qs[i]? = some x→Qs'[i]? = some y→y.L = x.L∧y.g = x.g) (hM:∀ t,aR t M' = aR t (cpM M)) (hn:(bO M').Nodup):WaitR Qs' M' (cpWL W) n:=by
 refine ⟨fun i y hy=>?_,fun t=>?_,hn,by rw [cpWL_keys]; exact h.nd,fun e he=>?_⟩
 ·have hlt:=(List.getElem?_eq_some_iff.1 hy).1
  have hx:Qs[i]? = some (Qs[i]'(by omega)):=List.getElem?_eq_getElem (by omega)
  obtain ⟨e1,e2⟩:=hQ i _ y hx hy
  obtain ⟨a1,a2⟩:=h.que i _ hx
  rw [e1,e2,cpWL_q]
  exact ⟨a1,a2⟩
 ·rw [hM,cpM_look,h.mp,pE]
 ·unfold cpWL at he
  obtain ⟨w,hw,rfl⟩:=List.mem_map.1 he
  obtain ⟨a,b,c,d,_⟩:=h.ok w hw
  exact ⟨a,b,c,d,fun q=>by cases q⟩

section
variable {st st':St} {h wid:Nat} {L:List (Option SL)} {Qs:List QL} {M:List (Int×WE)}
/-- A queue is put in the place of another one. -/
theorem HubIs.qslot (hh:HubIs st h wid L Qs M) {i:Nat} (hi:i < 16) {y:QL} {F:List Nat} (hk:Kp st st' (h::F)) (hF:∀ b ∈ F,st.boxes.length≤b) (hg:st'.get h = some (L.map ptrO++((Qs.set i y).map ptrQ++[.map wid]))) (hy:y.is st') (hyl:∀ b ∈ y.ids,st.boxes.length≤b):HubIs st' h wid L (Qs.set i y) M:=by
 obtain ⟨o,o1,o2,o3,o4⟩:=hh.sep
 have hlt:=hh.lts
 have hl:=hh.q16
 have hset:∀ (j:Nat) z,(Qs.set i y)[j]? = some z→(j = i∧y = z)∨(j≠i∧Qs[j]? = some z):=fun j z hj=>by
  rw [List.getElem?_set] at hj
  by_cases e:i = j
  ·subst e; rw [if_pos rfl,if_pos (by omega)] at hj; exact .inl ⟨rfl,Option.some.inj hj⟩
  ·rw [if_neg e] at hj; exact .inr ⟨fun q=>e q.symm,hj⟩
 have hno:∀ b,b≠h→b < st.boxes.length→st'.boxes[b]? = st.boxes[b]?:=fun b hb hl=>hk.2 b hl fun e=>by
  rcases List.mem_cons.1 e with e | e
  ·exact hb e
  ·have:=hF b e; omega
 have hwh:wid≠h:=hh.mp.ne hh.get
 refine ⟨hg,hh.l64,by rw [List.length_set]; exact hl,fun j z hj=>SL.at (hh.sub j z hj) fun b hb=>hno b (fun e=>by have:=o1 j z hj b hb; rw [e] at this; omega) (hlt b (ai.2 (.inr (.inr (.inl ⟨j,z,hj,hb⟩))))),fun j z hj=>?_,hh.mp.at (hno wid hwh (hlt wid (ai.2 (.inr (.inl rfl))))),fun b=>if b < st.boxes.length then o b else 100 + i,fun j z hj b hb=>?_,fun j z hj b hb=>?_,?_,?_⟩
 ·rcases hset j z hj with ⟨rfl,rfl⟩ | ⟨hne,hj⟩
  ·exact hy
  ·exact QL.at (hh.que j z hj) fun b hb=>hno b (fun e=>by have:=o2 j z hj b hb; rw [e] at this; omega) (hlt b (ai.2 (.inr (.inr (.inr ⟨j,z,hj,hb⟩)))))
 ·exact (if_pos (hlt b (ai.2 (.inr (.inr (.inl ⟨j,z,hj,hb⟩)))))).trans (o1 j z hj b hb)
 ·rcases hset j z hj with ⟨rfl,rfl⟩ | ⟨hne,hj⟩
  ·have:=hyl b hb
   exact if_neg (by omega)
  ·exact (if_pos (hlt b (ai.2 (.inr (.inr (.inr ⟨j,z,hj,hb⟩)))))).trans (o2 j z hj b hb)
 ·exact (if_pos (hlt h (ai.2 (.inl rfl)))).trans o3
 ·exact (if_pos (hlt wid (ai.2 (.inr (.inl rfl))))).trans o4
end
end Go.Fx.YtbdjfccgkdgbfaaFx

