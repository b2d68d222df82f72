/- What the functions that the statement reaches compute: part 17. -/
import Derived.Test.YtphaaebhgggbaaaFxW16
namespace Go.Fx.YtphaaebhgggbaaaFx
open Go Go.Fx
attribute [local irreducible] aC runI bD cO

set_option maxRecDepth 100000
set_option maxHeartbeats 8000000

/-! Ranges over maps. -/
section
variable {β:Type} {st:St} {id:Nat} {k:IntKind} {ev:β→AV} {m:List (Int×β)}

theorem nxt_step (h:MapIs st id k ev m) {seen:List Nat} {stp s:Nat} {d:Option Nat} {sf:Sf} {K:Sf→St→Prop}
    (hm:∀ (i:Nat) (hi:i < m.length) (b:Nat),(st.getB id).1[i]? = some b→b ∉ seen→K ((sf.set s (.mit (some id) (st.getB id).2 (seen++[b]) (st.getB id).2)).put d (.tup [.lit (.bool true),.lit (.int k m[i].1),(ev m[i].2).dis])) st)
    (hd:(∀ b ∈ (st.getB id).1,b ∈ seen)→K (sf.put d (.tup [.lit (.bool false)])) st):nxtX s d (.mit (some id) (st.getB id).2 seen stp) K sf st:=by
  unfold nxtX
  simp only [h.get,Res.ofOpt,Res.wp]
  refine ⟨h.bc,Nat.le_refl _,fun i kk x b hi hb hn=>?_,hd⟩
  simp only [encM,List.getElem?_map,Option.map_eq_some_iff] at hi
  obtain ⟨p,hp,he⟩:=hi
  obtain ⟨hi,hpe⟩:=List.getElem?_eq_some_iff.1 hp
  have:=hm i hi b hb hn
  rw [hpe] at this
  cases he
  exact this

theorem ent_step (h:MapIs st id k ev m) {seen:List Nat} {C:AV→St→Prop} {i b:Nat} (hi:i < m.length) (hb:(st.getB id).1[i]? = some b) (hC:C (.tup [.lit (.int k m[i].1),(ev m[i].2).dis]) st) :
    entX (.mit (some id) (st.getB id).2 (seen++[b]) (st.getB id).2) C st:=by
  unfold entX
  simp only [h.get,Res.ofOpt,Res.wp]
  refine ⟨trivial,i,.lit (.int k m[i].1),ev m[i].2,b,by simp,?_,hb,hC⟩
  simp [encM,encE,hi]

/-- What has not been visited. -/
def left (bs seen:List Nat):Nat:=(bs.filter fun b=>!seen.contains b).length
theorem left_lt {bs seen:List Nat} {b:Nat} (hb:b ∈ bs) (hn:b ∉ seen):left bs (seen++[b]) < left bs seen:=by
  unfold left
  induction bs with
  | nil=>cases hb
  | cons a bs ih =>
    have key:∀ l:List Nat,(l.filter fun x=>!(seen++[b]).contains x).length≤(l.filter fun x=>!seen.contains x).length:=by
      intro l
      induction l with
      | nil=>simp
      | cons x l ih =>
        simp only [List.filter_cons]
        by_cases h1:x ∈ seen
        · simp [h1]; simpa using ih
        · by_cases h2:x = b
          · subst h2; simp [h1]; simp at ih; omega
          · simp [h1,h2]; simpa using ih
    simp only [List.filter_cons]
    rcases List.mem_cons.1 hb with rfl | hb
    · have:=key bs
      simp [hn]; simp at this; omega
    · have ih:=ih hb
      by_cases h1:a ∈ seen
      · simp [h1]; simpa using ih
      · by_cases h2:a = b
        · have:=key bs
          subst h2
          simp [h1]; simp at this; omega
        · simp [h1,h2]; simpa using ih
end

theorem kP {β:Type} {t:Int} {b:β}:∀ {m:List (Int×β)},(ck m).Nodup→(t,b) ∈ m→bt t m = some b
  | (k, c) :: r, hn, hm => by
    simp only [ck,List.map_cons,List.nodup_cons] at hn
    simp only [bt]
    rcases List.mem_cons.1 hm with e | hm
    · cases e; simp
    · have:t≠k:=fun e=>hn.1 (e ▸ List.mem_map.2 ⟨(t,b),hm,rfl⟩)
      rw [if_neg this]; exact kP hn.2 hm
theorem nZ {β:Type} {t:Int} {b:β}:∀ {m:List (Int×β)},bt t m = some b→(t,b) ∈ m
  | (k, c) :: r, h => by
    simp only [bt] at h
    split at h
    · rename_i e; subst e; cases h; simp
    · exact List.mem_cons_of_mem _ (nZ h)

/-! Copies. -/
structure Cpd {B:Type} (m M:List (Int×B)) (bs seen:List Nat):Prop where
  le:∀ c v,bt c M = some v→bt c m = some v
  has:∀ (i:Nat) (hi:i < m.length) (b:Nat),bs[i]? = some b→b ∈ seen→bt m[i].1 M = some m[i].2
theorem Cpd.nil {B:Type} (m:List (Int×B)) (bs:List Nat):Cpd m [] bs []:=⟨fun c v h=>by simp [bt] at h,fun i hi b _ h=>by simp at h⟩
theorem Cpd.snoc {B:Type} {m M:List (Int×B)} {bs seen:List Nat} (h:Cpd m M bs seen) (hn:(ck m).Nodup) (hb:bs.Nodup) {i b:Nat} (hi:i < m.length) (hbi:bs[i]? = some b):Cpd m (updP m[i].1 m[i].2 M) bs (seen++[b]):=by
  have hx:bt m[i].1 m = some m[i].2:=kP hn (List.getElem_mem hi)
  refine ⟨fun c v hc=>?_,fun j hj b' hbj hs=>?_⟩
  · rw [dA] at hc
    split at hc
    · rename_i e; subst e; rw [hx]; exact hc
    · exact h.le c v hc
  · rw [dA]
    split
    · rename_i e
      have hy:bt m[j].1 m = some m[j].2:=kP hn (List.getElem_mem hj)
      rw [e,hx] at hy
      rw [hy]
    · rename_i e
      rcases List.mem_append.1 hs with hs | hs
      · exact h.has j hj b' hbj hs
      · simp only [List.mem_singleton] at hs
        subst hs
        obtain ⟨p1,p2⟩:=List.getElem?_eq_some_iff.1 hbi
        obtain ⟨r1,r2⟩:=List.getElem?_eq_some_iff.1 hbj
        have:i = j:=(List.getElem_inj hb).1 (p2.trans r2.symm)
        subst this
        exact absurd rfl e
theorem Cpd.all {B:Type} {m M:List (Int×B)} {bs seen:List Nat} (h:Cpd m M bs seen) (hn:(ck m).Nodup) (hl:bs.length = m.length) (ha:∀ b ∈ bs,b ∈ seen) (c:Int):bt c M = bt c m:=by
  cases hm:bt c m with
  | none =>
    cases hM:bt c M with
    | none=>rfl
    | some v=>have:=h.le c v hM; rw [hm] at this; cases this
  | some v =>
    obtain ⟨i,hi,e⟩:=List.getElem_of_mem (nZ hm)
    have hb:bs[i]? = some bs[i]:=List.getElem?_eq_getElem (by omega)
    have:=h.has i hi _ hb (ha _ (List.getElem_mem (by omega)))
    rw [e] at this
    exact this

section
variable {st:St} {x:Ln} {T:List Int} {g:Nat}
/-- A copy of a line: just four new boxes. -/
theorem kg (h:LnIs st x T g):aZ Go.Proofs.Try.prog n_f63 [.ptr x.l 0] st
    (fun r st'=>r = .ptr (st.boxes.length + 3) 0∧LnIs st' ⟨st.boxes.length + 3,st.boxes.length + 1,st.boxes.length,st.boxes.length + 2⟩ T g∧st'.boxes.length = st.boxes.length + 4∧∀ i,i < st.boxes.length→st'.boxes[i]? = st.boxes[i]?):=by
  have hg:=h.get
  have hlt:=h.lts
  obtain ⟨L,hL,hq,m,hm,hlk⟩:=h.qi
  refine aX hmix k_f63 rfl rfl fun Q hQ=>?_
  unfold aFun c_f63
  have ll:x.l < st.boxes.length:=hlt _ (by simp [Ln.ids])
  have lt:x.tid < st.boxes.length:=hlt _ (by simp [Ln.ids])
  simp (config:=KF) (disch:=omega) only [bZ,aw,aq,aM,ao,ar,aS,addA,ag,ev_f,putS,Sf.set,Sf.reg,getR,setR,aa,aO,id,List.drop_zero,↓reduceIte,Nat.reduceEqDiff,reduceCtorEq,Nat.add_zero,f63_1e,f63_2e,f63_2l,f63_3e,f63_4e,f63_4l,hg]
  refine ba rfl e_f80 (qcopy_calls hq) rfl fun r st2 hr=>?_
  obtain ⟨rfl,hq2,hl2,hk2⟩:=hr
  simp (config:=KF) (disch:=omega) only [bZ,and_self,aw,aq,aM,cv,az,g9,oF,ar,aS,bstV,boxX,addA,ag,bf,au,aE,putS,Sf.set,Sf.reg,getR,setR,aa,Sf.disAt,cr,al,fY,j4,ca,iT,ai,b8,f0,af,List.length_cons,List.length_nil,List.getElem?_cons_zero,List.getElem?_cons_succ,List.all_cons,List.all_nil,List.set_cons_zero,List.set_cons_succ,↓reduceIte,Nat.reduceEqDiff,Nat.reduceAdd,Nat.reduceLeDiff,Bool.true_and,Bool.and_true,and_true,true_and,reduceCtorEq,Nat.zero_add,bU,am,aj,f63_5e,f63_6e,f63_7e,f63_7l,hl2]
  obtain ⟨st4,hs4⟩:∃ s,s = (st2.push (.mp [] [] 0)).push (.cells [.ptr (st.boxes.length + 1) 0,.map (st.boxes.length + 2)]):=⟨_,rfl⟩
  rw [← hs4]
  have hm4:MapIs st4 (st.boxes.length + 2) .i64 tkAV []:=by
    have:=(MapIs.new st2 .i64 tkAV).push (.cells [.ptr (st.boxes.length + 1) 0,.map (st.boxes.length + 2)])
    rw [hl2] at this
    rw [hs4]; exact this
  have hc4:st4.get (st.boxes.length + 3) = some [.ptr (st.boxes.length + 1) 0,.map (st.boxes.length + 2)]:=by
    have:=dx (st2.push (.mp [] [] 0)) [.ptr (st.boxes.length + 1) 0,.map (st.boxes.length + 2)]
    rw [bU,hl2] at this
    rw [hs4]; simpa [Nat.add_assoc] using this
  have hl4:st4.boxes.length = st.boxes.length + 4:=by rw [hs4,bU,bU]; omega
  have hk4:∀ i,i < st.boxes.length + 2→st4.boxes[i]? = st2.boxes[i]?:=fun i hi=>by
    rw [hs4,dh (by rw [bU]; omega),dh (by omega)]
  clear hs4
  have hk:∀ i,i < st.boxes.length→st4.boxes[i]? = st.boxes[i]?:=fun i hi=>(hk4 i (by omega)).trans (hk2 i hi)
  have hg4:st4.get x.l = _:=(ib (hk _ ll)).trans hg
  have hms:MapIs st4 x.tid .i64 tkAV m:=hm.at (hk _ lt)
  have hgm:=hms.get
  obtain ⟨n,hn⟩:∃ n,n = st.boxes.length:=⟨_,rfl⟩
  have hq4:QIs st4 (n + 1) n L g:=by rw [hn]; exact hq2.at (hk4 _ (by omega)) (hk4 _ (by omega))
  rw [← hn] at hm4 hc4 hl4 hk hk4 lt ll ⊢
  have i2:n + 2 + 1 = n + 3:=rfl
  simp (config:=KF) (disch:=omega) only [bZ,o_x,cF,putS,Sf.set,Sf.reg,getR,setR,cr,List.drop_zero,List.drop_succ_cons,↓reduceIte,Nat.reduceEqDiff,reduceCtorEq,hg4,i2]
  show rngX _ _ _
  unfold rngX
  simp only [hgm,Res.ofOpt,Res.wp,oE]
  simp (config:=KF) (disch:=omega) only [bZ,putS,Sf.set,getR,setR,aa,↓reduceIte,Nat.reduceEqDiff,reduceCtorEq,f63_8e]
  rw [f63_9w]
  refine ef (A:=List Nat×Nat×List (Int×Nat)×St) (fun a=>left (st4.getB x.tid).1 a.1) (fun a=>⟨[(3,.ptr (n + 3) 0),(18,.mit (some x.tid) (st4.getB x.tid).2 a.1 a.2.1)],[]⟩) (fun a=>a.2.2.2)
    (fun a=>Cpd m a.2.2.1 (st4.getB x.tid).1 a.1∧MapIs a.2.2.2 (n + 2) .i64 tkAV a.2.2.1∧Oth st4 a.2.2.2 [n + 2]) ([],(st4.getB x.tid).2,[],st4) ⟨.nil _ _,hm4,.refl _ _⟩ (Sf.le_refl _) rfl ?_
  rintro ⟨seen,stp,M,s⟩ ⟨h1,h2,h3⟩ K hK hKe hKr
  simp only at h1 h2 h3
  dsimp only
  have hB:s.getB x.tid = st4.getB x.tid:=getB_at (h3.2 x.tid (by simp; omega))
  have hms':MapIs s x.tid .i64 tkAV m:=hms.at (h3.2 x.tid (by simp; omega))
  have hcs:s.get (n + 3) = _:=(ib (h3.2 (n + 3) (by simp))).trans hc4
  rw [← hB]
  simp (config:=KF) (disch:=omega) only [bZ,o_x,cF,Sf.reg,getR,↓reduceIte,Nat.reduceEqDiff,f63_10e,f63_11e,f63_11l]
  refine nxt_step hms' (fun i hi k hk hn=>?_) fun hd=>?_
  · simp (config:=KF) (disch:=omega) only [bZ,bJ,o_x,extV,cF,putS,Sf.set,Sf.reg,getR,setR,aa,List.getElem?_cons_zero,↓reduceIte,Nat.reduceEqDiff,f63_12e,f63_13e,f63_14e,f63_15e,f63_16e,f63_16l]
    refine ent_step hms' hi hk ?_
    rw [oE]
    simp (config:=KF) (disch:=omega) only [bZ,bJ,aw,aq,aM,az,lm,extV,ar,aS,addA,ag,putS,Sf.set,Sf.reg,getR,setR,aa,Sf.disAt,cr,List.getElem?_cons_zero,List.getElem?_cons_succ,List.drop_zero,List.drop_succ_cons,↓reduceIte,Nat.reduceEqDiff,Nat.zero_add,f63_17e,f63_17l,tkAV,hcs]
    refine fc h2 (b:=m[i].2) rfl rfl fun s' hm' ho'=>?_
    simp (config:=KF) (disch:=omega) only [bZ,aD,getR,aa,↓reduceIte,Nat.reduceEqDiff]
    rw [hB] at hk ⊢
    exact hK (seen++[k],_,updP m[i].1 m[i].2 M,s') _ ⟨h1.snoc hms.nd hms.bn hi hk,hm',h3.trans ho'⟩ (left_lt (List.mem_of_getElem? hk) hn) (Sf.le_refl _)
  · simp (config:=KF) (disch:=omega) only [bZ,cT,dX,bJ,extV,putS,Sf.set,Sf.reg,getR,setR,aa,List.getElem?_cons_zero,↓reduceIte,Nat.reduceEqDiff,f63_12e,f63_13e]
    refine hKe _ _ _ ?_
    simp (config:=KF) (disch:=omega) only [bZ,ci,retI,az,putS,Sf.set,Sf.reg,getR,setR,aa,Sf.disAt,fw,↓reduceIte,Nat.reduceEqDiff,Bool.true_and,true_and,f63_18e,f63_19e,f63_19l]
    rw [hB] at hd
    have hall:=h1.all hms.nd hms.bl hd
    refine hQ _ _ ⟨by rw [hn],?_,by have:=h3.1; omega,fun i hi=>(h3.2 i (by simp; omega)).trans (hk i (by omega))⟩
    rw [← hn]
    exact ⟨hcs,⟨L,hL,hq4.at (h3.2 _ (by simp)) (h3.2 _ (by simp)),M,h2,fun c=>(hall c).trans (hlk c)⟩,h.nd,h.tk,by simp only; omega⟩
end

/-- The boxes while a condition is copied. -/
def coSS (st:St) (T U:List Int) (g k:Nat):Nat→St→Prop
  | 0,s=>s = st
  | 1,s=>LnIs s ⟨st.boxes.length + 3,st.boxes.length + 1,st.boxes.length,st.boxes.length + 2⟩ T g∧s.boxes.length = st.boxes.length + 4∧∀ i,i < st.boxes.length→s.boxes[i]? = st.boxes[i]?
  | 2,s=>LnIs s ⟨st.boxes.length + 3,st.boxes.length + 1,st.boxes.length,st.boxes.length + 2⟩ T g∧LnIs s ⟨st.boxes.length + 7,st.boxes.length + 5,st.boxes.length + 4,st.boxes.length + 6⟩ U k∧s.boxes.length = st.boxes.length + 8∧∀ i,i < st.boxes.length→s.boxes[i]? = st.boxes[i]?
  | _,_=>False
theorem coSS_sub {st:St} {T U:List Int} {g k:Nat}:∀ j s,coSS st T U g k j s→St.sub st s
  | 0, s, h => by
    have:s = st:=h
    subst this; exact St.sub_refl _
  | 1,s,⟨_,_,h⟩=>St.sub_of fun i hi=>h i hi
  | 2,s,⟨_,_,_,h⟩=>St.sub_of fun i hi=>h i hi
  | _ + 3,_,h=>h.elim
theorem oP {st:St} {b:Nat} {x y:Ln} {o:Int} {T U:List Int} {g k:Nat} (h:CoIs st b x y o T U g k):aZ Go.Proofs.Try.prog n_f44 [.ptr b 0] st
    (fun r st'=>∃ b' x' y',r = .ptr b' 0∧CoIs st' b' x' y' o T U g k∧Fr st st' []∧∀ i ∈ b'::(x'.ids++y'.ids),st.boxes.length≤i):=by
  have hg:=h.ow.get
  have hlx:=h.ow.ln.lts
  have hly:=h.sl.lts
  refine aX hmix k_f44 rfl rfl fun Q hQ=>?_
  unfold aFun c_f44
  simp (config:=KF) (disch:=omega) only [bZ,ao,ev_f,putS,Sf.set,Sf.reg,getR,setR,aa,aO,id,↓reduceIte,reduceCtorEq,f44_1e,f44_2e,f44_2l,f44_3e,f44_4e,f44_5e,f44_5l]
  refine aF rfl e_f62 (coz h) rfl ?_
  simp (config:=KF) (disch:=omega) only [bZ,putS,Sf.set,Sf.reg,getR,setR,aa,br,↓reduceIte,Nat.reduceEqDiff,Bool.true_and,true_and,reduceCtorEq,f44_6e,f44_9e,f44_10e,f44_10h,f44_10l]
  refine draw_x (coSS st T U g k) rfl coSS_sub ?_
  simp (config:=KF) (disch:=omega) only [bZ,d5,lM,bL,j9,g_none_f,g_none_t,g_val,g_call,ar,aS,addA,ag,ev_f,putS,Sf.set,Sf.reg,getR,setR,id,List.drop_zero,List.drop_succ_cons,↓reduceIte,Nat.reduceEqDiff,reduceCtorEq,Nat.zero_add,Nat.add_zero,hg]
  refine call_x rfl e_f63 (fun s hs=>by
    have hs:s = st:=hs
    subst hs
    exact (kg h.ow.ln).mono fun r st' ⟨e,q⟩=>⟨e,q⟩) rfl ?_
  simp (config:=KF) (disch:=omega) only [bZ,d5,lM,bL,j9,mm_bst,g_none_f,g_none_t,g_val,g_mkv,g_call,and_self,ar,aS,bstV,addA,ag,bf,ev_f,putS,Sf.set,Sf.reg,getR,setR,id,aA,ca,ai,ae,b8,af,List.length_cons,List.length_nil,List.getElem?_cons_zero,List.getElem?_cons_succ,List.all_cons,List.all_nil,List.drop_zero,List.drop_succ_cons,List.set_cons_zero,List.set_cons_succ,↓reduceIte,Nat.reduceEqDiff,Nat.reduceAdd,Nat.reduceLeDiff,Bool.and_true,and_true,reduceCtorEq,Nat.zero_add,am,aj,hg]
  refine call_x (v:=.ptr (st.boxes.length + 7) 0) rfl e_f63 (fun s ⟨s1,s2,s3⟩=>by
    have hy:LnIs s y U k:=h.sl.at fun i hi=>s3 i (hly i hi)
    have:=kg hy
    rw [s2] at this
    refine this.mono fun r st' ⟨e,q1,q2,q3⟩=>⟨e,s1.at fun i hi=>q3 i (by have:=s1.lts i hi; omega),q1,q2,fun i hi=>(q3 i (by omega)).trans (s3 i hi)⟩) rfl ?_
  simp (config:=KF) (disch:=omega) only [bZ,g_nil,g_mkv,tailG_nil,and_self,retI,cv,az,g9,bstV,boxX,bf,au,aE,putS,Sf.set,Sf.reg,getR,setR,aa,Sf.disAt,al,ah,fY,ca,ai,ae,b8,af,fw,List.length_cons,List.length_nil,List.getElem?_cons_zero,List.getElem?_cons_succ,List.all_cons,List.all_nil,List.set_cons_zero,List.set_cons_succ,↓reduceIte,Nat.reduceEqDiff,Nat.reduceAdd,Nat.reduceLeDiff,Bool.true_and,Bool.and_true,and_true,true_and,reduceCtorEq,Nat.zero_add,am,aj]
  intro s hs
  obtain ⟨s1,s2,s3,s4⟩:coSS st T U g k 2 s:=hs
  have hgp:=dx s [.lit (.int .i64 o),.ptr (st.boxes.length + 3) 0,.ptr (st.boxes.length + 7) 0]
  have hf:Fr s (s.push (.cells [.lit (.int .i64 o),.ptr (st.boxes.length + 3) 0,.ptr (st.boxes.length + 7) 0])) []:=⟨by rw [bU]; omega,fun i hi _=>dh hi⟩
  have i1:∀ i ∈ (⟨st.boxes.length + 3,st.boxes.length + 1,st.boxes.length,st.boxes.length + 2⟩:Ln).ids,st.boxes.length≤i∧i < st.boxes.length + 4:=fun i hi=>by
    simp only [Ln.ids,List.mem_cons,List.not_mem_nil,or_false] at hi; omega
  have i2:∀ i ∈ (⟨st.boxes.length + 7,st.boxes.length + 5,st.boxes.length + 4,st.boxes.length + 6⟩:Ln).ids,st.boxes.length + 4≤i∧i < st.boxes.length + 8:=fun i hi=>by
    simp only [Ln.ids,List.mem_cons,List.not_mem_nil,or_false] at hi; omega
  refine hQ _ _ ⟨s.boxes.length,_,_,rfl,⟨⟨hgp,s1.fr hf (by simp),fun hx=>by have:=i1 _ hx; omega,h.ow.ob⟩,s2.fr hf (by simp),fun hx=>by have:=i2 _ hx; omega,fun i hi hj=>by have:=i1 _ hi; have:=i2 _ hj; omega,h.inv⟩,⟨by rw [bU]; omega,fun i hi _=>(dh (by omega)).trans (s4 i hi)⟩,fun i hi=>?_⟩
  rcases List.mem_cons.1 hi with rfl | hi
  · omega
  rcases List.mem_append.1 hi with hi | hi
  · exact (i1 i hi).1
  · have:=(i2 i hi).1; omega
end Go.Fx.YtphaaebhgggbaaaFx

