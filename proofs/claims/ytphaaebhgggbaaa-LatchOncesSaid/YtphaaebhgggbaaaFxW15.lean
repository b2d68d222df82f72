/- What the functions that the statement reaches compute: part 15. -/
import Derived.Test.YtphaaebhgggbaaaFxW14
namespace Go.Fx.YtphaaebhgggbaaaFx
open Go Go.Fx
attribute [local irreducible] aC runI bu cN

set_option maxRecDepth 100000
set_option maxHeartbeats 8000000

/-! Ranges over maps. -/
section
variable {β:Type} {st:St} {id:Nat} {k:IntKind} {ev:β→AV} {m:List (Int×β)}

theorem nxt_step (h:MapIs st id k ev m) {seen:List Nat} {stp s:Nat} {d:Option Nat} {sf:Sf} {K:Sf→St→Prop}
    (hm:∀ (i:Nat) (hi:i < m.length) (b:Nat),(st.getB id).1[i]? = some b→b ∉ seen→K ((sf.set s (.mit (some id) (st.getB id).2 (seen++[b]) (st.getB id).2)).put d (.tup [.lit (.bool true),.lit (.int k m[i].1),(ev m[i].2).dis])) st)
    (hd:(∀ b ∈ (st.getB id).1,b ∈ seen)→K (sf.put d (.tup [.lit (.bool false)])) st):nxtX s d (.mit (some id) (st.getB id).2 seen stp) K sf st:=by
  unfold nxtX
  simp only [h.get,Res.ofOpt,Res.wp]
  refine ⟨h.bc,Nat.le_refl _,fun i kk x b hi hb hn=>?_,hd⟩
  simp only [encM,List.getElem?_map,Option.map_eq_some_iff] at hi
  obtain ⟨p,hp,he⟩:=hi
  obtain ⟨hi,hpe⟩:=List.getElem?_eq_some_iff.1 hp
  have:=hm i hi b hb hn
  rw [hpe] at this
  cases he
  exact this

theorem ent_step (h:MapIs st id k ev m) {seen:List Nat} {C:AV→St→Prop} {i b:Nat} (hi:i < m.length) (hb:(st.getB id).1[i]? = some b) (hC:C (.tup [.lit (.int k m[i].1),(ev m[i].2).dis]) st) :
    entX (.mit (some id) (st.getB id).2 (seen++[b]) (st.getB id).2) C st:=by
  unfold entX
  simp only [h.get,Res.ofOpt,Res.wp]
  refine ⟨trivial,i,.lit (.int k m[i].1),ev m[i].2,b,by simp,?_,hb,hC⟩
  simp [encM,encE,hi]

/-- What has not been visited. -/
def left (bs seen:List Nat):Nat:=(bs.filter fun b=>!seen.contains b).length
theorem left_lt {bs seen:List Nat} {b:Nat} (hb:b ∈ bs) (hn:b ∉ seen):left bs (seen++[b]) < left bs seen:=by
  unfold left
  induction bs with
  | nil=>cases hb
  | cons a bs ih =>
    have key:∀ l:List Nat,(l.filter fun x=>!(seen++[b]).contains x).length≤(l.filter fun x=>!seen.contains x).length:=by
      intro l
      induction l with
      | nil=>simp
      | cons x l ih =>
        simp only [List.filter_cons]
        by_cases h1:x ∈ seen
        · simp [h1]; simpa using ih
        · by_cases h2:x = b
          · subst h2; simp [h1]; simp at ih; omega
          · simp [h1,h2]; simpa using ih
    simp only [List.filter_cons]
    rcases List.mem_cons.1 hb with rfl | hb
    · have:=key bs
      simp [hn]; simp at this; omega
    · have ih:=ih hb
      by_cases h1:a ∈ seen
      · simp [h1]; simpa using ih
      · by_cases h2:a = b
        · have:=key bs
          subst h2
          simp [h1]; simp at this; omega
        · simp [h1,h2]; simpa using ih
end

theorem kA {β:Type} {t:Int} {b:β}:∀ {m:List (Int×β)},(ci m).Nodup→(t,b) ∈ m→bj t m = some b
  | (k, c) :: r, hn, hm => by
    simp only [ci,List.map_cons,List.nodup_cons] at hn
    simp only [bj]
    rcases List.mem_cons.1 hm with e | hm
    · cases e; simp
    · have:t≠k:=fun e=>hn.1 (e ▸ List.mem_map.2 ⟨(t,b),hm,rfl⟩)
      rw [if_neg this]; exact kA hn.2 hm
theorem nF {β:Type} {t:Int} {b:β}:∀ {m:List (Int×β)},bj t m = some b→(t,b) ∈ m
  | (k, c) :: r, h => by
    simp only [bj] at h
    split at h
    · rename_i e; subst e; cases h; simp
    · exact List.mem_cons_of_mem _ (nF h)

/-! Copies. -/
structure Cpd {B:Type} (m M:List (Int×B)) (bs seen:List Nat):Prop where
  le:∀ c v,bj c M = some v→bj c m = some v
  has:∀ (i:Nat) (hi:i < m.length) (b:Nat),bs[i]? = some b→b ∈ seen→bj m[i].1 M = some m[i].2
theorem Cpd.nil {B:Type} (m:List (Int×B)) (bs:List Nat):Cpd m [] bs []:=⟨fun c v h=>by simp [bj] at h,fun i hi b _ h=>by simp at h⟩
theorem Cpd.snoc {B:Type} {m M:List (Int×B)} {bs seen:List Nat} (h:Cpd m M bs seen) (hn:(ci m).Nodup) (hb:bs.Nodup) {i b:Nat} (hi:i < m.length) (hbi:bs[i]? = some b):Cpd m (updP m[i].1 m[i].2 M) bs (seen++[b]):=by
  have hx:bj m[i].1 m = some m[i].2:=kA hn (List.getElem_mem hi)
  refine ⟨fun c v hc=>?_,fun j hj b' hbj hs=>?_⟩
  · rw [dv] at hc
    split at hc
    · rename_i e; subst e; rw [hx]; exact hc
    · exact h.le c v hc
  · rw [dv]
    split
    · rename_i e
      have hy:bj m[j].1 m = some m[j].2:=kA hn (List.getElem_mem hj)
      rw [e,hx] at hy
      rw [hy]
    · rename_i e
      rcases List.mem_append.1 hs with hs | hs
      · exact h.has j hj b' hbj hs
      · simp only [List.mem_singleton] at hs
        subst hs
        obtain ⟨p1,p2⟩:=List.getElem?_eq_some_iff.1 hbi
        obtain ⟨r1,r2⟩:=List.getElem?_eq_some_iff.1 hbj
        have:i = j:=(List.getElem_inj hb).1 (p2.trans r2.symm)
        subst this
        exact absurd rfl e
theorem Cpd.all {B:Type} {m M:List (Int×B)} {bs seen:List Nat} (h:Cpd m M bs seen) (hn:(ci m).Nodup) (hl:bs.length = m.length) (ha:∀ b ∈ bs,b ∈ seen) (c:Int):bj c M = bj c m:=by
  cases hm:bj c m with
  | none =>
    cases hM:bj c M with
    | none=>rfl
    | some v=>have:=h.le c v hM; rw [hm] at this; cases this
  | some v =>
    obtain ⟨i,hi,e⟩:=List.getElem_of_mem (nF hm)
    have hb:bs[i]? = some bs[i]:=List.getElem?_eq_getElem (by omega)
    have:=h.has i hi _ hb (ha _ (List.getElem_mem (by omega)))
    rw [e] at this
    exact this

section
variable {st:St} {x:Ln} {T:List Int} {g:Nat}
/-- A copy of a line: new boxes only. -/
theorem lcopy_calls (h:LnIs st x T g):aY Go.Proofs.Try.prog n_f63 [.ptr x.l 0] st
    (fun r st'=>∃ x':Ln,r = .ptr x'.l 0∧LnIs st' x' T g∧Fr st st' []∧∀ i ∈ x'.ids,st.boxes.length≤i):=by
  have hg:=h.get
  have hlt:=h.lts
  obtain ⟨L,hL,hq,m,hm,hlk⟩:=h.qi
  refine aQ hmix k_f63 rfl rfl fun Q hQ=>?_
  unfold aFun c_f63
  have ll:x.l < st.boxes.length:=hlt _ (by simp [Ln.ids])
  have lt:x.tid < st.boxes.length:=hlt _ (by simp [Ln.ids])
  simp (config:=KF) (disch:=omega) only [bZ,aw,am,aE,ak,ap,aL,addA,af,ev_f,putS,Sf.set,Sf.reg,getR,setR,aa,aG,id,List.drop_zero,↓reduceIte,Nat.reduceEqDiff,reduceCtorEq,Nat.add_zero,f63_1e,f63_2e,f63_2l,f63_3e,f63_4e,f63_4l,hg]
  refine a7 rfl e_f80 (qcopy_calls hq) rfl fun r st2 hr=>?_
  obtain ⟨rfl,hq2,hl2,hk2⟩:=hr
  simp (config:=KF) (disch:=omega) only [bZ,and_self,aw,am,aE,cd,au,gJ,n5,ap,aL,bstV,boxX,addA,af,a8,aA,aO,putS,Sf.set,Sf.reg,getR,setR,aa,Sf.disAt,ck,al,fF,jR,ca,iE,ag,b9,fH,ah,List.length_cons,List.length_nil,List.getElem?_cons_zero,List.getElem?_cons_succ,List.all_cons,List.all_nil,List.set_cons_zero,List.set_cons_succ,↓reduceIte,Nat.reduceEqDiff,Nat.reduceAdd,Nat.reduceLeDiff,Bool.true_and,Bool.and_true,and_true,true_and,reduceCtorEq,Nat.zero_add,bP,aq,aj,f63_5e,f63_6e,f63_7e,f63_7l,hl2]
  obtain ⟨st4,hs4⟩:∃ s,s = (st2.push (.mp [] [] 0)).push (.cells [.ptr (st.boxes.length + 1) 0,.map (st.boxes.length + 2)]):=⟨_,rfl⟩
  rw [← hs4]
  have hm4:MapIs st4 (st.boxes.length + 2) .i64 tkAV []:=by
    have:=(MapIs.new st2 .i64 tkAV).push (.cells [.ptr (st.boxes.length + 1) 0,.map (st.boxes.length + 2)])
    rw [hl2] at this
    rw [hs4]; exact this
  have hc4:st4.get (st.boxes.length + 3) = some [.ptr (st.boxes.length + 1) 0,.map (st.boxes.length + 2)]:=by
    have:=dq (st2.push (.mp [] [] 0)) [.ptr (st.boxes.length + 1) 0,.map (st.boxes.length + 2)]
    rw [bP,hl2] at this
    rw [hs4]; simpa [Nat.add_assoc] using this
  have hl4:st4.boxes.length = st.boxes.length + 4:=by rw [hs4,bP,bP]; omega
  have hk4:∀ i,i < st.boxes.length + 2→st4.boxes[i]? = st2.boxes[i]?:=fun i hi=>by
    rw [hs4,dn (by rw [bP]; omega),dn (by omega)]
  clear hs4
  have hk:∀ i,i < st.boxes.length→st4.boxes[i]? = st.boxes[i]?:=fun i hi=>(hk4 i (by omega)).trans (hk2 i hi)
  have hg4:st4.get x.l = _:=(gP (hk _ ll)).trans hg
  have hms:MapIs st4 x.tid .i64 tkAV m:=hm.at (hk _ lt)
  have hgm:=hms.get
  obtain ⟨n,hn⟩:∃ n,n = st.boxes.length:=⟨_,rfl⟩
  have hq4:QIs st4 (n + 1) n L g:=by rw [hn]; exact hq2.at (hk4 _ (by omega)) (hk4 _ (by omega))
  rw [← hn] at hm4 hc4 hl4 hk hk4 lt ll ⊢
  have i2:n + 2 + 1 = n + 3:=rfl
  simp (config:=KF) (disch:=omega) only [bZ,o_x,cD,putS,Sf.set,Sf.reg,getR,setR,ck,List.drop_zero,List.drop_succ_cons,↓reduceIte,Nat.reduceEqDiff,reduceCtorEq,hg4,i2]
  show rngX _ _ _
  unfold rngX
  simp only [hgm,Res.ofOpt,Res.wp,n4]
  simp (config:=KF) (disch:=omega) only [bZ,putS,Sf.set,getR,setR,aa,↓reduceIte,Nat.reduceEqDiff,reduceCtorEq,f63_8e]
  rw [f63_9w]
  refine d3 (A:=List Nat×Nat×List (Int×Nat)×St) (fun a=>left (st4.getB x.tid).1 a.1) (fun a=>⟨[(3,.ptr (n + 3) 0),(18,.mit (some x.tid) (st4.getB x.tid).2 a.1 a.2.1)],[]⟩) (fun a=>a.2.2.2)
    (fun a=>Cpd m a.2.2.1 (st4.getB x.tid).1 a.1∧MapIs a.2.2.2 (n + 2) .i64 tkAV a.2.2.1∧Oth st4 a.2.2.2 [n + 2]) ([],(st4.getB x.tid).2,[],st4) ⟨.nil _ _,hm4,.refl _ _⟩ (Sf.le_refl _) rfl ?_
  rintro ⟨seen,stp,M,s⟩ ⟨h1,h2,h3⟩ K hK hKe hKr
  simp only at h1 h2 h3
  dsimp only
  have hB:s.getB x.tid = st4.getB x.tid:=getB_at (h3.2 x.tid (by simp; omega))
  have hms':MapIs s x.tid .i64 tkAV m:=hms.at (h3.2 x.tid (by simp; omega))
  have hcs:s.get (n + 3) = _:=(gP (h3.2 (n + 3) (by simp))).trans hc4
  rw [← hB]
  simp (config:=KF) (disch:=omega) only [bZ,o_x,cD,Sf.reg,getR,↓reduceIte,Nat.reduceEqDiff,f63_10e,f63_11e,f63_11l]
  refine nxt_step hms' (fun i hi k hk hn=>?_) fun hd=>?_
  · simp (config:=KF) (disch:=omega) only [bZ,cw,o_x,extV,cD,putS,Sf.set,Sf.reg,getR,setR,aa,List.getElem?_cons_zero,↓reduceIte,Nat.reduceEqDiff,f63_12e,f63_13e,f63_14e,f63_15e,f63_16e,f63_16l]
    refine ent_step hms' hi hk ?_
    rw [n4]
    simp (config:=KF) (disch:=omega) only [bZ,cw,aw,am,aE,au,kR,extV,ap,aL,addA,af,putS,Sf.set,Sf.reg,getR,setR,aa,Sf.disAt,ck,List.getElem?_cons_zero,List.getElem?_cons_succ,List.drop_zero,List.drop_succ_cons,↓reduceIte,Nat.reduceEqDiff,Nat.zero_add,f63_17e,f63_17l,tkAV,hcs]
    refine eP h2 (b:=m[i].2) rfl rfl fun s' hm' ho'=>?_
    simp (config:=KF) (disch:=omega) only [bZ,aD,getR,aa,↓reduceIte,Nat.reduceEqDiff]
    rw [hB] at hk ⊢
    exact hK (seen++[k],_,updP m[i].1 m[i].2 M,s') _ ⟨h1.snoc hms.nd hms.bn hi hk,hm',h3.trans ho'⟩ (left_lt (List.mem_of_getElem? hk) hn) (Sf.le_refl _)
  · simp (config:=KF) (disch:=omega) only [bZ,cS,dO,cw,extV,putS,Sf.set,Sf.reg,getR,setR,aa,List.getElem?_cons_zero,↓reduceIte,Nat.reduceEqDiff,f63_12e,f63_13e]
    refine hKe _ _ _ ?_
    simp (config:=KF) (disch:=omega) only [bZ,ce,retI,au,putS,Sf.set,Sf.reg,getR,setR,aa,Sf.disAt,e9,↓reduceIte,Nat.reduceEqDiff,Bool.true_and,true_and,f63_18e,f63_19e,f63_19l]
    rw [hB] at hd
    have hall:=h1.all hms.nd hms.bl hd
    refine hQ _ _ ⟨⟨n + 3,n + 1,n,n + 2⟩,rfl,⟨hcs,⟨L,hL,hq4.at (h3.2 _ (by simp)) (h3.2 _ (by simp)),M,h2,fun c=>(hall c).trans (hlk c)⟩,h.nd,h.tk,by simp only; omega⟩,⟨by have:=h3.1; omega,fun i hi _=>(h3.2 i (by simp; omega)).trans (hk i (by omega))⟩,?_⟩
    intro i hi
    simp only [Ln.ids,List.mem_cons,List.not_mem_nil,or_false] at hi
    omega

theorem ol {b:Nat} {o:Int} {d:Bool} (h:OwIs st b x (.lit (.bool d)) o T g):aY Go.Proofs.Try.prog n_f29 [.ptr b 0] st
    (fun r st'=>∃ b' x',r = .ptr b' 0∧OwIs st' b' x' (.lit (.bool d)) o T g∧Fr st st' []∧∀ i ∈ b'::x'.ids,st.boxes.length≤i):=by
  have hg:=h.get
  refine aQ hmix k_f29 rfl rfl fun Q hQ=>?_
  unfold aFun c_f29
  simp (config:=KF) (disch:=omega) only [bZ,ak,ev_f,putS,Sf.set,Sf.reg,getR,setR,aa,aG,id,↓reduceIte,reduceCtorEq,f29_1e,f29_2e,f29_2l,f29_3e,f29_4e,f29_5e,f29_5l]
  refine aK rfl e_f57 (onz h) rfl ?_
  simp (config:=KF) (disch:=omega) only [bZ,putS,Sf.set,Sf.reg,getR,setR,aa,↓reduceIte,Nat.reduceEqDiff,Bool.true_and,true_and,reduceCtorEq,f29_6e,f29_9e,f29_10e,f29_10h,f29_10p,f29_10l]
  refine draw_s ?_
  simp (config:=KF) (disch:=omega) only [bZ,ee,dm,er,ef,jX,cg,iu,gM,eV,ib,ic,fD,ap,aL,addA,af,ev_f,putS,Sf.set,Sf.reg,getR,setR,bB,id,List.append_nil,List.nil_append,List.cons_append,List.drop_zero,List.drop_succ_cons,↓reduceIte,Nat.reduceEqDiff,reduceCtorEq,Nat.zero_add,Nat.add_zero,hg]
  refine gO rfl e_f63 (lcopy_calls h.ln) rfl ?_
  simp (config:=KF) (disch:=omega) only [bZ,List.contains_nil,ksB,ba,bF,bM,bf,nstB,bN,ef,jX,cg,iu,gL,hm_hole,fW,iw,ew,AI.dst,ap,aL,addA,af,putS,Sf.set,Sf.reg,getR,setR,List.all_nil,List.nil_append,List.cons_append,List.drop_zero,List.drop_succ_cons,↓reduceIte,Nat.reduceEqDiff,Bool.true_and,Bool.and_true,and_true,true_and,reduceCtorEq,Nat.zero_add,Bool.not_false,hg]
  rintro r st1 ⟨x',rfl,h1,f1,g1⟩
  refine ⟨St.sub_of fun i hi=>f1.2 i hi (by simp),?_⟩
  simp (config:=KF) (disch:=omega) only [bZ,List.contains_nil,ksB,ba,bF,bM,bf,cI,co,nstB,bN,ee,dm,er,ef,jX,cg,iu,mm_bst,eu,dP,compM_t,fX,d1,fd,and_self,retI,cd,au,gJ,ap,aL,bstV,boxX,addA,af,a8,aA,aO,putS,Sf.set,Sf.reg,getR,setR,aa,Sf.disAt,al,ai,fF,az,ca,ag,ae,b9,ah,e9,List.length_cons,List.length_nil,List.getElem?_cons_zero,List.getElem?_cons_succ,List.all_cons,List.all_nil,List.nil_append,List.cons_append,List.drop_zero,List.drop_succ_cons,List.set_cons_zero,List.set_cons_succ,↓reduceIte,Nat.reduceEqDiff,Nat.reduceAdd,Nat.reduceLeDiff,Bool.true_and,Bool.and_true,and_true,true_and,reduceCtorEq,Nat.zero_add,Bool.not_false,aq,aj,hg]
  have hgp:=dq st1 [.lit (.int .i64 o),.ptr x'.l 0,.lit (.bool d)]
  have hl1:=h1.lts
  have hf:Fr st1 (st1.push (.cells [.lit (.int .i64 o),.ptr x'.l 0,.lit (.bool d)])) []:=⟨by rw [bP]; omega,fun i hi _=>dn hi⟩
  refine hQ _ _ ⟨st1.boxes.length,x',rfl,⟨hgp,h1.fr hf (by simp),fun hx=>by have:=hl1 _ hx; omega,h.ob⟩,f1.trans hf,fun i hi=>?_⟩
  rcases List.mem_cons.1 hi with rfl | hi
  · exact f1.1
  · exact g1 i hi
end
end Go.Fx.YtphaaebhgggbaaaFx

