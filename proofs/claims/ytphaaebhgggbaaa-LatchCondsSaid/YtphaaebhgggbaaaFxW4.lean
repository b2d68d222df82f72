/- What the functions that the statement reaches compute: part 4. -/
import Derived.Test.YtphaaebhgggbaaaFxW3
namespace Go.Fx.YtphaaebhgggbaaaFx
open Go Go.Fx
attribute [local irreducible] aC runI bD cO

set_option maxRecDepth 100000
set_option maxHeartbeats 4000000

/-! A line of tasks in its boxes. -/
def entB (L:Qu):List (Int×Nat):=L.map fun x=>(x.2,x.1)
def er (L:Qu):List Int:=L.map fun x=>x.2
def tkAV (t:Nat):AV:=.lit (.int .u64 (t:Nat))
theorem iN (L:Qu):ck (entB L) = er L:=by simp [ck,entB,er]
theorem ii (A B:Qu):entB (A++B) = entB A++entB B:=by simp [entB]
theorem gT (A B:Qu):er (A++B) = er A++er B:=by simp [er]
theorem iZ (L:Qu):(er L).length = L.length:=by simp [er]

/-- The boxes of a line. -/
structure Ln where
  l:Nat
  q:Nat
  mid:Nat
  tid:Nat
def Ln.ids (x:Ln):List Nat:=[x.l,x.q,x.mid,x.tid]
structure LnIs (st:St) (x:Ln) (T:List Int) (g:Nat):Prop where
  get:st.get x.l = some [.ptr x.q 0,.map x.tid]
  qi:∃ L,er L = T∧QIs st x.q x.mid L g∧∃ m,MapIs st x.tid .i64 tkAV m∧∀ c,bt c m = bt c (entB L)
  nd:T.Nodup
  tk:∀ t ∈ T,0≤t∧t < 64
  ids:x.l≠x.q∧x.l≠x.mid∧x.l≠x.tid∧x.tid≠x.q∧x.tid≠x.mid

section
variable {st:St} {x:Ln} {T:List Int} {g:Nat}
theorem LnIs.at {st':St} (h:LnIs st x T g) (he:∀ i ∈ x.ids,st'.boxes[i]? = st.boxes[i]?):LnIs st' x T g:=by
  obtain ⟨L,h1,h2,m,hm,hl⟩:=h.qi
  unfold Ln.ids at he
  exact ⟨(ib (he _ (by simp))).trans h.get,⟨L,h1,h2.at (he _ (by simp)) (he _ (by simp)),m,hm.at (he _ (by simp)),hl⟩,h.nd,h.tk,h.ids⟩
theorem LnIs.lts (h:LnIs st x T g):∀ i ∈ x.ids,i < st.boxes.length:=by
  obtain ⟨L,h1,hq,m,hm,hl⟩:=h.qi
  have h1:=c9 h.get
  have h2:=hq.ltq
  have h3:=hq.ltm
  have h4:=hm.lt
  intro i hi
  simp only [Ln.ids,List.mem_cons,List.not_mem_nil,or_false] at hi
  rcases hi with rfl | rfl | rfl | rfl <;> assumption
theorem LnIs.oth {st':St} {S:List Nat} (h:LnIs st x T g) (ho:Oth st st' S) (hd:∀ i ∈ x.ids,i ∉ S):LnIs st' x T g:=h.at fun i hi=>ho.2 i (hd i hi)
theorem LnIs.cnt (h:LnIs st x T g):T.length≤64:=by
  have h1:(T.map Int.toNat).Nodup:=by
    refine (List.pairwise_map.2 ?_)
    refine List.Pairwise.imp_of_mem ?_ h.nd
    intro a b ha hb hab e
    have:=h.tk a ha
    have:=h.tk b hb
    exact hab (by omega)
  have h2:∀ y ∈ T.map Int.toNat,y < 64:=fun y hy=>by
    obtain ⟨t,ht,rfl⟩:=List.mem_map.1 hy
    have:=h.tk t ht
    omega
  have h3:=h1.length_le_of_subset (l₂:=List.range 64) fun y hy=>List.mem_range.2 (h2 y hy)
  simpa using h3

/-- Boxes but some are as they were. -/
def Fr (st st':St) (S:List Nat):Prop:=st.boxes.length≤st'.boxes.length∧∀ i,i < st.boxes.length→i ∉ S→st'.boxes[i]? = st.boxes[i]?
theorem Fr.of {st st':St} {S S':List Nat} (h:Oth st st' S) (hs:∀ x ∈ S,x ∈ S'):Fr st st' S':=⟨Nat.le_of_eq h.1.symm,fun i _ hn=>h.2 i fun e=>hn (hs i e)⟩
theorem Fr.trans {a b c:St} {S:List Nat} (h:Fr a b S) (k:Fr b c S):Fr a c S:=⟨Nat.le_trans h.1 k.1,fun i hi hn=>(k.2 i (Nat.lt_of_lt_of_le hi h.1) hn).trans (h.2 i hi hn)⟩
theorem LnIs.fr {st':St} {S:List Nat} (h:LnIs st x T g) (ho:Fr st st' S) (hd:∀ i ∈ x.ids,i ∉ S):LnIs st' x T g:=h.at fun i hi=>ho.2 i (h.lts i hi) (hd i hi)

theorem gn (st:St):aZ Go.Proofs.Try.prog n_f51 [] st (fun r st'=>∃ x:Ln,r = .ptr x.l 0∧LnIs st' x [] 0∧Fr st st' []∧(∀ i ∈ x.ids,st.boxes.length≤i)):=by
  refine aX hmix k_f51 rfl rfl fun Q hQ=>?_
  unfold aFun c_f51
  simp (config:=KF) (disch:=omega) only [bZ,ao,ev_f,putS,Sf.set,setR,aa,aO,id,f51_1e,f51_2e,f51_2l,f51_3e,f51_4e,f51_4l]
  refine ba rfl e_f78 (qnew_calls st) rfl fun r st1 hr=>?_
  obtain ⟨rfl,hq1,hl1,hk1⟩:=hr
  simp (config:=KF) (disch:=omega) only [bZ,and_self,retI,cv,az,g9,oF,bstV,boxX,bf,au,aE,putS,Sf.set,Sf.reg,getR,setR,aa,Sf.disAt,cr,al,fY,j4,ca,iT,ai,b8,f0,af,fw,List.length_cons,List.length_nil,List.getElem?_cons_zero,List.getElem?_cons_succ,List.all_cons,List.all_nil,List.set_cons_zero,List.set_cons_succ,↓reduceIte,Nat.reduceEqDiff,Nat.reduceAdd,Nat.reduceLeDiff,Bool.true_and,Bool.and_true,and_true,true_and,reduceCtorEq,Nat.zero_add,bU,am,aj,hl1]
  have hm:=(MapIs.new st1 .i64 tkAV).push (.cells [.ptr (st.boxes.length + 1) 0,.map (st.boxes.length + 2)])
  have hg:=dx (st1.push (.mp [] [] 0)) [.ptr (st.boxes.length + 1) 0,.map (st.boxes.length + 2)]
  rw [bU,hl1] at hg
  rw [hl1] at hm
  have hat:∀ x,x < st.boxes.length + 2→((st1.push (.mp [] [] 0)).push (.cells [.ptr (st.boxes.length + 1) 0,.map (st.boxes.length + 2)])).boxes[x]? = st1.boxes[x]?:=fun x hx=>by
    rw [dh (by rw [bU]; omega),dh (by omega)]
  refine hQ _ _ ⟨⟨st.boxes.length + 3,st.boxes.length + 1,st.boxes.length,st.boxes.length + 2⟩,rfl,⟨by simpa [Nat.add_assoc] using hg,⟨[],rfl,hq1.at (hat _ (by omega)) (hat _ (by omega)),[],hm,fun _=>rfl⟩,by simp,by simp,by simp only; omega⟩,⟨by simp only [bU,hl1]; omega,fun x hx _=>?_⟩,by simp only [Ln.ids,List.mem_cons,List.not_mem_nil,or_false]; omega⟩
  rw [hat x (by omega),hk1 x hx]

theorem n4 (h:LnIs st x T g) (t:Int):bg Go.Proofs.Try.prog n_f81 [.ptr x.l 0,.lit (.int .i64 t)] st (.lit (.bool (decide (t ∈ T)))):=by
  have hg:=h.get
  obtain ⟨L,hL,hq,m,hm,hl⟩:=h.qi
  refine cc hmix k_f81 rfl rfl fun Q hQ=>?_
  unfold aFun c_f81
  have hQ:=hQ st
  by_cases h2:t ∈ T
  · rw [decide_eq_true h2] at hQ
    have hk:∀ z,∃ u,de (.int .i64) z true st (.map x.tid) (.lit (.int .i64 t)) = .ok (.tup [.lit (.int .u64 (u:Nat)),.lit (.bool true)]):=fun z=>by
      rw [d1 hm,hl]
      have:=look_of_mem (k:=t) (m:=entB L)
      rw [iN,hL] at this
      cases hx:bt t (entB L) with
      | none=>rw [hx] at this; simp [h2] at this
      | some t=>exact ⟨t,rfl⟩
    obtain ⟨u,hk⟩:=hk (.lit (.int .u64 0))
    simp (config:=KF) (disch:=omega) only [bZ,retI,bJ,aw,aq,aM,mF,az,extV,ar,aS,addA,ag,putS,Sf.set,Sf.reg,getR,setR,aa,Sf.disAt,aO,cr,bp,bk,List.getElem?_cons_zero,List.getElem?_cons_succ,List.drop_zero,List.drop_succ_cons,↓reduceIte,Nat.reduceEqDiff,Bool.true_and,true_and,reduceCtorEq,Nat.zero_add,f81_1e,f81_2e,f81_2l,f81_3e,f81_4e,f81_4l,f81_5e,f81_6e,f81_6l,hg,hk]
    exact hQ
  · rw [decide_eq_false h2] at hQ
    have hk:∀ z,de (.int .i64) z true st (.map x.tid) (.lit (.int .i64 t)) = .ok (.tup [z,.lit (.bool false)]):=fun z=>by
      rw [d1 hm,hl,iW (by rw [iN,hL]; exact h2)]; rfl
    simp (config:=KF) (disch:=omega) only [bZ,retI,bJ,aw,aq,aM,mF,az,extV,ar,aS,addA,ag,putS,Sf.set,Sf.reg,getR,setR,aa,Sf.disAt,aO,cr,bp,bk,List.getElem?_cons_zero,List.getElem?_cons_succ,List.drop_zero,List.drop_succ_cons,↓reduceIte,Nat.reduceEqDiff,Bool.true_and,true_and,reduceCtorEq,Nat.zero_add,f81_1e,f81_2e,f81_2l,f81_3e,f81_4e,f81_4l,f81_5e,f81_6e,f81_6l,hg,hk]
    exact hQ

theorem ff (h:LnIs st x T g) (hg0:g < 1000000) {t:Int} (h0:0≤t∧t < 64) (hn:t ∉ T):aZ Go.Proofs.Try.prog n_f65 [.ptr x.l 0,.lit (.int .i64 t)] st (fun r st' =>
    r = .tup []∧LnIs st' x (T++[t]) (g + 1)∧Oth st st' x.ids):=by
  have hg:=h.get
  have hcn:=h.cnt
  obtain ⟨L,hL,hq,m,hm,hl⟩:=h.qi
  have hLl:L.length = T.length:=by rw [← hL,iZ]
  obtain ⟨i1,i2,i3,i4,i5⟩:=h.ids
  refine aX hmix k_f65 rfl rfl fun Q hQ=>?_
  unfold aFun c_f65
  simp (config:=KF) (disch:=omega) only [bZ,aw,aq,aM,ao,ar,aS,addA,ag,ev_f,putS,Sf.set,Sf.reg,getR,setR,aO,id,List.drop_zero,↓reduceIte,Nat.reduceEqDiff,reduceCtorEq,Nat.zero_add,Nat.add_zero,f65_1e,f65_2e,f65_2l,hg]
  refine ba rfl e_f82 (qpush_calls (v:=t) hq (by omega) (by omega)) rfl fun r st1 hr=>?_
  obtain ⟨rfl,hq1,ho1⟩:=hr
  have hg1:st1.get x.l = _:=(ho1.get (by simp; omega)).trans hg
  have hm1:=hm.oth ho1 (by simp; omega)
  simp (config:=KF) (disch:=omega) only [bZ,bJ,aw,aq,aM,az,lm,extV,ar,aS,addA,ag,putS,Sf.set,Sf.reg,getR,setR,aa,Sf.disAt,cr,bp,bk,List.getElem?_cons_zero,List.getElem?_cons_succ,List.drop_zero,List.drop_succ_cons,↓reduceIte,Nat.reduceEqDiff,reduceCtorEq,Nat.zero_add,f65_3e,f65_3l,hg1]
  refine fc (b:=g + 1) hm1 rfl rfl fun st2 hm2 ho2=>?_
  simp (config:=KF) (disch:=omega) only [bZ,retQ_normal,retI,resL,aa,aT,List.all_nil,↓reduceIte,Bool.true_and,true_and]
  have ho:Oth st st2 x.ids:=(ho1.mono (by simp [Ln.ids])).trans (ho2.mono (by simp [Ln.ids]))
  have hnd:(ck (entB L++[(t,g + 1)])).Nodup:=by
    have:=iN (L++[(g + 1,t)])
    rw [ii] at this
    rw [show entB L++[(t,g + 1)] = entB L++entB [(g + 1,t)] from rfl,this,gT,hL]
    refine List.nodup_append.2 ⟨h.nd,by simp [er],fun x hx y hy e=>?_⟩
    simp [er] at hy
    subst hy; subst e; exact hn hx
  obtain ⟨s1,s2⟩:=ic (A:=entB L) (B:=[]) hnd
  refine hQ _ _ ⟨rfl,⟨(ho2.get (by simp; omega)).trans hg1,⟨L++[(g + 1,t)],by rw [gT,hL]; rfl,hq1.oth ho2 (by simp; omega) (by simp; omega),_,hm2,fun c'=>?_⟩,?_,?_,h.ids⟩,ho⟩
  · rw [dA,hl,ii]
    by_cases e:c' = t
    · rw [if_pos e,e]; exact s1.symm
    · have:=s2 c'
      rw [if_neg e,List.append_nil] at this
      rw [if_neg e,this]; rfl
  · refine List.nodup_append.2 ⟨h.nd,by simp,fun x hx y hy e=>?_⟩
    simp at hy
    subst hy; subst e; exact hn hx
  · intro y hy
    rcases List.mem_append.1 hy with hy | hy
    · exact h.tk y hy
    · simp at hy; omega

/-- One task less. -/
theorem LnIs.cut {st':St} {A B:Qu} {u:Nat} {t:Int} {m:List (Int×Nat)} (h:LnIs st x (er A++t::er B) g) (hl:∀ c',bt c' m = bt c' (entB (A++(u,t)::B))) (hnd:(ck m).Nodup)
    (hq:QIs st' x.q x.mid (A++B) g) (hm:MapIs st' x.tid .i64 tkAV (delP t m)) (hg:st'.get x.l = st.get x.l):LnIs st' x (er A++er B) g:=by
  have hn1:(ck (entB A++(t,u)::entB B)).Nodup:=by
    have:=iN (A++(u,t)::B)
    rw [ii] at this
    rw [show entB A++(t,u)::entB B = entB A++entB ((u,t)::B) from rfl,this,gT]
    exact h.nd
  obtain ⟨s1,s2⟩:=ic hn1
  refine ⟨hg.trans h.get,⟨A++B,by rw [gT],hq,_,hm,fun c'=>?_⟩,?_,fun x hx=>h.tk x ?_,h.ids⟩
  · rw [ka _ _ hnd,hl,ii A B,s2,ii]; rfl
  · exact (List.nodup_append.1 h.nd) |> fun ⟨a1,a2,a3⟩=>List.nodup_append.2 ⟨a1,(List.nodup_cons.1 a2).2,fun x hx y hy=>a3 x hx y (List.mem_cons_of_mem _ hy)⟩
  · rcases List.mem_append.1 hx with hx | hx
    · exact List.mem_append.2 (.inl hx)
    · exact List.mem_append.2 (.inr (List.mem_cons_of_mem _ hx))

theorem mT (h:LnIs st x [] g):aZ Go.Proofs.Try.prog n_f83 [.ptr x.l 0] st (fun r st'=>r = .tup [.lit (.int .i64 0),.lit (.bool false)]∧LnIs st' x [] g∧Oth st st' x.ids):=by
  have hg:=h.get
  obtain ⟨L,hL,hq,m,hm,hl⟩:=h.qi
  have hL0:L = []:=List.eq_nil_of_length_eq_zero (by rw [← iZ,hL]; rfl)
  subst hL0
  obtain ⟨i1,i2,i3,i4,i5⟩:=h.ids
  refine aX hmix k_f83 rfl rfl fun Q hQ=>?_
  unfold aFun c_f83
  simp (config:=KF) (disch:=omega) only [bZ,aw,aq,aM,ao,ar,aS,addA,ag,ev_f,putS,Sf.set,Sf.reg,getR,setR,aa,aO,id,List.drop_zero,↓reduceIte,Nat.reduceEqDiff,reduceCtorEq,Nat.add_zero,f83_1e,f83_2e,f83_2l,f83_3e,f83_4e,f83_4l,hg]
  refine ba rfl e_f86 (qpop_nil hq) rfl fun r st1 hr=>?_
  obtain ⟨rfl,rfl⟩:=hr
  simp (config:=KF) (disch:=omega) only [bZ,bJ,aw,aq,aM,az,o_del,extV,ar,aS,addA,ag,putS,Sf.set,Sf.reg,getR,setR,aa,Sf.disAt,cr,bp,bk,List.getElem?_cons_zero,List.getElem?_cons_succ,List.drop_zero,List.drop_succ_cons,↓reduceIte,Nat.reduceEqDiff,reduceCtorEq,Nat.zero_add,f83_5e,f83_6e,f83_6l,hg]
  refine kc hm fun st2 hm2 ho2=>?_
  simp (config:=KF) (disch:=omega) only [bZ,retI,resI,resL,az,bW,putS,Sf.set,Sf.reg,getR,setR,aa,Sf.disAt,aT,List.all_cons,List.all_nil,↓reduceIte,Nat.reduceEqDiff,Int.reduceEq,Bool.true_and,Bool.and_true,and_true,true_and,reduceCtorEq,decide_false,f83_7e,f83_8e,f83_8l]
  refine hQ _ _ ⟨rfl,⟨(ho2.get (by simp; omega)).trans hg,⟨[],rfl,hq.oth ho2 (by simp; omega) (by simp; omega),_,hm2,fun c=>?_⟩,by simp,by simp,h.ids⟩,ho2.mono (by simp [Ln.ids])⟩
  rw [ka _ _ hm.nd,hl]
  split <;> rfl

theorem kQ {t:Int} {B:List Int} (h:LnIs st x (t::B) g) (hg0:g < 1000000):aZ Go.Proofs.Try.prog n_f83 [.ptr x.l 0] st (fun r st'=>r = .tup [.lit (.int .i64 t),.lit (.bool true)]∧LnIs st' x B g∧Oth st st' x.ids):=by
  have hg:=h.get
  obtain ⟨L,hL,hq,m,hm,hl⟩:=h.qi
  obtain ⟨⟨u,t'⟩,L,rfl⟩:∃ a L',L = a::L':=by
    cases L with
    | nil=>simp [er] at hL
    | cons a L=>exact ⟨a,L,rfl⟩
  obtain ⟨rfl,rfl⟩:t' = t∧er L = B:=by simpa [er] using hL
  obtain ⟨i1,i2,i3,i4,i5⟩:=h.ids
  refine aX hmix k_f83 rfl rfl fun Q hQ=>?_
  unfold aFun c_f83
  simp (config:=KF) (disch:=omega) only [bZ,aw,aq,aM,ao,ar,aS,addA,ag,ev_f,putS,Sf.set,Sf.reg,getR,setR,aa,aO,id,List.drop_zero,↓reduceIte,Nat.reduceEqDiff,reduceCtorEq,Nat.add_zero,f83_1e,f83_2e,f83_2l,f83_3e,f83_4e,f83_4l,hg]
  refine ba rfl e_f86 (qpop_calls hq (by omega)) rfl fun r st1 hr=>?_
  obtain ⟨rfl,hq1,ho1⟩:=hr
  have hg1:st1.get x.l = _:=(ho1.get (by simp; omega)).trans hg
  have hm1:=hm.oth ho1 (by simp; omega)
  simp (config:=KF) (disch:=omega) only [bZ,bJ,aw,aq,aM,az,o_del,extV,ar,aS,addA,ag,putS,Sf.set,Sf.reg,getR,setR,aa,Sf.disAt,cr,bp,bk,List.getElem?_cons_zero,List.getElem?_cons_succ,List.drop_zero,List.drop_succ_cons,↓reduceIte,Nat.reduceEqDiff,reduceCtorEq,Nat.zero_add,f83_5e,f83_6e,f83_6l,hg1]
  refine kc hm1 fun st2 hm2 ho2=>?_
  simp (config:=KF) (disch:=omega) only [bZ,retI,resI,resL,az,bW,putS,Sf.set,Sf.reg,getR,setR,aa,Sf.disAt,aT,List.all_cons,List.all_nil,↓reduceIte,Nat.reduceEqDiff,Bool.true_and,Bool.and_true,and_true,true_and,reduceCtorEq,decide_true,f83_7e,f83_8e,f83_8l]
  have ho:Oth st st2 x.ids:=(ho1.mono (by simp [Ln.ids])).trans (ho2.mono (by simp [Ln.ids]))
  exact hQ _ _ ⟨rfl,h.cut (A:=[]) hl hm.nd (hq1.oth ho2 (by simp; omega) (by simp; omega)) hm2 (((ho2.get (by simp; omega)).trans hg1).trans hg.symm),ho⟩

/-- What cancel comes to. -/
def lCan (T:List Int) (t:Int):List Int×Int:=if t < 0∨64≤t then (T,2) else if t ∉ T then (T,9) else (T.filter (·≠t),0)
theorem filter_at {A B:List Int} {t:Int} (hnd:(A++t::B).Nodup):(A++t::B).filter (·≠t) = A++B:=by
  obtain ⟨_,h2,h3⟩:=List.nodup_append.1 hnd
  have hB:=(List.nodup_cons.1 h2).1
  rw [List.filter_append,List.filter_cons_of_neg (by simp)]
  congr 1
  · refine List.filter_eq_self.2 fun v hv=>?_
    have:=h3 v hv t (by simp)
    simpa using this
  · refine List.filter_eq_self.2 fun v hv=>?_
    have:v≠t:=fun e=>hB (e ▸ hv)
    simpa using this

theorem go (h:LnIs st x T g) (hg0:g < 1000000) (t:Int):aZ Go.Proofs.Try.prog n_f75 [.ptr x.l 0,.lit (.int .i64 t)] st (fun r st' =>
    r = .lit (.int .i64 (lCan T t).2)∧LnIs st' x (lCan T t).1 g∧Oth st st' x.ids):=by
  have hg:=h.get
  have hh:=n4 h t
  refine aX hmix k_f75 rfl rfl fun Q hQ=>?_
  unfold aFun c_f75
  unfold lCan at hQ
  by_cases hb:t < 0∨64≤t
  · rw [if_pos hb] at hQ
    have hr:=hQ _ _ ⟨rfl,h,.refl ..⟩
    by_cases h1:t < 0
    · simp (config:=KF) (disch:=omega) only [bZ,retI,aL,c5,AI.dst,cL,bu,dv,bS,putS,Sf.set,Sf.reg,getR,setR,aa,aO,↓reduceIte,Nat.reduceEqDiff,Bool.true_and,true_and,reduceCtorEq,Nat.zero_add,Bool.false_eq_true,fI,f75_1e,f75_2e,f75_2l,f75_3e,f75_4e,f75_5e,f75_5l,f75_6e,f75_7e,f75_8e,f75_8l]
      exact hr
    · have h2:64≤t:=by omega
      simp (config:=KF) (disch:=omega) only [bZ,retI,aL,AI.dst,bh,bu,bA,bS,ep,putS,Sf.set,Sf.reg,getR,setR,aa,aO,↓reduceIte,Nat.reduceEqDiff,Bool.true_and,true_and,reduceCtorEq,Nat.zero_add,Bool.false_eq_true,bq,dl,f75_1e,f75_2e,f75_2l,f75_3e,f75_4e,f75_5e,f75_5l,f75_6e,f75_7e,f75_8e,f75_8l]
      exact hr
  rw [if_neg hb] at hQ
  by_cases hm0:t ∉ T
  · rw [if_pos hm0] at hQ
    rw [decide_eq_false hm0] at hh
    simp (config:=KF) (disch:=omega) only [bZ,aL,AI.dst,bh,bu,ao,bA,bS,ep,ev_f,putS,Sf.set,Sf.reg,getR,setR,aa,aO,id,↓reduceIte,Nat.reduceEqDiff,reduceCtorEq,Nat.zero_add,Bool.false_eq_true,bH,dl,f75_1e,f75_2e,f75_2l,f75_3e,f75_4e,f75_5e,f75_5l,f75_6e,f75_9e,f75_10e,f75_11e,f75_11l]
    refine aF rfl e_f81 hh rfl ?_
    simp (config:=KF) (disch:=omega) only [bZ,retI,o_un,unA,putS,Sf.set,Sf.reg,getR,setR,aa,↓reduceIte,Nat.reduceEqDiff,Bool.true_and,true_and,reduceCtorEq,Bool.not_false,f75_12e,f75_13e,f75_14e,f75_14l]
    exact hQ _ _ ⟨rfl,h,.refl ..⟩
  rw [if_neg hm0] at hQ
  have hm1:=Decidable.not_not.1 hm0
  rw [decide_eq_true hm1] at hh
  obtain ⟨L,hL,hq,m,hm,hl⟩:=h.qi
  obtain ⟨A',B',hAB⟩:=List.append_of_mem hm1
  rw [hAB] at hL
  obtain ⟨A,B0,rfl,hA,hB0⟩:=List.map_eq_append_iff.1 hL
  obtain ⟨⟨u,t'⟩,B,rfl,ht',hB⟩:=List.map_eq_cons_iff.1 hB0
  simp only at ht'
  subst ht'
  have hTe:T = er A++t'::er B:=by rw [hAB,← hA,← hB]; rfl
  subst hTe
  rw [filter_at h.nd] at hQ
  have hn1:(ck (entB A++(t',u)::entB B)).Nodup:=by
    have:=iN (A++(u,t')::B)
    rw [ii] at this
    rw [show entB A++(t',u)::entB B = entB A++entB ((u,t')::B) from rfl,this,gT]
    exact h.nd
  obtain ⟨s1,_⟩:=ic hn1
  have hk:∀ z,de (.int .i64) z false st (.map x.tid) (.lit (.int .i64 t')) = .ok (.lit (.int .u64 (u:Nat))):=fun z=>by
    have h1:bt t' (entB (A++(u,t')::B)) = some u:=by rw [ii]; exact s1
    rw [d1 hm,hl,h1]; rfl
  obtain ⟨i1,i2,i3,i4,i5⟩:=h.ids
  simp (config:=KF) (disch:=omega) only [bZ,aL,AI.dst,bh,bu,ao,bA,bS,ep,ev_f,putS,Sf.set,Sf.reg,getR,setR,aa,aO,id,↓reduceIte,Nat.reduceEqDiff,reduceCtorEq,Nat.zero_add,Bool.false_eq_true,bH,dl,f75_1e,f75_2e,f75_2l,f75_3e,f75_4e,f75_5e,f75_5l,f75_6e,f75_9e,f75_10e,f75_11e,f75_11l]
  refine aF rfl e_f81 hh rfl ?_
  simp (config:=KF) (disch:=omega) only [bZ,dy,cp,dc,bV,bY,c8,fK,bC,cf,o_un,ao,ar,aS,addA,ag,unA,ev_f,putS,Sf.set,Sf.reg,getR,setR,aa,br,id,cr,List.drop_zero,List.drop_succ_cons,↓reduceIte,Nat.reduceEqDiff,reduceCtorEq,Nat.zero_add,Nat.add_zero,Bool.not_true,f75_12e,f75_15e,f75_16e,f75_16h,f75_16l,hg,hk]
  refine ba rfl e_f84 (jm (A:=A) (B:=B) hq (by omega)) rfl fun r st1 hr=>?_
  obtain ⟨rfl,hq1,ho1⟩:=hr
  have hg1:st1.get x.l = _:=(ho1.get (by simp; omega)).trans hg
  have hm1:=hm.oth ho1 (by simp; omega)
  simp (config:=KF) (disch:=omega) only [bZ,aw,aq,aM,o_del,ar,aS,addA,ag,putS,Sf.set,Sf.reg,getR,setR,aa,cr,List.drop_zero,List.drop_succ_cons,↓reduceIte,Nat.reduceEqDiff,reduceCtorEq,Nat.zero_add,f75_17e,f75_18e,f75_18l,hg1]
  refine kc hm1 fun st2 hm2 ho2=>?_
  simp (config:=KF) (disch:=omega) only [bZ,retI,putS,Sf.set,Sf.reg,getR,setR,aa,↓reduceIte,Bool.true_and,true_and,f75_19e,f75_20e,f75_20l]
  have ho:Oth st st2 x.ids:=(ho1.mono (by simp [Ln.ids])).trans (ho2.mono (by simp [Ln.ids]))
  exact hQ _ _ ⟨rfl,h.cut hl hm.nd (hq1.oth ho2 (by simp; omega) (by simp; omega)) hm2 (((ho2.get (by simp; omega)).trans hg1).trans hg.symm),ho⟩
end
end Go.Fx.YtphaaebhgggbaaaFx

