/- What the functions that the statement reaches compute: part 33. -/
import Derived.Test.YtbomoaajkinfpaaFxW32
namespace Go.Fx.YtbomoaajkinfpaaFx
open Go Go.Fx
attribute [local irreducible] aC runI aB aE

set_option maxRecDepth 100000
set_option maxHeartbeats 4000000

/-! The reference: its channels lie in a buffer. -/
abbrev Ch3:=Nat×List Int×Bool
def chC:List Ch3→List AV→List AV
  | c::cs,b::bs=>.lit (.int .i64 (c.1:Nat))::b::.lit (.bool c.2.2)::chC cs bs
  | _,_=>[]
theorem kj:∀ {ch:List Ch3} {bs:List AV},bs.length = ch.length→(chC ch bs).length = ch.length * 3
  | [],[],_=>rfl
  | c :: cs, b :: bs, h => by
    have:=kj (ch:=cs) (bs:=bs) (by simpa using h)
    simp only [chC,List.length_cons,this]; omega
theorem nF (c:Ch3) (b:AV):∀ {ch:List Ch3} {bs:List AV},bs.length = ch.length→chC (ch++[c]) (bs++[b]) = chC ch bs++[.lit (.int .i64 (c.1:Nat)),b,.lit (.bool c.2.2)]
  | [],[],_=>rfl
  | d :: cs, e :: bs, h => by
    have:=nF c b (ch:=cs) (bs:=bs) (by simpa using h)
    simp only [List.cons_append,chC,this]
theorem nG:∀ {ch:List Ch3} {bs:List AV} (_:bs.length = ch.length) {i:Nat} (h:i < ch.length) (r:List AV),(chC ch bs++r).drop (i * 3) = .lit (.int .i64 (ch[i].1:Nat))::bs.getD i .any::.lit (.bool ch[i].2.2)::(chC ch bs++r).drop ((i + 1) * 3)
  | [],_,_,_,h,_=>by simp at h
  | c::cs,b::bs,hl,0,_,r=>by simp [chC]
  | c :: cs, b :: bs, hl, i + 1, h, r => by
    have:=nG (ch:=cs) (bs:=bs) (by simpa using hl) (i:=i) (by simpa using h) r
    simp only [chC,List.cons_append,List.getElem_cons_succ,List.getD_cons_succ]
    rw [show (i + 1) * 3 = i * 3 + 1 + 1 + 1 by omega,show (i + 1 + 1) * 3 = (i + 1) * 3 + 1 + 1 + 1 by omega]
    simp only [List.drop_succ_cons]
    exact this

/-- Numbers, also in the middle of a buffer. -/
def JV (v:AV) (st:St) (l:List Int):Prop:=IV v st l∨∃ id off cap r0 r,v = .bs id 1 off l.length cap∧st.get id = some (r0++(ints l++r))∧r0.length = off
theorem JV.facts {v:AV} {st:St} {l:List Int} (h:JV v st l):v.dis = v∧v.own1 = v∧v.own2 = v∧v.solid1 = true∧v.noL = true∧v.cells = [v]∧(∀ s,kill s v = v)∧∀ st',lenI .sl st' v = .ok (.lit (.int .i64 (l.length:Nat))):=by
  rcases h with h | ⟨id,off,cap,r0,r,rfl,_⟩
  · exact h.facts
  · exact ⟨rfl,rfl,rfl,rfl,rfl,rfl,fun _=>rfl,fun _=>rfl⟩
theorem JV.at {v:AV} {st st':St} {l:List Int} (h:JV v st l) (hb:∀ x ∈ ae v,st'.boxes[x]? = st.boxes[x]?):JV v st' l:=by
  rcases h with h | ⟨id,off,cap,r0,r,rfl,hg,hl⟩
  · exact .inl (h.at hb)
  · exact .inr ⟨id,off,cap,r0,r,rfl,(bz (hb id (by simp [ae]))).trans hg,hl⟩
theorem JV.src {v:AV} {st:St} {l:List Int} (h:JV v st l) {K:List AV→Prop} (hK:K (ints l)):(srcA st 1 v).wp K:=by
  rcases h with ((rfl | rfl) | h) | ⟨id,off,cap,r0,r,rfl,hg,hl⟩
  · unfold intS
    split
    · rename_i e; subst e; exact hK
    · exact hK
  · exact hK
  · obtain ⟨r,hr,hq⟩:=h.src
    rw [hr]; exact hq K hK
  · show (cx st id 1 off l.length).wp K
    unfold cx
    rw [hg]
    show _∧_
    refine ⟨by simp [ak,hl],?_⟩
    rw [← hl,List.drop_left,pX (by simp [ak]),← ak l,List.take_left]
    exact hK

/-- The same, as a cell k9 it. -/
def CJ (b:AV) (st:St) (l:List Int):Prop:=JV b st l∨b = .sl true 1 []∧l = []
theorem CJ.ex {b:AV} {st:St} {l:List Int} (h:CJ b st l):∃ b',b.own1 = b'∧b.dis = b'∧JV b' st l:=by
  rcases h with h | ⟨rfl,rfl⟩
  · obtain ⟨f1,f2,_⟩:=h.facts
    exact ⟨b,f2,f1,h⟩
  · exact ⟨.sl false 1 [],rfl,rfl,.inl (.inl (.inr rfl))⟩
theorem CJ.at {b:AV} {st st':St} {l:List Int} (h:CJ b st l) (hb:∀ x ∈ ae b,st'.boxes[x]? = st.boxes[x]?):CJ b st' l:=h.imp (fun h=>h.at hb) _root_.id

def RefC (cv:AV) (st:St) (ch:List Ch3) (F:List Nat):Prop:=∃ bs:List AV,bs.length = ch.length∧KB 3 cv st (chC ch bs) ch.length∧(∀ (i:Nat) b c,bs[i]? = some b→ch[i]? = some c→CJ b st c.2.1)∧(∀ x ∈ ae cv,x ∈ F)∧∀ b ∈ bs,∀ x ∈ ae b,x ∈ F

section
variable {cv:AV} {st st':St} {ch:List Ch3} {F:List Nat}
theorem RefC.at (h:RefC cv st ch F) (hat:∀ x ∈ F,st'.boxes[x]? = st.boxes[x]?):RefC cv st' ch F:=by
  obtain ⟨bs,h1,h2,h3,h4,h5⟩:=h
  exact ⟨bs,h1,h2.at fun x hx=>hat x (h4 x hx),fun i b c hb hc=>(h3 i b c hb hc).at fun x hx=>hat x (h5 b (List.mem_of_getElem? hb) x hx),h4,h5⟩
theorem RefC.isCh (h:RefC cv st ch F):AV.isCh cv:=by
  obtain ⟨bs,h1,h2,h3,h4,h5⟩:=h
  obtain ⟨a1,a2,a3,a4,a5,a6,a7,a8⟩:=h2.facts
  exact ⟨a1,a2,a3,a4,a5,a6,a7⟩
theorem RefC.len (h:RefC cv st ch F):∀ st',lenI .sl st' cv = .ok (.lit (.int .i64 (ch.length:Nat))):=by
  obtain ⟨bs,h1,h2,h3,h4,h5⟩:=h
  obtain ⟨a1,a2,a3,a4,a5,a6,a7,a8⟩:=h2.facts
  exact a8
/-- One of the channels. -/
theorem RefC.get (h:RefC cv st ch F) {i:Nat} (hi:i < ch.length):∃ bi cap cs b,cv = .bs bi 3 0 ch.length cap∧st.get bi = some cs∧cs.drop (i * 3) = .lit (.int .i64 (ch[i].1:Nat))::b::.lit (.bool ch[i].2.2)::cs.drop ((i + 1) * 3)∧CJ b st ch[i].2.1∧(i + 1) * 3≤cs.length:=by
  obtain ⟨bs,h1,h2,h3,h4,h5⟩:=h
  rcases h2 with ⟨_,_,e⟩ | ⟨bi,cap,r,rfl,hg,q1,q2,q3⟩
  · omega
  · refine ⟨bi,cap,_,bs.getD i .any,rfl,hg,nG h1 hi r,h3 i _ _ ?_ (List.getElem?_eq_getElem hi),?_⟩
    · rw [List.getD_eq_getElem?_getD,List.getElem?_eq_getElem (by omega)]; rfl
    · rw [List.length_append,q1]; omega
end

theorem cD {cv:AV} (h:AV.isCh cv) (ws:List Wt):(AV.agg [cv,wtS ws]).dis = .agg [cv,wtS ws]∧(AV.agg [cv,wtS ws]).noL = true:=by
  obtain ⟨c1,c2,c3,c4,c5,c6,c7⟩:=h
  obtain ⟨w1,w2,w3,w4,w5,w6,w7,w8⟩:=aw ws
  constructor
  · rw [eS,List.map_cons,List.map_cons,c2,w2,List.map_nil]
  · simp only [iH,List.all_cons,List.all_nil,c5,w5,Bool.and_true]

theorem first_qD (ws:List Wt) (i:Int) (d:Bool):(decide ((cd (bJ i d ws)).1 ≥ 0)) = decide (qD ws i d≠[]):=by
  refine decide_eq_decide.2 ?_
  cases h:ws.findIdx? fun w=>w.2.any (onC i d) with
  | none =>
    have e:bJ i d ws = none:=by unfold bJ; rw [h]; rfl
    rw [e]
    have:qD ws i d = []:=by
      unfold qD
      rw [List.filterMap_eq_nil_iff]
      intro w hw
      have:=List.findIdx?_eq_none_iff.1 h w hw
      unfold qW
      rw [List.find?_eq_none.2]
      · rfl
      · intro x hx
        have:=List.any_eq_false.1 this x hx
        exact this
    rw [this]
    simp [cd]
  | some a =>
    obtain ⟨k,e⟩:∃ k,bJ i d ws = some (a,k):=by unfold bJ; rw [h]; exact ⟨_,rfl⟩
    rw [e]
    obtain ⟨ha,hy,_⟩:=List.findIdx?_eq_some_iff_getElem.1 h
    have:qD ws i d≠[]:=by
      unfold qD
      intro hn
      have:=List.filterMap_eq_nil_iff.1 hn ws[a] (List.getElem_mem ha)
      unfold qW at this
      rw [Option.map_eq_none_iff,List.find?_eq_none] at this
      obtain ⟨x,hx,hxo⟩:=List.any_eq_true.1 hy
      exact this x hx hxo
    simp only [cd,ne_eq,this,not_false_eq_true,iff_true]
    omega

section
variable {cv:AV} {st:St} {R:RS} {F:List Nat}
theorem qh (h:RefC cv st R.ch F) (hwl:R.ws.length < 100000) (hll:∀ w ∈ R.ws,w.2.length < 100000) {x:Cs} (hx:0≤x.1∧x.1 < (R.ch.length:Int)):aD Go.Proofs.Try.prog n_f64 [rfA cv R.ws,csAV x] st (.lit (.bool (rdyR R x))):=by
  obtain ⟨c1,c2,c3,c4,c5,c6,c7⟩:=h.isCh
  obtain ⟨w1,w2,w3,w4,w5,w6,w7,w8⟩:=aw R.ws
  obtain ⟨i,hi⟩:∃ i:Nat,x.1 = (i:Int):=⟨x.1.toNat,by omega⟩
  obtain ⟨xi,xs,xv⟩:=x
  simp only at hi hx
  subst hi
  have hil:i < R.ch.length:=by omega
  have hat:atR R (i:Int) = R.ch[i]:=by unfold atR; rw [if_neg (by omega),Int.toNat_natCast]; simp [hil]
  have hf:=eK h.isCh R.ws hwl hll (i:Int) (!xs) st
  have hfq:=first_qD R.ws (i:Int) (!xs)
  simp only [rfA] at hf
  obtain ⟨bi,cap,cs,b,hcv,hg,hd,hb,hle⟩:=h.get hil
  obtain ⟨b',bo,bd,hb⟩:=hb.ex
  obtain ⟨b1,b2,b3,b4,b5,b6,b7,b8⟩:=hb.facts
  refine am hmix k_f64 rfl rfl fun Q hQ=>?_
  unfold aFun c_f64
  subst hcv
  obtain ⟨r1,r2⟩:=cD h.isCh R.ws
  simp (config:=KF) (disch:=omega) only [bZ,cC,ixSV,ag,addA,aa,unA,id,↓reduceIte,Nat.reduceEqDiff,Nat.reduceAdd,Nat.reduceLeDiff,reduceCtorEq,rfA,csAV,c1,c2,c4,c7,w2,w4,hg,hd,bo,b2,b4]
  refine aj (by simp only [List.map_cons,List.map_nil,r1]; rfl) e_f76 hf (by simp only [List.all_cons,List.all_nil,r2]; rfl) ?_
  generalize cd (bJ (i:Int) (!xs) R.ws) = P at hfq ⊢
  unfold rdyR at hQ
  simp only [hat] at hQ
  cases xs with
  | true =>
    simp only [if_true,Bool.not_true] at hQ hfq
    simp (config:=KF) (disch:=omega) only [bZ,AI.dst,addA,aa,↓reduceIte,Nat.reduceEqDiff]
    cases hcl:R.ch[i].2.2 with
    | true =>
      rw [hcl] at hQ
      simp (config:=KF) (disch:=omega) only [bZ,retI,AI.dst,↓reduceIte,Nat.reduceEqDiff]
      exact hQ _
    | false =>
      rw [hcl,← hfq] at hQ
      simp (config:=KF) (disch:=omega) only [bZ,AI.dst,cF,↓reduceIte,Nat.reduceEqDiff]
      refine aK (fun h1=>?_) (fun h1=>?_)
      · rw [decide_eq_true h1] at hQ
        simp (config:=KF) (disch:=omega) only [bZ,retI,AI.dst,↓reduceIte,Nat.reduceEqDiff]
        exact hQ _
      · rw [decide_eq_false h1] at hQ
        simp (config:=KF) (disch:=omega) only [bZ,retI,AI.dst,addA,aa,↓reduceIte,Nat.reduceEqDiff,b1,b8]
        simpa using hQ st
  | false =>
    simp only [Bool.false_eq_true,if_false,Bool.not_false] at hQ hfq
    simp (config:=KF) (disch:=omega) only [bZ,AI.dst,addA,aa,↓reduceIte,Nat.reduceEqDiff]
    cases hcl:R.ch[i].2.2 with
    | true =>
      rw [hcl] at hQ
      simp (config:=KF) (disch:=omega) only [bZ,retI,AI.dst,↓reduceIte,Nat.reduceEqDiff]
      exact hQ _
    | false =>
      rw [hcl,← hfq] at hQ
      simp (config:=KF) (disch:=omega) only [bZ,AI.dst,cF,↓reduceIte,Nat.reduceEqDiff]
      refine aK (fun h1=>?_) (fun h1=>?_)
      · rw [decide_eq_true h1] at hQ
        simp (config:=KF) (disch:=omega) only [bZ,retI,AI.dst,↓reduceIte,Nat.reduceEqDiff]
        exact hQ _
      · rw [decide_eq_false h1] at hQ
        simp (config:=KF) (disch:=omega) only [bZ,retI,AI.dst,addA,aa,dA,↓reduceIte,Nat.reduceEqDiff,b1,b8]
        simpa [GT.gt] using hQ st

theorem kl (h:RefC cv st R.ch F) (hwl:R.ws.length < 100000) (hll:∀ w ∈ R.ws,w.2.length < 100000) {l:List Cs} (hl:l.length < 100000) (hx:∀ x ∈ l,0≤x.1∧x.1 < (R.ch.length:Int)):aD Go.Proofs.Try.prog n_f49 [rfA cv R.ws,.sl false 3 (l.map csAV)] st (intS (aJ R 0 l)):=by
  obtain ⟨c1,c2,c3,c4,c5,c6,c7⟩:=h.isCh
  obtain ⟨w1,w2,w3,w4,w5,w6,w7,w8⟩:=aw R.ws
  have hrl:∀ (l:List Cs) k,(aJ R k l).length≤l.length:=fun l=>by
    induction l with
    | nil=>intro k; simp [aJ]
    | cons x l ih=>intro k; have:=ih (k + 1); simp only [aJ,List.length_append,List.length_cons]; split <;> simp <;> omega
  refine am hmix k_f49 rfl rfl fun Q hQ=>?_
  unfold aFun c_f49
  simp (config:=KF) (disch:=omega) only [bZ,cC,bS,↓reduceIte,Nat.reduceEqDiff,Nat.reduceAdd,reduceCtorEq,rfA,c2,c4,w2,w4]
  rw [f49_9w]
  refine aX (A:=Nat×List Int) (fun a=>l.length - a.1) (fun a=>⟨[(1,.sl false 3 (l.map csAV)),(2,.lptr 2 0),(5,oint a.2),(6,.lit (.int .i64 (a.1:Nat)))],[(2,[cv,wtS R.ws])]⟩) (fun _=>st)
    (fun a=>a.1≤l.length∧aJ R 0 l = a.2++aJ R a.1 (l.drop a.1)) (0,[]) ⟨Nat.zero_le _,rfl⟩ (Sf.le_refl _) rfl ?_
  rintro ⟨k,out⟩ ⟨h1,h2⟩ K hK hKe hKr
  simp only at h1 h2
  try dsimp only
  by_cases hk:k < l.length
  · rw [List.drop_eq_getElem_cons hk] at h2
    simp only [aJ] at h2
    have hol:out.length < 100000:=by
      have:=congrArg List.length h2
      have h3:=hrl l 0
      simp only [List.length_append] at this
      omega
    have hgd:(l.map csAV).getD k .any = csAV l[k]:=by simp [hk]
    obtain ⟨r1,r2⟩:=cD h.isCh R.ws
    have hr:=qh h hwl hll (hx l[k] (List.getElem_mem hk))
    simp only [rfA,csAV] at hr
    have hne:out++[(k:Int)]≠[]:=by simp
    cases hb:rdyR R l[k] with
    | false =>
      rw [hb] at h2 hr
      have hnx:=fun sf=>hK (k + 1,out) sf ⟨by simp only; omega,by simpa using h2⟩ (by simp only; omega)
      rcases cO out with ⟨e,e2⟩ | ⟨e,e2⟩
      all_goals
        simp only [e] at hnx ⊢
        simp (config:=KF) (disch:=omega) only [bZ,bW,ixSV,lenI,aa,id,↓reduceIte,Nat.reduceEqDiff,Nat.reduceAdd,Nat.reduceLeDiff,c2,w2,hgd,csAV]
        refine aj (by simp only [List.map_cons,List.map_nil,r1]; rfl) e_f64 hr (by simp only [List.all_cons,List.all_nil,r2]; rfl) ?_
        simp (config:=KF) (disch:=omega) only [bZ,↓reduceIte,Nat.reduceEqDiff]
        exact hnx _ (Sf.le_refl _)
    | true =>
      rw [hb] at h2 hr
      have hnx:=fun sf=>hK (k + 1,out++[(k:Int)]) sf ⟨by simp only; omega,by simpa using h2⟩ (by simp only; omega)
      simp only [oint,if_neg hne] at hnx
      rw [ed] at hnx
      rcases cO out with ⟨e,e2⟩ | ⟨e,e2⟩
      all_goals
        simp only [e]
        simp (config:=KF) (disch:=omega) only [bZ,bW,ixSV,lenI,aa,id,↓reduceIte,Nat.reduceEqDiff,Nat.reduceAdd,Nat.reduceLeDiff,c2,w2,hgd,csAV]
        refine aj (by simp only [List.map_cons,List.map_nil,r1]; rfl) e_f64 hr (by simp only [List.all_cons,List.all_nil,r2]; rfl) ?_
        simp (config:=KF) (disch:=omega) only [bZ,dZ,eO,List.reduceReplicate,bR,cK,srcA,cR,↓reduceIte,Nat.reduceEqDiff,Nat.reduceLT,ba,ak]
        refine hnx _ ?_
        first | (rw [e2]; exact Sf.le_refl _) | exact Sf.le_refl _
  · have hd:l.drop k = []:=List.drop_of_length_le (by omega)
    rw [hd] at h2
    simp only [aJ,List.append_nil] at h2
    rw [h2] at hQ
    rcases cO out with ⟨e,e2⟩ | ⟨e,e2⟩
    all_goals
      simp only [e]
      simp (config:=KF) (disch:=omega) only [bZ,lenI,↓reduceIte,Nat.reduceEqDiff]
      refine hKe _ _ _ ?_
      simp (config:=KF) (disch:=omega) only [bZ,retI,eM,↓reduceIte,Nat.reduceEqDiff]
      unfold intS at hQ
      first | rw [if_pos e2] at hQ | rw [if_neg e2] at hQ
      exact hQ _
end
end Go.Fx.YtbomoaajkinfpaaFx

