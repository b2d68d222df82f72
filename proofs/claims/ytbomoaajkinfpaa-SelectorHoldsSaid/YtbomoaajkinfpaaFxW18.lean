/- What the functions that the statement reaches compute: part 18. -/
import Derived.Test.YtbomoaajkinfpaaFxW17
namespace Go.Fx.YtbomoaajkinfpaaFx
open Go Go.Fx
attribute [local irreducible] aC runI aw aB

set_option maxRecDepth 100000
set_option maxHeartbeats 4000000

def oint (l:List Int):AV:=if l = [] then .lit (.slice none 0 0) else .sl true 1 (ints l)
theorem nH (l:List Int) (s:Nat):kill s (oint l) = oint l:=by unfold oint; split <;> rfl
def intS (l:List Int):AV:=if l = [] then .lit (.slice none 0 0) else .sl false 1 (ints l)
theorem fY (l:List Int):(oint l = .lit (.slice none 0 0)∧l = [])∨(oint l = .sl true 1 (ints l)∧l≠[]):=by
  unfold oint
  by_cases h:l = []
  · rw [if_pos h]; exact .inl ⟨rfl,h⟩
  · rw [if_neg h]; exact .inr ⟨rfl,h⟩
theorem c9 (l:List Int):(intS l).dis = intS l∧(intS l).own1 = intS l∧(intS l).own2 = intS l∧(intS l).solid1 = true∧(intS l).noL = true∧(intS l).cells = [intS l]∧(∀ s,kill s (intS l) = intS l)∧∀ st',lenI .sl st' (intS l) = .ok (.lit (.int .i64 (l.length:Nat))):=by
  unfold intS
  split
  · rename_i h; subst h; exact ⟨rfl,rfl,rfl,rfl,rfl,rfl,fun _=>rfl,fun _=>rfl⟩
  · exact ⟨rfl,rfl,rfl,rfl,rfl,rfl,fun _=>rfl,fun _=>by simp [lenI,al]⟩
def rdyC (c:CL) (x:Cs):Bool:=if x.2.1 = true then c.P.closed || (decide (0 < c.P.V.length) || decide (c.P.buf.length < c.P.cap)) else c.P.closed || (decide (0 < c.P.S.length) || decide (0 < c.P.buf.length))
def rdyL (L:List CL) (x:Cs):Bool:=match L[x.1.toNat]? with | some c=>rdyC c x | none=>false
def rdyX (L:List CL):Nat→List Cs→List Int
  | _,[]=>[]
  | k,x::l=>(if rdyL L x = true then [(k:Int)] else [])++rdyX L (k + 1) l

section
variable {st:St} {s mid:Nat} {cv ov:AV} {L:List CL} {ws:List Wt}

theorem ml (h:SelIs st s mid cv ov L ws) {v:AV} {x:Cs} {k i:Nat} {c:CL} (hx:x.1 = (i:Int)) (hc:L[i]? = some c) {out:List Int} (ho:out.length < 100000) {a b:AV} {K:Exit→Sf→St→Prop} (v2:v.dis = v) (a2:a.dis = a) (b2:b.dis = b)
    (hK0:rdyL L x = false→K .normal ⟨[(0,.ptr s 0),(5,oint out),(6,.lit (.int .i64 (k:Nat))),(12,v),(13,a),(14,b),(58,.lit (.bool false))],[]⟩ st)
    (hK1:rdyL L x = true→K .normal ⟨[(0,.ptr s 0),(5,oint (out++[(k:Int)])),(12,v),(13,a),(14,b)],[]⟩ st) :
    aC Go.Proofs.Try.prog id true f54_18 ⟨[(0,.ptr s 0),(5,oint out),(6,.lit (.int .i64 (k:Nat))),(7,.lptr 7 0),(12,v),(13,a),(14,b)],[(7,[.lit (.int .i64 x.1),.lit (.bool x.2.1),.lit (.int .i64 x.2.2)])]⟩ st K:=by
  have hg:=h.get
  obtain ⟨u1,u2,u3,u4,u5,u6,u7,u8⟩:=h.chs.facts
  have hil:=(List.getElem?_eq_some_iff.1 hc).1
  have his:=h.each c (List.mem_of_getElem? hc)
  have hrd:rdyL L x = rdyC c x:=by unfold rdyL; rw [hx,Int.toNat_natCast,hc]
  rw [hrd] at hK0 hK1
  have hbuf:=h.chs
  rcases hbuf with ⟨rfl,e,e2⟩ | ⟨bi,cap,r,rfl,hgb,h3,h4,h5⟩
  · omega
  have hpd:=ez hc r
  rw [hx]
  simp (config:=KF) (disch:=omega) only [bZ,aU,ixSV,ai,addA,aa,bY,↓reduceIte,Nat.reduceEqDiff,reduceCtorEq,f54_18e,hg,hgb,hpd]
  have hret:∀ (q:Bool) rg,q = rdyC c x→(rg = [(0,.ptr s 0),(5,oint out),(6,.lit (.int .i64 (k:Nat))),(11,.lit (.bool q)),(12,v),(13,a),(14,b)]∨rg = [(0,.ptr s 0),(5,oint out),(6,.lit (.int .i64 (k:Nat))),(8,.ptr c.c 0),(10,.lit (.int .i64 (c.P.V.length:Nat))),(11,.lit (.bool q)),(12,v),(13,a),(14,b),(44,.lit (.bool false))]) →
      aC Go.Proofs.Try.prog id true f54_29 ⟨rg,[]⟩ st K:=fun q rg hq hrg=>by
    subst hq
    rcases fY out with ⟨e,e2⟩ | ⟨e,e2⟩
    all_goals
      rw [e] at hrg hK0
      cases hb:rdyC c x
      · rw [hb] at hrg
        have:=hK0 hb
        rcases hrg with rfl | rfl
        all_goals
          simp (config:=KF) (disch:=omega) only [bZ,↓reduceIte,Nat.reduceEqDiff,reduceCtorEq,f54_29e]
          exact this
      · rw [hb] at hrg
        have hne:out++[(k:Int)]≠[]:=by simp
        have:=hK1 hb
        simp only [oint,if_neg hne] at this
        rcases hrg with rfl | rfl
        all_goals
          simp (config:=KF) (disch:=omega) only [bZ,cY,iC,bslV,i0,List.isEmpty_cons,List.reduceReplicate,eg,dC,srcA,bL,eM,↓reduceIte,Nat.reduceEqDiff,Nat.reduceLT,reduceCtorEq,cy,f54_29e,al]
          first | (subst e2; exact this) | (rw [gC] at this; exact this)
  obtain ⟨xi,xs,xv⟩:=x
  simp only at hret hx ⊢
  simp (config:=KF) (disch:=omega) only [bZ,id,↓reduceIte,Nat.reduceEqDiff,reduceCtorEq,f54_20e]
  refine ao rfl e_f68 (mQ his) rfl ?_
  simp (config:=KF) (disch:=omega) only [bZ,id,↓reduceIte,Nat.reduceEqDiff,reduceCtorEq]
  refine ao rfl e_f22 (jt his) rfl ?_
  have fin:∀ q1:Bool,q1 = (c.P.closed || (decide (0 < c.P.S.length) || decide (0 < c.P.buf.length)))→aC Go.Proofs.Try.prog id true f54_24
      ⟨[(0,.ptr s 0),(5,oint out),(6,.lit (.int .i64 (k:Nat))),(7,.lptr 7 0),(8,.ptr c.c 0),(10,.lit (.int .i64 (c.P.V.length:Nat))),(11,.lit (.bool q1)),(12,v),(13,a),(14,b)],[(7,[.lit (.int .i64 (i:Nat)),.lit (.bool xs),.lit (.int .i64 xv)])]⟩ st K:=fun q1 hq1=>by
    cases xs with
    | false =>
      simp (config:=KF) (disch:=omega) only [bZ,addA,aa,↓reduceIte,Nat.reduceEqDiff,reduceCtorEq,f54_24e]
      exact hret q1 _ (by rw [hq1]; simp [rdyC]) (.inr rfl)
    | true =>
      simp (config:=KF) (disch:=omega) only [bZ,addA,aa,id,↓reduceIte,Nat.reduceEqDiff,reduceCtorEq,f54_24e]
      refine ao rfl e_f22 (jt his) rfl ?_
      cases hcl:c.P.closed with
      | true =>
        simp (config:=KF) (disch:=omega) only [bZ,AI.dst,↓reduceIte,Nat.reduceEqDiff,reduceCtorEq]
        exact hret true _ (by simp [rdyC,hcl]) (.inl rfl)
      | false =>
        by_cases hV:0 < c.P.V.length
        · simp (config:=KF) (disch:=omega) only [bZ,AI.dst,dZ,↓reduceIte,Nat.reduceEqDiff,reduceCtorEq,de]
          exact hret true _ (by simp [rdyC,hcl,hV]) (.inl rfl)
        · simp (config:=KF) (disch:=omega) only [bZ,AI.dst,dZ,id,↓reduceIte,Nat.reduceEqDiff,reduceCtorEq,cp]
          refine ao rfl e_f20 (nQ his) rfl ?_
          simp (config:=KF) (disch:=omega) only [bZ,AI.dst,id,↓reduceIte,Nat.reduceEqDiff,reduceCtorEq]
          refine ao rfl e_f69 (ccap_pure his) rfl ?_
          simp (config:=KF) (disch:=omega) only [bZ,AI.dst,↓reduceIte,Nat.reduceEqDiff,reduceCtorEq]
          have hV0:c.P.V = []:=List.eq_nil_of_length_eq_zero (by omega)
          exact hret _ _ (by simp [rdyC,hcl,hV0]) (.inl rfl)
  cases hcl:c.P.closed with
  | true =>
    simp (config:=KF) (disch:=omega) only [bZ,AI.dst,↓reduceIte,Nat.reduceEqDiff,reduceCtorEq]
    exact fin true (by simp [hcl])
  | false =>
    by_cases hS:0 < c.P.S.length
    · simp (config:=KF) (disch:=omega) only [bZ,AI.dst,dZ,↓reduceIte,Nat.reduceEqDiff,reduceCtorEq,de]
      exact fin true (by simp [hcl,hS])
    · simp (config:=KF) (disch:=omega) only [bZ,AI.dst,dZ,id,↓reduceIte,Nat.reduceEqDiff,reduceCtorEq,cp]
      refine ao rfl e_f20 (nQ his) rfl ?_
      simp (config:=KF) (disch:=omega) only [bZ,AI.dst,dZ,↓reduceIte,Nat.reduceEqDiff,reduceCtorEq]
      have hS0:c.P.S = []:=List.eq_nil_of_length_eq_zero (by omega)
      exact fin _ (by simp [hcl,hS0,GT.gt])

theorem ku (h:SelIs st s mid cv ov L ws) {v:AV} {l:List Cs} (hv:CV v st l) (hll:l.length < 100000) (hin:∀ x ∈ l,0≤x.1∧x.1 < (L.length:Int)):aL Go.Proofs.Try.prog n_f54 [.ptr s 0,v] st (intS (rdyX L 0 l)):=by
  obtain ⟨v1,v2,v3,v4,v5,v6,v7,v8⟩:=hv.facts
  refine aD hmix k_f54 rfl rfl fun Q hQ=>?_
  unfold aFun c_f54
  simp (config:=KF) (disch:=omega) only [bZ,↓reduceIte,Nat.reduceEqDiff,reduceCtorEq,v1,v8]
  rw [f54_9w]
  have hrl:∀ (l:List Cs) k,(rdyX L k l).length≤l.length:=fun l=>by
    induction l with
    | nil=>intro k; simp [rdyX]
    | cons x l ih=>intro k; have:=ih (k + 1); simp only [rdyX,List.length_append,List.length_cons]; split <;> simp <;> omega
  refine bj (A:=Nat×List Int) (fun a=>l.length - a.1) (fun a=>⟨[(0,.ptr s 0),(5,oint a.2),(12,v),(13,.lit (.int .i64 (l.length:Nat))),(14,.lit (.int .i64 (a.1:Nat)))],[]⟩) (fun _=>st)
    (fun a=>a.1≤l.length∧rdyX L 0 l = a.2++rdyX L a.1 (l.drop a.1)) (0,[]) ⟨Nat.zero_le _,rfl⟩ (Sf.le_refl _) rfl ?_
  rintro ⟨k,out⟩ ⟨h1,h2⟩ K hK hKe hKr
  simp only at h1 h2
  try dsimp only
  by_cases hk:k < l.length
  · rw [List.drop_eq_getElem_cons hk] at h2
    simp only [rdyX] at h2
    have hol:out.length < 100000:=by
      have:=congrArg List.length h2
      have h3:=hrl l 0
      simp only [List.length_append] at this
      omega
    obtain ⟨r1,r2⟩:=hin l[k] (List.getElem_mem hk)
    obtain ⟨i,hi⟩:∃ i:Nat,l[k].1 = (i:Int):=⟨l[k].1.toNat,by omega⟩
    have hil:i < L.length:=by omega
    have hx:L[i]? = some L[i]:=List.getElem?_eq_getElem hil
    have hK0:rdyL L l[k] = false→K .normal ⟨[(0,.ptr s 0),(5,oint out),(12,v),(13,.lit (.int .i64 (l.length:Nat))),(14,.lit (.int .i64 ((k + 1:Nat):Int)))],[]⟩ st:=fun hb=>by
      rw [hb] at h2
      exact hK (k + 1,out) _ ⟨by simp only; omega,by simpa using h2⟩ (by simp only; omega) (Sf.le_refl _)
    have hK1:rdyL L l[k] = true→K .normal ⟨[(0,.ptr s 0),(5,oint (out++[(k:Int)])),(12,v),(13,.lit (.int .i64 (l.length:Nat))),(14,.lit (.int .i64 ((k + 1:Nat):Int)))],[]⟩ st:=fun hb=>by
      rw [hb] at h2
      exact hK (k + 1,out++[(k:Int)]) _ ⟨by simp only; omega,by simpa using h2⟩ (by simp only; omega) (Sf.le_refl _)
    rcases hv.ne (fun e=>by subst e; simp at hk) with rfl | ⟨_,_,e⟩ | ⟨bi,cap,r,rfl,hgb,h3,h4,h5⟩
    · have hvv:csSl l = .sl false 3 (l.map csAV):=if_neg fun e=>by subst e; simp at hk
      have hgd:(l.map csAV).getD k .any = csAV l[k]:=by simp [hk]
      rw [hvv] at v1 hK0 hK1 ⊢
      simp (config:=KF) (disch:=omega) only [bZ,ixSV,am,aa,b8,bN,↓reduceIte,Nat.reduceEqDiff,Nat.reduceAdd,Nat.reduceLeDiff,reduceCtorEq,aM,hgd,csAV,nH]
      refine ml (a:=.lit (.int .i64 (l.length:Nat))) (b:=.lit (.int .i64 (k:Nat))) h hi hx hol v1 rfl rfl (fun hb=>?_) (fun hb=>?_)
      · rcases fY out with ⟨e,e2⟩ | ⟨e,e2⟩
        all_goals
          rw [e] at hK0 ⊢
          simp (config:=KF) (disch:=omega) only [bZ,↓reduceIte,Nat.reduceEqDiff,reduceCtorEq]
          exact hK0 hb
      · have hne:out++[(k:Int)]≠[]:=by simp
        simp only [oint,if_neg hne] at hK1 ⊢
        simp (config:=KF) (disch:=omega) only [bZ,↓reduceIte,Nat.reduceEqDiff,reduceCtorEq]
        exact hK1 hb
    · omega
    · have hd:=jn hk r
      simp (config:=KF) (disch:=omega) only [bZ,ixSV,am,aa,kL,↓reduceIte,Nat.reduceEqDiff,Nat.reduceAdd,Nat.reduceLeDiff,reduceCtorEq,aM,hgb,hd,nH]
      refine ml (a:=.lit (.int .i64 (l.length:Nat))) (b:=.lit (.int .i64 (k:Nat))) h hi hx hol v1 rfl rfl (fun hb=>?_) (fun hb=>?_)
      · rcases fY out with ⟨e,e2⟩ | ⟨e,e2⟩
        all_goals
          rw [e] at hK0 ⊢
          simp (config:=KF) (disch:=omega) only [bZ,↓reduceIte,Nat.reduceEqDiff,reduceCtorEq]
          exact hK0 hb
      · have hne:out++[(k:Int)]≠[]:=by simp
        simp only [oint,if_neg hne] at hK1 ⊢
        simp (config:=KF) (disch:=omega) only [bZ,↓reduceIte,Nat.reduceEqDiff,reduceCtorEq]
        exact hK1 hb
  · have hd:l.drop k = []:=List.drop_of_length_le (by omega)
    rw [hd] at h2
    simp only [rdyX,List.append_nil] at h2
    rw [h2] at hQ
    rcases fY out with ⟨e,e2⟩ | ⟨e,e2⟩
    all_goals
      rw [e]
      simp (config:=KF) (disch:=omega) only [bZ,aH,bf,↓reduceIte,Nat.reduceEqDiff,reduceCtorEq,aY]
      refine hKe _ _ _ ?_
      simp (config:=KF) (disch:=omega) only [bZ,retI,gv,↓reduceIte,Nat.reduceEqDiff]
      unfold intS at hQ
      first | rw [if_pos e2] at hQ | rw [if_neg e2] at hQ
      exact hQ _
end
end Go.Fx.YtbomoaajkinfpaaFx

