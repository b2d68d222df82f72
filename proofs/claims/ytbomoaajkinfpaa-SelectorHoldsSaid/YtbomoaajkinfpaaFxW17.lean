/- What the functions that the statement reaches compute: part 17. -/
import Derived.Test.YtbomoaajkinfpaaFxW16
namespace Go.Fx.YtbomoaajkinfpaaFx
open Go Go.Fx
attribute [local irreducible] aC runI aw aB

set_option maxRecDepth 100000
set_option maxHeartbeats 4000000

/-! Lists of cases, frozen or in a buffer. -/
def csC (x:Cs):List AV:=[.lit (.int .i64 x.1),.lit (.bool x.2.1),.lit (.int .i64 x.2.2)]
def CV (v:AV) (st:St) (l:List Cs):Prop:=(v = csSl l∨l = []∧v = .sl false 3 [])∨KB 3 v st (l.flatMap csC) l.length
theorem CV.ne {v:AV} {st:St} {l:List Cs} (h:CV v st l) (hl:l≠[]):v = csSl l∨KB 3 v st (l.flatMap csC) l.length:=by
  rcases h with (h | ⟨e,_⟩) | h
  · exact .inl h
  · exact absurd e hl
  · exact .inr h
theorem CV.arg (st:St) (l:List Cs):CV (.sl false 3 (l.map csAV)) st l:=by
  by_cases h:l = []
  · subst h; exact .inl (.inr ⟨rfl,rfl⟩)
  · exact .inl (.inl (if_neg h).symm)
theorem CV.facts {v:AV} {st:St} {l:List Cs} (h:CV v st l):v.dis = v∧v.own1 = v∧v.own2 = v∧v.solid1 = true∧v.noL = true∧v.cells = [v]∧(∀ s,kill s v = v)∧∀ st',lenI .sl st' v = .ok (.lit (.int .i64 (l.length:Nat))):=by
  rcases h with (rfl | ⟨rfl,rfl⟩) | h
  rotate_left
  · exact ⟨rfl,rfl,rfl,rfl,rfl,rfl,fun _=>rfl,fun _=>rfl⟩
  rotate_left
  · obtain ⟨v1,v2,v3,v4,v5,v6,v7⟩:=cg l
    refine ⟨v1,v2,v3,v4,v5,v6,v7,fun st'=>?_⟩
    unfold csSl
    split
    · rename_i e; subst e; rfl
    · simp [lenI]
  · exact h.facts
theorem jn {l:List Cs} {k:Nat} (h:k < l.length) (r:List AV):(l.flatMap csC++r).drop (k * 3) = .lit (.int .i64 l[k].1)::.lit (.bool l[k].2.1)::.lit (.int .i64 l[k].2.2)::(l.flatMap csC++r).drop ((k + 1) * 3):=by
  have hlen:∀ l:List Cs,(l.flatMap csC).length = l.length * 3:=fun l=>by
    induction l with
    | nil=>rfl
    | cons x l ih=>simp only [List.flatMap_cons,List.length_append,ih,List.length_cons,csC,List.length_nil]; omega
  have hs:l.flatMap csC = (l.take k).flatMap csC++(csC l[k]++(l.drop (k + 1)).flatMap csC):=by
    have h0:l = l.take k++(l[k]::l.drop (k + 1)):=by rw [← List.drop_eq_getElem_cons h,List.take_append_drop]
    have:=congrArg (List.flatMap csC) h0
    rw [List.flatMap_append,List.flatMap_cons] at this
    exact this
  have hk:((l.take k).flatMap csC).length = k * 3:=by rw [hlen,List.length_take]; omega
  have h2:(l.flatMap csC++r).drop (k * 3) = csC l[k]++((l.drop (k + 1)).flatMap csC++r):=by
    rw [hs,List.append_assoc,List.drop_left' hk,List.append_assoc]
  have h3:(l.flatMap csC++r).drop ((k + 1) * 3) = (l.drop (k + 1)).flatMap csC++r:=by
    rw [show (k + 1) * 3 = k * 3 + 3 by omega,← List.drop_drop,h2]; rfl
  rw [h2,h3]; rfl
theorem CV.at {v:AV} {st st':St} {l:List Cs} (h:CV v st l) (hb:∀ x ∈ ae v,st'.boxes[x]? = st.boxes[x]?):CV v st' l:=h.imp id fun h=>h.at hb

section
variable {st:St} {s mid:Nat} {cv ov:AV} {L:List CL} {ws:List Wt}

theorem dv (h:SelIs st s mid cv ov L ws):aL Go.Proofs.Try.prog n_f51 [.ptr s 0] st (.lit (.bool false)):=by
  have hg:=h.get
  refine aD hmix k_f51 rfl rfl fun Q hQ=>?_
  unfold aFun c_f51
  simp (config:=KF) (disch:=omega) only [bZ,retI,AI.dst,ai,cT,cb,bz,addA,aa,↓reduceIte,Nat.reduceEqDiff,reduceCtorEq,hg]
  exact hQ _

/-- Valid cases, of which some channels have been seen. -/
def vR (n:Nat):List Int→List Cs→Bool
  | _,[]=>true
  | seen,x::l=>if x.1 < 0∨(n:Int)≤x.1∨x.1 ∈ seen then false else vR n (x.1::seen) l
theorem oR (n:Nat) (seen:List Int) (x:Cs) (l:List Cs):vR n seen (x::l) = if x.1 < 0∨(n:Int)≤x.1∨x.1 ∈ seen then false else vR n (x.1::seen) l:=rfl
def a9 (n:Nat) (l:List Cs):Bool:=vR n [] l && decide (l≠[])
def sb (seen:List Int):List AV:=(List.range 16).map fun i:Nat=>.lit (.bool (decide ((i:Int) ∈ seen)))
theorem sb_len (seen:List Int):(sb seen).length = 16:=by simp [sb]
theorem sb_drop (seen:List Int) {i:Nat} (hi:i < 16):(sb seen).drop i = .lit (.bool (decide ((i:Int) ∈ seen)))::(sb seen).drop (i + 1):=by
  rw [List.drop_eq_getElem_cons (by rw [sb_len]; exact hi)]
  simp [sb]
theorem sb_set (seen:List Int) {i:Nat}:(sb seen).set i (.lit (.bool true)) = sb ((i:Int)::seen):=by
  apply List.ext_getElem?
  intro j
  simp only [sb,List.getElem?_set,List.length_map,List.length_range,List.getElem?_map]
  by_cases e:i = j
  · subst e
    by_cases h:i < 16
    · simp [h]
    · simp [h,List.getElem?_eq_none]
  · by_cases h:j < 16
    · have e2:¬ j = i:=fun q=>e q.symm
      have:((j:Int) = (i:Int)) = False:=by simp; omega
      simp [e,h,this]
    · simp [e,List.getElem?_eq_none,h]

theorem mj (h:SelIs st s mid cv ov L ws) (hL:L.length≤16) {v:AV} {x:Cs} {seen:List Int} {a b:AV} {K:Exit→Sf→St→Prop} (v2:v.dis = v) (a2:a.dis = a) (b2:b.dis = b)
    (hno:(x.1 < 0∨(L.length:Int)≤x.1∨x.1 ∈ seen)→K .ret ⟨[(4,.lit (.bool false))],[]⟩ st)
    (hyes:¬ (x.1 < 0∨(L.length:Int)≤x.1∨x.1 ∈ seen)→K .normal ⟨[(0,.ptr s 0),(1,v),(5,.lptr 5 0),(8,v),(9,a),(10,b)],[(5,sb (x.1::seen))]⟩ st) :
    aC Go.Proofs.Try.prog id true f53_18 ⟨[(0,.ptr s 0),(1,v),(5,.lptr 5 0),(7,.lptr 7 0),(8,v),(9,a),(10,b)],[(5,sb seen),(7,[.lit (.int .i64 x.1),.lit (.bool x.2.1),.lit (.int .i64 x.2.2)])]⟩ st K:=by
  have hg:=h.get
  obtain ⟨u1,u2,u3,u4,u5,u6,u7,u8⟩:=h.chs.facts
  simp (config:=KF) (disch:=omega) only [bZ,gw,oH,AI.dst,addA,aa,↓reduceIte,Nat.reduceEqDiff,reduceCtorEq,f53_18e]
  refine jf (fun h1=>?_) (fun h1=>?_)
  · simp (config:=KF) (disch:=omega) only [bZ,gw,nB,nC,AI.dst,↓reduceIte,Nat.reduceEqDiff,reduceCtorEq]
    exact hno (.inl h1)
  · simp (config:=KF) (disch:=omega) only [bZ,gw,aU,oJ,gR,AI.dst,ai,addA,aa,e8,↓reduceIte,Nat.reduceEqDiff,reduceCtorEq,hg,u1,u8]
    refine bw (fun h2=>?_) (fun h2=>?_)
    · simp (config:=KF) (disch:=omega) only [bZ,AI.dst,↓reduceIte,Nat.reduceEqDiff,reduceCtorEq]
      exact hno (.inr (.inl (by omega)))
    · obtain ⟨i,hi⟩:∃ i:Nat,x.1 = (i:Int):=⟨x.1.toNat,by omega⟩
      have hi16:i < 16:=by omega
      have hd:=sb_drop seen hi16
      have hs:=sb_set seen (i:=i)
      have hsl:=sb_len seen
      rw [hi]
      simp (config:=KF) (disch:=omega) only [bZ,AI.dst,ke,addA,aa,↓reduceIte,Nat.reduceEqDiff,reduceCtorEq,hd]
      by_cases h3:(i:Int) ∈ seen
      · rw [decide_eq_true h3]
        simp (config:=KF) (disch:=omega) only [bZ,↓reduceIte,Nat.reduceEqDiff,reduceCtorEq]
        exact hno (.inr (.inr (by rw [hi]; exact h3)))
      · rw [decide_eq_false h3]
        simp (config:=KF) (disch:=omega) only [bZ,ke,am,addA,aa,evOwn_c,disOp_c,↓reduceIte,Nat.reduceEqDiff,Nat.reduceLeDiff,reduceCtorEq,hs,hsl]
        rw [← hi]
        exact hyes (fun q=>by rcases q with q | q | q; omega; omega; exact h3 (by rw [← hi]; exact q))

theorem kr (h:SelIs st s mid cv ov L ws) (hL:L.length≤16) {v:AV} {l:List Cs} (hv:CV v st l) (hll:l.length < 100000):aL Go.Proofs.Try.prog n_f53 [.ptr s 0,v] st (.lit (.bool (a9 L.length l))):=by
  obtain ⟨v1,v2,v3,v4,v5,v6,v7,v8⟩:=hv.facts
  refine aD hmix k_f53 rfl rfl fun Q hQ=>?_
  unfold aFun c_f53
  simp (config:=KF) (disch:=omega) only [bZ,↓reduceIte,Nat.reduceEqDiff,reduceCtorEq,v1,v7,v8]
  rw [f53_9w]
  refine bj (A:=Nat×List Int) (fun a=>l.length - a.1) (fun a=>⟨[(0,.ptr s 0),(1,v),(5,.lptr 5 0),(8,v),(9,.lit (.int .i64 (l.length:Nat))),(10,.lit (.int .i64 (a.1:Nat)))],[(5,sb a.2)]⟩) (fun _=>st)
    (fun a=>a.1≤l.length∧vR L.length [] l = vR L.length a.2 (l.drop a.1)) (0,[]) ⟨Nat.zero_le _,rfl⟩ (Sf.le_refl _) rfl ?_
  rintro ⟨k,seen⟩ ⟨h1,h2⟩ K hK hKe hKr
  simp only at h1 h2
  try dsimp only
  by_cases hk:k < l.length
  · rw [List.drop_eq_getElem_cons hk] at h2
    have hne:decide (l≠[]) = true:=by simp; intro e; subst e; simp at hk
    rw [oR] at h2
    have hno:(l[k].1 < 0∨(L.length:Int)≤l[k].1∨l[k].1 ∈ seen)→K .ret ⟨[(4,.lit (.bool false))],[]⟩ st:=fun hb=>by
      rw [if_pos hb] at h2
      refine hKr _ _ ?_
      simp (config:=KF) (disch:=omega) only [bZ,retI,↓reduceIte]
      have:a9 L.length l = false:=by unfold a9; rw [h2]; rfl
      rw [this] at hQ
      exact hQ _
    have hyes:¬ (l[k].1 < 0∨(L.length:Int)≤l[k].1∨l[k].1 ∈ seen)→K .normal ⟨[(0,.ptr s 0),(1,v),(5,.lptr 5 0),(8,v),(9,.lit (.int .i64 (l.length:Nat))),(10,.lit (.int .i64 ((k + 1:Nat):Int)))],[(5,sb (l[k].1::seen))]⟩ st:=fun hb=>by
      rw [if_neg hb] at h2
      exact hK (k + 1,l[k].1::seen) _ ⟨by simp only; omega,h2⟩ (by simp only; omega) (Sf.le_refl _)
    rcases hv.ne (fun e=>by subst e; simp at hk) with rfl | ⟨_,_,e⟩ | ⟨bi,cap,r,rfl,hgb,h3,h4,h5⟩
    · have hvv:csSl l = .sl false 3 (l.map csAV):=if_neg fun e=>by subst e; simp at hk
      have hgd:(l.map csAV).getD k .any = csAV l[k]:=by simp [hk]
      rw [hvv] at v1 hyes ⊢
      simp (config:=KF) (disch:=omega) only [bZ,ixSV,am,aa,bg,b8,bN,↓reduceIte,Nat.reduceEqDiff,Nat.reduceAdd,Nat.reduceLeDiff,reduceCtorEq,aM,hgd,csAV]
      refine mj h hL v1 rfl rfl (fun hb=>?_) (fun hb=>?_)
      · simp (config:=KF) (disch:=omega) only [bZ]
        exact hno hb
      · simp (config:=KF) (disch:=omega) only [bZ,↓reduceIte,Nat.reduceEqDiff,reduceCtorEq]
        exact hyes hb
    · omega
    · have hd:=jn hk r
      simp (config:=KF) (disch:=omega) only [bZ,ixSV,am,aa,bg,kL,↓reduceIte,Nat.reduceEqDiff,Nat.reduceAdd,Nat.reduceLeDiff,reduceCtorEq,aM,hgb,hd]
      refine mj h hL v1 rfl rfl (fun hb=>?_) (fun hb=>?_)
      · simp (config:=KF) (disch:=omega) only [bZ]
        exact hno hb
      · simp (config:=KF) (disch:=omega) only [bZ,↓reduceIte,Nat.reduceEqDiff,reduceCtorEq]
        exact hyes hb
  · simp (config:=KF) (disch:=omega) only [bZ,aH,bf,↓reduceIte,Nat.reduceEqDiff,reduceCtorEq,aY]
    refine hKe _ _ _ ?_
    simp (config:=KF) (disch:=omega) only [bZ,retI,dZ,↓reduceIte,Nat.reduceEqDiff,v1,v8]
    have hd:l.drop k = []:=List.drop_of_length_le (by omega)
    rw [hd] at h2
    have:a9 L.length l = decide ((l.length:Int) > 0):=by
      unfold a9
      rw [h2]
      simp only [vR,Bool.true_and]
      refine decide_eq_decide.2 ⟨fun e=>?_,fun e q=>?_⟩
      · have:=List.length_pos_iff.2 e; omega
      · subst q; simp at e
    rw [this] at hQ
    exact hQ _
end
end Go.Fx.YtbomoaajkinfpaaFx

