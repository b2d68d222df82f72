/- What the functions that the statement reaches compute: part 19. -/
import Derived.Test.YtbdjfccgkdgbfaaFxW18
namespace Go.Fx.YtbdjfccgkdgbfaaFx
open Go Go.Fx
attribute [local irreducible] aC runI az ar

set_option maxRecDepth 100000
set_option maxHeartbeats 4000000

/-! The reference: a hub, its subscribers in a row. -/
def wwV (w:WW):AV:=.agg [.lit (.int .i64 (w.1:Nat)),.lit (.int .i64 w.2.1),msgV w.2.2]
def wsV (ws:List WW):AV:=if ws = [] then .lit (.slice none 0 0) else .sl false 3 (ws.map wwV)
theorem aw (ws:List WW):(wsV ws).dis = wsV ws∧(wsV ws).own1 = wsV ws∧(wsV ws).own2 = wsV ws∧(wsV ws).solid1 = true∧(wsV ws).noL = true∧(wsV ws).cells = [wsV ws]∧(∀ s,kill s (wsV ws) = wsV ws)∧∀ st',lenI .sl st' (wsV ws) = .ok (.lit (.int .i64 (ws.length:Nat))):=by
 unfold wsV
 split
 ·rename_i h; rw [h]; exact ⟨rfl,rfl,rfl,rfl,rfl,rfl,fun _=>rfl,fun _=>rfl⟩
 ·exact ⟨rfl,rfl,rfl,rfl,rfl,rfl,fun _=>rfl,fun _=>by rw [iE,List.length_map]⟩
theorem kL {ws:List WW} {i:Nat} (h:i < ws.length):(ws.map wwV).getD i .any = .agg [.lit (.int .i64 (ws[i].1:Nat)),.lit (.int .i64 ws[i].2.1),msgV ws[i].2.2]:=by
 rw [List.getD_eq_getElem?_getD,List.getElem?_map,List.getElem?_eq_getElem h]; rfl
/-- The rows of subscribers. -/
def Es (es:List AV) (subs:List Sb):Prop:=es.length = subs.length∧∀ (i:Nat) e S,es[i]? = some e→subs[i]? = some S→SubE e S
theorem Es.at {es:List AV} {subs:List Sb} (h:Es es subs) {i:Nat} (hi:i < subs.length):∃ rv,RowV rv subs[i].msgs∧es.getD i .any = sbV subs[i] rv:=by
 obtain ⟨h1,h2⟩:=h
 have hi':i < es.length:=by omega
 obtain ⟨rv,a,b⟩:=h2 i es[i] subs[i] (List.getElem?_eq_getElem hi') (List.getElem?_eq_getElem hi)
 exact ⟨rv,a,by rw [List.getD_eq_getElem?_getD,List.getElem?_eq_getElem hi']; exact b⟩

/-- The place of the first one. -/
def fstI {A:Type} (f:A→Bool):List A→Int→Int
 | [],_=>-1
 | x::r,i=>if f x = true then i else fstI f r (i + 1)
theorem mE {A:Type} (f:A→Bool):∀ (l:List A) (k i:Nat),(∀ x ∈ l.take i,f x = false)→(h:i < l.length)→f l[i] = true→fstI f l k = ((k + i:Nat):Int)
 | [],_,_,_,h,_=>by simp at h
 | x :: r, k, 0, _, _, hf => by
   have hf':f x = true:=hf
   unfold fstI
   rw [if_pos hf']; rfl
 | x :: r, k, i + 1, ht, h, hf => by
   unfold fstI
   have hx:f x = false:=ht x (by simp)
   rw [if_neg (by rw [hx]; simp)]
   have:=mE f r (k + 1) i (fun y hy=>ht y (by simp [hy])) (by simpa using h) hf
   rw [show (((k + 1:Nat)):Int) = (k:Int) + 1 by omega] at this
   rw [this]; omega
theorem jd {A:Type} (f:A→Bool):∀ (l:List A) (k:Int),(∀ x ∈ l,f x = false)→fstI f l k = -1
 | [],_,_=>rfl
 | x :: r, k, h => by
   unfold fstI
   rw [if_neg (by rw [h x (by simp)]; simp)]
   exact jd f r (k + 1) fun y hy=>h y (by simp [hy])

section
variable {es:List AV} {subs:List Sb} {ws:List WW}
theorem mF (h:Es es subs) (hl:subs.length≤64) (n:Int) (st:St):aB Go.Proofs.Try.prog n_f35 [.agg [.sl false 6 es,wsV ws],.lit (.int .i64 n)] st (.lit (.int .i64 (fstI (fun S:Sb=>decide ((S.num:Int) = n)) subs 0))):=by
 obtain ⟨w1,w2,w3,w4,w5,w6,w7,w8⟩:=aw ws
 refine aF hmix k_f35 rfl rfl fun Q hQ=>?_
 unfold aFun c_f35
 have hel:=h.1
 simp (config:=KF) (disch:=omega) only [bZ,↓reduceIte,Nat.reduceEqDiff,Nat.reduceAdd,reduceCtorEq,w2,w4]
 rw [f35_7w]
 refine a8 (A:=Nat) (fun i=>subs.length - i) (fun i=>⟨[(1,.lit (.int .i64 n)),(2,.lptr 2 0),(5,.lit (.int .i64 (i:Nat)))],[(2,[.sl false 6 es,wsV ws])]⟩) (fun _=>st)
  (fun i=>i≤subs.length∧∀ x ∈ subs.take i,decide ((x.num:Int) = n) = false) 0 ⟨Nat.zero_le _,by simp⟩ (Sf.le_refl _) rfl ?_
 rintro i ⟨i1,i2⟩ K hK hKe hKr
 by_cases h3:i < subs.length
 ·obtain ⟨rv,hrv,hg⟩:=h.at h3
  unfold sbV at hg
  by_cases h4:(subs[i].num:Int) = n
  ·have hf:=mE (fun S:Sb=>decide ((S.num:Int) = n)) subs 0 i i2 h3 (decide_eq_true h4)
   rw [show ((0:Nat):Int) = 0 from rfl,Nat.zero_add] at hf
   rw [hf] at hQ
   simp (config:=KF) (disch:=omega) only [bZ,ixSV,lenI,addA,ae,↓reduceIte,Nat.reduceEqDiff,hg,hel]
   refine hKr _ _ ?_
   simp (config:=KF) (disch:=omega) only [bZ,retI,↓reduceIte]
   exact hQ _
  ·have hn:∀ x ∈ subs.take (i + 1),decide ((x.num:Int) = n) = false:=by
    rw [List.take_succ_eq_append_getElem h3]
    intro x hx
    rcases List.mem_append.1 hx with hx | hx
    ·exact i2 x hx
    ·simp only [List.mem_singleton] at hx; subst hx; exact decide_eq_false h4
   simp (config:=KF) (disch:=omega) only [bZ,ixSV,lenI,addA,ae,↓reduceIte,Nat.reduceEqDiff,hg,hel]
   exact hK (i + 1) _ ⟨h3,hn⟩ (by omega) (Sf.le_refl _)
 ·obtain rfl:i = subs.length:=by omega
  rw [List.take_length] at i2
  rw [jd (fun S:Sb=>decide ((S.num:Int) = n)) subs 0 i2] at hQ
  simp (config:=KF) (disch:=omega) only [bZ,lenI,addA,ae,↓reduceIte,Nat.reduceEqDiff,hel]
  refine hKe _ _ _ ?_
  simp (config:=KF) (disch:=omega) only [bZ,retI,↓reduceIte,Int.reduceNeg]
  exact hQ _

theorem first_pure (h:es.length≤1000) (hl:ws.length≤1000) (n:Int) (st:St):aB Go.Proofs.Try.prog n_f67 [.agg [.sl false 6 es,wsV ws],.lit (.int .i64 n)] st (.lit (.int .i64 (fstI (fun w:WW=>decide (w.2.1 = n)) ws 0))):=by
 obtain ⟨w1,w2,w3,w4,w5,w6,w7,w8⟩:=aw ws
 refine aF hmix k_f67 rfl rfl fun Q hQ=>?_
 unfold aFun c_f67
 simp (config:=KF) (disch:=omega) only [bZ,↓reduceIte,Nat.reduceEqDiff,Nat.reduceAdd,reduceCtorEq,w2,w4]
 rw [f67_7w]
 refine a8 (A:=Nat) (fun i=>ws.length - i) (fun i=>⟨[(1,.lit (.int .i64 n)),(2,.lptr 2 0),(5,.lit (.int .i64 (i:Nat)))],[(2,[.sl false 6 es,wsV ws])]⟩) (fun _=>st)
  (fun i=>i≤ws.length∧∀ x ∈ ws.take i,decide (x.2.1 = n) = false) 0 ⟨Nat.zero_le _,by simp⟩ (Sf.le_refl _) rfl ?_
 rintro i ⟨i1,i2⟩ K hK hKe hKr
 by_cases h3:i < ws.length
 ·have hg:=kL h3
  have hwv:wsV ws = .sl false 3 (ws.map wwV):=by unfold wsV; rw [if_neg (fun e=>by rw [e] at h3; simp at h3)]
  rw [hwv] at hK w1 w2 w3 w4 w5 w6 w7 ⊢
  by_cases h4:ws[i].2.1 = n
  ·have hf:=mE (fun w:WW=>decide (w.2.1 = n)) ws 0 i i2 h3 (decide_eq_true h4)
   rw [show ((0:Nat):Int) = 0 from rfl,Nat.zero_add] at hf
   rw [hf] at hQ
   simp (config:=KF) (disch:=omega) only [bZ,ixSV,lenI,addA,ae,↓reduceIte,Nat.reduceEqDiff,hg]
   refine hKr _ _ ?_
   simp (config:=KF) (disch:=omega) only [bZ,retI,↓reduceIte]
   exact hQ _
  ·have hn:∀ x ∈ ws.take (i + 1),decide (x.2.1 = n) = false:=by
    rw [List.take_succ_eq_append_getElem h3]
    intro x hx
    rcases List.mem_append.1 hx with hx | hx
    ·exact i2 x hx
    ·simp only [List.mem_singleton] at hx; subst hx; exact decide_eq_false h4
   simp (config:=KF) (disch:=omega) only [bZ,ixSV,lenI,addA,ae,↓reduceIte,Nat.reduceEqDiff,hg]
   exact hK (i + 1) _ ⟨h3,hn⟩ (by omega) (Sf.le_refl _)
 ·obtain rfl:i = ws.length:=by omega
  rw [List.take_length] at i2
  rw [jd (fun w:WW=>decide (w.2.1 = n)) ws 0 i2] at hQ
  simp (config:=KF) (disch:=omega) only [bZ,addA,ae,↓reduceIte,Nat.reduceEqDiff,w1,w8]
  refine hKe _ _ _ ?_
  simp (config:=KF) (disch:=omega) only [bZ,retI,↓reduceIte,Int.reduceNeg]
  exact hQ _
end
end Go.Fx.YtbdjfccgkdgbfaaFx

namespace Go.Fx.YtbdjfccgkdgbfaaFx
open Go Go.Fx
attribute [local irreducible] aC runI az ar

set_option maxRecDepth 100000
set_option maxHeartbeats 4000000

section
variable {es:List AV} {subs:List Sb} {ws:List WW}
theorem waits_pure (h:es.length≤1000) (hl:ws.length≤1000) (n:Int) (st:St):aB Go.Proofs.Try.prog n_f70 [.agg [.sl false 6 es,wsV ws],.lit (.int .i64 n)] st (.lit (.int .i64 (fstI (fun w:WW=>decide ((w.1:Int) = n)) ws 0))):=by
 obtain ⟨w1,w2,w3,w4,w5,w6,w7,w8⟩:=aw ws
 refine aF hmix k_f70 rfl rfl fun Q hQ=>?_
 unfold aFun c_f70
 simp (config:=KF) (disch:=omega) only [bZ,↓reduceIte,Nat.reduceEqDiff,Nat.reduceAdd,reduceCtorEq,w2,w4]
 rw [f70_7w]
 refine a8 (A:=Nat) (fun i=>ws.length - i) (fun i=>⟨[(1,.lit (.int .i64 n)),(2,.lptr 2 0),(5,.lit (.int .i64 (i:Nat)))],[(2,[.sl false 6 es,wsV ws])]⟩) (fun _=>st)
  (fun i=>i≤ws.length∧∀ x ∈ ws.take i,decide ((x.1:Int) = n) = false) 0 ⟨Nat.zero_le _,by simp⟩ (Sf.le_refl _) rfl ?_
 rintro i ⟨i1,i2⟩ K hK hKe hKr
 by_cases h3:i < ws.length
 ·have hg:=kL h3
  have hwv:wsV ws = .sl false 3 (ws.map wwV):=by unfold wsV; rw [if_neg (fun e=>by rw [e] at h3; simp at h3)]
  rw [hwv] at hK w1 w2 w3 w4 w5 w6 w7 ⊢
  by_cases h4:(ws[i].1:Int) = n
  ·have hf:=mE (fun w:WW=>decide ((w.1:Int) = n)) ws 0 i i2 h3 (decide_eq_true h4)
   rw [show ((0:Nat):Int) = 0 from rfl,Nat.zero_add] at hf
   rw [hf] at hQ
   simp (config:=KF) (disch:=omega) only [bZ,ixSV,lenI,addA,ae,↓reduceIte,Nat.reduceEqDiff,hg]
   refine hKr _ _ ?_
   simp (config:=KF) (disch:=omega) only [bZ,retI,↓reduceIte]
   exact hQ _
  ·have hn:∀ x ∈ ws.take (i + 1),decide ((x.1:Int) = n) = false:=by
    rw [List.take_succ_eq_append_getElem h3]
    intro x hx
    rcases List.mem_append.1 hx with hx | hx
    ·exact i2 x hx
    ·simp only [List.mem_singleton] at hx; subst hx; exact decide_eq_false h4
   simp (config:=KF) (disch:=omega) only [bZ,ixSV,lenI,addA,ae,↓reduceIte,Nat.reduceEqDiff,hg]
   exact hK (i + 1) _ ⟨h3,hn⟩ (by omega) (Sf.le_refl _)
 ·obtain rfl:i = ws.length:=by omega
  rw [List.take_length] at i2
  rw [jd (fun w:WW=>decide ((w.1:Int) = n)) ws 0 i2] at hQ
  simp (config:=KF) (disch:=omega) only [bZ,addA,ae,↓reduceIte,Nat.reduceEqDiff,w1,w8]
  refine hKe _ _ _ ?_
  simp (config:=KF) (disch:=omega) only [bZ,retI,↓reduceIte,Int.reduceNeg]
  exact hQ _

/-- A list without one of its places. -/
def wo {A:Type} (l:List A) (i:Nat):List A:=l.take i++l.drop (i + 1)
theorem jR (l:List WW):(l.map wwV).map AV.dis = l.map wwV:=by
 rw [List.map_map]
 refine List.map_congr_left fun w _=>?_
 obtain ⟨m1,m2,m3,m4,m5,m6,m7,m8⟩:=(MV.msg w.2.2).facts
 show AV.agg [_,_,(msgV w.2.2).own1] = _
 rw [m2]; rfl
theorem pC {v:AV} (hv:v.dis = v∧v.own1 = v∧v.own2 = v∧v.solid1 = true∧v.noL = true∧v.cells = [v]∧∀ s,kill s v = v) (hl:ws.length≤1000) {i:Nat} (hi:i < ws.length) (st:St):aB Go.Proofs.Try.prog n_f72 [.agg [v,wsV ws],.lit (.int .i64 (i:Nat))] st (.agg [v,wsV (wo ws i)]):=by
 obtain ⟨v1,v2,v3,v4,v5,v6,v7⟩:=hv
 have hwv:wsV ws = .sl false 3 (ws.map wwV):=by unfold wsV; rw [if_neg (fun e=>by rw [e] at hi; simp at hi)]
 refine aF hmix k_f72 rfl rfl fun Q hQ=>?_
 unfold aFun c_f72
 rw [hwv]
 have hq:Q (.agg [v,wsV (wo ws i)]) st:=hQ st
 have hd1:=jR (ws.take i)
 have hd2:=jR (ws.drop (i + 1))
 have hml:(ws.map wwV).length = ws.length:=List.length_map ..
 have ht:(ws.map wwV).take i = (ws.take i).map wwV:=by rw [List.map_take]
 have hdr:(ws.map wwV).drop (i + 1) = (ws.drop (i + 1)).map wwV:=by rw [List.map_drop]
 have htl:(ws.take i).length = i:=by rw [List.length_take]; omega
 have hdl:(ws.drop (i + 1)).length = ws.length - (i + 1):=List.length_drop ..
 unfold wo at hq
 have hAl:(ws.take i).length≤1000:=by omega
 have hBl:(ws.drop (i + 1)).length≤1000:=by omega
 clear htl hdl
 generalize ws.take i = A at hq hd1 ht hAl
 generalize ws.drop (i + 1) = B at hq hd2 hdr hBl
 cases A with
 | nil =>
   cases B with
   | nil =>
     simp (config:=KF) (disch:=omega) only [bZ,f0,iC,retI,dp,bF,ah,ixTo,addA,ae,aQ,srcA,↓reduceIte,Nat.reduceEqDiff,Nat.reduceAdd,Nat.reduceLeDiff,reduceCtorEq,dG,af,aa,v2,v4,ht,hdr,hml]
     exact hq
   | cons b B =>
     have hq2:Q (.agg [v,.sl false 3 (wwV b::B.map wwV)]) st:=hq
     rw [List.map_cons,List.map_cons] at hd2
     rw [List.map_cons] at hdr
     rw [List.length_cons] at hBl
     have e1:(wwV b).dis = wwV b:=by have:=congrArg List.head? hd2; simpa using this
     have e2:(B.map wwV).map AV.dis = B.map wwV:=jR B
     simp (config:=KF) (disch:=omega) only [bZ,f0,iC,retI,dp,bF,ah,ixTo,addA,ae,aQ,srcA,↓reduceIte,Nat.reduceEqDiff,Nat.reduceAdd,Nat.reduceLeDiff,reduceCtorEq,dG,af,aa,v2,v4,ht,hdr,hml,e1,e2]
     exact hq2
 | cons a A =>
   have f1:(wwV a).dis = wwV a:=by have:=congrArg List.head? hd1; simpa using this
   have f2:(A.map wwV).map AV.dis = A.map wwV:=jR A
   rw [List.map_cons] at ht
   rw [List.length_cons] at hAl
   cases B with
   | nil =>
     have hq2:Q (.agg [v,.sl false 3 (wwV a::A.map wwV)]) st:=by rw [List.append_nil] at hq; exact hq
     simp (config:=KF) (disch:=omega) only [bZ,f0,iC,retI,dp,bF,ah,ixTo,addA,ae,aQ,br,srcA,List.cons_append,↓reduceIte,Nat.reduceEqDiff,Nat.reduceAdd,Nat.reduceLeDiff,reduceCtorEq,dG,bC,af,aa,v2,v4,ht,hdr,hml,f1,f2]
     exact hq2
   | cons b B =>
     have hq2:Q (.agg [v,.sl false 3 (wwV a::(A.map wwV++wwV b::B.map wwV))]) st:=by
      have e:wsV (a::A++b::B) = .sl false 3 (wwV a::(A.map wwV++wwV b::B.map wwV)):=by
       unfold wsV; rw [if_neg (by simp)]; simp
      rw [e] at hq; exact hq
     have e1:(wwV b).dis = wwV b:=by have:=congrArg List.head? hd2; simpa using this
     have e2:(B.map wwV).map AV.dis = B.map wwV:=jR B
     rw [List.map_cons] at hdr
     rw [List.length_cons] at hBl
     simp (config:=KF) (disch:=omega) only [bZ,f0,iC,retI,dp,bF,ah,ixTo,addA,ae,aQ,br,srcA,List.cons_append,↓reduceIte,Nat.reduceEqDiff,Nat.reduceAdd,Nat.reduceLeDiff,reduceCtorEq,dG,bC,af,aa,v2,v4,ht,hdr,hml,f1,f2,e1,e2]
     exact hq2
end
end Go.Fx.YtbdjfccgkdgbfaaFx

