/- What the functions that the statement reaches compute: part 20. -/
import Derived.Test.YtbdjfccgkdgbfaaFxW19
namespace Go.Fx.YtbdjfccgkdgbfaaFx
open Go Go.Fx
attribute [local irreducible] aC runI az ar

set_option maxRecDepth 100000
set_option maxHeartbeats 4000000

structure SOk (subs:List Sb) (n:Nat):Prop where
 len:subs.length≤64
 ok:∀ S ∈ subs,used S.msgs≤S.room∧S.room≤4096∧S.lost + S.msgs.length≤n
def blk1 (topic:Int) (n:Nat) (S:Sb):Bool:=decide (S.topic = topic) && (decide (S.pol = 3) && (decide (n + 2≤S.room) && !decide (used S.msgs + (n + 2)≤S.room)))
theorem qD (topic:Int) (n:Nat) (subs:List Sb):canR topic n subs = subs.all fun S=>!blk1 topic n S:=rfl

section
variable {es:List AV} {subs:List Sb} {ws:List WW}
theorem can_pure {n:Nat} (h:Es es subs) (hs:SOk subs n) (topic:Int) {dv:AV} {p:List UInt8} (hd:MV dv p) (hp:p.length≤100000) (st:St):aB Go.Proofs.Try.prog n_f68 [.agg [.sl false 6 es,wsV ws],.lit (.int .i64 topic),dv] st (.lit (.bool (canR topic p.length subs))):=by
 obtain ⟨w1,w2,w3,w4,w5,w6,w7,w8⟩:=aw ws
 obtain ⟨d1,d2,d3,d4,d5,d6,d7,d8⟩:=hd.facts
 refine aF hmix k_f68 rfl rfl fun Q hQ=>?_
 unfold aFun c_f68
 have hel:=h.1
 have hsl:=hs.len
 simp (config:=KF) (disch:=omega) only [bZ,↓reduceIte,Nat.reduceEqDiff,Nat.reduceAdd,reduceCtorEq,w2,w4,d1,d7,d8]
 rw [f68_9w]
 refine a8 (A:=Nat) (fun i=>subs.length - i) (fun i=>⟨[(1,.lit (.int .i64 topic)),(3,.lptr 3 0),(7,.lit (.int .i64 ((p.length + 2:Nat)))),(8,.lit (.int .i64 (i:Nat)))],[(3,[.sl false 6 es,wsV ws])]⟩) (fun _=>st)
  (fun i=>i≤subs.length∧canR topic p.length (subs.take i) = true) 0 ⟨Nat.zero_le _,rfl⟩ (Sf.le_refl _) rfl ?_
 rintro i ⟨i1,i2⟩ K hK hKe hKr
 by_cases h3:i < subs.length
 ·obtain ⟨rv,hrv,hg⟩:=h.at h3
  obtain ⟨o1,o2,o3⟩:=hs.ok subs[i] (List.getElem_mem h3)
  have hmem:=List.getElem_mem h3
  have hst:canR topic p.length (subs.take (i + 1)) = !blk1 topic p.length subs[i]:=by
   rw [List.take_succ_eq_append_getElem h3,qD,List.all_append,← qD,i2]; simp
  have hup:=lA hrv (by omega) st
  obtain ⟨r1,r2,r3,r4,r5,r6,r7,r8⟩:=hrv.facts
  have hno:blk1 topic p.length subs[i] = true→Q (.lit (.bool false)) st:=fun hb=>by
   have:canR topic p.length subs = false:=by
    rw [qD,List.all_eq_false]
    exact ⟨_,hmem,by rw [hb]; simp⟩
   rw [this] at hQ; exact hQ _
  have hyes:blk1 topic p.length subs[i] = false→∀ sf',Sf.le (sf'.mask [1,3,7,8] [3]) ⟨[(1,.lit (.int .i64 topic)),(3,.lptr 3 0),(7,.lit (.int .i64 ((p.length + 2:Nat)))),(8,.lit (.int .i64 ((i + 1:Nat))))],[(3,[.sl false 6 es,wsV ws])]⟩→K .normal sf' st:=fun hb sf' hsf=>hK (i + 1) sf' ⟨h3,by rw [hst,hb]; rfl⟩ (by omega) hsf
  generalize subs[i] = S at hg hup hno hyes o1 o2 o3
  unfold sbV at hg hup
  unfold blk1 at hno hyes
  by_cases c1:S.topic = topic
  ·by_cases c2:S.pol = 3
   ·by_cases c3:p.length + 2≤S.room
    ·by_cases c4:used S.msgs + (p.length + 2)≤S.room
     ·have hy:=hyes (by simp [c4])
      simp (config:=KF) (disch:=omega) only [bZ,dz,kH,dH,co,AI.dst,ixSV,ah,lenI,addA,ae,iA,id,ej,dq,↓reduceIte,Nat.reduceEqDiff,Nat.reduceAdd,Nat.reduceLeDiff,dA,af,aa,r2,r4,hg,hel]
      refine eN (by simp [r2,aH,bY]) e_f79 hup (by simp [r5,aI,aD]) ?_
      simp (config:=KF) (disch:=omega) only [bZ,dz,co,cx,AI.dst,addA,ae,↓reduceIte,Nat.reduceEqDiff,ey]
      exact hy _ (Sf.le_refl _)
     ·have hn:=hno (by simp [c1,c2,c3,c4])
      simp (config:=KF) (disch:=omega) only [bZ,dz,kH,dH,co,AI.dst,ixSV,ah,lenI,addA,ae,iA,id,ej,dq,↓reduceIte,Nat.reduceEqDiff,Nat.reduceAdd,Nat.reduceLeDiff,dA,af,aa,r2,r4,hg,hel]
      refine eN (by simp [r2,aH,bY]) e_f79 hup (by simp [r5,aI,aD]) ?_
      simp (config:=KF) (disch:=omega) only [bZ,dz,co,cx,AI.dst,addA,ae,↓reduceIte,Nat.reduceEqDiff,ey]
      refine hKr _ _ ?_
      simp (config:=KF) (disch:=omega) only [bZ,retI,↓reduceIte]
      exact hn
    ·have hy:=hyes (by simp [c3])
     simp (config:=KF) (disch:=omega) only [bZ,dz,kH,co,dc,fp,AI.dst,ixSV,ah,lenI,addA,ae,iA,ej,dq,↓reduceIte,Nat.reduceEqDiff,Nat.reduceAdd,Nat.reduceLeDiff,dA,eO,af,aa,r2,r4,hg,hel]
     exact hy _ (Sf.le_refl _)
   ·have hy:=hyes (by simp [c2])
    simp (config:=KF) (disch:=omega) only [bZ,dz,kH,co,dc,fp,AI.dst,ixSV,ah,lenI,addA,ae,ej,dq,↓reduceIte,Nat.reduceEqDiff,Nat.reduceAdd,Nat.reduceLeDiff,dA,eO,af,aa,r2,r4,hg,hel]
    exact hy _ (Sf.le_refl _)
  ·have hy:=hyes (by simp [c1])
   simp (config:=KF) (disch:=omega) only [bZ,dz,kH,dc,fp,AI.dst,ixSV,ah,lenI,addA,ae,ej,dq,↓reduceIte,Nat.reduceEqDiff,Nat.reduceAdd,Nat.reduceLeDiff,eO,af,aa,r2,r4,hg,hel]
   exact hy _ (Sf.le_refl _)
 ·obtain rfl:i = subs.length:=by omega
  rw [List.take_length] at i2
  rw [i2] at hQ
  simp (config:=KF) (disch:=omega) only [bZ,lenI,addA,ae,↓reduceIte,Nat.reduceEqDiff,hel]
  refine hKe _ _ _ ?_
  simp (config:=KF) (disch:=omega) only [bZ,retI,↓reduceIte]
  exact hQ _
end
end Go.Fx.YtbdjfccgkdgbfaaFx

namespace Go.Fx.YtbdjfccgkdgbfaaFx
open Go Go.Fx
attribute [local irreducible] aC runI az ar

set_option maxRecDepth 100000
set_option maxHeartbeats 4000000

/-! Subscribers, in a row or in a buffer. -/
def sc6 (e:AV):Prop:=∃ a b c d r l,e = .agg [a,b,c,d,r,l]∧a.own1 = a∧b.own1 = b∧c.own1 = c∧d.own1 = d∧r.own1 = r∧l.own1 = l
theorem SubE.sc {e:AV} {S:Sb} (h:SubE e S):sc6 e:=by
 obtain ⟨rv,hr,rfl⟩:=h
 exact ⟨_,_,_,_,_,_,rfl,rfl,rfl,rfl,rfl,hr.facts.2.1,rfl⟩
theorem Es.sc {es:List AV} {subs:List Sb} (h:Es es subs):∀ e ∈ es,sc6 e:=by
 intro e he
 obtain ⟨i,hi⟩:=List.mem_iff_getElem?.1 he
 have hl:=(List.getElem?_eq_some_iff.1 hi).1
 exact (h.2 i e (subs[i]'(h.1 ▸ hl)) hi (List.getElem?_eq_getElem (h.1 ▸ hl))).sc
theorem dB:∀ {es:List AV},(∀ e ∈ es,sc6 e)→(es.flatMap AV.cells).length = es.length * 6
 | [],_=>rfl
 | e :: r, h => by
   obtain ⟨a,b,c,d,x,l,rfl,_⟩:=h e (by simp)
   have:=dB (es:=r) fun e he=>h e (by simp [he])
   rw [List.flatMap_cons,List.length_append,this,List.length_cons]
   show 6 + _ = _
   omega
theorem jS:∀ {es:List AV},(∀ e ∈ es,sc6 e)→es.map AV.dis = es
 | [],_=>rfl
 | e :: r, h => by
   obtain ⟨a,b,c,d,x,l,rfl,h1,h2,h3,h4,h5,h6⟩:=h e (by simp)
   rw [List.map_cons,jS (es:=r) fun e he=>h e (by simp [he])]
   show AV.agg [a.own1,b.own1,c.own1,d.own1,x.own1,l.own1]::r = _
   rw [h1,h2,h3,h4,h5,h6]
theorem mG:∀ {es:List AV},(∀ e ∈ es,sc6 e)→∀ {i:Nat} (_:i < es.length) (q:List AV),(es.flatMap AV.cells++q).drop (i * 6) = (es.getD i .any).cells++((es.drop (i + 1)).flatMap AV.cells++q)
 | [],_,_,h,_=>by simp at h
 | e::r,h,0,_,q=>by simp
 | e :: r, h, i + 1, hi, q => by
   obtain ⟨a,b,c,d,x,l,rfl,_⟩:=h e (by simp)
   have:=mG (es:=r) (fun e he=>h e (by simp [he])) (i:=i) (by simpa using hi) q
   rw [List.flatMap_cons,List.append_assoc,show (i + 1) * 6 = i * 6 + 6 by omega]
   show (a::b::c::d::x::l::(r.flatMap AV.cells++q)).drop (i * 6 + 6) = _
   rw [show i * 6 + 6 = i * 6 + 1 + 1 + 1 + 1 + 1 + 1 by omega]
   simp only [List.drop_succ_cons,List.getD_cons_succ]
   exact this
theorem sc_set {es:List AV} (hs:∀ e ∈ es,sc6 e) {i:Nat} (hi:i < es.length) {e:AV} (he:sc6 e) (q:List AV):a9 (es.flatMap AV.cells++q) (i * 6) e.cells = (es.set i e).flatMap AV.cells++q:=by
 have h1:es = es.take i++es[i]::es.drop (i + 1):=by
  conv=>lhs; rw [← List.take_append_drop i es,List.drop_eq_getElem_cons hi]
 have hl:((es.take i).flatMap AV.cells).length = i * 6:=by
  rw [dB fun e he=>hs e (List.mem_of_mem_take he),List.length_take]; congr 1; omega
 have h6:es[i].cells.length = 6:=by
  obtain ⟨a,b,c,d,x,l,h,_⟩:=hs es[i] (List.getElem_mem hi)
  rw [h]; rfl
 have h6':e.cells.length = 6:=by
  obtain ⟨a,b,c,d,x,l,h,_⟩:=he
  rw [h]; rfl
 conv=>lhs; rw [h1]
 rw [List.flatMap_append,List.flatMap_cons,List.append_assoc,List.append_assoc,List.set_eq_take_append_cons_drop,if_pos hi,List.flatMap_append,List.flatMap_cons,gv hl.symm (by rw [List.length_append]; omega),List.drop_append,h6',← h6,List.drop_length]
 simp
def SV (v:AV) (st:St) (es:List AV):Prop:=(v = .lit (.slice none 0 0)∧es = [])∨v = .sl false 6 es∨∃ id cap r,v = .bs id 6 0 es.length cap∧st.get id = some (es.flatMap AV.cells++r)∧es.length≤cap∧cap * 6≤(es.flatMap AV.cells++r).length∧∀ c ∈ r,c.NB
theorem SV.facts {v:AV} {st:St} {es:List AV} (h:SV v st es):v.dis = v∧v.own1 = v∧v.own2 = v∧v.solid1 = true∧v.noL = true∧v.cells = [v]∧(∀ s,kill s v = v)∧∀ st',lenI .sl st' v = .ok (.lit (.int .i64 (es.length:Nat))):=by
 rcases h with ⟨rfl,rfl⟩ | rfl | ⟨id,cap,r,rfl,_⟩
 ·exact ⟨rfl,rfl,rfl,rfl,rfl,rfl,fun _=>rfl,fun _=>rfl⟩
 ·exact ⟨rfl,rfl,rfl,rfl,rfl,rfl,fun _=>rfl,fun _=>rfl⟩
 ·exact ⟨rfl,rfl,rfl,rfl,rfl,rfl,fun _=>rfl,fun _=>rfl⟩
theorem SV.at {v:AV} {st st':St} {es:List AV} (h:SV v st es) (hb:∀ x ∈ au v,st'.boxes[x]? = st.boxes[x]?):SV v st' es:=by
 rcases h with h | h | ⟨id,cap,r,rfl,hg,h1⟩
 ·exact .inl h
 ·exact .inr (.inl h)
 ·exact .inr (.inr ⟨id,cap,r,rfl,(ck (hb id (by simp [au]))).trans hg,h1⟩)
theorem qE:∀ {es:List AV},(∀ e ∈ es,sc6 e)→∀ q,grp 6 es.length (es.flatMap AV.cells++q) = es
 | [],_,q=>rfl
 | e :: r, h, q => by
   obtain ⟨a,b,c,d,x,l,rfl,_⟩:=h e (by simp)
   have:=qE (es:=r) (fun e he=>h e (by simp [he])) q
   rw [List.flatMap_cons,List.append_assoc,List.length_cons]
   show AV.agg [a,b,c,d,x,l]::grp 6 r.length (r.flatMap AV.cells++q) = _
   rw [this]
theorem SV.src {v:AV} {st:St} {es:List AV} (h:SV v st es) (hs:∀ e ∈ es,sc6 e) {K:List AV→Prop} (hK:K es):(srcA st 6 v).wp K:=by
 rcases h with ⟨rfl,rfl⟩ | rfl | ⟨id,cap,r,rfl,hg,h1⟩
 ·exact hK
 ·exact hK
 ·show (cA st id 6 0 es.length).wp K
  unfold cA
  rw [hg]
  refine ⟨by simp [dB hs],?_⟩
  rw [List.drop_zero,qE hs]
  exact hK

def isBs:AV→Bool
 | .bs _ _ _ _ _=>true
 | _=>false
/-- A new buffer. -/
theorem appB_new {es:List AV} (hs:∀ e ∈ es,sc6 e) (hl:es.length≤1000) {st:St} {C:AV→St→Prop} (hC:∀ v st',SV v st' es→(es = []∧v = .lit (.slice none 0 0)∨isBs v = true)→Kp st st' []→(∀ x ∈ au v,st.boxes.length≤x)→C v st'):appX false 6 64 (.lit (.slice none 0 0)) C st es:=by
 have hcl:=dB hs
 have hcd:cellsD es = es.flatMap AV.cells:=by unfold cellsD; rw [jS hs]
 refine ⟨rfl,by simp [gX]; omega,?_⟩
 split
 ·rename_i h
  have:es = []:=by simpa using h
  subst this
  exact hC _ _ (.inl ⟨rfl,rfl⟩) (.inl ⟨rfl,rfl⟩) (Kp.refl _ _) (by simp [au])
 ·intro c hc
  refine hC _ _ (.inr (.inr ⟨st.boxes.length,c,List.replicate ((c - es.length) * 6) .any,rfl,?_,hc,?_,fun x hx=>by rw [(List.mem_replicate.1 hx).2]; exact .any⟩)) (.inr rfl) ⟨by simp [St.push],fun id hid _=>bG hid⟩ (by simp [au])
  ·rw [List.nil_append,hcd]; exact bq st _
  ·rw [List.length_append,hcl,List.length_replicate,← Nat.add_mul]
   exact Nat.mul_le_mul_right _ (by omega)
end Go.Fx.YtbdjfccgkdgbfaaFx

